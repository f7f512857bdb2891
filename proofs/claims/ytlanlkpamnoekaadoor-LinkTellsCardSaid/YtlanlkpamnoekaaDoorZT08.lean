/- Lone runs in company: a metatheorem on the model, and the sender beside link.All. Nothing that was there is turned. -/
import Derived.Test.YtlanlkpamnoekaaDoorZT07
import Derived.Calls
import Derived.Test.YtlanlkpamnoekaaDoorRows
set_option linter.unusedSimpArgs false
set_option linter.unusedVariables false
namespace Go.Proofs.YtlanlkpamnoekaaDoor.Lk
open Go Go.Conc

/-- The machine comes to X. -/
def Run (P : Program) (m : Machine) (t : Trace) (X : Machine → Trace → Prop) : Prop := ∃ N m' t', runNT P N m t = (.next m', t') ∧ X m' t'
/-- Goroutine 0 stands at f, its callers cs; the others keep Q. -/
def St (Q : Nat → Trace → Array Goroutine → World → Prop) (f : Frame) (cs : List Frame) (A : World) (m : Machine) (t : Trace) : Prop := ∃ μ gs sl, m = crowd gs A sl ∧ gs[0]? = some (Conc.G f cs) ∧ Q μ t gs A
def To (Q : Nat → Trace → Array Goroutine → World → Prop) (T : Frame → List Frame → World → Prop) (m : Machine) (t : Trace) : Prop := ∃ f cs A, T f cs A ∧ St Q f cs A m t

section
variable {P : Program} {m : Machine} {t : Trace} {X X' : Machine → Trace → Prop}
theorem Run.here (h : X m t) : Run P m t X := ⟨0, m, t, rfl, h⟩
theorem Run.bind (h : Run P m t X) (hX : ∀ m t, X m t → Run P m t X') : Run P m t X' := by
  obtain ⟨N, m1, t1, h1, h2⟩ := h
  obtain ⟨N2, m2, t2, h3, h4⟩ := hX m1 t1 h2
  exact ⟨N + N2, m2, t2, by rw [runNT_add, h1]; exact h3, h4⟩
theorem Run.mono (h : Run P m t X) (hX : ∀ m t, X m t → X' m t) : Run P m t X' := h.bind fun m t x => .here (hX m t x)
end

section
variable {P : Program} {bad : FuncId} {Z V : Nat → Prop} {Q : Nat → Trace → Array Goroutine → World → Prop} {T : Frame → List Frame → World → Prop} {f : Frame} {fs cs : List Frame} {G A : World} {m : Machine} {t : Trace}

/-- Frames that a lone stretch may stand at. -/
def Good0 (P : Program) (f : Frame) (fs : List Frame) : Prop := (∀ g ∈ fs, NF P g) ∧ (NF P f ∨ BF f)
theorem Good0.si (h : Good0 P f fs) (hG : Inv False Z (NC P) G) : SI P Z f fs G := ⟨h.1, h.2.imp (fun x => ⟨x, hG⟩) fun x => ⟨x, hG.up⟩⟩

/-- ████ A LONE STRETCH IN COMPANY. ████ -/
theorem lone_run (O : Oth P Z V Q) (hF : Fit P bad Z) (hT : Aim T) (hS : SI P Z f fs G) (hA : Rel Z G A) (hw : ∀ τ d, Wins P T f fs (re G τ d)) (h : St Q f (fs ++ cs) A m t) :
    Run P m t (To Q fun f' cs' A' => ∃ fs' G', cs' = fs' ++ cs ∧ T f' fs' G' ∧ SI P Z f' fs' G' ∧ Rel Z G' A' ∧ A.heap.size ≤ A'.heap.size ∧ A'.tape = A.tape ∧ ∀ i : Nat, Z i → ¬ V i → A'.heap[i]? = A.heap[i]?) := by
  obtain ⟨μ, gs, sl, rfl, h0, hQ⟩ := h
  obtain ⟨N, gs', A', sl', t', μ', f', fs', G', r1, r2, r3, rv, r4, r5, r6, r7, r8⟩ := tree_run O (tree_of hF hT hS hw) cs μ t gs A sl hA h0 hQ
  exact ⟨N, _, t', r1, f', fs' ++ cs, A', ⟨fs', G', rfl, r2.1, r2.2, r3, r7, r6, rv⟩, μ', gs', sl', rfl, r4, r8⟩

/-- The same, all others leaving. -/
theorem lone_run0 (hF : ∀ Z, Fit P bad Z) (hT : Aim T) (hS : Good0 P f fs) (hw : ∀ τ d, Wins P T f fs (re (scrub (Zset (fun _ => False) A) A) τ d)) (h : St (QL P) f (fs ++ cs) A m t) :
    Run P m t (To (QL P) fun f' cs' A' => ∃ fs' G', cs' = fs' ++ cs ∧ T f' fs' G' ∧ Good0 P f' fs' ∧ Rel (Zset (fun _ => False) A) G' A' ∧ A.heap.size ≤ A'.heap.size ∧ A'.tape = A.tape ∧ ∀ i : Nat, Zset (fun _ => False) A i → A'.heap[i]? = A.heap[i]?) :=
  (lone_run oth_leavers (hF _) hT (hS.si (scrub_inv _ A)) (scrub_rel _ A) hw h).mono fun _ _ ⟨f', cs', A', ⟨fs', G', h1, h2, h3, h4, h5, ht, hv⟩, h6⟩ => ⟨f', cs', A', ⟨fs', G', h1, h2, ⟨h3.1, h3.2.imp (·.1) (·.1)⟩, h4, h5, ht, fun i hi => hv i hi fun h => h⟩, h6⟩

/-! ### what is known of a block, there and here -/
/-- Below, but for the tape. -/
structure Under (B : Nat) (w w' : World) : Prop where
  os : w'.os = w.os
  output : w'.output = w.output
  size : w.heap.size ≤ w'.heap.size
  block : ∀ k : Nat, k < B → w'.heap[k]? = w.heap[k]?
theorem Under.of {B : Nat} {w w' : World} (h : Go.RowKit.Below B w w') : Under B w w' := ⟨h.os, h.output, h.size, h.block⟩
/-- From the ghost worlds to the true ones. -/
theorem Under.lift {B : Nat} {Y V : Nat → Prop} {A A' G' : World} (hU : Under B (scrub (Zset Y A) A) G') (hR : Rel (Zset Y A) G' A') (ht : A'.tape = A.tape) (hV : ∀ i : Nat, Zset Y A i → ¬ V i → A'.heap[i]? = A.heap[i]?) (hv : ∀ i, V i → B ≤ i) : Go.RowKit.Below B A A' := by
  refine ⟨hR.os.trans hU.os, ht, hR.out.trans hU.output, ?_, fun k hk => ?_⟩
  · rw [hR.size]
    exact Nat.le_trans (by simp [scrub]) hU.size
  · by_cases hz : Zset Y A k
    · exact hV k hz fun h => by have := hv k h; omega
    · rw [hR.same k hz, hU.block k hk, scrub_off _ _ _ hz]
/-- A row that is not frozen at all. -/
theorem Rel.cells0 (h : Rel Z G A) {i : Nat} {c : Array Value} {ty : TypeId} (hc : G.heap[i]? = some (.cells c ty (0, 0))) (hn : 0 < c.size) : A.heap[i]? = some (.cells c ty (0, 0)) := by
  by_cases hz : Z i
  · rcases h.odd _ hz with ⟨_, _, _, h1, _⟩ | ⟨_, h1, _⟩ | ⟨c', t', f', h1, h2⟩
    · rw [hc] at h1; simp at h1; have := h1.1; subst this; simp at hn
    · rw [hc] at h1; cases h1
    · rw [hc] at h1
      simp only [iced, Option.some.injEq, Obj.cells.injEq, Prod.mk.injEq] at h1
      obtain ⟨rfl, _, _, h3⟩ := h1
      omega
  · rw [h.same _ hz]; exact hc
/-! ### a lone stretch, step by step -/
variable {b : Frame} {a : Act} {k : List Item} {w : World}
theorem Wins.steps {f' : Frame} {fs' : List Frame} {w' : World} (h : Steps P (lone f (fs ++ [c0]) w) (lone f' (fs' ++ [c0]) w')) (h' : Wins P T f' fs' w') : Wins P T f fs w := by
  obtain ⟨n, hn⟩ := h
  obtain ⟨n', g, gs, x, h1, h2⟩ := h'
  exact ⟨n + n', g, gs, x, by rw [runN_add, hn]; exact h1, h2⟩
theorem Wins.stop (h : T f fs w) : Wins P T f fs w := ⟨0, f, fs, w, rfl, h⟩
/-- Only the normal way out. -/
def nrm (R : Act → World → Prop) : Exit → Act → World → Prop
  | .normal, a, w => R a w
  | _, _, _ => False
theorem nrm_lets {R : Act → World → Prop} : ¬ LetsOut (nrm R) := fun ⟨_, _, h⟩ => h
theorem Wins.wp {c : Code} {R : Act → World → Prop} (h : c.wp P (nrm R) a w) (hk : ∀ a' w', R a' w' → Wins P T (b.at a' k) fs w') : Wins P T (b.at a (.code c :: k)) fs w := by
  obtain ⟨e, a', w', hq, har⟩ := h b k (fs ++ [c0])
  cases e with
  | normal => exact .steps har (hk a' w' hq)
  | _ => exact hq.elim
/-- .. or the function's end. -/
def nrt (R S : Act → World → Prop) : Exit → Act → World → Prop
  | .normal, a, w => R a w
  | .ret, a, w => S a w
  | _, _, _ => False
theorem Wins.wpr {c : Code} {R S : Act → World → Prop} (h : c.wp P (nrt R S) a w) (hk : ∀ a' w', R a' w' → Wins P T (b.at a' k) fs w') (hr : ∀ a' w' todo, S a' w' → Wins P T { b.at a' todo with mode := .returning } fs w') : Wins P T (b.at a (.code c :: k)) fs w := by
  obtain ⟨e, a', w', hq, har⟩ := h b k (fs ++ [c0])
  cases e with
  | normal => exact .steps har (hk a' w' hq)
  | ret => obtain ⟨todo, har⟩ := har; exact .steps har (hr a' w' todo hq)
  | _ => exact hq.elim
theorem Wins.seq {x y : Code} (h : Wins P T (b.at a (.code x :: .code y :: k)) fs w) : Wins P T (b.at a (.code (.seq x y) :: k)) fs w := .steps (.one step_seq) h
theorem Wins.cond {c : Operand} {x y : Code} (t : Bool) (hc : a.eval c = .bool t) (h : Wins P T (b.at a (.code (if t then x else y) :: k)) fs w) : Wins P T (b.at a (.code (.cond c x y) :: k)) fs w := .steps (.one (step_cond hc)) h
theorem Wins.skip (h : Wins P T (b.at a k) fs w) : Wins P T (b.at a (.code .skip :: k)) fs w := .steps (.one step_skip) h
theorem Wins.block {id : Nat} {c : Code} (h : Wins P T (b.at a (.code c :: .inBlock id :: k)) fs w) : Wins P T (b.at a (.code (.block id c) :: k)) fs w := .steps (.one step_block) h
theorem Wins.inBlock {id : Nat} (h : Wins P T (b.at a k) fs w) : Wins P T (b.at a (.inBlock id :: k)) fs w := .steps (.one step_inBlock) h
theorem Wins.loop {c : Code} (h : Wins P T (b.at a (.code c :: .inLoop c :: k)) fs w) : Wins P T (b.at a (.code (.loop c) :: k)) fs w := .steps (.one step_loop) h
theorem Wins.inLoop {c : Code} (h : Wins P T (b.at a (.code c :: .inLoop c :: k)) fs w) : Wins P T (b.at a (.inLoop c :: k)) fs w := .steps (.one step_inLoop) h
theorem Wins.ret (h : Wins P T { b.at a (.code .ret :: k) with mode := .returning } fs w) : Wins P T (b.at a (.code .ret :: k)) fs w := .steps (.one step_ret) h
theorem Wins.done (h : Wins P T { b.at a [] with mode := .returning } fs w) : Wins P T (b.at a []) fs w := .steps (.one step_end) h
theorem Wins.region {id : Nat} {ops : Array Oper} (h : Wins P T (b.at a (.inRegion ops (List.range ops.size) :: k)) fs w) : Wins P T (b.at a (.code (.region id ops false) :: k)) fs w := .steps (.one step_region) h
theorem Wins.regionEnd {ops : Array Oper} (h : Wins P T (b.at a k) fs w) : Wins P T (b.at a (.inRegion ops [] :: k)) fs w := .steps (.one step_region_end) h
theorem Wins.leave {c : Frame} {v : Value} {fr : Frame} (h : fr.leaving P w (.returned v)) (hk : Wins P T (c.finish v) fs w) : Wins P T fr (c :: fs) w := .steps (.one (step_leave_returned h)) hk

/-- The first operations of a region. -/
theorem steps_ops {ops : Array Oper} {R : Act → World → Prop} (l2 : List Nat) : ∀ (l1 : List Nat) (a : Act) (w : World), wpOps P ops (nrm R) l1 a w → ∀ (b : Frame) (k : List Item) (cs : List Frame),
    ∃ a' w', R a' w' ∧ Steps P (lone (b.at a (.inRegion ops (l1 ++ l2) :: k)) cs w) (lone (b.at a' (.inRegion ops l2 :: k)) cs w') := by
  intro l1
  induction l1 with
  | nil => exact fun a w h b k cs => ⟨a, w, h, .refl _ _⟩
  | cons i rest ih =>
    intro a w h b k cs
    simp only [wpOps] at h
    cases ho : ops[i]? with
    | none =>
      simp only [ho] at h
      obtain ⟨a', w', hq, har⟩ := ih a w h b k cs
      have hs := step_op_skip (P := P) (b := b) (a := a) (k := k) (cs := cs) (w := w) (ops := ops) (i := i) (rest := rest ++ l2) (by simp [ho])
      simp only [ho, Option.bind_none, Act.put] at hs
      exact ⟨a', w', hq, .head hs har⟩
    | some o =>
      simp only [ho] at h
      by_cases hw : Region.wanted o (yielded ops a.tmps) = true
      · simp only [hw, if_true] at h
        rcases h with h | ⟨_, hq⟩
        case inr => exact absurd hq nrm_lets
        simp only [Oper.wp, Oper.upon] at h
        have hg := stepG_op (P := P) (b := b) (k := k) (cs := cs) (w := w) (rest := rest ++ l2) ho hw
        have hfin : ∀ v, (b.at a (.inRegion ops (i :: (rest ++ l2)) :: k)).finish v = b.at (a.put o.dst v) (.inRegion ops (rest ++ l2) :: k) := by
          intro v; rw [Frame.finish_at, ho]; rfl
        rw [List.cons_append]
        split at h
        · rename_i v w' hr
          obtain ⟨a', w'', hq, har⟩ := ih _ _ h b k cs
          refine ⟨a', w'', hq, .head (step_lone_go ?_) har⟩
          rw [hg, ← hfin]; simp [stepG.apply, hr]
        · rename_i w' hr
          obtain ⟨a', w'', hq, har⟩ := ih _ _ h b k cs
          refine ⟨a', w'', hq, .head (step_lone_go ?_) har⟩
          rw [hg, ← hfin]; simp [stepG.apply, hr]
        · rename_i d w' hr
          obtain ⟨a', w'', hq, har⟩ := ih _ _ h b k cs
          refine ⟨a', w'', hq, .head (step_lone_go ?_) har⟩
          have : ({ b.at a (.inRegion ops (i :: (rest ++ l2)) :: k) with defers := d :: a.defers } : Frame).finish undef =
              b.at ({ a with defers := d :: a.defers }.put o.dst undef) (.inRegion ops (rest ++ l2) :: k) := by
            have := Frame.finish_at b { a with defers := d :: a.defers } ops i (rest ++ l2) k undef
            rw [ho] at this; exact this
          rw [hg]; simp only [stepG.apply, Sem.runT_eq, hr, GStep.bare_after]
          exact congrArg (fun fr => GStep.go { frame := fr, callers := cs, status := .running, dying := none } w') this
        · rename_i f args w' hr
          obtain ⟨e, w'', fr, hR, hsteps, _, hleave⟩ := h (b.at a (.inRegion ops (i :: (rest ++ l2)) :: k) :: cs)
          have henter : step P (lone (b.at a (.inRegion ops (i :: (rest ++ l2)) :: k)) cs w) =
              .next (lone (Frame.enter P f args .normal) (b.at a (.inRegion ops (i :: (rest ++ l2)) :: k) :: cs) w') :=
            step_lone_go (by rw [hg]; simp [stepG.apply, hr, Frame.at])
          cases e with
          | returned v =>
            obtain ⟨a', w₃, hq, har⟩ := ih _ _ hR b k cs
            refine ⟨a', w₃, hq, .head henter ((hsteps.trans (.one ?_)).trans har)⟩
            rw [← hfin]; exact step_leave_returned hleave
          | panicked chain => exact hR.elim
          | outgrown => exact absurd hR nrm_lets
        · rename_i row args w' hr
          obtain ⟨v, w'', hR, hsteps⟩ := h (b.at a (.inRegion ops (i :: (rest ++ l2)) :: k)) cs
          have henter : step P (lone (b.at a (.inRegion ops (i :: (rest ++ l2)) :: k)) cs w) =
              .next (lone (Frame.ofRow P row args .normal) (b.at a (.inRegion ops (i :: (rest ++ l2)) :: k) :: cs) w') :=
            step_lone_go (by rw [hg]; simp [stepG.apply, hr, Frame.at])
          obtain ⟨a', w₃, hq, har⟩ := ih _ _ hR b k cs
          refine ⟨a', w₃, hq, .head henter (hsteps.trans ?_)⟩
          rw [hfin]; exact har
        · exact h.elim
        · exact h.elim
      · simp only [hw, if_false, Bool.false_eq_true] at h
        obtain ⟨a', w', hq, har⟩ := ih _ _ h b k cs
        have hs := step_op_skip (P := P) (b := b) (a := a) (k := k) (cs := cs) (w := w) (ops := ops) (i := i) (rest := rest ++ l2)
          (by simp [ho]; simpa using hw)
        simp only [ho, Option.bind_some] at hs
        exact ⟨a', w', hq, .head hs har⟩
theorem Wins.ops {ops : Array Oper} {R : Act → World → Prop} (l1 l2 : List Nat) {l : List Nat} (hl : l = l1 ++ l2) (h : wpOps P ops (nrm R) l1 a w) (hk : ∀ a' w', R a' w' → Wins P T (b.at a' (.inRegion ops l2 :: k)) fs w') : Wins P T (b.at a (.inRegion ops l :: k)) fs w := by
  subst hl
  obtain ⟨a', w', hq, har⟩ := steps_ops l2 l1 a w h b k (fs ++ [c0])
  exact .steps har (hk a' w' hq)
/-- A call is entered. -/
theorem Wins.call {ops : Array Oper} {i : Nat} {rest : List Nat} {o : Oper} {g : FuncId} {args : Array Value} {w' : World} (ho : ops[i]? = some o) (hw : Region.wanted o (yielded ops a.tmps) = true) (hr : (execOp a.eval o).run P w = .ok (.enter g args) w')
    (h : Wins P T (Frame.enter P g args .normal) (b.at a (.inRegion ops (i :: rest) :: k) :: fs) w') : Wins P T (b.at a (.inRegion ops (i :: rest) :: k)) fs w := by
  refine .steps (.one (step_lone_go ?_)) h
  rw [stepG_op ho hw]
  simp [stepG.apply, hr, Frame.at]
end
end Go.Proofs.YtlanlkpamnoekaaDoor.Lk
namespace Go.Proofs.YtlanlkpamnoekaaDoor.Lk
open Go Go.Conc
set_option maxRecDepth 100000

def okFn (P : Program) (bad : Nat) (l : List Nat) (i : Nat) (fn : Func) : Bool :=
  fn.name != "runtime.NumGoroutine" && match fn.body with
    | some c => i == bad || niceCode P c
    | none => l.contains i
theorem okFns : (Tryd.prog.funcs.toList.zipIdx.all fun x => okFn Tryd.prog 14 [0, 1, 79, 80, 81, 82, 83, 84, 85, 86, 87, 88, 89, 90, 91, 92, 93, 94, 95, 96, 97] x.2 x.1) = true := by kernel_rfl
theorem ok_fn {f : FuncId} {fn : Func} (h : Tryd.prog.funcs[f]? = some fn) : okFn Tryd.prog 14 [0, 1, 79, 80, 81, 82, 83, 84, 85, 86, 87, 88, 89, 90, 91, 92, 93, 94, 95, 96, 97] f fn = true := by
  have := List.all_eq_true.1 okFns (fn, f) (by
    rw [List.mem_zipIdx_iff_getElem?]
    simpa using h)
  exact this

theorem pre_of {ops : Array Oper} (h : (ops.toList.all fun o => preOp o.op) = true) : ∀ (i : Nat) o, ops[i]? = some o → preOp o.op = true := fun i o ho =>
  List.all_eq_true.1 h o (by rw [Array.mem_toList_iff]; exact Array.mem_of_getElem? ho)

theorem pre_all : ∃ c, Tryd.f14.body = some c ∧ PreL [.code c] := by
  refine ⟨_, rfl, ?_⟩
  refine .seq _ _ _ (.code _ _ _ _ (pre_of (by kernel_rfl)) (.seq _ _ _ (.code _ _ _ _ (pre_of (by kernel_rfl)) (.seq _ _ _ (.goC _ _ _ _ _ _ _ _ _ _ rfl rfl rfl rfl rfl rfl rfl rfl rfl)))))

theorem find_row {fn : Func} (i : Nat) (h : Extern.find fn = (Extern.RuntimeError.rows[i]?).map (·.2)) {P : Program} {q : Prop} {Z : Nat → Prop} {C : Code → Prop} : ∀ e, Extern.find fn = some e → ∀ args, Meek P q Z C (fun _ => True) (e args) := by
  intro e he args
  rw [h] at he
  obtain ⟨r, hr, rfl⟩ := Option.map_eq_some_iff.1 he
  exact meek_errorRows r (List.mem_of_getElem? hr) args
theorem find_no {fn : Func} (h : (Extern.find fn).isNone = true) {P : Program} {q : Prop} {Z : Nat → Prop} {C : Code → Prop} : ∀ e, Extern.find fn = some e → ∀ args, Meek P q Z C (fun _ => True) (e args) := by
  intro e he
  rw [he] at h
  cases h
theorem find_kind {fn : Func} (h : Extern.find fn = (Extern.ReflectliteType.rows.getLast?).map (·.2)) {P : Program} {q : Prop} {Z : Nat → Prop} {C : Code → Prop} : ∀ e, Extern.find fn = some e → ∀ args, Meek P q Z C (fun _ => True) (e args) := by
  intro e he args
  rw [h] at he
  obtain ⟨r, hr, rfl⟩ := Option.map_eq_some_iff.1 he
  simp only [Extern.ReflectliteType.rows, List.getLast?_cons_cons, List.getLast?_singleton, Option.some.injEq] at hr
  subst hr
  dsimp only
  repeat' first
    | with_reducible exact Meek.pure trivial
    | with_reducible exact Meek.stuck
    | with_reducible exact Meek.goPanic
    | with_reducible exact Meek.unsup (fun g h => by cases h)
    | with_reducible exact Meek.runtimePanic _
    | with_reducible exact Meek.boundsPanic _ _ _ _
    | with_reducible exact Meek.noRoom
    | with_reducible exact MkA.any
    | with_reducible refine Meek.bind (N := fun _ => True) ?_ fun _ _ => ?_
    | with_reducible refine Meek.ite (fun _ => ?_) (fun _ => ?_)
    | split
    | dsimp only
theorem next_no {fn : Func} (h : (Extern.findNext fn).isNone = true) : Extern.findNext fn = none := Option.isNone_iff_eq_none.1 h
theorem nx0 : (Extern.findNext Tryd.f0).isNone = true := by kernel_rfl
theorem fd0 : (Extern.find Tryd.f0).isNone = true := by kernel_rfl
theorem nx1 : (Extern.findNext Tryd.f1).isNone = true := by kernel_rfl
theorem fd1 : (Extern.find Tryd.f1).isNone = true := by kernel_rfl
theorem nx91 : (Extern.findNext Tryd.f91).isNone = true := by kernel_rfl
theorem fd91 : (Extern.find Tryd.f91).isNone = true := by kernel_rfl
theorem nx95 : (Extern.findNext Tryd.f95).isNone = true := by kernel_rfl
theorem fd95 : (Extern.find Tryd.f95).isNone = true := by kernel_rfl
theorem nx96 : (Extern.findNext Tryd.f96).isNone = true := by kernel_rfl
theorem fd96 : (Extern.find Tryd.f96).isNone = true := by kernel_rfl
theorem nx97 : (Extern.findNext Tryd.f97).isNone = true := by kernel_rfl
theorem fd97 : (Extern.find Tryd.f97).isNone = true := by kernel_rfl
theorem nx79 : (Extern.findNext Tryd.f79).isNone = true := by kernel_rfl
theorem fd79 : Extern.find Tryd.f79 = (Extern.RuntimeError.rows[4]?).map (·.2) := by kernel_rfl
theorem nx80 : (Extern.findNext Tryd.f80).isNone = true := by kernel_rfl
theorem fd80 : Extern.find Tryd.f80 = (Extern.RuntimeError.rows[11]?).map (·.2) := by kernel_rfl
theorem nx81 : (Extern.findNext Tryd.f81).isNone = true := by kernel_rfl
theorem fd81 : Extern.find Tryd.f81 = (Extern.RuntimeError.rows[0]?).map (·.2) := by kernel_rfl
theorem nx82 : (Extern.findNext Tryd.f82).isNone = true := by kernel_rfl
theorem fd82 : Extern.find Tryd.f82 = (Extern.RuntimeError.rows[8]?).map (·.2) := by kernel_rfl
theorem nx83 : (Extern.findNext Tryd.f83).isNone = true := by kernel_rfl
theorem fd83 : Extern.find Tryd.f83 = (Extern.RuntimeError.rows[1]?).map (·.2) := by kernel_rfl
theorem nx84 : (Extern.findNext Tryd.f84).isNone = true := by kernel_rfl
theorem fd84 : Extern.find Tryd.f84 = (Extern.RuntimeError.rows[9]?).map (·.2) := by kernel_rfl
theorem nx85 : (Extern.findNext Tryd.f85).isNone = true := by kernel_rfl
theorem fd85 : Extern.find Tryd.f85 = (Extern.RuntimeError.rows[2]?).map (·.2) := by kernel_rfl
theorem nx86 : (Extern.findNext Tryd.f86).isNone = true := by kernel_rfl
theorem fd86 : Extern.find Tryd.f86 = (Extern.RuntimeError.rows[10]?).map (·.2) := by kernel_rfl
theorem nx87 : (Extern.findNext Tryd.f87).isNone = true := by kernel_rfl
theorem fd87 : Extern.find Tryd.f87 = (Extern.RuntimeError.rows[5]?).map (·.2) := by kernel_rfl
theorem nx88 : (Extern.findNext Tryd.f88).isNone = true := by kernel_rfl
theorem fd88 : Extern.find Tryd.f88 = (Extern.RuntimeError.rows[12]?).map (·.2) := by kernel_rfl
theorem nx89 : (Extern.findNext Tryd.f89).isNone = true := by kernel_rfl
theorem fd89 : Extern.find Tryd.f89 = (Extern.RuntimeError.rows[6]?).map (·.2) := by kernel_rfl
theorem nx90 : (Extern.findNext Tryd.f90).isNone = true := by kernel_rfl
theorem fd90 : Extern.find Tryd.f90 = (Extern.RuntimeError.rows[13]?).map (·.2) := by kernel_rfl
theorem nx92 : (Extern.findNext Tryd.f92).isNone = true := by kernel_rfl
theorem fd92 : Extern.find Tryd.f92 = (Extern.RuntimeError.rows[7]?).map (·.2) := by kernel_rfl
theorem nx93 : (Extern.findNext Tryd.f93).isNone = true := by kernel_rfl
theorem fd93 : Extern.find Tryd.f93 = (Extern.RuntimeError.rows[14]?).map (·.2) := by kernel_rfl
theorem nx94 : (Extern.findNext Tryd.f94).isNone = true := by kernel_rfl
theorem fd94 : Extern.find Tryd.f94 = (Extern.ReflectliteType.rows.getLast?).map (·.2) := by kernel_rfl

/-- ████ THE PROGRAM AT HAND FITS. ████ -/
theorem fit (Z : Nat → Prop) : Fit Tryd.prog 14 Z where
  nice := fun f fn h hne c hc => by
    have := ok_fn h
    simp only [okFn, hc, Bool.and_eq_true, Bool.or_eq_true, beq_iff_eq] at this
    exact this.2.resolve_left hne
  pre := fun args => by
    obtain ⟨c, h1, h2⟩ := pre_all
    refine ⟨.inl ?_, fun d hd => by simp [Frame.enter] at hd, rfl, rfl, rfl⟩
    have : (Frame.enter Tryd.prog 14 args .normal).todo = [.code c] := by
      simp [Frame.enter, Tryd.func14, h1]
    rw [this]
    exact h2
  call := fun f args => by
    cases hfn : (Tryd.prog.funcs[f]? : Option Func) with
    | none => exact call_none hfn args
    | some fn =>
      have hok := ok_fn hfn
      simp only [okFn, Bool.and_eq_true, bne_iff_ne, ne_eq] at hok
      cases hb : fn.body with
      | some c => exact call_body hfn (by rw [hb]; rfl) hok.1 args
      | none =>
        have hm := hok.2
        rw [hb] at hm
        simp only [List.contains_eq_mem, List.mem_cons, List.not_mem_nil, or_false, decide_eq_true_eq] at hm
        rcases hm with rfl | rfl | rfl | rfl | rfl | rfl | rfl | rfl | rfl | rfl | rfl | rfl | rfl | rfl | rfl | rfl | rfl | rfl | rfl | rfl | rfl
        · obtain rfl := Option.some.inj (Tryd.func0.symm.trans hfn); exact call_extern hfn hb hok.1 (next_no nx0) (find_no fd0) args
        · obtain rfl := Option.some.inj (Tryd.func1.symm.trans hfn); exact call_extern hfn hb hok.1 (next_no nx1) (find_no fd1) args
        · obtain rfl := Option.some.inj (Tryd.func79.symm.trans hfn); exact call_extern hfn hb hok.1 (next_no nx79) (find_row 4 fd79) args
        · obtain rfl := Option.some.inj (Tryd.func80.symm.trans hfn); exact call_extern hfn hb hok.1 (next_no nx80) (find_row 11 fd80) args
        · obtain rfl := Option.some.inj (Tryd.func81.symm.trans hfn); exact call_extern hfn hb hok.1 (next_no nx81) (find_row 0 fd81) args
        · obtain rfl := Option.some.inj (Tryd.func82.symm.trans hfn); exact call_extern hfn hb hok.1 (next_no nx82) (find_row 8 fd82) args
        · obtain rfl := Option.some.inj (Tryd.func83.symm.trans hfn); exact call_extern hfn hb hok.1 (next_no nx83) (find_row 1 fd83) args
        · obtain rfl := Option.some.inj (Tryd.func84.symm.trans hfn); exact call_extern hfn hb hok.1 (next_no nx84) (find_row 9 fd84) args
        · obtain rfl := Option.some.inj (Tryd.func85.symm.trans hfn); exact call_extern hfn hb hok.1 (next_no nx85) (find_row 2 fd85) args
        · obtain rfl := Option.some.inj (Tryd.func86.symm.trans hfn); exact call_extern hfn hb hok.1 (next_no nx86) (find_row 10 fd86) args
        · obtain rfl := Option.some.inj (Tryd.func87.symm.trans hfn); exact call_extern hfn hb hok.1 (next_no nx87) (find_row 5 fd87) args
        · obtain rfl := Option.some.inj (Tryd.func88.symm.trans hfn); exact call_extern hfn hb hok.1 (next_no nx88) (find_row 12 fd88) args
        · obtain rfl := Option.some.inj (Tryd.func89.symm.trans hfn); exact call_extern hfn hb hok.1 (next_no nx89) (find_row 6 fd89) args
        · obtain rfl := Option.some.inj (Tryd.func90.symm.trans hfn); exact call_extern hfn hb hok.1 (next_no nx90) (find_row 13 fd90) args
        · obtain rfl := Option.some.inj (Tryd.func91.symm.trans hfn); exact call_extern hfn hb hok.1 (next_no nx91) (find_no fd91) args
        · obtain rfl := Option.some.inj (Tryd.func92.symm.trans hfn); exact call_extern hfn hb hok.1 (next_no nx92) (find_row 7 fd92) args
        · obtain rfl := Option.some.inj (Tryd.func93.symm.trans hfn); exact call_extern hfn hb hok.1 (next_no nx93) (find_row 14 fd93) args
        · obtain rfl := Option.some.inj (Tryd.func94.symm.trans hfn); exact call_extern hfn hb hok.1 (next_no nx94) (find_kind fd94) args
        · obtain rfl := Option.some.inj (Tryd.func95.symm.trans hfn); exact call_extern hfn hb hok.1 (next_no nx95) (find_no fd95) args
        · obtain rfl := Option.some.inj (Tryd.func96.symm.trans hfn); exact call_extern hfn hb hok.1 (next_no nx96) (find_no fd96) args
        · obtain rfl := Option.some.inj (Tryd.func97.symm.trans hfn); exact call_extern hfn hb hok.1 (next_no nx97) (find_no fd97) args
end Go.Proofs.YtlanlkpamnoekaaDoor.Lk
