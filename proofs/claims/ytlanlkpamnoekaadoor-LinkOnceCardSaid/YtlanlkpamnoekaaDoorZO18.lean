/- Link, in company. Nothing that was there is turned. -/
import Derived.Test.YtlanlkpamnoekaaDoorZD16
import Derived.Conc.Beside
import Derived.Test.YtlanlkpamnoekaaDoorZD04
import Derived.Test.YtlanlkpamnoekaaDoorZO17
import Derived.OpenShut
set_option linter.unusedSimpArgs false
set_option linter.unusedVariables false
namespace Go.Proofs.YtlanlkpamnoekaaDoor.Lk
open Go Go.Conc Go.RowKit Rf Mem Bv Crc Str Bits
set_option maxRecDepth 100000

/-- From wakes' return on the frame comes to its end, true in slot r; nothing is turned. -/
def Cont (F : FuncId) (r : Nat) (fr : Frame) : Prop := ∀ (T : Frame → List Frame → World → Prop) (fs : List Frame) (w : World),
  (∀ (a : Act) (todo : List Item) (w' : World), a.defers = [] → a.tmps[r]? = some (.bool true) → w'.heap = w.heap → w'.os = w.os → w'.output = w.output → T { (base F).at a todo with mode := .returning } fs w') → Wins Tryd.prog T (fr.finish (.bool true)) fs w
/-- The law calls wakes; what it tells is what wakes tells. -/
def AtWakes (F : FuncId) (r : Nat) (G0 : World) (f : Frame) (fs : List Frame) (W : World) : Prop := ∃ fr, fs = [fr] ∧ f = Frame.enter Tryd.prog 10 #[] .normal ∧ Cont F r fr ∧ Tops W ∧ Under G0.heap.size G0 W
theorem aim_wakes (F : FuncId) (r : Nat) (G0 : World) : Aim (AtWakes F r G0) :=
  ⟨fun _ _ _ τ d ⟨fr, h1, h2, h3, h4, h5⟩ => ⟨fr, h1, h2, h3, ⟨h4.c0, h4.c1, h4.sz⟩, h5.re τ d⟩, fun f fs w ⟨fr, _, h2, _⟩ ch hm => by
    rw [h2] at hm
    simp [Frame.enter] at hm⟩
/-- The law's end. -/
def DoneF (F : FuncId) (r : Nat) (f : Frame) : Prop := ∃ (a : Act) (todo : List Item), f = { (base F).at a todo with mode := .returning } ∧ a.defers = [] ∧ a.tmps[r]? = some (.bool true)
def AtDone (F : FuncId) (r : Nat) (G0 : World) (f : Frame) (fs : List Frame) (W : World) : Prop := fs = [] ∧ DoneF F r f ∧ Under G0.heap.size G0 W
theorem aim_done (F : FuncId) (r : Nat) (G0 : World) : Aim (AtDone F r G0) :=
  ⟨fun _ _ _ τ d ⟨h1, h2, h3⟩ => ⟨h1, h2, h3.re τ d⟩, fun f fs w ⟨_, ⟨a, todo, h2, _⟩, _⟩ ch hm => by rw [h2] at hm; cases hm⟩

theorem done_run {F : FuncId} {r : Nat} {fr : Frame} {A : World} {m : Machine} {t : Trace} (hc : NF Tryd.prog fr) (hC : Cont F r fr) (hT : Tops A) (h : St (QL Tryd.prog) (Frame.enter Tryd.prog 10 #[] .normal) [fr] A m t) :
    Run Tryd.prog m t (To (QL Tryd.prog) fun f' cs' A' => cs' = [] ∧ DoneF F r f' ∧ Below A.heap.size A A') := by
  refine (wakes_comp hc hT h).bind ?_
  rintro m1 t1 ⟨f1, cs1, A1, ⟨rfl, rfl, b1⟩, hSt⟩
  refine (lone_run0 (bad := 14) (cs := []) (fun Z => fit Z) (aim_done F r (scrub (Zset (fun _ => False) A1) A1)) (fs := []) ⟨by simp, .inl (hc.finish _)⟩ (fun τ d => ?_) (by simpa using hSt)).mono ?_
  · exact hC _ [] _ fun a todo w' h1 h2 h3 h4 h5 => ⟨rfl, ⟨a, todo, rfl, h1, h2⟩, ⟨h4, h5, by rw [h3]; exact Nat.le_refl _, fun k _ => by rw [h3]; rfl⟩⟩
  · rintro _ _ ⟨f', cs', A', ⟨fs', G', rfl, ⟨rfl, hD, hU⟩, _, hR', _, ht', hV'⟩, hSt3⟩
    refine ⟨_, _, A', ⟨rfl, hD, ?_⟩, hSt3⟩
    have hU2 := hU
    rw [scrub_size] at hU2
    have b3 := hU2.lift hR' ht' (V := fun _ => False) (fun i hi _ => hV' i hi) fun _ h => h.elim
    exact b1.trans (b3.mono b1.size)

/-- From where a lone stretch leads to wakes. -/
theorem wakes_run {F : FuncId} {r : Nat} {f : Frame} {A : World} {m : Machine} {t : Trace} (hf : NF Tryd.prog f) (hw : ∀ τ d, Wins Tryd.prog (AtWakes F r (scrub (Zset (fun _ => False) A) A)) f [] (re (scrub (Zset (fun _ => False) A) A) τ d)) (h : St (QL Tryd.prog) f [] A m t) :
    Run Tryd.prog m t (To (QL Tryd.prog) fun f' cs' A' => cs' = [] ∧ DoneF F r f' ∧ Below A.heap.size A A') := by
  refine (lone_run0 (bad := 14) (cs := []) (fun Z => fit Z) (aim_wakes F r _) (fs := []) ⟨by simp, .inl hf⟩ hw (by simpa using h)).bind ?_
  rintro m1 t1 ⟨f1, cs1, A1, ⟨fs1, G1, rfl, ⟨fr, rfl, rfl, hC, hT, hU⟩, hgood, hR, hsz, ht, hV⟩, hSt⟩
  have b1 : Below A.heap.size A A1 := by
    rw [scrub_size] at hU
    exact hU.lift hR ht (V := fun _ => False) (fun i hi _ => hV i hi) fun _ h => h.elim
  refine (done_run (hgood.1 _ (List.mem_singleton.2 rfl)) hC ((Sees.up hR).tops hT) (by simpa using hSt)).mono ?_
  rintro m2 t2 ⟨f2, cs2, A2, ⟨rfl, hD, b2⟩, hSt2⟩
  exact ⟨_, _, A2, ⟨rfl, hD, b1.trans (b2.mono b1.size)⟩, hSt2⟩

/-- The start: goroutine 0 alone. -/
theorem start_st (f : Frame) (A : World) : St (QL Tryd.prog) f [] A (crowd #[Conc.G f []] A none) #[] :=
  ⟨_, _, none, rfl, rfl, _, 0, leavers_one Tryd.prog _, past_nil, rfl⟩

/-- ████ From a run to the law's end: it ends well. ████ -/
theorem law_ends {F : FuncId} {fn : Func} {r : Nat} {f : Frame} {A : World} (hfn : Tryd.prog.funcs[F]? = some fn) (hr : fn.results = #[.tmp r]) (hk : 2 ≠ F)
    (h : ∀ m t, St (QL Tryd.prog) f [] A m t → Run Tryd.prog m t (To (QL Tryd.prog) fun f' cs' A' => cs' = [] ∧ DoneF F r f' ∧ Below A.heap.size A A')) :
    ∃ M last o w' t', runNT Tryd.prog (M + 1) (crowd #[Conc.G f []] A none) #[] = (.ended o w', t') ∧ runN Tryd.prog M (crowd #[Conc.G f []] A none) = .next last ∧ step Tryd.prog last = .ended o w' ∧ Conc.Good Tryd.prog (fun v W' => v = .bool true ∧ Below A.heap.size A W') last o w' t' := by
  obtain ⟨N, m1, t1, h1, f1, cs1, A1, ⟨rfl, ⟨a, todo, rfl, hd, hv⟩, hb⟩, μ, gs, sl, rfl, h0, q, B, hL, hP, _⟩ := h _ _ (start_st f A)
  have hstep : ∀ w : World, stepG Tryd.prog true (Conc.G { (base F).at a todo with mode := .returning } []) w = .ended (.done (.bool true)) w #[] := by
    intro w
    have h2 : a.tmps[r]?.getD undef = .bool true := by rw [hv]; rfl
    simp [Conc.G, stepG, unwind, doReturn, results, Frame.at, base, hfn, hr, hd, h2, hk, seen, GStep.after]
  obtain ⟨M, last, o, w', t', e1, e2, e3, e4⟩ := beside_ends (P := Tryd.prog) (Shun := fun _ => False) (B := B) (D := fun _ _ _ => False) (Post := fun v W' => v = .bool true ∧ Below A.heap.size A W') (sl := sl) (n := 0) (w := A1) (t := t1) (fun _ _ _ h => h.elim) h0 hL hP
    (fun w₁ ⟨d, hw⟩ => ⟨rfl, .bool true, #[], by rw [hstep], by simp, rfl, by rw [hw]; exact below_at_d hb d⟩)
  refine ⟨N + M, last, o, w', t', ?_, ?_, e3, e4⟩
  · rw [Nat.add_assoc, runNT_add, h1]
    exact e1
  · have h1' : runN Tryd.prog N (crowd #[Conc.G f []] A none) = .next (crowd gs A1 sl) := by rw [← runNT_fst _ _ _ #[], h1]
    rw [runN_add, h1']
    exact e2
end Go.Proofs.YtlanlkpamnoekaaDoor.Lk
namespace Go.Proofs.YtlanlkpamnoekaaDoor.Lk
open Go Go.Conc Go.RowKit Rf Mem Bv Crc Str Bits
set_option maxRecDepth 100000

theorem wanted_none {o : Oper} {y : Nat → Option Bool} (h : o.guard = none) : Region.wanted o y = true := by rw [Region.wanted, h]
theorem wanted_some {ops : Array Oper} {o : Oper} {tm : Array Value} {g d : Nat} {b : Bool} (h : o.guard = some (g, b)) (hd : (ops[g]?.bind (·.dst)) = some d) (hv : tm[d]? = some (.bool b)) : Region.wanted o (yielded ops tm) = true := by
  rw [Region.wanted, h]
  simp [yielded, hd, hv]
theorem cont_of {F : FuncId} {r d i : Nat} {ops : Array Oper} {rest : List Nat} {a : Act} {k : List Item} (hdst : (ops[i]?.bind (·.dst)) = some d) (h : ∀ w, wpOps Tryd.prog ops (nrm fun a' w' => a'.defers = [] ∧ a'.tmps[r]? = some (.bool true) ∧ w' = w) rest (a.put (some d) (.bool true)) w) :
    Cont F r ((base F).at a (.inRegion ops (i :: rest) :: .code .ret :: k)) := by
  intro T fs w hT
  rw [Frame.finish_at, hdst]
  refine Wins.ops rest [] (by simp) (h w) fun a' w' ⟨h1, h2, h3⟩ => Wins.regionEnd (Wins.ret (Wins.stop ?_))
  subst h3
  exact hT a' _ w' h1 h2 rfl rfl rfl
theorem cont_two {F : FuncId} {r d i j : Nat} {ops : Array Oper} {o : Oper} {a : Act} {k : List Item} (hdst : (ops[i]?.bind (·.dst)) = some d) (ho : ops[j]? = some o) (hop : o.op = .assign (.tmp d)) (hdo : o.dst = some r) (hg : o.guard = none) (hd : a.defers = []) (hsz : d < a.tmps.size) (hr : r < a.tmps.size) :
    Cont F r ((base F).at a (.inRegion ops [i, j] :: .code .ret :: k)) := by
  refine cont_of hdst fun w => ?_
  simp only [wpOps, ho]
  rw [if_pos (wanted_none hg)]
  refine .inl ?_
  have he : (execOp (a.put (some d) (.bool true)).eval o).run Tryd.prog w = .ok (.value (.bool true)) w := by
    unfold execOp
    simp [hop, Act.eval, Act.put, hsz]
  refine Node.wp_val _ he ?_
  rw [hdo]
  refine ⟨hd, ?_, rfl⟩
  simp [Act.put, hr]
/-- The call of wakes. -/
theorem wins_wakes {T : Frame → List Frame → World → Prop} {b : Frame} {a : Act} {ops : Array Oper} {i : Nat} {rest : List Nat} {k : List Item} {fs : List Frame} {w : World} {o : Oper} {ts : Array TypeId} (ho : ops[i]? = some o) (hw : Region.wanted o (yielded ops a.tmps) = true) (hop : o.op = .call { callee := .value (.func 10), args := #[], argTypes := ts })
    (h : T (Frame.enter Tryd.prog 10 #[] .normal) (b.at a (.inRegion ops (i :: rest) :: k) :: fs) w) : Wins Tryd.prog T (b.at a (.inRegion ops (i :: rest) :: k)) fs w := by
  have hcall : ∀ args w, (callFunc 10 args).run Tryd.prog w = .ok (.enter 10 args) w := enters Tryd.func10 (by kernel_rfl) rfl
  refine Wins.call ho hw (g := 10) (args := #[]) (w' := w) ?_ (Wins.stop h)
  unfold execOp
  simp [hop, resolve, invoke, Act.eval, Deferred.ofValue, hcall]
theorem AtWakes.mk {F : FuncId} {r : Nat} {G0 W : World} {fr : Frame} (hC : Cont F r fr) (hT : Tops W) (hb : Below G0.heap.size G0 W) : AtWakes F r G0 (Frame.enter Tryd.prog 10 #[] .normal) [fr] W := ⟨fr, rfl, rfl, hC, hT, .of hb⟩
theorem Wins.mono {T T' : Frame → List Frame → World → Prop} {f : Frame} {fs : List Frame} {w : World} (h : Wins Tryd.prog T f fs w) (hT : ∀ f fs w, T f fs w → T' f fs w) : Wins Tryd.prog T' f fs w := by
  obtain ⟨n, g, gs, x, h1, h2⟩ := h
  exact ⟨n, g, gs, x, h1, hT _ _ _ h2⟩
theorem AtWakes.blind {F : FuncId} {r : Nat} {G : World} {τ : Tape} {d : Nat} {f : Frame} {fs : List Frame} {W : World} (h : AtWakes F r (re G τ d) f fs W) : AtWakes F r G f fs W := by
  obtain ⟨fr, h1, h2, h3, h4, h5⟩ := h
  exact ⟨fr, h1, h2, h3, h4, ⟨h5.os, h5.output, h5.size, h5.block⟩⟩
end Go.Proofs.YtlanlkpamnoekaaDoor.Lk
namespace Go.Proofs.YtlanlkpamnoekaaDoor
open Go Go.RowKit Rf Mem Bv Crc Str Lk
set_option maxRecDepth 100000

/-! ### the plain law -/
theorem right_e {x : Lst} (h : rightL x.1 x.2.1 x.2.2 = true) : 0 ≤ x.2.2 ∧ x.2.2 ≤ 65535 ∧ 0 ≤ x.2.1 ∧ x.2.1 ≤ 65535 ∧ -1 ≤ x.1 ∧ x.1 < 256 := by
  unfold rightL clamp at h
  simp only [Bool.and_eq_true, decide_eq_true_eq] at h
  omega
theorem right_of {s q e : Int} (h : 0 ≤ e ∧ e ≤ 65535 ∧ 0 ≤ q ∧ q ≤ 65535 ∧ -1 ≤ s ∧ s < 256) : rightL s q e = true := by
  unfold rightL clamp
  simp only [Bool.and_eq_true, decide_eq_true_eq]
  omega
/-- What is refused: the count of errors alone. -/
theorem hear_no {kd : Int} {y : List (BitVec 8)} {x : Lst} (h : rightL x.1 x.2.1 x.2.2 = true) (he : (hearV kd y x).2.1 ≠ 0) : (hearV kd y x).1 = (x.1, x.2.1, onV x.2.2 1 65535) ∧ (hearV kd y x).2.2 = noF := by
  have hr : ¬ rightL x.1 x.2.1 x.2.2 = false := by rw [h]; decide
  by_cases h1 : (takeV y).2.2.2 ≠ 0
  · unfold hearV; rw [if_neg hr, if_pos h1]; exact ⟨rfl, rfl⟩
  by_cases h2 : ((takeV y).1.toNat : Int) ≠ kd
  · unfold hearV; rw [if_neg hr, if_neg h1, if_pos h2]; exact ⟨rfl, rfl⟩
  by_cases h3 : 0 ≤ x.1 ∧ newer ((takeV y).2.1.toNat : Int) x.1 = false
  · unfold hearV; rw [if_neg hr, if_neg h1, if_neg h2, if_pos h3]; exact ⟨rfl, rfl⟩
  unfold hearV at he
  rw [if_neg hr, if_neg h1, if_neg h2, if_neg h3] at he
  exact absurd rfl he
/-- What is accepted. -/
theorem hear_yes {kd : Int} {y : List (BitVec 8)} {x : Lst} (h : rightL x.1 x.2.1 x.2.2 = true) (he : (hearV kd y x).2.1 = 0) :
    (takeV y).2.2.2 = 0 ∧ ((takeV y).1.toNat : Int) = kd ∧ ¬ (0 ≤ x.1 ∧ newer ((takeV y).2.1.toNat : Int) x.1 = false) ∧ hearV kd y x = ((((takeV y).2.1.toNat : Int), 0, x.2.2), 0, ((takeV y).1, (takeV y).2.1, (takeV y).2.2.1)) := by
  have hr : ¬ rightL x.1 x.2.1 x.2.2 = false := by rw [h]; decide
  by_cases h1 : (takeV y).2.2.2 ≠ 0
  · unfold hearV at he; rw [if_neg hr, if_pos h1] at he; exact absurd he h1
  by_cases h2 : ((takeV y).1.toNat : Int) ≠ kd
  · unfold hearV at he; rw [if_neg hr, if_neg h1, if_pos h2] at he; simp only at he; omega
  by_cases h3 : 0 ≤ x.1 ∧ newer ((takeV y).2.1.toNat : Int) x.1 = false
  · unfold hearV at he; rw [if_neg hr, if_neg h1, if_neg h2, if_pos h3] at he; simp only at he; omega
  refine ⟨by omega, by omega, h3, ?_⟩
  unfold hearV
  rw [if_neg hr, if_neg h1, if_neg h2, if_neg h3]
theorem onV_one {e : Int} (h : 0 ≤ e ∧ e ≤ 65535) : onV e 1 65535 = min (e + 1) 65535 := by
  unfold onV clamp; omega
theorem hear_right {kd : Int} {y : List (BitVec 8)} {x : Lst} (h : rightL x.1 x.2.1 x.2.2 = true) : rightL (hearV kd y x).1.1 (hearV kd y x).1.2.1 (hearV kd y x).1.2.2 = true := by
  have hx := right_e h
  by_cases he : (hearV kd y x).2.1 = 0
  · rw [(hear_yes h he).2.2.2]
    have := (takeV y).2.1.isLt
    exact right_of (by simp only; omega)
  · rw [(hear_no h he).1]
    exact right_of (by simp only [onV_one ⟨hx.1, hx.2.1⟩]; omega)

theorem allV_snoc {kd : Int} {st : Lst × List Frm} {xs : List (List (BitVec 8))} {i : Nat} {y : List (BitVec 8)} (h : xs[i]? = some y) : allV kd st (xs.take (i + 1)) = stepV kd (allV kd st (xs.take i)) y := by
  unfold allV
  rw [List.take_add_one, h]
  simp [List.foldl_append]
theorem allV_pre (kd : Int) : ∀ (xs : List (List (BitVec 8))) (st : Lst × List Frm), ∃ l, (allV kd st xs).2 = st.2 ++ l
  | [], st => ⟨[], by simp [allV]⟩
  | y :: xs, st => by
    obtain ⟨l, hl⟩ := allV_pre kd xs (stepV kd st y)
    have e : allV kd st (y :: xs) = allV kd (stepV kd st y) xs := rfl
    rw [e, hl]
    unfold stepV
    split
    · exact ⟨_ :: l, by rw [List.append_assoc]; rfl⟩
    · exact ⟨l, rfl⟩
theorem allV_split (kd : Int) (st : Lst × List Frm) (xs : List (List (BitVec 8))) (i : Nat) : allV kd st xs = allV kd (allV kd st (xs.take i)) (xs.drop i) := by
  unfold allV
  rw [← List.foldl_append, List.take_append_drop]
/-- The accepted ones so far lie at the front of all. -/
theorem allV_at {kd : Int} {st : Lst × List Frm} {xs : List (List (BitVec 8))} {i : Nat} {l : List Frm} {f : Frm} (h : (allV kd st (xs.take i)).2 = l ++ [f]) : (allV kd st xs).2[l.length]? = some f := by
  obtain ⟨l', hl⟩ := allV_pre kd (xs.drop i) (allV kd st (xs.take i))
  rw [allV_split kd st xs i, hl, h]
  simp
/-- What is held of the first ones. -/
structure AllIs (kd : Int) (x : Lst) (xs : List (List (BitVec 8))) (i mm rf : Nat) (z : Lst × List Frm) : Prop where
  is : z = allV kd (x, []) (xs.take i)
  len : z.2.length = mm
  sum : mm + rf = i
  err : z.1.2.2 = min (x.2.2 + rf) 65535
  right : rightL z.1.1 z.1.2.1 z.1.2.2 = true
theorem AllIs.zero {kd : Int} {x : Lst} {xs : List (List (BitVec 8))} (h : rightL x.1 x.2.1 x.2.2 = true) : AllIs kd x xs 0 0 0 (x, []) :=
  ⟨by simp [allV], rfl, rfl, by have := right_e h; simp only; omega, h⟩
theorem AllIs.no {kd : Int} {x : Lst} {xs : List (List (BitVec 8))} {i mm rf : Nat} {z : Lst × List Frm} {y : List (BitVec 8)} (hx : rightL x.1 x.2.1 x.2.2 = true) (h : AllIs kd x xs i mm rf z) (hy : xs[i]? = some y) (he : (hearV kd y z.1).2.1 ≠ 0) : AllIs kd x xs (i + 1) mm (rf + 1) ((hearV kd y z.1).1, z.2) := by
  have h1 := (hear_no h.right he).1
  have h2 := right_e h.right
  have h3 := right_e hx
  refine ⟨by rw [allV_snoc hy, ← h.is]; unfold stepV; rw [if_neg he], h.len, by have := h.sum; omega, ?_, hear_right h.right⟩
  have h4 := h.err
  simp only [h1, onV_one ⟨h2.1, h2.2.1⟩]
  omega
theorem AllIs.yes {kd : Int} {x : Lst} {xs : List (List (BitVec 8))} {i mm rf : Nat} {z : Lst × List Frm} {y : List (BitVec 8)} (h : AllIs kd x xs i mm rf z) (hy : xs[i]? = some y) (he : (hearV kd y z.1).2.1 = 0) :
    AllIs kd x xs (i + 1) (mm + 1) rf ((hearV kd y z.1).1, z.2 ++ [(hearV kd y z.1).2.2]) ∧ (allV kd (x, []) xs).2[mm]? = some (hearV kd y z.1).2.2 := by
  have h1 : ((hearV kd y z.1).1, z.2 ++ [(hearV kd y z.1).2.2]) = allV kd (x, []) (xs.take (i + 1)) := by
    rw [allV_snoc hy, ← h.is]; unfold stepV; rw [if_pos he]
  refine ⟨⟨h1, by simp [h.len], by have := h.sum; omega, ?_, hear_right h.right⟩, ?_⟩
  · simp only [(hear_yes h.right he).2.2.2]; exact h.err
  · have := allV_at (kd := kd) (st := (x, [])) (xs := xs) (i := i + 1) (l := z.2) (f := (hearV kd y z.1).2.2) (by rw [← h1])
    rw [h.len] at this
    exact this

/-! ### memory -/
theorem keep3 (W : World) (g : Nat) (x y z : Value) : Keep (fun q => q ≠ g) W (((W.setCell ⟨g, 0, none⟩ x).setCell ⟨g, 1, none⟩ y).setCell ⟨g, 2, none⟩ z) :=
  (((Keep.refl _ W).setCell (p := ⟨g, 0, none⟩) (fun _ h => h rfl) x).setCell (p := ⟨g, 1, none⟩) (fun _ h => h rfl) y).setCell (p := ⟨g, 2, none⟩) (fun _ h => h rfl) z
/-- A frame's variable, written. -/
theorem FV.put3 {W : World} {g : Nat} {f : Frm} {A : Option Addr} {c : Nat} {f0 f1 f2 : Value} (h : W.heap[g]? = some (.cells #[f0, f1, f2] 41 (0, 0))) (hs : SliceAt W 1 (.slice A f.2.2.length c) f.2.2.length (u8s f.2.2)) (h0 : ∀ q, VB (.slice A f.2.2.length c) f.2.2.length q → q ≠ g) :
    FV (((W.setCell ⟨g, 0, none⟩ (.int .u8 (f.1.toNat : Int))).setCell ⟨g, 1, none⟩ (.int .u8 (f.2.1.toNat : Int))).setCell ⟨g, 2, none⟩ (.slice A f.2.2.length c)) g f :=
  ⟨A, c, by rw [set_at (set_at (set_at h 0 _) 1 _) 2 _]; simp, slice_keep hs (keep3 W g _ _ _) h0⟩
/-- Bytes do not lie in a link. -/
theorem bytes_far {W : World} {g : Nat} {s q e : Int} {v : Value} {p : List (BitVec 8)} (h : SliceAt W 1 v p.length (u8s p)) (hl : LVar W g s q e) (x y z : Value) : SliceAt (((W.setCell ⟨g, 0, none⟩ x).setCell ⟨g, 1, none⟩ y).setCell ⟨g, 2, none⟩ z) 1 v p.length (u8s p) :=
  Mem.SliceAt.beside h hl (by simp) fun i hi => far3 hi x y z
theorem FV.far {W : World} {g gb : Nat} {s q e : Int} {f : Frm} (h : FV W gb f) (hl : LVar W g s q e) (hn : gb ≠ g) (x y z : Value) : FV (((W.setCell ⟨g, 0, none⟩ x).setCell ⟨g, 1, none⟩ y).setCell ⟨g, 2, none⟩ z) gb f := by
  obtain ⟨A, c, h1, h2⟩ := h.out
  exact ⟨A, c, frame_far3' h1 hn x y z, bytes_far h2 hl x y z⟩
/-- A slice of bytes out of a cell. -/
theorem run_el {w : World} {a : Act} {o : Oper} {x : Operand} {p : Addr} {v : Value} (h : w.cell? p = some v) (ho : o.op = .load 36 x) (hx : a.eval x = .pointer (some p)) : (execOp a.eval o).run Tryd.prog w = .ok (.value v) w := by
  generalize a.eval = ρ at *
  unfold execOp
  simp [ho, hx, go_sem, h]
/-- A frame out of three cells. -/
theorem run_fr {w : World} {a : Act} {o : Oper} {x : Operand} {g k : Nat} {u v z : Value} (h0 : w.cell? ⟨g, k, none⟩ = some u) (h1 : w.cell? ⟨g, k + 1, none⟩ = some v) (h2 : w.cell? ⟨g, k + 2, none⟩ = some z) (ho : o.op = .load 41 x) (hx : a.eval x = .pointer (some ⟨g, k, none⟩)) : (execOp a.eval o).run Tryd.prog w = .ok (.value (.agg #[u, v, z])) w := by
  generalize a.eval = ρ at *
  unfold execOp
  simp [ho, hx, go_sem, h0, h1, h2]

/-- A slice's cell. -/
theorem slice_cell {w : World} {b o n c i : Nat} {us : List Value} {u : Value} (h : SliceAt w 1 (.slice (some ⟨b, o, none⟩) n c) n us) (hu : us[i]? = some u) : w.cell? ⟨b, o + i, none⟩ = some u := by
  obtain ⟨A, c', e, _, _, hl, h4⟩ := h
  have hi := (List.getElem?_eq_some_iff.1 hu).1
  rcases h4 with h4 | ⟨b', o', e', _, hc⟩
  · omega
  · obtain ⟨rfl, _, _⟩ := Value.slice.inj e
    cases e'
    exact hc i u hu
theorem slice_far {W : World} {g b o n c : Nat} {us : List Value} (h : SliceAt W 1 (.slice (some ⟨b, o, none⟩) n c) n us) (hn : b ≠ g) (x y z : Value) : SliceAt (((W.setCell ⟨g, 0, none⟩ x).setCell ⟨g, 1, none⟩ y).setCell ⟨g, 2, none⟩ z) 1 (.slice (some ⟨b, o, none⟩) n c) n us :=
  slice_keep h (keep3 W g x y z) fun q hq => by cases hq.2; exact hn

theorem below_cell' {w W : World} (h : Below w.heap.size w W) {g k : Nat} {u : Value} (hg : g < w.heap.size) (hc : w.cell? ⟨g, k, none⟩ = some u) : W.cell? ⟨g, k, none⟩ = some u :=
  (World.cell?_of_block (a := ⟨g, k, none⟩) (h.block g hg)).trans hc

/-! ### parts of code -/
def cfst : Code → Code | .seq a _ => a | c => c
def csnd : Code → Code | .seq _ b => b | c => c
def cyes : Code → Code | .cond _ a _ => a | c => c
def copsOf : Code → Array Oper | .region _ o _ => o | _ => #[]
section
open Go.Conc
variable {P : Program} {T : Frame → List Frame → World → Prop} {b : Frame} {fs : List Frame} {a : Act} {w : World} {k : List Item}
theorem Lk.Wins.exit {id : Nat} {k' : List Item} (h : exitTo id k = some k') (hk : Wins P T (b.at a k') fs w) : Wins P T (b.at a (.code (.exit id) :: k)) fs w := .steps (.one (step_exit h)) hk
end
end Go.Proofs.YtlanlkpamnoekaaDoor
namespace Go.Proofs.YtlanlkpamnoekaaDoor
open Go Go.RowKit Rf Mem Bv Crc Str Lk Go.ChangeShapes Go.WideShapes
set_option maxRecDepth 100000
attribute [local go_sem ↓] run_max2 run_min2
/-- Rows of bytes, of any length. -/
structure ElsW (W : World) (us : List Value) (xs : List (List (BitVec 8))) : Prop where
  len : us.length = xs.length
  at_ : ∀ (i : Nat) (x : List (BitVec 8)), xs[i]? = some x → ∃ A c, us[i]? = some (.slice A x.length c) ∧ SliceAt W 1 (.slice A x.length c) x.length (u8s x)
theorem ElsW.later {W W' : World} {us : List Value} {xs : List (List (BitVec 8))} (h : ElsW W us xs) (hb : Below W.heap.size W W') : ElsW W' us xs := ⟨h.len, fun i x hx => by
  obtain ⟨A, c, h1, h2⟩ := h.at_ i x hx
  exact ⟨A, c, h1, h2.later hb⟩⟩
theorem ElsW.see {A G : World} (s : Sees A G) {us : List Value} {xs : List (List (BitVec 8))} (h : ElsW A us xs) : ElsW G us xs := ⟨h.len, fun i x hx => by
  obtain ⟨A, c, h1, h2⟩ := h.at_ i x hx
  exact ⟨A, c, h1, s.sl h2⟩⟩
theorem ElsW.els {W : World} : ∀ {us : List Value} {xs : List (List (BitVec 8))}, ElsW W us xs → (∀ x ∈ xs, x.length ≤ 200) → Els W us xs
  | [], [], _, _ => trivial
  | [], _ :: _, h, _ => by have := h.len; simp at this
  | _ :: _, [], h, _ => by have := h.len; simp at this
  | u :: us, x :: xs, h, hl => by
    obtain ⟨A, c, h1, h2⟩ := h.at_ 0 x rfl
    simp only [List.getElem?_cons_zero, Option.some.injEq] at h1
    subst h1
    refine ⟨h2, by have := hl x List.mem_cons_self; omega, ElsW.els ⟨by have := h.len; simp at this; exact this, fun i y hy => ?_⟩ fun y hy => hl y (List.mem_cons_of_mem _ hy)⟩
    obtain ⟨A', c', h3, h4⟩ := h.at_ (i + 1) y (by simpa using hy)
    exact ⟨A', c', by simpa using h3, h4⟩
set_option maxHeartbeats 1000000 in
theorem great_w (lv : Value) (vs : List Value) (xs : List (List (BitVec 8))) (w : World) (hs : SliceAt w 1 lv vs.length vs) (hE : ElsW w vs xs) : Calls Tryd.prog 9 #[lv] w fun e w' => Gr29 xs e ∧ w = w' := by
  obtain ⟨n, hn⟩ : ∃ n, vs.length = n := ⟨_, rfl⟩
  have hxn : xs.length = n := by rw [← hE.len]; exact hn
  rw [hn] at hs
  obtain ⟨A, c, rfl, hnc, hc⟩ := hs.form
  have HX := Lib.hid hxn
  have HE := Lib.hid hE
  have HS := Lib.hid hs
  clear hn hxn hE hs
  go_enter Tryd.func9, Tryd.ntmps9
  go_wp2
  go_loopw [3] (fun i wr => ∃ k : Nat, k ≤ n ∧ k ≤ 61 ∧ i = .int .i64 k ∧ Hid (∀ j x, j < k → xs[j]? = some x → x.length ≤ 200) ∧ wr = w) (fun i _ => n - (intOf i).toNat)
  case atStart => exact ⟨0, Nat.zero_le _, by omega, rfl, Lib.hid (fun j x hj => by omega), rfl⟩
  case round =>
    obtain ⟨k, hk, hk61, rfl, hle, rfl⟩ := hrel
    by_cases hlt : k < n
    · by_cases h60 : k ≤ 60
      · obtain ⟨x, hx⟩ : ∃ x, xs[k]? = some x := ⟨_, List.getElem?_eq_getElem (by rw [HX.out]; exact hlt)⟩
        obtain ⟨A1, c1, h1, h2⟩ := HE.out.at_ k x hx
        obtain ⟨b, off, c', e, _, _, hbl, hcell⟩ := HS.out.pos (by omega)
        obtain ⟨rfl, _, rfl⟩ := Value.slice.inj e
        have hcell' := hcell k _ h1
        have HC := Lib.hid h2.form
        have HXX := Lib.hid hx
        clear hx h1 h2 e hcell
        by_cases hbig : x.length ≤ 200
        · have hle' : ∀ j x, j < k + 1 → xs[j]? = some x → x.length ≤ 200 := fun j y hj hy => by
            rcases Nat.lt_or_ge j k with h | h
            · exact hle.out j y h hy
            · obtain rfl : j = k := by omega
              rw [HXX.out] at hy
              cases hy
              exact hbig
          have HL := Lib.hid hle'
          clear hle'
          go_wp2
          exact ⟨⟨k + 1, by omega, by omega, by go_num, HL, trivial⟩, by simp [intOf]; omega⟩
        · go_wp2
          go_ret
          exact ⟨⟨true, rfl, fun h => by cases h⟩, rfl⟩
      · obtain rfl : k = 61 := by omega
        have q1 : decide ((60 : Int) < (n : Int)) = true := decide_eq_true (by omega)
        go_wp2
        go_ret
        exact ⟨⟨_, rfl, fun h => by cases h⟩, rfl⟩
    · obtain rfl : k = n := by omega
      go_wp2
      go_ret
      refine ⟨⟨_, rfl, fun h => ⟨by have := of_decide_eq_false h; rw [HX.out]; omega, fun x hx => ?_⟩⟩, rfl⟩
      obtain ⟨j, hj⟩ := List.getElem?_of_mem hx
      exact hle.out j x (by have := (List.getElem?_eq_some_iff.1 hj).1; rw [HX.out] at this; exact this) hj

section
variable {H : Type} {enc : TypeId × Value → H} {w : World}
theorem open_link {base : Nat} {v : Value} {d : DataW H} {p : List MemPlace} (hv : Value.okWide Tryd.prog w .any base 31 v) (h : DataW.Trod enc Tryd.prog w 0 (fun _ => true) true 31 v d p) :
    ∃ s q e : Int, v = lk s q e := by
  obtain ⟨v0, v1, v2, y0, y1, y2, n, rfl, _, _, h0, h1, h2⟩ := Joins.open_agg3 (P := Tryd.prog) (t := 31) Tryd.underlying31 (by kernel_rfl) (by kernel_rfl) hv h
  obtain ⟨N, hN, _, _⟩ := DataW.trod_int Tryd.underlying3 h0
  obtain ⟨M, hM, _, _⟩ := DataW.trod_int Tryd.underlying3 h1
  obtain ⟨K, hK, _, _⟩ := DataW.trod_int Tryd.underlying3 h2
  obtain rfl := List.cons.inj hN |>.1
  obtain rfl := List.cons.inj hM |>.1
  obtain rfl := List.cons.inj hK |>.1
  exact ⟨_, _, _, rfl⟩
theorem open_rows {base : Nat} {v : Value} {d : DataW H} {p : List MemPlace} (hv : Value.okWide Tryd.prog w .any base 32 v) (h : DataW.Trod enc Tryd.prog w 0 (fun _ => true) true 32 v d p) :
    ∃ (us : List Value) (xs : List (List (BitVec 8))), SliceAt w 1 v us.length us ∧ ElsW w us xs := by
  obtain ⟨us, h1, h2⟩ := open_arg (sz := 1) (fun u : Value => [u]) (fun u => ∃ x : List (BitVec 8), SliceAt w 1 u x.length (u8s x)) (fun _ => rfl) (by omega) Tryd.underlying32 (by kernel_rfl)
    (fun m cs y hl ht => by
      obtain ⟨u, B, hu, hB⟩ := open_bytes_cs Tryd.underlying36 Tryd.underlying5 (by kernel_rfl) ht
      exact ⟨u, ⟨B, hB⟩, hu⟩) hv h
  have e : us.flatMap (fun u : Value => [u]) = us := by simp
  rw [e] at h1
  have hx : ∀ (us : List Value), (∀ a ∈ us, ∃ x : List (BitVec 8), SliceAt w 1 a x.length (u8s x)) → ∃ xs, ElsW w us xs := by
    intro us
    induction us with
    | nil => exact fun _ => ⟨[], rfl, fun i x hx => by simp at hx⟩
    | cons u us ih =>
      intro h
      obtain ⟨x, hx⟩ := h u List.mem_cons_self
      obtain ⟨xs, hxs⟩ := ih fun a ha => h a (List.mem_cons_of_mem _ ha)
      refine ⟨x :: xs, by simp [hxs.len], fun i y hy => ?_⟩
      cases i with
      | zero =>
        simp only [List.getElem?_cons_zero, Option.some.injEq] at hy
        subst hy
        obtain ⟨A, c, e, _⟩ := hx.form
        exact ⟨A, c, by rw [e]; rfl, e ▸ hx⟩
      | succ i =>
        obtain ⟨A, c, h3, h4⟩ := hxs.at_ i y (by simpa using hy)
        exact ⟨A, c, by simpa using h3, h4⟩
  obtain ⟨xs, hxs⟩ := hx us h2
  exact ⟨us, xs, h1, hxs⟩
end
end Go.Proofs.YtlanlkpamnoekaaDoor
namespace Go.Proofs.YtlanlkpamnoekaaDoor
open List renaming getElem_toArray → zA, getElem_cons_succ → zS, getElem_cons_zero → zZ, setIfInBounds_toArray → zP, set_cons_zero → zQ, set_cons_succ → zR
open Go Go.RowKit Rf Mem Bv Crc Str Lk
set_option maxRecDepth 100000
attribute [local go_sem ↓] run_max2 run_min2
def lit134 (j : Nat → Value) : List Value := [j 0, j 1, j 2, j 3, j 4, j 5, j 6, j 7, j 8, j 9, j 10, j 11, j 12, j 13, j 14, j 15, j 16, j 17, j 18, j 19, j 20, j 21, j 22, j 23, j 24, j 25, j 26, j 27, j 28, j 29, j 30, j 31, j 32, j 33, j 34, j 35, j 36, j 37, j 38, j 39, j 40, j 41, j 42, j 43, j 44, j 45, j 46, j 47, j 48, j 49] ++ ([j 50, j 51, j 52, j 53, j 54, j 55, j 56, j 57, j 58, j 59, j 60, j 61, j 62, j 63, j 64, j 65, j 66, j 67, j 68, j 69, j 70, j 71, j 72, j 73, j 74, j 75, j 76, j 77, j 78, j 79, j 80, j 81, j 82, j 83, j 84, j 85, j 86, j 87, j 88, j 89, j 90, j 91, j 92, j 93, j 94, j 95, j 96, j 97, j 98, j 99] ++ ([j 100, j 101, j 102, j 103, j 104, j 105, j 106, j 107, j 108, j 109, j 110, j 111, j 112, j 113, j 114, j 115, j 116, j 117, j 118, j 119, j 120, j 121, j 122, j 123, j 124, j 125, j 126, j 127, j 128, j 129, j 130, j 131, j 132, j 133]))
theorem lit134_eq (j : Nat → Value) : (List.range 134).map j = lit134 j := by kernel_rfl
theorem Sl.lit134 {a : Act} {l : List (Nat × Value)} (h : Sl a 134 l) : ∃ j : Nat → Value, a = ⟨(lit134 j).toArray, []⟩ ∧ ∀ p ∈ l, j p.1 = p.2 := by
  obtain ⟨j, h1, h2⟩ := h.letters
  exact ⟨j, by rw [h1, lit134_eq], h2⟩

noncomputable def bodyO : Code := Tryd.f4.body.getD .skip
noncomputable def rgO (k : Nat) : Code := nthSeq k bodyO
noncomputable def rO1 : Code := cfst (rgO 1)
noncomputable def opsO2 : Array Oper := copsOf (cfst (cyes (csnd (rgO 1))))
noncomputable def rO3 : Code := cfst (rgO 2)
noncomputable def loopO : Code := match rgO 2 with | .seq _ (.block _ (.loop c)) => c | _ => .skip
noncomputable def rO4 : Code := cfst (cfst loopO)
noncomputable def cO : Code := match loopO with | .seq _ (.seq (.block _ c) _) => c | _ => .skip
noncomputable def rO5 : Code := csnd (csnd loopO)
noncomputable def rO6 : Code := cfst cO
noncomputable def c7 : Code := csnd cO
noncomputable def rO7 : Code := cfst (cfst c7)
noncomputable def rO8 : Code := cyes (csnd (cfst c7))
noncomputable def c9 : Code := csnd c7
noncomputable def rO9 : Code := cfst (cfst c9)
noncomputable def c10 : Code := cyes (csnd (cfst c9))
noncomputable def rO10 : Code := cfst c10
noncomputable def rO11 : Code := cfst (csnd c10)
noncomputable def rO12 : Code := cfst (cfst (csnd (csnd c10)))
noncomputable def rO13 : Code := cyes (csnd (cfst (csnd (csnd c10))))
noncomputable def rO14 : Code := cfst (csnd (csnd (csnd c10)))
noncomputable def c15 : Code := csnd c9
noncomputable def rO15 : Code := cfst c15
noncomputable def rO16 : Code := cfst (cfst (csnd c15))
noncomputable def rO17 : Code := cyes (csnd (cfst (csnd c15)))
noncomputable def c18 : Code := csnd (csnd c15)
noncomputable def rO18 : Code := cfst c18
noncomputable def rO19 : Code := cfst (cfst (csnd c18))
noncomputable def rO20 : Code := cyes (csnd (cfst (csnd c18)))
noncomputable def rO21 : Code := csnd (csnd c18)
noncomputable def opsO22 : Array Oper := copsOf (rgO 3)
theorem bodyO_eq : bodyO = .seq (rgO 0) (.seq (rgO 1) (.seq (rgO 2) (.seq (rgO 3) .ret))) := rfl
theorem rgO1_eq : rgO 1 = .seq rO1 (.cond (.tmp 23) (.seq (.region 2 opsO2 false) .ret) .skip) := rfl
theorem rgO2_eq : rgO 2 = .seq rO3 (.block 0 (.loop loopO)) := rfl
theorem rgO3_eq : rgO 3 = .region 22 opsO22 false := rfl
theorem loopO_eq : loopO = .seq (.seq rO4 (.cond (.tmp 28) .skip (.exit 0))) (.seq (.block 1 cO) rO5) := rfl
theorem cO_eq : cO = .seq rO6 (.seq (.seq rO7 (.cond (.tmp 44) rO8 .skip)) (.seq (.seq rO9 (.cond (.tmp 46) c10 .skip)) c15)) := rfl
theorem c10_eq : c10 = .seq rO10 (.seq rO11 (.seq (.seq rO12 (.cond (.tmp 61) rO13 .skip)) (.seq rO14 (.exit 1)))) := rfl
theorem c15_eq : c15 = .seq rO15 (.seq (.seq rO16 (.cond (.tmp 118) rO17 .skip)) (.seq rO18 (.seq (.seq rO19 (.cond (.tmp 131) rO20 .skip)) rO21))) := rfl
theorem sizeO2 : List.range opsO2.size = [0, 1] := by kernel_rfl
theorem sizeO22 : List.range opsO22.size = [0, 1] := by kernel_rfl

theorem lo0 (a : Act) (Af : Option Addr) (cf n : Nat) (kd : Int) (s q e : Int) (hS : Sl a 134 [(0, lk s q e), (1, .int .u8 kd), (2, .slice Af n cf)]) (w : World) : (rgO 0).wp Tryd.prog (nrm fun a' w' => ∃ g3, Sl a' 134 [(1, .int .u8 kd), (2, .slice Af n cf), (3, .pointer (some ⟨g3, 0, none⟩)), (6, .bool false)] ∧ LVar w' g3 s q e ∧ w.heap.size ≤ g3 ∧ Below w.heap.size w w') a w := by
  obtain ⟨j, rfl, hj⟩ := hS.lit134
  have h0 : j 0 = lk s q e := hj (0, _) (by simp)
  have h1 : j 1 = .int .u8 kd := hj (1, _) (by simp)
  have h2 : j 2 = .slice Af n cf := hj (2, _) (by simp)
  clear hj hS
  unfold rgO bodyO
  simp only [Tryd.f4, Option.getD_some, nthSeq, cfst, csnd, cyes, copsOf, lit134, List.cons_append, List.nil_append, h0, h1, h2]
  have b1 := below_new w (.cells #[.int .i64 s, .int .i64 q, .int .i64 e] 31)
  have V1 := LVar.new w s q e
  go_wp2
  exact ⟨_, ⟨rfl, rfl, by simp⟩, V1, Nat.le_refl _, b1⟩
theorem lo1 (a : Act) (Af : Option Addr) (cf n : Nat) (kd : Int) (g3 : Nat) (s q e : Int) (us : List Value) (xs : List (List (BitVec 8))) (hn : us.length = n) (hS : Sl a 134 [(1, .int .u8 kd), (2, .slice Af n cf), (3, .pointer (some ⟨g3, 0, none⟩)), (6, .bool false)]) (w : World) (hs : SliceAt w 1 (.slice Af n cf) n us) (hE : ElsW w us xs) (hL : LVar w g3 s q e) : rO1.wp Tryd.prog (nrm fun a' w' => ∃ t : Bool, Sl a' 134 [(1, .int .u8 kd), (2, .slice Af n cf), (3, .pointer (some ⟨g3, 0, none⟩)), (6, .bool false), (23, .bool t)] ∧ (t = false → n ≤ 60 ∧ (∀ y ∈ xs, y.length ≤ 200) ∧ rightL s q e = true) ∧ Below w.heap.size w w') a w := by
  obtain ⟨j, rfl, hj⟩ := hS.lit134
  have h1 : j 1 = .int .u8 kd := hj (1, _) (by simp)
  have h2 : j 2 = .slice Af n cf := hj (2, _) (by simp)
  have h3 : j 3 = .pointer (some ⟨g3, 0, none⟩) := hj (3, _) (by simp)
  have h6 : j 6 = .bool false := hj (6, _) (by simp)
  clear hj hS
  unfold rO1 rgO bodyO
  simp only [Tryd.f4, Option.getD_some, nthSeq, cfst, csnd, cyes, copsOf, lit134, List.cons_append, List.nil_append, h1, h2, h3, h6]
  have hxn : xs.length = n := by rw [← hE.len]; exact hn
  go_wp2_with fail
  refine (great_w (.slice Af n cf) us xs w (by rw [hn]; exact hs) hE).mono ?_
  rintro e' W ⟨⟨bg, rfl, hbg⟩, rfl⟩
  clear hs hE
  have HB := Lib.hid hbg
  have HXN := Lib.hid hxn
  clear hbg hxn hn
  cases bg with
  | true =>
    go_wp2
    exact ⟨true, ⟨rfl, rfl, by simp⟩, fun h => by (try cases h), Below.refl _ _⟩
  | false =>
    have x0 := hL.c0
    have x1 := hL.c1
    have x2 := hL.c2
    obtain ⟨r, hr⟩ : ∃ r, r = rightL s q e := ⟨_, rfl⟩
    have HR := Lib.hid hr
    clear hr
    go_wp2_with fail
    refine (r29Right_c s q e r HR.out w).mono ?_
    rintro e' W ⟨rfl, b⟩
    go_wp2
    refine ⟨!r, ⟨rfl, rfl, by simp⟩, fun h => ?_, b⟩
    have h1 := HB.out (by first | exact trivial | rfl)
    rw [HXN.out] at h1
    exact ⟨h1.1, h1.2, by rw [← HR.out]; simpa using h⟩
theorem lo3 (a : Act) (Af : Option Addr) (cf n : Nat) (kd : Int) (g3 : Nat) (hS : Sl a 134 [(1, .int .u8 kd), (2, .slice Af n cf), (3, .pointer (some ⟨g3, 0, none⟩)), (6, .bool false)]) (w : World) : rO3.wp Tryd.prog (nrm fun a' w' => Sl a' 134 [(1, .int .u8 kd), (2, .slice Af n cf), (3, .pointer (some ⟨g3, 0, none⟩)), (6, .bool false), (7, .int .i64 0)] ∧ w' = w) a w := by
  obtain ⟨j, rfl, hj⟩ := hS.lit134
  have h1 : j 1 = .int .u8 kd := hj (1, _) (by simp)
  have h2 : j 2 = .slice Af n cf := hj (2, _) (by simp)
  have h3 : j 3 = .pointer (some ⟨g3, 0, none⟩) := hj (3, _) (by simp)
  have h6 : j 6 = .bool false := hj (6, _) (by simp)
  clear hj hS
  unfold rO3 rgO bodyO
  simp only [Tryd.f4, Option.getD_some, nthSeq, cfst, csnd, cyes, copsOf, lit134, List.cons_append, List.nil_append, h1, h2, h3, h6]
  go_wp2
  exact ⟨⟨rfl, rfl, by simp⟩, rfl⟩
theorem lo4 (a : Act) (Af : Option Addr) (cf n : Nat) (kd : Int) (g3 : Nat) (i : Nat) (t : Bool) (ht : t = decide ((i : Int) < n)) (hS : Sl a 134 [(1, .int .u8 kd), (2, .slice Af n cf), (3, .pointer (some ⟨g3, 0, none⟩)), (6, .bool false), (7, .int .i64 (i : Nat))]) (w : World) : rO4.wp Tryd.prog (nrm fun a' w' => Sl a' 134 [(1, .int .u8 kd), (2, .slice Af n cf), (3, .pointer (some ⟨g3, 0, none⟩)), (6, .bool false), (7, .int .i64 (i : Nat)), (28, .bool t)] ∧ w' = w) a w := by
  obtain ⟨j, rfl, hj⟩ := hS.lit134
  have h1 : j 1 = .int .u8 kd := hj (1, _) (by simp)
  have h2 : j 2 = .slice Af n cf := hj (2, _) (by simp)
  have h3 : j 3 = .pointer (some ⟨g3, 0, none⟩) := hj (3, _) (by simp)
  have h6 : j 6 = .bool false := hj (6, _) (by simp)
  have h7 : j 7 = .int .i64 (i : Nat) := hj (7, _) (by simp)
  clear hj hS
  unfold rO4 loopO rgO bodyO
  simp only [Tryd.f4, Option.getD_some, nthSeq, cfst, csnd, cyes, copsOf, lit134, List.cons_append, List.nil_append, h1, h2, h3, h6, h7]
  subst ht
  go_wp2
  exact ⟨⟨rfl, rfl, by simp⟩, rfl⟩
theorem lo5 (a : Act) (Af : Option Addr) (cf n : Nat) (kd : Int) (g3 : Nat) (i : Nat) (hi : i < 100) (hS : Sl a 134 [(1, .int .u8 kd), (2, .slice Af n cf), (3, .pointer (some ⟨g3, 0, none⟩)), (6, .bool false), (7, .int .i64 (i : Nat))]) (w : World) : rO5.wp Tryd.prog (nrm fun a' w' => Sl a' 134 [(1, .int .u8 kd), (2, .slice Af n cf), (3, .pointer (some ⟨g3, 0, none⟩)), (6, .bool false), (7, .int .i64 ((i + 1) : Nat))] ∧ w' = w) a w := by
  obtain ⟨j, rfl, hj⟩ := hS.lit134
  have h1 : j 1 = .int .u8 kd := hj (1, _) (by simp)
  have h2 : j 2 = .slice Af n cf := hj (2, _) (by simp)
  have h3 : j 3 = .pointer (some ⟨g3, 0, none⟩) := hj (3, _) (by simp)
  have h6 : j 6 = .bool false := hj (6, _) (by simp)
  have h7 : j 7 = .int .i64 (i : Nat) := hj (7, _) (by simp)
  clear hj hS
  unfold rO5 loopO rgO bodyO
  simp only [Tryd.f4, Option.getD_some, nthSeq, cfst, csnd, cyes, copsOf, lit134, List.cons_append, List.nil_append, h1, h2, h3, h6, h7]
  go_wp2
  exact ⟨⟨rfl, rfl, by simp [IntWalk.i64_in _ (show -9223372036854775808 ≤ (i : Int) + 1 ∧ (i : Int) + 1 ≤ 9223372036854775807 by omega)]⟩, rfl⟩
set_option maxHeartbeats 8000000 in
theorem lo6 (a : Act) (bA oA cf n : Nat) (kd : Int) (g3 : Nat) (i : Nat) (s q e : Int) (er : Int) (s' q' e' : Int) (f : Frm) (y : List (BitVec 8)) (us : List Value) (Ay : Option Addr) (cy : Nat) (hr : (((s', q', e'), er, f) : Lst × Int × Frm) = hearV kd y (s, q, e)) (hin : i < n) (hu : us[i]? = some (.slice Ay y.length cy)) (hly : y.length ≤ 140737488355328) (hS : Sl a 134 [(1, .int .u8 kd), (2, .slice (some ⟨bA, oA, none⟩) n cf), (3, .pointer (some ⟨g3, 0, none⟩)), (6, .bool false), (7, .int .i64 (i : Nat))]) (w : World) (hT : Tops w) (L : LVar w g3 s q e) (CS : SliceAt w 1 (.slice (some ⟨bA, oA, none⟩) n cf) n us) (SY : SliceAt w 1 (.slice Ay y.length cy) y.length (u8s y)) : rO6.wp Tryd.prog (nrm fun a' w' => ∃ gc gd, Sl a' 134 [(1, .int .u8 kd), (2, .slice (some ⟨bA, oA, none⟩) n cf), (3, .pointer (some ⟨g3, 0, none⟩)), (6, .bool false), (7, .int .i64 (i : Nat)), (8, .pointer (some ⟨gc, 0, none⟩)), (9, .pointer (some ⟨gd, 0, none⟩)), (10, .int .i64 er)] ∧ LVar w' gc s' q' e' ∧ FV w' gd f ∧ w.heap.size ≤ gc ∧ w.heap.size ≤ gd ∧ Below w.heap.size w w') a w := by
  have HR := Lib.hid hr
  have LY0 := Lib.hid hly
  have i1 : (0 : Int) ≤ (i : Int) ∧ (i : Int) < (n : Int) := by omega
  have hL5 : ∀ g, w.heap.size ≤ g → g3 ≠ g := fun g hg => Nat.ne_of_lt (Nat.lt_of_lt_of_le (lt_of_at L.at_) hg)
  have hC5 : ∀ g, w.heap.size ≤ g → bA ≠ g := fun g hg => Nat.ne_of_lt (Nat.lt_of_lt_of_le (vblock_lt CS ⟨by omega, rfl⟩) hg)
  clear hr hly
  obtain ⟨j, rfl, hj⟩ := hS.lit134
  have h1 : j 1 = .int .u8 kd := hj (1, _) (by simp)
  have h2 : j 2 = .slice (some ⟨bA, oA, none⟩) n cf := hj (2, _) (by simp)
  have h3 : j 3 = .pointer (some ⟨g3, 0, none⟩) := hj (3, _) (by simp)
  have h6 : j 6 = .bool false := hj (6, _) (by simp)
  have h7 : j 7 = .int .i64 (i : Nat) := hj (7, _) (by simp)
  clear hj hS
  unfold rO6 cO loopO rgO bodyO
  simp only [Tryd.f4, Option.getD_some, nthSeq, cfst, csnd, cyes, copsOf, lit134, List.cons_append, List.nil_append, h1, h2, h3, h6, h7]
  refine wp_region_held_drew (S := (fun w' => LVar w' g3 s q e ∧ SliceAt w' 1 (.slice (some ⟨bA, oA, none⟩) n cf) n us)) (by kernel_rfl) ?_ (fun hHeld => ?_)
  · exact ⟨⟨L.at_⟩, CS⟩
  have Bb : Below w.heap.size w w.drew := (Below.refl _ w).drew
  clear hHeld
  have L0 := L.later Bb
  have C0 := CS.later Bb
  have hT0 := hT.below Bb
  replace SY := SY.later Bb
  clear L hT CS
  generalize w.drew = V at *
  have hHeld : LVar V g3 s q e ∧ SliceAt V 1 (.slice (some ⟨bA, oA, none⟩) n cf) n us := ⟨L0, C0⟩
  refine Node.tk 0 (lk s q e) rfl (fun _ hSw => run_ld hSw.1 rfl rfl) ?_
  simp only [zA, zS, zZ, Act.put, zP, zQ, zR]
  refine Node.tk 1 ?_ rfl ?_ ?_
  rotate_left
  · intro w hSw; (try dsimp only at hSw); go_simp; try with_reducible rfl
  simp only [zA, zS, zZ, Act.put, zP, zQ, zR]
  refine Node.tk 2 ?_ rfl ?_ ?_
  rotate_left
  · intro w hSw; (try dsimp only at hSw); go_simp; try with_reducible rfl
  simp only [zA, zS, zZ, Act.put, zP, zQ, zR]
  refine Node.tk 3 ?_ rfl ?_ ?_
  rotate_left
  · intro w hSw; (try dsimp only at hSw); go_simp; try with_reducible rfl
  simp only [zA, zS, zZ, Act.put, zP, zQ, zR]
  refine Node.tk 4 ?_ rfl ?_ ?_
  rotate_left
  · intro w hSw; (try dsimp only at hSw); go_simp; try with_reducible rfl
  simp only [zA, zS, zZ, Act.put, zP, zQ, zR]
  refine Node.tk 5 (.slice Ay y.length cy) rfl (fun _ hSw => run_el (slice_cell hSw.2 hu) rfl rfl) ?_
  simp only [zA, zS, zZ, Act.put, zP, zQ, zR]
  clear hHeld
  refine wpAnyH_ready (rs := [6, 11, 12]) (by kernel_rfl) (by simp) ?_
  refine AllReadyH.cons rfl (fun K hK => ?_) (AllReadyH.cons rfl (fun K hK => ?_) (AllReadyH.cons rfl (fun K hK => ?_) AllReadyH.nil))
  · skip
    refine Node.wp_fn 11 [.tmp 32, .tmp 33, .tmp 37] _ [lkv (s, q, e), .int .u8 kd, .slice Ay y.length cy] (by rfl) (by rfl) (enters Tryd.func11 (by kernel_rfl) rfl) (Hear_v (s, q, e) kd (.slice Ay y.length cy) y V _ HR.out hT0 SY LY0.out) ?_
    rintro e' V' ⟨A3, c3, rfl, b, hp, hq⟩
    refine ⟨_, rfl, ?_⟩
    try replace n6q := fun q hb => Ne.symm (Nat.ne_of_lt (Nat.lt_of_lt_of_le (lt_of_at N6) (hq q hb)))
    replace Bb := below_step Bb b
    replace L0 := L0.later b
    replace C0 := C0.later b
    replace hT0 := hT0.below b
    try replace N5 := N5.later b
    try replace N6 := below_at b N6 (lt_of_at N6)
    clear b hq SY
    generalize V' = V at *
    refine hK.out _ _ ⟨L0, C0⟩ (fun _ => ?_)
    clear hK K
    try simp only [zA, zS, zZ, Act.put, zP, zQ, zR]
    refine Node.tk 7 ?_ rfl ?_ ?_
    rotate_left
    · intro w hSw; (try dsimp only at hSw); go_simp; try with_reducible rfl
    simp only [zA, zS, zZ, Act.put, zP, zQ, zR]
    refine Node.tk 8 ?_ rfl ?_ ?_
    rotate_left
    · intro w hSw; (try dsimp only at hSw); go_simp; try with_reducible rfl
    simp only [zA, zS, zZ, Act.put, zP, zQ, zR]
    refine Node.tk 9 ?_ rfl ?_ ?_
    rotate_left
    · intro w hSw; (try dsimp only at hSw); go_simp; try with_reducible rfl
    simp only [zA, zS, zZ, Act.put, zP, zQ, zR]
    refine Node.tk 10 ?_ rfl ?_ ?_
    rotate_left
    · intro w hSw; (try dsimp only at hSw); go_simp; try with_reducible rfl
    simp only [zA, zS, zZ, Act.put, zP, zQ, zR]
    refine wpAnyH_ready (rs := [11, 12]) (by kernel_rfl) (by simp) ?_
    refine AllReadyH.cons rfl (fun K hK => ?_) (AllReadyH.cons rfl (fun K hK => ?_) AllReadyH.nil)
    · skip
      have N5 := LVar.new V 0 0 0
      have b := below_new V (.cells #[.int .i64 0, .int .i64 0, .int .i64 0] 31)
      refine Node.wp_new 31 (.agg #[.int .i64 0, .int .i64 0, .int .i64 0]) #[.int .i64 0, .int .i64 0, .int .i64 0] (by kernel_rfl) rfl (by rfl) ?_
      have n5 := Bb.size
      replace Bb := below_step Bb b
      replace L0 := L0.later b
      replace C0 := C0.later b
      replace hT0 := hT0.below b
      try replace SY := SY.later b
      try replace hp := hp.later b
      try (have n56 := lt_of_at N6; replace N6 := below_at b N6 n56)
      clear b
      generalize V.heap.size = g5 at *
      generalize V.alloc (.cells #[.int .i64 0, .int .i64 0, .int .i64 0] 31) = V at *
      try replace n56 := Nat.ne_of_lt n56
      refine hK.out _ _ ⟨L0, C0⟩ (fun _ => ?_)
      clear hK K
      try simp only [zA, zS, zZ, Act.put, zP, zQ, zR]
      refine Node.on 12 rfl (fun K hK => ?_)
      have N6 := new_at (w := V) rfl (.cells #[.int .u8 0, .int .u8 0, .slice none 0 0] 41)
      have b := below_new V (.cells #[.int .u8 0, .int .u8 0, .slice none 0 0] 41)
      refine Node.wp_new 41 (.agg #[.int .u8 0, .int .u8 0, .slice none 0 0]) #[.int .u8 0, .int .u8 0, .slice none 0 0] (by kernel_rfl) rfl (by rfl) ?_
      have n6 := Bb.size
      replace Bb := below_step Bb b
      replace L0 := L0.later b
      replace C0 := C0.later b
      replace hT0 := hT0.below b
      try replace SY := SY.later b
      have n6q : True := trivial
      try (replace n6q := fun q hb => Nat.ne_of_lt (vblock_lt hp (q := q) hb); replace hp := hp.later b)
      try (have n56 := lt_of_at N5.at_; replace N5 := N5.later b)
      clear b
      generalize V.heap.size = g6 at *
      generalize V.alloc (.cells #[.int .u8 0, .int .u8 0, .slice none 0 0] 41) = V at *
      try replace n56 := Ne.symm (Nat.ne_of_lt n56)
      refine hK.out _ _ ⟨L0, C0⟩ (fun _ => ?_)
      clear hK K
      try simp only [zA, zS, zZ, Act.put, zP, zQ, zR]
      refine Node.on 13 rfl (fun K hK => ?_)
      refine wp_st_lk N5 rfl rfl rfl rfl ?_
      have hn5 := lt_of_at N5.at_
      have k5 := hL5 g5 n5
      replace L0 := L0.far3 (g' := g5) k5 s' q' e'
      replace N6 := frame_far3 N6 (g' := g5) n56 s' q' e'
      replace C0 := slice_far C0 (hC5 g5 n5) (.int .i64 s') (.int .i64 q') (.int .i64 e')
      have N5' := N5.set3 s' q' e'
      replace Bb := ((Bb.setCell (p := ⟨g5, 0, none⟩) n5 (.int .i64 s')).setCell (p := ⟨g5, 1, none⟩) n5 (.int .i64 q')).setCell (p := ⟨g5, 2, none⟩) n5 (.int .i64 e')
      replace hp := bytes_far hp N5 (.int .i64 s') (.int .i64 q') (.int .i64 e')
      clear N5 hT0 hn5 k5
      generalize ((V.setCell ⟨g5, 0, none⟩ (.int .i64 s')).setCell ⟨g5, 1, none⟩ (.int .i64 q')).setCell ⟨g5, 2, none⟩ (.int .i64 e') = V at *
      refine hK.out _ _ ⟨L0, C0⟩ (fun _ => ?_)
      clear hK K
      try simp only [zA, zS, zZ, Act.put, zP, zQ, zR]
      refine Node.on 14 rfl (fun K hK => ?_)
      refine wp_st_fr N6 rfl rfl rfl rfl ?_
      have F := FV.put3 (f := f) N6 hp n6q
      have k6 := hL5 g6 n6
      replace L0 := L0.at_
      replace L0 : LVar (((V.setCell ⟨g6, 0, none⟩ (.int .u8 (f.1.toNat : Int))).setCell ⟨g6, 1, none⟩ (.int .u8 (f.2.1.toNat : Int))).setCell ⟨g6, 2, none⟩ (.slice A3 f.2.2.length c3)) g3 s q e := ⟨frame_far3' L0 k6 _ _ _⟩
      replace C0 := slice_far C0 (hC5 g6 n6) (.int .u8 (f.1.toNat : Int)) (.int .u8 (f.2.1.toNat : Int)) (.slice A3 f.2.2.length c3)
      replace N5' : LVar (((V.setCell ⟨g6, 0, none⟩ (.int .u8 (f.1.toNat : Int))).setCell ⟨g6, 1, none⟩ (.int .u8 (f.2.1.toNat : Int))).setCell ⟨g6, 2, none⟩ (.slice A3 f.2.2.length c3)) g5 s' q' e' := ⟨frame_far3' N5'.at_ (Ne.symm n56) _ _ _⟩
      replace Bb := ((Bb.setCell (p := ⟨g6, 0, none⟩) n6 (.int .u8 (f.1.toNat : Int))).setCell (p := ⟨g6, 1, none⟩) n6 (.int .u8 (f.2.1.toNat : Int))).setCell (p := ⟨g6, 2, none⟩) n6 (.slice A3 f.2.2.length c3)
      clear N6 hp n6q k6
      generalize ((V.setCell ⟨g6, 0, none⟩ (.int .u8 (f.1.toNat : Int))).setCell ⟨g6, 1, none⟩ (.int .u8 (f.2.1.toNat : Int))).setCell ⟨g6, 2, none⟩ (.slice A3 f.2.2.length c3) = V at *
      refine hK.out _ _ ⟨L0, C0⟩ (fun _ => ?_)
      clear hK K
      try simp only [zA, zS, zZ, Act.put, zP, zQ, zR]
      refine Node.tk 15 ?_ rfl ?_ ?_
      rotate_left
      · intro w hSw; (try dsimp only at hSw); go_simp; try with_reducible rfl
      simp only [zA, zS, zZ, Act.put, zP, zQ, zR]
      refine wpAnyH_done (by kernel_rfl) ?_ _
      exact ⟨g5, g6, ⟨rfl, rfl, by simp⟩, N5', F, n5, n6, Bb⟩
    · skip
      have N6 := new_at (w := V) rfl (.cells #[.int .u8 0, .int .u8 0, .slice none 0 0] 41)
      have b := below_new V (.cells #[.int .u8 0, .int .u8 0, .slice none 0 0] 41)
      refine Node.wp_new 41 (.agg #[.int .u8 0, .int .u8 0, .slice none 0 0]) #[.int .u8 0, .int .u8 0, .slice none 0 0] (by kernel_rfl) rfl (by rfl) ?_
      have n6 := Bb.size
      replace Bb := below_step Bb b
      replace L0 := L0.later b
      replace C0 := C0.later b
      replace hT0 := hT0.below b
      try replace SY := SY.later b
      have n6q : True := trivial
      try (replace n6q := fun q hb => Nat.ne_of_lt (vblock_lt hp (q := q) hb); replace hp := hp.later b)
      try (have n56 := lt_of_at N5.at_; replace N5 := N5.later b)
      clear b
      generalize V.heap.size = g6 at *
      generalize V.alloc (.cells #[.int .u8 0, .int .u8 0, .slice none 0 0] 41) = V at *
      try replace n56 := Ne.symm (Nat.ne_of_lt n56)
      refine hK.out _ _ ⟨L0, C0⟩ (fun _ => ?_)
      clear hK K
      try simp only [zA, zS, zZ, Act.put, zP, zQ, zR]
      refine Node.on 11 rfl (fun K hK => ?_)
      have N5 := LVar.new V 0 0 0
      have b := below_new V (.cells #[.int .i64 0, .int .i64 0, .int .i64 0] 31)
      refine Node.wp_new 31 (.agg #[.int .i64 0, .int .i64 0, .int .i64 0]) #[.int .i64 0, .int .i64 0, .int .i64 0] (by kernel_rfl) rfl (by rfl) ?_
      have n5 := Bb.size
      replace Bb := below_step Bb b
      replace L0 := L0.later b
      replace C0 := C0.later b
      replace hT0 := hT0.below b
      try replace SY := SY.later b
      try replace hp := hp.later b
      try (have n56 := lt_of_at N6; replace N6 := below_at b N6 n56)
      clear b
      generalize V.heap.size = g5 at *
      generalize V.alloc (.cells #[.int .i64 0, .int .i64 0, .int .i64 0] 31) = V at *
      try replace n56 := Nat.ne_of_lt n56
      refine hK.out _ _ ⟨L0, C0⟩ (fun _ => ?_)
      clear hK K
      try simp only [zA, zS, zZ, Act.put, zP, zQ, zR]
      refine Node.on 13 rfl (fun K hK => ?_)
      refine wp_st_lk N5 rfl rfl rfl rfl ?_
      have hn5 := lt_of_at N5.at_
      have k5 := hL5 g5 n5
      replace L0 := L0.far3 (g' := g5) k5 s' q' e'
      replace N6 := frame_far3 N6 (g' := g5) n56 s' q' e'
      replace C0 := slice_far C0 (hC5 g5 n5) (.int .i64 s') (.int .i64 q') (.int .i64 e')
      have N5' := N5.set3 s' q' e'
      replace Bb := ((Bb.setCell (p := ⟨g5, 0, none⟩) n5 (.int .i64 s')).setCell (p := ⟨g5, 1, none⟩) n5 (.int .i64 q')).setCell (p := ⟨g5, 2, none⟩) n5 (.int .i64 e')
      replace hp := bytes_far hp N5 (.int .i64 s') (.int .i64 q') (.int .i64 e')
      clear N5 hT0 hn5 k5
      generalize ((V.setCell ⟨g5, 0, none⟩ (.int .i64 s')).setCell ⟨g5, 1, none⟩ (.int .i64 q')).setCell ⟨g5, 2, none⟩ (.int .i64 e') = V at *
      refine hK.out _ _ ⟨L0, C0⟩ (fun _ => ?_)
      clear hK K
      try simp only [zA, zS, zZ, Act.put, zP, zQ, zR]
      refine Node.on 14 rfl (fun K hK => ?_)
      refine wp_st_fr N6 rfl rfl rfl rfl ?_
      have F := FV.put3 (f := f) N6 hp n6q
      have k6 := hL5 g6 n6
      replace L0 := L0.at_
      replace L0 : LVar (((V.setCell ⟨g6, 0, none⟩ (.int .u8 (f.1.toNat : Int))).setCell ⟨g6, 1, none⟩ (.int .u8 (f.2.1.toNat : Int))).setCell ⟨g6, 2, none⟩ (.slice A3 f.2.2.length c3)) g3 s q e := ⟨frame_far3' L0 k6 _ _ _⟩
      replace C0 := slice_far C0 (hC5 g6 n6) (.int .u8 (f.1.toNat : Int)) (.int .u8 (f.2.1.toNat : Int)) (.slice A3 f.2.2.length c3)
      replace N5' : LVar (((V.setCell ⟨g6, 0, none⟩ (.int .u8 (f.1.toNat : Int))).setCell ⟨g6, 1, none⟩ (.int .u8 (f.2.1.toNat : Int))).setCell ⟨g6, 2, none⟩ (.slice A3 f.2.2.length c3)) g5 s' q' e' := ⟨frame_far3' N5'.at_ (Ne.symm n56) _ _ _⟩
      replace Bb := ((Bb.setCell (p := ⟨g6, 0, none⟩) n6 (.int .u8 (f.1.toNat : Int))).setCell (p := ⟨g6, 1, none⟩) n6 (.int .u8 (f.2.1.toNat : Int))).setCell (p := ⟨g6, 2, none⟩) n6 (.slice A3 f.2.2.length c3)
      clear N6 hp n6q k6
      generalize ((V.setCell ⟨g6, 0, none⟩ (.int .u8 (f.1.toNat : Int))).setCell ⟨g6, 1, none⟩ (.int .u8 (f.2.1.toNat : Int))).setCell ⟨g6, 2, none⟩ (.slice A3 f.2.2.length c3) = V at *
      refine hK.out _ _ ⟨L0, C0⟩ (fun _ => ?_)
      clear hK K
      try simp only [zA, zS, zZ, Act.put, zP, zQ, zR]
      refine Node.tk 15 ?_ rfl ?_ ?_
      rotate_left
      · intro w hSw; (try dsimp only at hSw); go_simp; try with_reducible rfl
      simp only [zA, zS, zZ, Act.put, zP, zQ, zR]
      refine wpAnyH_done (by kernel_rfl) ?_ _
      exact ⟨g5, g6, ⟨rfl, rfl, by simp⟩, N5', F, n5, n6, Bb⟩
  · skip
    have N5 := LVar.new V 0 0 0
    have b := below_new V (.cells #[.int .i64 0, .int .i64 0, .int .i64 0] 31)
    refine Node.wp_new 31 (.agg #[.int .i64 0, .int .i64 0, .int .i64 0]) #[.int .i64 0, .int .i64 0, .int .i64 0] (by kernel_rfl) rfl (by rfl) ?_
    have n5 := Bb.size
    replace Bb := below_step Bb b
    replace L0 := L0.later b
    replace C0 := C0.later b
    replace hT0 := hT0.below b
    try replace SY := SY.later b
    try replace hp := hp.later b
    try (have n56 := lt_of_at N6; replace N6 := below_at b N6 n56)
    clear b
    generalize V.heap.size = g5 at *
    generalize V.alloc (.cells #[.int .i64 0, .int .i64 0, .int .i64 0] 31) = V at *
    try replace n56 := Nat.ne_of_lt n56
    refine hK.out _ _ ⟨L0, C0⟩ (fun _ => ?_)
    clear hK K
    try simp only [zA, zS, zZ, Act.put, zP, zQ, zR]
    refine wpAnyH_ready (rs := [6, 12]) (by kernel_rfl) (by simp) ?_
    refine AllReadyH.cons rfl (fun K hK => ?_) (AllReadyH.cons rfl (fun K hK => ?_) AllReadyH.nil)
    · skip
      refine Node.wp_fn 11 [.tmp 32, .tmp 33, .tmp 37] _ [lkv (s, q, e), .int .u8 kd, .slice Ay y.length cy] (by rfl) (by rfl) (enters Tryd.func11 (by kernel_rfl) rfl) (Hear_v (s, q, e) kd (.slice Ay y.length cy) y V _ HR.out hT0 SY LY0.out) ?_
      rintro e' V' ⟨A3, c3, rfl, b, hp, hq⟩
      refine ⟨_, rfl, ?_⟩
      try replace n6q := fun q hb => Ne.symm (Nat.ne_of_lt (Nat.lt_of_lt_of_le (lt_of_at N6) (hq q hb)))
      replace Bb := below_step Bb b
      replace L0 := L0.later b
      replace C0 := C0.later b
      replace hT0 := hT0.below b
      try replace N5 := N5.later b
      try replace N6 := below_at b N6 (lt_of_at N6)
      clear b hq SY
      generalize V' = V at *
      refine hK.out _ _ ⟨L0, C0⟩ (fun _ => ?_)
      clear hK K
      try simp only [zA, zS, zZ, Act.put, zP, zQ, zR]
      refine Node.tk 7 ?_ rfl ?_ ?_
      rotate_left
      · intro w hSw; (try dsimp only at hSw); go_simp; try with_reducible rfl
      simp only [zA, zS, zZ, Act.put, zP, zQ, zR]
      refine Node.tk 8 ?_ rfl ?_ ?_
      rotate_left
      · intro w hSw; (try dsimp only at hSw); go_simp; try with_reducible rfl
      simp only [zA, zS, zZ, Act.put, zP, zQ, zR]
      refine Node.tk 9 ?_ rfl ?_ ?_
      rotate_left
      · intro w hSw; (try dsimp only at hSw); go_simp; try with_reducible rfl
      simp only [zA, zS, zZ, Act.put, zP, zQ, zR]
      refine Node.tk 10 ?_ rfl ?_ ?_
      rotate_left
      · intro w hSw; (try dsimp only at hSw); go_simp; try with_reducible rfl
      simp only [zA, zS, zZ, Act.put, zP, zQ, zR]
      refine Node.on 12 rfl (fun K hK => ?_)
      have N6 := new_at (w := V) rfl (.cells #[.int .u8 0, .int .u8 0, .slice none 0 0] 41)
      have b := below_new V (.cells #[.int .u8 0, .int .u8 0, .slice none 0 0] 41)
      refine Node.wp_new 41 (.agg #[.int .u8 0, .int .u8 0, .slice none 0 0]) #[.int .u8 0, .int .u8 0, .slice none 0 0] (by kernel_rfl) rfl (by rfl) ?_
      have n6 := Bb.size
      replace Bb := below_step Bb b
      replace L0 := L0.later b
      replace C0 := C0.later b
      replace hT0 := hT0.below b
      try replace SY := SY.later b
      have n6q : True := trivial
      try (replace n6q := fun q hb => Nat.ne_of_lt (vblock_lt hp (q := q) hb); replace hp := hp.later b)
      try (have n56 := lt_of_at N5.at_; replace N5 := N5.later b)
      clear b
      generalize V.heap.size = g6 at *
      generalize V.alloc (.cells #[.int .u8 0, .int .u8 0, .slice none 0 0] 41) = V at *
      try replace n56 := Ne.symm (Nat.ne_of_lt n56)
      refine hK.out _ _ ⟨L0, C0⟩ (fun _ => ?_)
      clear hK K
      try simp only [zA, zS, zZ, Act.put, zP, zQ, zR]
      refine Node.on 13 rfl (fun K hK => ?_)
      refine wp_st_lk N5 rfl rfl rfl rfl ?_
      have hn5 := lt_of_at N5.at_
      have k5 := hL5 g5 n5
      replace L0 := L0.far3 (g' := g5) k5 s' q' e'
      replace N6 := frame_far3 N6 (g' := g5) n56 s' q' e'
      replace C0 := slice_far C0 (hC5 g5 n5) (.int .i64 s') (.int .i64 q') (.int .i64 e')
      have N5' := N5.set3 s' q' e'
      replace Bb := ((Bb.setCell (p := ⟨g5, 0, none⟩) n5 (.int .i64 s')).setCell (p := ⟨g5, 1, none⟩) n5 (.int .i64 q')).setCell (p := ⟨g5, 2, none⟩) n5 (.int .i64 e')
      replace hp := bytes_far hp N5 (.int .i64 s') (.int .i64 q') (.int .i64 e')
      clear N5 hT0 hn5 k5
      generalize ((V.setCell ⟨g5, 0, none⟩ (.int .i64 s')).setCell ⟨g5, 1, none⟩ (.int .i64 q')).setCell ⟨g5, 2, none⟩ (.int .i64 e') = V at *
      refine hK.out _ _ ⟨L0, C0⟩ (fun _ => ?_)
      clear hK K
      try simp only [zA, zS, zZ, Act.put, zP, zQ, zR]
      refine Node.on 14 rfl (fun K hK => ?_)
      refine wp_st_fr N6 rfl rfl rfl rfl ?_
      have F := FV.put3 (f := f) N6 hp n6q
      have k6 := hL5 g6 n6
      replace L0 := L0.at_
      replace L0 : LVar (((V.setCell ⟨g6, 0, none⟩ (.int .u8 (f.1.toNat : Int))).setCell ⟨g6, 1, none⟩ (.int .u8 (f.2.1.toNat : Int))).setCell ⟨g6, 2, none⟩ (.slice A3 f.2.2.length c3)) g3 s q e := ⟨frame_far3' L0 k6 _ _ _⟩
      replace C0 := slice_far C0 (hC5 g6 n6) (.int .u8 (f.1.toNat : Int)) (.int .u8 (f.2.1.toNat : Int)) (.slice A3 f.2.2.length c3)
      replace N5' : LVar (((V.setCell ⟨g6, 0, none⟩ (.int .u8 (f.1.toNat : Int))).setCell ⟨g6, 1, none⟩ (.int .u8 (f.2.1.toNat : Int))).setCell ⟨g6, 2, none⟩ (.slice A3 f.2.2.length c3)) g5 s' q' e' := ⟨frame_far3' N5'.at_ (Ne.symm n56) _ _ _⟩
      replace Bb := ((Bb.setCell (p := ⟨g6, 0, none⟩) n6 (.int .u8 (f.1.toNat : Int))).setCell (p := ⟨g6, 1, none⟩) n6 (.int .u8 (f.2.1.toNat : Int))).setCell (p := ⟨g6, 2, none⟩) n6 (.slice A3 f.2.2.length c3)
      clear N6 hp n6q k6
      generalize ((V.setCell ⟨g6, 0, none⟩ (.int .u8 (f.1.toNat : Int))).setCell ⟨g6, 1, none⟩ (.int .u8 (f.2.1.toNat : Int))).setCell ⟨g6, 2, none⟩ (.slice A3 f.2.2.length c3) = V at *
      refine hK.out _ _ ⟨L0, C0⟩ (fun _ => ?_)
      clear hK K
      try simp only [zA, zS, zZ, Act.put, zP, zQ, zR]
      refine Node.tk 15 ?_ rfl ?_ ?_
      rotate_left
      · intro w hSw; (try dsimp only at hSw); go_simp; try with_reducible rfl
      simp only [zA, zS, zZ, Act.put, zP, zQ, zR]
      refine wpAnyH_done (by kernel_rfl) ?_ _
      exact ⟨g5, g6, ⟨rfl, rfl, by simp⟩, N5', F, n5, n6, Bb⟩
    · skip
      have N6 := new_at (w := V) rfl (.cells #[.int .u8 0, .int .u8 0, .slice none 0 0] 41)
      have b := below_new V (.cells #[.int .u8 0, .int .u8 0, .slice none 0 0] 41)
      refine Node.wp_new 41 (.agg #[.int .u8 0, .int .u8 0, .slice none 0 0]) #[.int .u8 0, .int .u8 0, .slice none 0 0] (by kernel_rfl) rfl (by rfl) ?_
      have n6 := Bb.size
      replace Bb := below_step Bb b
      replace L0 := L0.later b
      replace C0 := C0.later b
      replace hT0 := hT0.below b
      try replace SY := SY.later b
      have n6q : True := trivial
      try (replace n6q := fun q hb => Nat.ne_of_lt (vblock_lt hp (q := q) hb); replace hp := hp.later b)
      try (have n56 := lt_of_at N5.at_; replace N5 := N5.later b)
      clear b
      generalize V.heap.size = g6 at *
      generalize V.alloc (.cells #[.int .u8 0, .int .u8 0, .slice none 0 0] 41) = V at *
      try replace n56 := Ne.symm (Nat.ne_of_lt n56)
      refine hK.out _ _ ⟨L0, C0⟩ (fun _ => ?_)
      clear hK K
      try simp only [zA, zS, zZ, Act.put, zP, zQ, zR]
      refine Node.on 6 rfl (fun K hK => ?_)
      refine Node.wp_fn 11 [.tmp 32, .tmp 33, .tmp 37] _ [lkv (s, q, e), .int .u8 kd, .slice Ay y.length cy] (by rfl) (by rfl) (enters Tryd.func11 (by kernel_rfl) rfl) (Hear_v (s, q, e) kd (.slice Ay y.length cy) y V _ HR.out hT0 SY LY0.out) ?_
      rintro e' V' ⟨A3, c3, rfl, b, hp, hq⟩
      refine ⟨_, rfl, ?_⟩
      try replace n6q := fun q hb => Ne.symm (Nat.ne_of_lt (Nat.lt_of_lt_of_le (lt_of_at N6) (hq q hb)))
      replace Bb := below_step Bb b
      replace L0 := L0.later b
      replace C0 := C0.later b
      replace hT0 := hT0.below b
      try replace N5 := N5.later b
      try replace N6 := below_at b N6 (lt_of_at N6)
      clear b hq SY
      generalize V' = V at *
      refine hK.out _ _ ⟨L0, C0⟩ (fun _ => ?_)
      clear hK K
      try simp only [zA, zS, zZ, Act.put, zP, zQ, zR]
      refine Node.tk 7 ?_ rfl ?_ ?_
      rotate_left
      · intro w hSw; (try dsimp only at hSw); go_simp; try with_reducible rfl
      simp only [zA, zS, zZ, Act.put, zP, zQ, zR]
      refine Node.tk 8 ?_ rfl ?_ ?_
      rotate_left
      · intro w hSw; (try dsimp only at hSw); go_simp; try with_reducible rfl
      simp only [zA, zS, zZ, Act.put, zP, zQ, zR]
      refine Node.tk 9 ?_ rfl ?_ ?_
      rotate_left
      · intro w hSw; (try dsimp only at hSw); go_simp; try with_reducible rfl
      simp only [zA, zS, zZ, Act.put, zP, zQ, zR]
      refine Node.tk 10 ?_ rfl ?_ ?_
      rotate_left
      · intro w hSw; (try dsimp only at hSw); go_simp; try with_reducible rfl
      simp only [zA, zS, zZ, Act.put, zP, zQ, zR]
      refine Node.on 13 rfl (fun K hK => ?_)
      refine wp_st_lk N5 rfl rfl rfl rfl ?_
      have hn5 := lt_of_at N5.at_
      have k5 := hL5 g5 n5
      replace L0 := L0.far3 (g' := g5) k5 s' q' e'
      replace N6 := frame_far3 N6 (g' := g5) n56 s' q' e'
      replace C0 := slice_far C0 (hC5 g5 n5) (.int .i64 s') (.int .i64 q') (.int .i64 e')
      have N5' := N5.set3 s' q' e'
      replace Bb := ((Bb.setCell (p := ⟨g5, 0, none⟩) n5 (.int .i64 s')).setCell (p := ⟨g5, 1, none⟩) n5 (.int .i64 q')).setCell (p := ⟨g5, 2, none⟩) n5 (.int .i64 e')
      replace hp := bytes_far hp N5 (.int .i64 s') (.int .i64 q') (.int .i64 e')
      clear N5 hT0 hn5 k5
      generalize ((V.setCell ⟨g5, 0, none⟩ (.int .i64 s')).setCell ⟨g5, 1, none⟩ (.int .i64 q')).setCell ⟨g5, 2, none⟩ (.int .i64 e') = V at *
      refine hK.out _ _ ⟨L0, C0⟩ (fun _ => ?_)
      clear hK K
      try simp only [zA, zS, zZ, Act.put, zP, zQ, zR]
      refine Node.on 14 rfl (fun K hK => ?_)
      refine wp_st_fr N6 rfl rfl rfl rfl ?_
      have F := FV.put3 (f := f) N6 hp n6q
      have k6 := hL5 g6 n6
      replace L0 := L0.at_
      replace L0 : LVar (((V.setCell ⟨g6, 0, none⟩ (.int .u8 (f.1.toNat : Int))).setCell ⟨g6, 1, none⟩ (.int .u8 (f.2.1.toNat : Int))).setCell ⟨g6, 2, none⟩ (.slice A3 f.2.2.length c3)) g3 s q e := ⟨frame_far3' L0 k6 _ _ _⟩
      replace C0 := slice_far C0 (hC5 g6 n6) (.int .u8 (f.1.toNat : Int)) (.int .u8 (f.2.1.toNat : Int)) (.slice A3 f.2.2.length c3)
      replace N5' : LVar (((V.setCell ⟨g6, 0, none⟩ (.int .u8 (f.1.toNat : Int))).setCell ⟨g6, 1, none⟩ (.int .u8 (f.2.1.toNat : Int))).setCell ⟨g6, 2, none⟩ (.slice A3 f.2.2.length c3)) g5 s' q' e' := ⟨frame_far3' N5'.at_ (Ne.symm n56) _ _ _⟩
      replace Bb := ((Bb.setCell (p := ⟨g6, 0, none⟩) n6 (.int .u8 (f.1.toNat : Int))).setCell (p := ⟨g6, 1, none⟩) n6 (.int .u8 (f.2.1.toNat : Int))).setCell (p := ⟨g6, 2, none⟩) n6 (.slice A3 f.2.2.length c3)
      clear N6 hp n6q k6
      generalize ((V.setCell ⟨g6, 0, none⟩ (.int .u8 (f.1.toNat : Int))).setCell ⟨g6, 1, none⟩ (.int .u8 (f.2.1.toNat : Int))).setCell ⟨g6, 2, none⟩ (.slice A3 f.2.2.length c3) = V at *
      refine hK.out _ _ ⟨L0, C0⟩ (fun _ => ?_)
      clear hK K
      try simp only [zA, zS, zZ, Act.put, zP, zQ, zR]
      refine Node.tk 15 ?_ rfl ?_ ?_
      rotate_left
      · intro w hSw; (try dsimp only at hSw); go_simp; try with_reducible rfl
      simp only [zA, zS, zZ, Act.put, zP, zQ, zR]
      refine wpAnyH_done (by kernel_rfl) ?_ _
      exact ⟨g5, g6, ⟨rfl, rfl, by simp⟩, N5', F, n5, n6, Bb⟩
  · skip
    have N6 := new_at (w := V) rfl (.cells #[.int .u8 0, .int .u8 0, .slice none 0 0] 41)
    have b := below_new V (.cells #[.int .u8 0, .int .u8 0, .slice none 0 0] 41)
    refine Node.wp_new 41 (.agg #[.int .u8 0, .int .u8 0, .slice none 0 0]) #[.int .u8 0, .int .u8 0, .slice none 0 0] (by kernel_rfl) rfl (by rfl) ?_
    have n6 := Bb.size
    replace Bb := below_step Bb b
    replace L0 := L0.later b
    replace C0 := C0.later b
    replace hT0 := hT0.below b
    try replace SY := SY.later b
    have n6q : True := trivial
    try (replace n6q := fun q hb => Nat.ne_of_lt (vblock_lt hp (q := q) hb); replace hp := hp.later b)
    try (have n56 := lt_of_at N5.at_; replace N5 := N5.later b)
    clear b
    generalize V.heap.size = g6 at *
    generalize V.alloc (.cells #[.int .u8 0, .int .u8 0, .slice none 0 0] 41) = V at *
    try replace n56 := Ne.symm (Nat.ne_of_lt n56)
    refine hK.out _ _ ⟨L0, C0⟩ (fun _ => ?_)
    clear hK K
    try simp only [zA, zS, zZ, Act.put, zP, zQ, zR]
    refine wpAnyH_ready (rs := [6, 11]) (by kernel_rfl) (by simp) ?_
    refine AllReadyH.cons rfl (fun K hK => ?_) (AllReadyH.cons rfl (fun K hK => ?_) AllReadyH.nil)
    · skip
      refine Node.wp_fn 11 [.tmp 32, .tmp 33, .tmp 37] _ [lkv (s, q, e), .int .u8 kd, .slice Ay y.length cy] (by rfl) (by rfl) (enters Tryd.func11 (by kernel_rfl) rfl) (Hear_v (s, q, e) kd (.slice Ay y.length cy) y V _ HR.out hT0 SY LY0.out) ?_
      rintro e' V' ⟨A3, c3, rfl, b, hp, hq⟩
      refine ⟨_, rfl, ?_⟩
      try replace n6q := fun q hb => Ne.symm (Nat.ne_of_lt (Nat.lt_of_lt_of_le (lt_of_at N6) (hq q hb)))
      replace Bb := below_step Bb b
      replace L0 := L0.later b
      replace C0 := C0.later b
      replace hT0 := hT0.below b
      try replace N5 := N5.later b
      try replace N6 := below_at b N6 (lt_of_at N6)
      clear b hq SY
      generalize V' = V at *
      refine hK.out _ _ ⟨L0, C0⟩ (fun _ => ?_)
      clear hK K
      try simp only [zA, zS, zZ, Act.put, zP, zQ, zR]
      refine Node.tk 7 ?_ rfl ?_ ?_
      rotate_left
      · intro w hSw; (try dsimp only at hSw); go_simp; try with_reducible rfl
      simp only [zA, zS, zZ, Act.put, zP, zQ, zR]
      refine Node.tk 8 ?_ rfl ?_ ?_
      rotate_left
      · intro w hSw; (try dsimp only at hSw); go_simp; try with_reducible rfl
      simp only [zA, zS, zZ, Act.put, zP, zQ, zR]
      refine Node.tk 9 ?_ rfl ?_ ?_
      rotate_left
      · intro w hSw; (try dsimp only at hSw); go_simp; try with_reducible rfl
      simp only [zA, zS, zZ, Act.put, zP, zQ, zR]
      refine Node.tk 10 ?_ rfl ?_ ?_
      rotate_left
      · intro w hSw; (try dsimp only at hSw); go_simp; try with_reducible rfl
      simp only [zA, zS, zZ, Act.put, zP, zQ, zR]
      refine Node.on 11 rfl (fun K hK => ?_)
      have N5 := LVar.new V 0 0 0
      have b := below_new V (.cells #[.int .i64 0, .int .i64 0, .int .i64 0] 31)
      refine Node.wp_new 31 (.agg #[.int .i64 0, .int .i64 0, .int .i64 0]) #[.int .i64 0, .int .i64 0, .int .i64 0] (by kernel_rfl) rfl (by rfl) ?_
      have n5 := Bb.size
      replace Bb := below_step Bb b
      replace L0 := L0.later b
      replace C0 := C0.later b
      replace hT0 := hT0.below b
      try replace SY := SY.later b
      try replace hp := hp.later b
      try (have n56 := lt_of_at N6; replace N6 := below_at b N6 n56)
      clear b
      generalize V.heap.size = g5 at *
      generalize V.alloc (.cells #[.int .i64 0, .int .i64 0, .int .i64 0] 31) = V at *
      try replace n56 := Nat.ne_of_lt n56
      refine hK.out _ _ ⟨L0, C0⟩ (fun _ => ?_)
      clear hK K
      try simp only [zA, zS, zZ, Act.put, zP, zQ, zR]
      refine Node.on 13 rfl (fun K hK => ?_)
      refine wp_st_lk N5 rfl rfl rfl rfl ?_
      have hn5 := lt_of_at N5.at_
      have k5 := hL5 g5 n5
      replace L0 := L0.far3 (g' := g5) k5 s' q' e'
      replace N6 := frame_far3 N6 (g' := g5) n56 s' q' e'
      replace C0 := slice_far C0 (hC5 g5 n5) (.int .i64 s') (.int .i64 q') (.int .i64 e')
      have N5' := N5.set3 s' q' e'
      replace Bb := ((Bb.setCell (p := ⟨g5, 0, none⟩) n5 (.int .i64 s')).setCell (p := ⟨g5, 1, none⟩) n5 (.int .i64 q')).setCell (p := ⟨g5, 2, none⟩) n5 (.int .i64 e')
      replace hp := bytes_far hp N5 (.int .i64 s') (.int .i64 q') (.int .i64 e')
      clear N5 hT0 hn5 k5
      generalize ((V.setCell ⟨g5, 0, none⟩ (.int .i64 s')).setCell ⟨g5, 1, none⟩ (.int .i64 q')).setCell ⟨g5, 2, none⟩ (.int .i64 e') = V at *
      refine hK.out _ _ ⟨L0, C0⟩ (fun _ => ?_)
      clear hK K
      try simp only [zA, zS, zZ, Act.put, zP, zQ, zR]
      refine Node.on 14 rfl (fun K hK => ?_)
      refine wp_st_fr N6 rfl rfl rfl rfl ?_
      have F := FV.put3 (f := f) N6 hp n6q
      have k6 := hL5 g6 n6
      replace L0 := L0.at_
      replace L0 : LVar (((V.setCell ⟨g6, 0, none⟩ (.int .u8 (f.1.toNat : Int))).setCell ⟨g6, 1, none⟩ (.int .u8 (f.2.1.toNat : Int))).setCell ⟨g6, 2, none⟩ (.slice A3 f.2.2.length c3)) g3 s q e := ⟨frame_far3' L0 k6 _ _ _⟩
      replace C0 := slice_far C0 (hC5 g6 n6) (.int .u8 (f.1.toNat : Int)) (.int .u8 (f.2.1.toNat : Int)) (.slice A3 f.2.2.length c3)
      replace N5' : LVar (((V.setCell ⟨g6, 0, none⟩ (.int .u8 (f.1.toNat : Int))).setCell ⟨g6, 1, none⟩ (.int .u8 (f.2.1.toNat : Int))).setCell ⟨g6, 2, none⟩ (.slice A3 f.2.2.length c3)) g5 s' q' e' := ⟨frame_far3' N5'.at_ (Ne.symm n56) _ _ _⟩
      replace Bb := ((Bb.setCell (p := ⟨g6, 0, none⟩) n6 (.int .u8 (f.1.toNat : Int))).setCell (p := ⟨g6, 1, none⟩) n6 (.int .u8 (f.2.1.toNat : Int))).setCell (p := ⟨g6, 2, none⟩) n6 (.slice A3 f.2.2.length c3)
      clear N6 hp n6q k6
      generalize ((V.setCell ⟨g6, 0, none⟩ (.int .u8 (f.1.toNat : Int))).setCell ⟨g6, 1, none⟩ (.int .u8 (f.2.1.toNat : Int))).setCell ⟨g6, 2, none⟩ (.slice A3 f.2.2.length c3) = V at *
      refine hK.out _ _ ⟨L0, C0⟩ (fun _ => ?_)
      clear hK K
      try simp only [zA, zS, zZ, Act.put, zP, zQ, zR]
      refine Node.tk 15 ?_ rfl ?_ ?_
      rotate_left
      · intro w hSw; (try dsimp only at hSw); go_simp; try with_reducible rfl
      simp only [zA, zS, zZ, Act.put, zP, zQ, zR]
      refine wpAnyH_done (by kernel_rfl) ?_ _
      exact ⟨g5, g6, ⟨rfl, rfl, by simp⟩, N5', F, n5, n6, Bb⟩
    · skip
      have N5 := LVar.new V 0 0 0
      have b := below_new V (.cells #[.int .i64 0, .int .i64 0, .int .i64 0] 31)
      refine Node.wp_new 31 (.agg #[.int .i64 0, .int .i64 0, .int .i64 0]) #[.int .i64 0, .int .i64 0, .int .i64 0] (by kernel_rfl) rfl (by rfl) ?_
      have n5 := Bb.size
      replace Bb := below_step Bb b
      replace L0 := L0.later b
      replace C0 := C0.later b
      replace hT0 := hT0.below b
      try replace SY := SY.later b
      try replace hp := hp.later b
      try (have n56 := lt_of_at N6; replace N6 := below_at b N6 n56)
      clear b
      generalize V.heap.size = g5 at *
      generalize V.alloc (.cells #[.int .i64 0, .int .i64 0, .int .i64 0] 31) = V at *
      try replace n56 := Nat.ne_of_lt n56
      refine hK.out _ _ ⟨L0, C0⟩ (fun _ => ?_)
      clear hK K
      try simp only [zA, zS, zZ, Act.put, zP, zQ, zR]
      refine Node.on 6 rfl (fun K hK => ?_)
      refine Node.wp_fn 11 [.tmp 32, .tmp 33, .tmp 37] _ [lkv (s, q, e), .int .u8 kd, .slice Ay y.length cy] (by rfl) (by rfl) (enters Tryd.func11 (by kernel_rfl) rfl) (Hear_v (s, q, e) kd (.slice Ay y.length cy) y V _ HR.out hT0 SY LY0.out) ?_
      rintro e' V' ⟨A3, c3, rfl, b, hp, hq⟩
      refine ⟨_, rfl, ?_⟩
      try replace n6q := fun q hb => Ne.symm (Nat.ne_of_lt (Nat.lt_of_lt_of_le (lt_of_at N6) (hq q hb)))
      replace Bb := below_step Bb b
      replace L0 := L0.later b
      replace C0 := C0.later b
      replace hT0 := hT0.below b
      try replace N5 := N5.later b
      try replace N6 := below_at b N6 (lt_of_at N6)
      clear b hq SY
      generalize V' = V at *
      refine hK.out _ _ ⟨L0, C0⟩ (fun _ => ?_)
      clear hK K
      try simp only [zA, zS, zZ, Act.put, zP, zQ, zR]
      refine Node.tk 7 ?_ rfl ?_ ?_
      rotate_left
      · intro w hSw; (try dsimp only at hSw); go_simp; try with_reducible rfl
      simp only [zA, zS, zZ, Act.put, zP, zQ, zR]
      refine Node.tk 8 ?_ rfl ?_ ?_
      rotate_left
      · intro w hSw; (try dsimp only at hSw); go_simp; try with_reducible rfl
      simp only [zA, zS, zZ, Act.put, zP, zQ, zR]
      refine Node.tk 9 ?_ rfl ?_ ?_
      rotate_left
      · intro w hSw; (try dsimp only at hSw); go_simp; try with_reducible rfl
      simp only [zA, zS, zZ, Act.put, zP, zQ, zR]
      refine Node.tk 10 ?_ rfl ?_ ?_
      rotate_left
      · intro w hSw; (try dsimp only at hSw); go_simp; try with_reducible rfl
      simp only [zA, zS, zZ, Act.put, zP, zQ, zR]
      refine Node.on 13 rfl (fun K hK => ?_)
      refine wp_st_lk N5 rfl rfl rfl rfl ?_
      have hn5 := lt_of_at N5.at_
      have k5 := hL5 g5 n5
      replace L0 := L0.far3 (g' := g5) k5 s' q' e'
      replace N6 := frame_far3 N6 (g' := g5) n56 s' q' e'
      replace C0 := slice_far C0 (hC5 g5 n5) (.int .i64 s') (.int .i64 q') (.int .i64 e')
      have N5' := N5.set3 s' q' e'
      replace Bb := ((Bb.setCell (p := ⟨g5, 0, none⟩) n5 (.int .i64 s')).setCell (p := ⟨g5, 1, none⟩) n5 (.int .i64 q')).setCell (p := ⟨g5, 2, none⟩) n5 (.int .i64 e')
      replace hp := bytes_far hp N5 (.int .i64 s') (.int .i64 q') (.int .i64 e')
      clear N5 hT0 hn5 k5
      generalize ((V.setCell ⟨g5, 0, none⟩ (.int .i64 s')).setCell ⟨g5, 1, none⟩ (.int .i64 q')).setCell ⟨g5, 2, none⟩ (.int .i64 e') = V at *
      refine hK.out _ _ ⟨L0, C0⟩ (fun _ => ?_)
      clear hK K
      try simp only [zA, zS, zZ, Act.put, zP, zQ, zR]
      refine Node.on 14 rfl (fun K hK => ?_)
      refine wp_st_fr N6 rfl rfl rfl rfl ?_
      have F := FV.put3 (f := f) N6 hp n6q
      have k6 := hL5 g6 n6
      replace L0 := L0.at_
      replace L0 : LVar (((V.setCell ⟨g6, 0, none⟩ (.int .u8 (f.1.toNat : Int))).setCell ⟨g6, 1, none⟩ (.int .u8 (f.2.1.toNat : Int))).setCell ⟨g6, 2, none⟩ (.slice A3 f.2.2.length c3)) g3 s q e := ⟨frame_far3' L0 k6 _ _ _⟩
      replace C0 := slice_far C0 (hC5 g6 n6) (.int .u8 (f.1.toNat : Int)) (.int .u8 (f.2.1.toNat : Int)) (.slice A3 f.2.2.length c3)
      replace N5' : LVar (((V.setCell ⟨g6, 0, none⟩ (.int .u8 (f.1.toNat : Int))).setCell ⟨g6, 1, none⟩ (.int .u8 (f.2.1.toNat : Int))).setCell ⟨g6, 2, none⟩ (.slice A3 f.2.2.length c3)) g5 s' q' e' := ⟨frame_far3' N5'.at_ (Ne.symm n56) _ _ _⟩
      replace Bb := ((Bb.setCell (p := ⟨g6, 0, none⟩) n6 (.int .u8 (f.1.toNat : Int))).setCell (p := ⟨g6, 1, none⟩) n6 (.int .u8 (f.2.1.toNat : Int))).setCell (p := ⟨g6, 2, none⟩) n6 (.slice A3 f.2.2.length c3)
      clear N6 hp n6q k6
      generalize ((V.setCell ⟨g6, 0, none⟩ (.int .u8 (f.1.toNat : Int))).setCell ⟨g6, 1, none⟩ (.int .u8 (f.2.1.toNat : Int))).setCell ⟨g6, 2, none⟩ (.slice A3 f.2.2.length c3) = V at *
      refine hK.out _ _ ⟨L0, C0⟩ (fun _ => ?_)
      clear hK K
      try simp only [zA, zS, zZ, Act.put, zP, zQ, zR]
      refine Node.tk 15 ?_ rfl ?_ ?_
      rotate_left
      · intro w hSw; (try dsimp only at hSw); go_simp; try with_reducible rfl
      simp only [zA, zS, zZ, Act.put, zP, zQ, zR]
      refine wpAnyH_done (by kernel_rfl) ?_ _
      exact ⟨g5, g6, ⟨rfl, rfl, by simp⟩, N5', F, n5, n6, Bb⟩
theorem lo7 (a : Act) (Af : Option Addr) (cf n : Nat) (kd : Int) (g3 : Nat) (ga gb i : Nat) (er : Int) (s q e : Int) (hr : rightL s q e = true) (hS : Sl a 134 [(1, .int .u8 kd), (2, .slice Af n cf), (3, .pointer (some ⟨g3, 0, none⟩)), (6, .bool false), (7, .int .i64 (i : Nat)), (8, .pointer (some ⟨ga, 0, none⟩)), (9, .pointer (some ⟨gb, 0, none⟩)), (10, .int .i64 er)]) (w : World) (hT : Tops w) (hL : LVar w ga s q e) : rO7.wp Tryd.prog (nrm fun a' w' => Sl a' 134 [(1, .int .u8 kd), (2, .slice Af n cf), (3, .pointer (some ⟨g3, 0, none⟩)), (6, .bool false), (7, .int .i64 (i : Nat)), (8, .pointer (some ⟨ga, 0, none⟩)), (9, .pointer (some ⟨gb, 0, none⟩)), (10, .int .i64 er), (44, .bool false)] ∧ Below w.heap.size w w') a w := by
  obtain ⟨j, rfl, hj⟩ := hS.lit134
  have h1 : j 1 = .int .u8 kd := hj (1, _) (by simp)
  have h2 : j 2 = .slice Af n cf := hj (2, _) (by simp)
  have h3 : j 3 = .pointer (some ⟨g3, 0, none⟩) := hj (3, _) (by simp)
  have h6 : j 6 = .bool false := hj (6, _) (by simp)
  have h7 : j 7 = .int .i64 (i : Nat) := hj (7, _) (by simp)
  have h8 : j 8 = .pointer (some ⟨ga, 0, none⟩) := hj (8, _) (by simp)
  have h9 : j 9 = .pointer (some ⟨gb, 0, none⟩) := hj (9, _) (by simp)
  have h10 : j 10 = .int .i64 er := hj (10, _) (by simp)
  clear hj hS
  unfold rO7 c7 cO loopO rgO bodyO
  simp only [Tryd.f4, Option.getD_some, nthSeq, cfst, csnd, cyes, copsOf, lit134, List.cons_append, List.nil_append, h1, h2, h3, h6, h7, h8, h9, h10]
  have x0 := hL.c0
  have x1 := hL.c1
  have x2 := hL.c2
  have HR := Lib.hid hr
  clear hr
  go_wp2_with fail
  refine (link_Right_c s q e w true HR.out.symm hT).mono ?_
  rintro e' W ⟨rfl, b⟩
  go_wp2
  exact ⟨⟨rfl, rfl, by simp⟩, b⟩
theorem lo9 (a : Act) (Af : Option Addr) (cf n : Nat) (kd : Int) (g3 : Nat) (ga gb i : Nat) (er : Int) (t : Bool) (ht : t = (er != 0)) (hS : Sl a 134 [(1, .int .u8 kd), (2, .slice Af n cf), (3, .pointer (some ⟨g3, 0, none⟩)), (6, .bool false), (7, .int .i64 (i : Nat)), (8, .pointer (some ⟨ga, 0, none⟩)), (9, .pointer (some ⟨gb, 0, none⟩)), (10, .int .i64 er)]) (w : World) : rO9.wp Tryd.prog (nrm fun a' w' => Sl a' 134 [(1, .int .u8 kd), (2, .slice Af n cf), (3, .pointer (some ⟨g3, 0, none⟩)), (6, .bool false), (7, .int .i64 (i : Nat)), (8, .pointer (some ⟨ga, 0, none⟩)), (9, .pointer (some ⟨gb, 0, none⟩)), (10, .int .i64 er), (46, .bool t)] ∧ w' = w) a w := by
  obtain ⟨j, rfl, hj⟩ := hS.lit134
  have h1 : j 1 = .int .u8 kd := hj (1, _) (by simp)
  have h2 : j 2 = .slice Af n cf := hj (2, _) (by simp)
  have h3 : j 3 = .pointer (some ⟨g3, 0, none⟩) := hj (3, _) (by simp)
  have h6 : j 6 = .bool false := hj (6, _) (by simp)
  have h7 : j 7 = .int .i64 (i : Nat) := hj (7, _) (by simp)
  have h8 : j 8 = .pointer (some ⟨ga, 0, none⟩) := hj (8, _) (by simp)
  have h9 : j 9 = .pointer (some ⟨gb, 0, none⟩) := hj (9, _) (by simp)
  have h10 : j 10 = .int .i64 er := hj (10, _) (by simp)
  clear hj hS
  unfold rO9 c9 c7 cO loopO rgO bodyO
  simp only [Tryd.f4, Option.getD_some, nthSeq, cfst, csnd, cyes, copsOf, lit134, List.cons_append, List.nil_append, h1, h2, h3, h6, h7, h8, h9, h10]
  subst ht
  go_wp2
  exact ⟨⟨rfl, rfl, by simp⟩, rfl⟩
theorem lo10 (a : Act) (Af : Option Addr) (cf n : Nat) (kd : Int) (g3 : Nat) (ga gb i : Nat) (er : Int) (s q e : Int) (hS : Sl a 134 [(1, .int .u8 kd), (2, .slice Af n cf), (3, .pointer (some ⟨g3, 0, none⟩)), (6, .bool false), (7, .int .i64 (i : Nat)), (8, .pointer (some ⟨ga, 0, none⟩)), (9, .pointer (some ⟨gb, 0, none⟩)), (10, .int .i64 er)]) (w : World) (hL : LVar w g3 s q e) : rO10.wp Tryd.prog (nrm fun a' w' => ∃ g11, Sl a' 134 [(1, .int .u8 kd), (2, .slice Af n cf), (3, .pointer (some ⟨g3, 0, none⟩)), (6, .bool false), (7, .int .i64 (i : Nat)), (8, .pointer (some ⟨ga, 0, none⟩)), (9, .pointer (some ⟨gb, 0, none⟩)), (10, .int .i64 er), (11, .pointer (some ⟨g11, 0, none⟩))] ∧ LVar w' g11 s q e ∧ w.heap.size ≤ g11 ∧ Below w.heap.size w w') a w := by
  obtain ⟨j, rfl, hj⟩ := hS.lit134
  have h1 : j 1 = .int .u8 kd := hj (1, _) (by simp)
  have h2 : j 2 = .slice Af n cf := hj (2, _) (by simp)
  have h3 : j 3 = .pointer (some ⟨g3, 0, none⟩) := hj (3, _) (by simp)
  have h6 : j 6 = .bool false := hj (6, _) (by simp)
  have h7 : j 7 = .int .i64 (i : Nat) := hj (7, _) (by simp)
  have h8 : j 8 = .pointer (some ⟨ga, 0, none⟩) := hj (8, _) (by simp)
  have h9 : j 9 = .pointer (some ⟨gb, 0, none⟩) := hj (9, _) (by simp)
  have h10 : j 10 = .int .i64 er := hj (10, _) (by simp)
  clear hj hS
  unfold rO10 c10 c9 c7 cO loopO rgO bodyO
  simp only [Tryd.f4, Option.getD_some, nthSeq, cfst, csnd, cyes, copsOf, lit134, List.cons_append, List.nil_append, h1, h2, h3, h6, h7, h8, h9, h10]
  have b1 := below_new w (.cells #[.int .i64 s, .int .i64 q, .int .i64 e] 31)
  have V1 := LVar.new w s q e
  have x0 := hL.c0
  have x1 := hL.c1
  have x2 := hL.c2
  go_wp2
  exact ⟨_, ⟨rfl, rfl, by simp⟩, V1, Nat.le_refl _, b1⟩
theorem lo11 (a : Act) (Af : Option Addr) (cf n : Nat) (kd : Int) (g3 : Nat) (ga gb g11 i : Nat) (er : Int) (s q e : Int) (e' : Int) (he : 0 ≤ e ∧ e ≤ 65535) (he' : e' = min (e + 1) 65535) (B : Nat) (hB : B ≤ g11) (w0 : World) (hS : Sl a 134 [(1, .int .u8 kd), (2, .slice Af n cf), (3, .pointer (some ⟨g3, 0, none⟩)), (6, .bool false), (7, .int .i64 (i : Nat)), (8, .pointer (some ⟨ga, 0, none⟩)), (9, .pointer (some ⟨gb, 0, none⟩)), (10, .int .i64 er), (11, .pointer (some ⟨g11, 0, none⟩))]) (w : World) (b0 : Below B w0 w) (hL : LVar w g3 s q e) (hM : LVar w g11 s q e) : rO11.wp Tryd.prog (nrm fun a' w' => Sl a' 134 [(1, .int .u8 kd), (2, .slice Af n cf), (3, .pointer (some ⟨g3, 0, none⟩)), (6, .bool false), (7, .int .i64 (i : Nat)), (8, .pointer (some ⟨ga, 0, none⟩)), (9, .pointer (some ⟨gb, 0, none⟩)), (10, .int .i64 er), (11, .pointer (some ⟨g11, 0, none⟩))] ∧ LVar w' g11 s q e' ∧ Below B w0 w') a w := by
  obtain ⟨j, rfl, hj⟩ := hS.lit134
  have h1 : j 1 = .int .u8 kd := hj (1, _) (by simp)
  have h2 : j 2 = .slice Af n cf := hj (2, _) (by simp)
  have h3 : j 3 = .pointer (some ⟨g3, 0, none⟩) := hj (3, _) (by simp)
  have h6 : j 6 = .bool false := hj (6, _) (by simp)
  have h7 : j 7 = .int .i64 (i : Nat) := hj (7, _) (by simp)
  have h8 : j 8 = .pointer (some ⟨ga, 0, none⟩) := hj (8, _) (by simp)
  have h9 : j 9 = .pointer (some ⟨gb, 0, none⟩) := hj (9, _) (by simp)
  have h10 : j 10 = .int .i64 er := hj (10, _) (by simp)
  have h11 : j 11 = .pointer (some ⟨g11, 0, none⟩) := hj (11, _) (by simp)
  clear hj hS
  unfold rO11 c10 c9 c7 cO loopO rgO bodyO
  simp only [Tryd.f4, Option.getD_some, nthSeq, cfst, csnd, cyes, copsOf, lit134, List.cons_append, List.nil_append, h1, h2, h3, h6, h7, h8, h9, h10, h11]
  have x2 := hL.c2
  have y2 := hM.c2
  have e2 := free_at hM.at_ 2
  have hw : wrap64 (e + 1) = e + 1 := by unfold wrap64; omega
  have M2 : LVar (w.setCell ⟨g11, 2, none⟩ (.int .i64 e')) g11 s q e' := ⟨by rw [set_at hM.at_ 2 _]; simp⟩
  have B2 := b0.setCell (p := ⟨g11, 2, none⟩) hB (.int .i64 e')
  have HE := Lib.hid he'
  rw [he'] at M2 B2 ⊢
  clear hL hM b0 he he'
  go_wp2
  exact ⟨⟨rfl, rfl, by simp⟩, M2, B2⟩
theorem lo12 (a : Act) (Af : Option Addr) (cf n : Nat) (kd : Int) (g3 : Nat) (ga gb g11 i : Nat) (er : Int) (s q e : Int) (hS : Sl a 134 [(1, .int .u8 kd), (2, .slice Af n cf), (3, .pointer (some ⟨g3, 0, none⟩)), (6, .bool false), (7, .int .i64 (i : Nat)), (8, .pointer (some ⟨ga, 0, none⟩)), (9, .pointer (some ⟨gb, 0, none⟩)), (10, .int .i64 er), (11, .pointer (some ⟨g11, 0, none⟩))]) (w : World) (hA : LVar w ga s q e) (hM : LVar w g11 s q e) (hF : FV w gb noF) : rO12.wp Tryd.prog (nrm fun a' w' => Sl a' 134 [(1, .int .u8 kd), (2, .slice Af n cf), (3, .pointer (some ⟨g3, 0, none⟩)), (6, .bool false), (7, .int .i64 (i : Nat)), (8, .pointer (some ⟨ga, 0, none⟩)), (9, .pointer (some ⟨gb, 0, none⟩)), (10, .int .i64 er), (11, .pointer (some ⟨g11, 0, none⟩)), (61, .bool false)] ∧ Below w.heap.size w w') a w := by
  obtain ⟨A2, c2, hb, hp2⟩ := hF.out
  have f0 : w.cell? ⟨gb, 0, none⟩ = some (.int .u8 0) := cell_at hb 0
  have f1 : w.cell? ⟨gb, 1, none⟩ = some (.int .u8 0) := cell_at hb 1
  have f2 : w.cell? ⟨gb, 2, none⟩ = some (.slice A2 0 c2) := cell_at hb 2
  have hp3 : SliceAt w 1 (.slice A2 0 c2) ([] : List (BitVec 8)).length (u8s []) := hp2
  clear hb hp2 hF
  obtain ⟨j, rfl, hj⟩ := hS.lit134
  have h1 : j 1 = .int .u8 kd := hj (1, _) (by simp)
  have h2 : j 2 = .slice Af n cf := hj (2, _) (by simp)
  have h3 : j 3 = .pointer (some ⟨g3, 0, none⟩) := hj (3, _) (by simp)
  have h6 : j 6 = .bool false := hj (6, _) (by simp)
  have h7 : j 7 = .int .i64 (i : Nat) := hj (7, _) (by simp)
  have h8 : j 8 = .pointer (some ⟨ga, 0, none⟩) := hj (8, _) (by simp)
  have h9 : j 9 = .pointer (some ⟨gb, 0, none⟩) := hj (9, _) (by simp)
  have h10 : j 10 = .int .i64 er := hj (10, _) (by simp)
  have h11 : j 11 = .pointer (some ⟨g11, 0, none⟩) := hj (11, _) (by simp)
  clear hj hS
  unfold rO12 c10 c9 c7 cO loopO rgO bodyO
  simp only [Tryd.f4, Option.getD_some, nthSeq, cfst, csnd, cyes, copsOf, lit134, List.cons_append, List.nil_append, h1, h2, h3, h6, h7, h8, h9, h10, h11]
  have x0 := hA.c0
  have x1 := hA.c1
  have x2 := hA.c2
  have y0 := hM.c0
  have y1 := hM.c1
  have y2 := hM.c2
  go_wp2_with fail
  refine (refSame_c 0 0 0 0 (.slice A2 0 c2) (.slice none 0 0) [] [] w hp3 (SliceAt.nil_ _ _)).mono ?_
  rintro e' W ⟨rfl, b⟩
  rw [sameF_refl]
  go_wp2
  exact ⟨⟨rfl, rfl, by simp⟩, b⟩
theorem lo14 (a : Act) (Af : Option Addr) (cf n : Nat) (kd : Int) (g3 : Nat) (g11 : Nat) (ga gb i : Nat) (er : Int) (s q e : Int) (s' q' e' : Int) (B : Nat) (hB : B ≤ g3) (w0 : World) (hS : Sl a 134 [(1, .int .u8 kd), (2, .slice Af n cf), (3, .pointer (some ⟨g3, 0, none⟩)), (6, .bool false), (7, .int .i64 (i : Nat)), (8, .pointer (some ⟨ga, 0, none⟩)), (9, .pointer (some ⟨gb, 0, none⟩)), (10, .int .i64 er), (11, .pointer (some ⟨g11, 0, none⟩)), (61, .bool false)]) (w : World) (b0 : Below B w0 w) (hL : LVar w g3 s q e) (hA : LVar w ga s' q' e') : rO14.wp Tryd.prog (nrm fun a' w' => Sl a' 134 [(1, .int .u8 kd), (2, .slice Af n cf), (3, .pointer (some ⟨g3, 0, none⟩)), (6, .bool false), (7, .int .i64 (i : Nat))] ∧ LVar w' g3 s' q' e' ∧ Below B w0 w') a w := by
  obtain ⟨j, rfl, hj⟩ := hS.lit134
  have h1 : j 1 = .int .u8 kd := hj (1, _) (by simp)
  have h2 : j 2 = .slice Af n cf := hj (2, _) (by simp)
  have h3 : j 3 = .pointer (some ⟨g3, 0, none⟩) := hj (3, _) (by simp)
  have h6 : j 6 = .bool false := hj (6, _) (by simp)
  have h7 : j 7 = .int .i64 (i : Nat) := hj (7, _) (by simp)
  have h8 : j 8 = .pointer (some ⟨ga, 0, none⟩) := hj (8, _) (by simp)
  have h9 : j 9 = .pointer (some ⟨gb, 0, none⟩) := hj (9, _) (by simp)
  have h10 : j 10 = .int .i64 er := hj (10, _) (by simp)
  have h11 : j 11 = .pointer (some ⟨g11, 0, none⟩) := hj (11, _) (by simp)
  have h61 : j 61 = .bool false := hj (61, _) (by simp)
  clear hj hS
  unfold rO14 c10 c9 c7 cO loopO rgO bodyO
  simp only [Tryd.f4, Option.getD_some, nthSeq, cfst, csnd, cyes, copsOf, lit134, List.cons_append, List.nil_append, h1, h2, h3, h6, h7, h8, h9, h10, h11, h61]
  have x0 := hA.c0
  have x1 := hA.c1
  have x2 := hA.c2
  have y0 := hL.c0
  have y1 := hL.c1
  have y2 := hL.c2
  have e0 := free_at hL.at_ 0
  have e1 := free_at hL.at_ 1
  have e2 := free_at hL.at_ 2
  have L2 := hL.set3 s' q' e'
  have B2 := ((b0.setCell (p := ⟨g3, 0, none⟩) hB (.int .i64 s')).setCell (p := ⟨g3, 1, none⟩) hB (.int .i64 q')).setCell (p := ⟨g3, 2, none⟩) hB (.int .i64 e')
  clear hL hA b0
  go_wp2
  exact ⟨⟨rfl, rfl, by simp⟩, L2, B2⟩
theorem lo21 (a : Act) (Af : Option Addr) (cf n : Nat) (kd : Int) (g3 : Nat) (g12 : Nat) (ga gb i : Nat) (er : Int) (s q e : Int) (s' q' e' : Int) (B : Nat) (hB : B ≤ g3) (w0 : World) (hS : Sl a 134 [(1, .int .u8 kd), (2, .slice Af n cf), (3, .pointer (some ⟨g3, 0, none⟩)), (6, .bool false), (7, .int .i64 (i : Nat)), (8, .pointer (some ⟨ga, 0, none⟩)), (9, .pointer (some ⟨gb, 0, none⟩)), (10, .int .i64 er), (12, .pointer (some ⟨g12, 0, none⟩)), (13, .int .i64 0)]) (w : World) (b0 : Below B w0 w) (hL : LVar w g3 s q e) (hA : LVar w ga s' q' e') : rO21.wp Tryd.prog (nrm fun a' w' => Sl a' 134 [(1, .int .u8 kd), (2, .slice Af n cf), (3, .pointer (some ⟨g3, 0, none⟩)), (6, .bool false), (7, .int .i64 (i : Nat))] ∧ LVar w' g3 s' q' e' ∧ Below B w0 w') a w := by
  obtain ⟨j, rfl, hj⟩ := hS.lit134
  have h1 : j 1 = .int .u8 kd := hj (1, _) (by simp)
  have h2 : j 2 = .slice Af n cf := hj (2, _) (by simp)
  have h3 : j 3 = .pointer (some ⟨g3, 0, none⟩) := hj (3, _) (by simp)
  have h6 : j 6 = .bool false := hj (6, _) (by simp)
  have h7 : j 7 = .int .i64 (i : Nat) := hj (7, _) (by simp)
  have h8 : j 8 = .pointer (some ⟨ga, 0, none⟩) := hj (8, _) (by simp)
  have h9 : j 9 = .pointer (some ⟨gb, 0, none⟩) := hj (9, _) (by simp)
  have h10 : j 10 = .int .i64 er := hj (10, _) (by simp)
  have h12 : j 12 = .pointer (some ⟨g12, 0, none⟩) := hj (12, _) (by simp)
  have h13 : j 13 = .int .i64 0 := hj (13, _) (by simp)
  clear hj hS
  unfold rO21 c18 c15 c9 c7 cO loopO rgO bodyO
  simp only [Tryd.f4, Option.getD_some, nthSeq, cfst, csnd, cyes, copsOf, lit134, List.cons_append, List.nil_append, h1, h2, h3, h6, h7, h8, h9, h10, h12, h13]
  have x0 := hA.c0
  have x1 := hA.c1
  have x2 := hA.c2
  have y0 := hL.c0
  have y1 := hL.c1
  have y2 := hL.c2
  have e0 := free_at hL.at_ 0
  have e1 := free_at hL.at_ 1
  have e2 := free_at hL.at_ 2
  have L2 := hL.set3 s' q' e'
  have B2 := ((b0.setCell (p := ⟨g3, 0, none⟩) hB (.int .i64 s')).setCell (p := ⟨g3, 1, none⟩) hB (.int .i64 q')).setCell (p := ⟨g3, 2, none⟩) hB (.int .i64 e')
  clear hL hA b0
  go_wp2
  exact ⟨⟨rfl, rfl, by simp⟩, L2, B2⟩
theorem lo15 (a : Act) (bA oA cf n : Nat) (kd : Int) (g3 : Nat) (ga gb i : Nat) (er : Int) (f : Frm) (y : List (BitVec 8)) (us : List Value) (Ay : Option Addr) (cy : Nat) (ht : takeV y = (f.1, f.2.1, f.2.2, 0)) (hin : i < n) (hu : us[i]? = some (.slice Ay y.length cy)) (hly : y.length ≤ 200) (hS : Sl a 134 [(1, .int .u8 kd), (2, .slice (some ⟨bA, oA, none⟩) n cf), (3, .pointer (some ⟨g3, 0, none⟩)), (6, .bool false), (7, .int .i64 (i : Nat)), (8, .pointer (some ⟨ga, 0, none⟩)), (9, .pointer (some ⟨gb, 0, none⟩)), (10, .int .i64 er)]) (w : World) (CS : SliceAt w 1 (.slice (some ⟨bA, oA, none⟩) n cf) n us) (SY : SliceAt w 1 (.slice Ay y.length cy) y.length (u8s y)) : rO15.wp Tryd.prog (nrm fun a' w' => ∃ g12, Sl a' 134 [(1, .int .u8 kd), (2, .slice (some ⟨bA, oA, none⟩) n cf), (3, .pointer (some ⟨g3, 0, none⟩)), (6, .bool false), (7, .int .i64 (i : Nat)), (8, .pointer (some ⟨ga, 0, none⟩)), (9, .pointer (some ⟨gb, 0, none⟩)), (10, .int .i64 er), (12, .pointer (some ⟨g12, 0, none⟩)), (13, .int .i64 0)] ∧ FV w' g12 f ∧ Below w.heap.size w w') a w := by
  have i1 : (0 : Int) ≤ (i : Int) ∧ (i : Int) < (n : Int) := by omega
  have hc := slice_cell CS hu
  have HT := Lib.hid ht
  have LY0 := Lib.hid hly
  clear ht hly CS
  obtain ⟨j, rfl, hj⟩ := hS.lit134
  have h1 : j 1 = .int .u8 kd := hj (1, _) (by simp)
  have h2 : j 2 = .slice (some ⟨bA, oA, none⟩) n cf := hj (2, _) (by simp)
  have h3 : j 3 = .pointer (some ⟨g3, 0, none⟩) := hj (3, _) (by simp)
  have h6 : j 6 = .bool false := hj (6, _) (by simp)
  have h7 : j 7 = .int .i64 (i : Nat) := hj (7, _) (by simp)
  have h8 : j 8 = .pointer (some ⟨ga, 0, none⟩) := hj (8, _) (by simp)
  have h9 : j 9 = .pointer (some ⟨gb, 0, none⟩) := hj (9, _) (by simp)
  have h10 : j 10 = .int .i64 er := hj (10, _) (by simp)
  clear hj hS
  unfold rO15 c15 c9 c7 cO loopO rgO bodyO
  simp only [Tryd.f4, Option.getD_some, nthSeq, cfst, csnd, cyes, copsOf, lit134, List.cons_append, List.nil_append, h1, h2, h3, h6, h7, h8, h9, h10]
  go_wp2_with fail
  refine (refTake_t (.slice Ay y.length cy) y f.1 f.2.1 f.2.2 0 w HT.out SY (by have := LY0.out; omega)).mono ?_
  rintro e' W ⟨b, A, c, rfl, hp⟩
  have b1 := below_new W (.cells #[.int .u8 (f.1.toNat : Int), .int .u8 (f.2.1.toNat : Int), .slice A f.2.2.length c] 41)
  have F1 : FV (W.alloc (.cells #[.int .u8 (f.1.toNat : Int), .int .u8 (f.2.1.toNat : Int), .slice A f.2.2.length c] 41)) W.heap.size f := ⟨A, c, new_at rfl _, hp.later b1⟩
  have Bb := below_step b b1
  clear b b1 hp SY hc
  go_wp2
  exact ⟨_, ⟨rfl, rfl, by simp⟩, F1, Bb⟩
theorem lo19 (a : Act) (Af : Option Addr) (cf n : Nat) (kd : Int) (g3 : Nat) (ga gb g12 g14 g15 i : Nat) (er : Int) (hS : Sl a 134 [(1, .int .u8 kd), (2, .slice Af n cf), (3, .pointer (some ⟨g3, 0, none⟩)), (6, .bool false), (7, .int .i64 (i : Nat)), (8, .pointer (some ⟨ga, 0, none⟩)), (9, .pointer (some ⟨gb, 0, none⟩)), (10, .int .i64 er), (12, .pointer (some ⟨g12, 0, none⟩)), (13, .int .i64 0), (14, .pointer (some ⟨g14, 0, none⟩)), (15, .pointer (some ⟨g15, 0, none⟩)), (16, .int .i64 290)]) (w : World) : rO19.wp Tryd.prog (nrm fun a' w' => Sl a' 134 [(1, .int .u8 kd), (2, .slice Af n cf), (3, .pointer (some ⟨g3, 0, none⟩)), (6, .bool false), (7, .int .i64 (i : Nat)), (8, .pointer (some ⟨ga, 0, none⟩)), (9, .pointer (some ⟨gb, 0, none⟩)), (10, .int .i64 er), (12, .pointer (some ⟨g12, 0, none⟩)), (13, .int .i64 0), (131, .bool false)] ∧ w' = w) a w := by
  obtain ⟨j, rfl, hj⟩ := hS.lit134
  have h1 : j 1 = .int .u8 kd := hj (1, _) (by simp)
  have h2 : j 2 = .slice Af n cf := hj (2, _) (by simp)
  have h3 : j 3 = .pointer (some ⟨g3, 0, none⟩) := hj (3, _) (by simp)
  have h6 : j 6 = .bool false := hj (6, _) (by simp)
  have h7 : j 7 = .int .i64 (i : Nat) := hj (7, _) (by simp)
  have h8 : j 8 = .pointer (some ⟨ga, 0, none⟩) := hj (8, _) (by simp)
  have h9 : j 9 = .pointer (some ⟨gb, 0, none⟩) := hj (9, _) (by simp)
  have h10 : j 10 = .int .i64 er := hj (10, _) (by simp)
  have h12 : j 12 = .pointer (some ⟨g12, 0, none⟩) := hj (12, _) (by simp)
  have h13 : j 13 = .int .i64 0 := hj (13, _) (by simp)
  have h14 : j 14 = .pointer (some ⟨g14, 0, none⟩) := hj (14, _) (by simp)
  have h15 : j 15 = .pointer (some ⟨g15, 0, none⟩) := hj (15, _) (by simp)
  have h16 : j 16 = .int .i64 290 := hj (16, _) (by simp)
  clear hj hS
  unfold rO19 c18 c15 c9 c7 cO loopO rgO bodyO
  simp only [Tryd.f4, Option.getD_some, nthSeq, cfst, csnd, cyes, copsOf, lit134, List.cons_append, List.nil_append, h1, h2, h3, h6, h7, h8, h9, h10, h12, h13, h14, h15, h16]
  go_wp2
  exact ⟨⟨rfl, rfl, by simp⟩, rfl⟩
end Go.Proofs.YtlanlkpamnoekaaDoor
