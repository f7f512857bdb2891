/- Link, in company. Nothing that was there is turned. -/
import Derived.Test.YtlanlkpamnoekaaDoorZD16
import Derived.Conc.Beside
import Derived.OrdersHeld
import Derived.Test.YtlanlkpamnoekaaDoorZD11
import Derived.Lib.LaidTab
import Derived.OpenShut
set_option linter.unusedSimpArgs false
set_option linter.unusedVariables false
namespace Go.Proofs.YtlanlkpamnoekaaDoor.Lk
open Go Go.Conc Go.RowKit Rf Mem Bv Crc Str Bits
set_option maxRecDepth 100000

/-- From wakes' return on the frame comes to its end, true in slot r; nothing is turned. -/
def Cont (F : FuncId) (r : Nat) (fr : Frame) : Prop := ∀ (T : Frame → List Frame → World → Prop) (fs : List Frame) (w : World),
  (∀ (a : Act) (todo : List Item) (w' : World), a.defers = [] → a.tmps[r]? = some (.bool true) → w'.heap = w.heap → w'.os = w.os → w'.output = w.output → T { (base F).at a todo with mode := .returning } fs w') → Wins Tryd.prog T (fr.finish (.bool true)) fs w
/-- The law calls wakes; what it tells is what wakes tells. -/
def AtWakes (F : FuncId) (r : Nat) (G0 : World) (f : Frame) (fs : List Frame) (W : World) : Prop := ∃ fr, fs = [fr] ∧ f = Frame.enter Tryd.prog 10 #[] .normal ∧ Cont F r fr ∧ Tops W ∧ Under G0.heap.size G0 W
theorem aim_wakes (F : FuncId) (r : Nat) (G0 : World) : Aim (AtWakes F r G0) :=
  ⟨fun _ _ _ τ d ⟨fr, h1, h2, h3, h4, h5⟩ => ⟨fr, h1, h2, h3, ⟨h4.c0, h4.c1, h4.sz⟩, h5.re τ d⟩, fun f fs w ⟨fr, _, h2, _⟩ ch hm => by
    rw [h2] at hm
    simp [Frame.enter] at hm⟩
/-- The law's end. -/
def DoneF (F : FuncId) (r : Nat) (f : Frame) : Prop := ∃ (a : Act) (todo : List Item), f = { (base F).at a todo with mode := .returning } ∧ a.defers = [] ∧ a.tmps[r]? = some (.bool true)
def AtDone (F : FuncId) (r : Nat) (G0 : World) (f : Frame) (fs : List Frame) (W : World) : Prop := fs = [] ∧ DoneF F r f ∧ Under G0.heap.size G0 W
theorem aim_done (F : FuncId) (r : Nat) (G0 : World) : Aim (AtDone F r G0) :=
  ⟨fun _ _ _ τ d ⟨h1, h2, h3⟩ => ⟨h1, h2, h3.re τ d⟩, fun f fs w ⟨_, ⟨a, todo, h2, _⟩, _⟩ ch hm => by rw [h2] at hm; cases hm⟩

theorem done_run {F : FuncId} {r : Nat} {fr : Frame} {A : World} {m : Machine} {t : Trace} (hc : NF Tryd.prog fr) (hC : Cont F r fr) (hT : Tops A) (h : St (QL Tryd.prog) (Frame.enter Tryd.prog 10 #[] .normal) [fr] A m t) :
    Run Tryd.prog m t (To (QL Tryd.prog) fun f' cs' A' => cs' = [] ∧ DoneF F r f' ∧ Below A.heap.size A A') := by
  refine (wakes_comp hc hT h).bind ?_
  rintro m1 t1 ⟨f1, cs1, A1, ⟨rfl, rfl, b1⟩, hSt⟩
  refine (lone_run0 (bad := 14) (cs := []) (fun Z => fit Z) (aim_done F r (scrub (Zset (fun _ => False) A1) A1)) (fs := []) ⟨by simp, .inl (hc.finish _)⟩ (fun τ d => ?_) (by simpa using hSt)).mono ?_
  · exact hC _ [] _ fun a todo w' h1 h2 h3 h4 h5 => ⟨rfl, ⟨a, todo, rfl, h1, h2⟩, ⟨h4, h5, by rw [h3]; exact Nat.le_refl _, fun k _ => by rw [h3]; rfl⟩⟩
  · rintro _ _ ⟨f', cs', A', ⟨fs', G', rfl, ⟨rfl, hD, hU⟩, _, hR', _, ht', hV'⟩, hSt3⟩
    refine ⟨_, _, A', ⟨rfl, hD, ?_⟩, hSt3⟩
    have hU2 := hU
    rw [scrub_size] at hU2
    have b3 := hU2.lift hR' ht' (V := fun _ => False) (fun i hi _ => hV' i hi) fun _ h => h.elim
    exact b1.trans (b3.mono b1.size)

/-- From where a lone stretch leads to wakes. -/
theorem wakes_run {F : FuncId} {r : Nat} {f : Frame} {A : World} {m : Machine} {t : Trace} (hf : NF Tryd.prog f) (hw : ∀ τ d, Wins Tryd.prog (AtWakes F r (scrub (Zset (fun _ => False) A) A)) f [] (re (scrub (Zset (fun _ => False) A) A) τ d)) (h : St (QL Tryd.prog) f [] A m t) :
    Run Tryd.prog m t (To (QL Tryd.prog) fun f' cs' A' => cs' = [] ∧ DoneF F r f' ∧ Below A.heap.size A A') := by
  refine (lone_run0 (bad := 14) (cs := []) (fun Z => fit Z) (aim_wakes F r _) (fs := []) ⟨by simp, .inl hf⟩ hw (by simpa using h)).bind ?_
  rintro m1 t1 ⟨f1, cs1, A1, ⟨fs1, G1, rfl, ⟨fr, rfl, rfl, hC, hT, hU⟩, hgood, hR, hsz, ht, hV⟩, hSt⟩
  have b1 : Below A.heap.size A A1 := by
    rw [scrub_size] at hU
    exact hU.lift hR ht (V := fun _ => False) (fun i hi _ => hV i hi) fun _ h => h.elim
  refine (done_run (hgood.1 _ (List.mem_singleton.2 rfl)) hC ((Sees.up hR).tops hT) (by simpa using hSt)).mono ?_
  rintro m2 t2 ⟨f2, cs2, A2, ⟨rfl, hD, b2⟩, hSt2⟩
  exact ⟨_, _, A2, ⟨rfl, hD, b1.trans (b2.mono b1.size)⟩, hSt2⟩

/-- The start: goroutine 0 alone. -/
theorem start_st (f : Frame) (A : World) : St (QL Tryd.prog) f [] A (crowd #[Conc.G f []] A none) #[] :=
  ⟨_, _, none, rfl, rfl, _, 0, leavers_one Tryd.prog _, past_nil, rfl⟩

/-- ████ From a run to the law's end: it ends well. ████ -/
theorem law_ends {F : FuncId} {fn : Func} {r : Nat} {f : Frame} {A : World} (hfn : Tryd.prog.funcs[F]? = some fn) (hr : fn.results = #[.tmp r]) (hk : 2 ≠ F)
    (h : ∀ m t, St (QL Tryd.prog) f [] A m t → Run Tryd.prog m t (To (QL Tryd.prog) fun f' cs' A' => cs' = [] ∧ DoneF F r f' ∧ Below A.heap.size A A')) :
    ∃ M last o w' t', runNT Tryd.prog (M + 1) (crowd #[Conc.G f []] A none) #[] = (.ended o w', t') ∧ runN Tryd.prog M (crowd #[Conc.G f []] A none) = .next last ∧ step Tryd.prog last = .ended o w' ∧ Conc.Good Tryd.prog (fun v W' => v = .bool true ∧ Below A.heap.size A W') last o w' t' := by
  obtain ⟨N, m1, t1, h1, f1, cs1, A1, ⟨rfl, ⟨a, todo, rfl, hd, hv⟩, hb⟩, μ, gs, sl, rfl, h0, q, B, hL, hP, _⟩ := h _ _ (start_st f A)
  have hstep : ∀ w : World, stepG Tryd.prog true (Conc.G { (base F).at a todo with mode := .returning } []) w = .ended (.done (.bool true)) w #[] := by
    intro w
    have h2 : a.tmps[r]?.getD undef = .bool true := by rw [hv]; rfl
    simp [Conc.G, stepG, unwind, doReturn, results, Frame.at, base, hfn, hr, hd, h2, hk, seen, GStep.after]
  obtain ⟨M, last, o, w', t', e1, e2, e3, e4⟩ := beside_ends (P := Tryd.prog) (Shun := fun _ => False) (B := B) (D := fun _ _ _ => False) (Post := fun v W' => v = .bool true ∧ Below A.heap.size A W') (sl := sl) (n := 0) (w := A1) (t := t1) (fun _ _ _ h => h.elim) h0 hL hP
    (fun w₁ ⟨d, hw⟩ => ⟨rfl, .bool true, #[], by rw [hstep], by simp, rfl, by rw [hw]; exact below_at_d hb d⟩)
  refine ⟨N + M, last, o, w', t', ?_, ?_, e3, e4⟩
  · rw [Nat.add_assoc, runNT_add, h1]
    exact e1
  · have h1' : runN Tryd.prog N (crowd #[Conc.G f []] A none) = .next (crowd gs A1 sl) := by rw [← runNT_fst _ _ _ #[], h1]
    rw [runN_add, h1']
    exact e2
end Go.Proofs.YtlanlkpamnoekaaDoor.Lk
namespace Go.Proofs.YtlanlkpamnoekaaDoor.Lk
open Go Go.Conc Go.RowKit Rf Mem Bv Crc Str Bits
set_option maxRecDepth 100000

theorem wanted_none {o : Oper} {y : Nat → Option Bool} (h : o.guard = none) : Region.wanted o y = true := by rw [Region.wanted, h]
theorem wanted_some {ops : Array Oper} {o : Oper} {tm : Array Value} {g d : Nat} {b : Bool} (h : o.guard = some (g, b)) (hd : (ops[g]?.bind (·.dst)) = some d) (hv : tm[d]? = some (.bool b)) : Region.wanted o (yielded ops tm) = true := by
  rw [Region.wanted, h]
  simp [yielded, hd, hv]
theorem cont_of {F : FuncId} {r d i : Nat} {ops : Array Oper} {rest : List Nat} {a : Act} {k : List Item} (hdst : (ops[i]?.bind (·.dst)) = some d) (h : ∀ w, wpOps Tryd.prog ops (nrm fun a' w' => a'.defers = [] ∧ a'.tmps[r]? = some (.bool true) ∧ w' = w) rest (a.put (some d) (.bool true)) w) :
    Cont F r ((base F).at a (.inRegion ops (i :: rest) :: .code .ret :: k)) := by
  intro T fs w hT
  rw [Frame.finish_at, hdst]
  refine Wins.ops rest [] (by simp) (h w) fun a' w' ⟨h1, h2, h3⟩ => Wins.regionEnd (Wins.ret (Wins.stop ?_))
  subst h3
  exact hT a' _ w' h1 h2 rfl rfl rfl
theorem cont_two {F : FuncId} {r d i j : Nat} {ops : Array Oper} {o : Oper} {a : Act} {k : List Item} (hdst : (ops[i]?.bind (·.dst)) = some d) (ho : ops[j]? = some o) (hop : o.op = .assign (.tmp d)) (hdo : o.dst = some r) (hg : o.guard = none) (hd : a.defers = []) (hsz : d < a.tmps.size) (hr : r < a.tmps.size) :
    Cont F r ((base F).at a (.inRegion ops [i, j] :: .code .ret :: k)) := by
  refine cont_of hdst fun w => ?_
  simp only [wpOps, ho]
  rw [if_pos (wanted_none hg)]
  refine .inl ?_
  have he : (execOp (a.put (some d) (.bool true)).eval o).run Tryd.prog w = .ok (.value (.bool true)) w := by
    unfold execOp
    simp [hop, Act.eval, Act.put, hsz]
  refine Node.wp_val _ he ?_
  rw [hdo]
  refine ⟨hd, ?_, rfl⟩
  simp [Act.put, hr]
/-- The call of wakes. -/
theorem wins_wakes {T : Frame → List Frame → World → Prop} {b : Frame} {a : Act} {ops : Array Oper} {i : Nat} {rest : List Nat} {k : List Item} {fs : List Frame} {w : World} {o : Oper} {ts : Array TypeId} (ho : ops[i]? = some o) (hw : Region.wanted o (yielded ops a.tmps) = true) (hop : o.op = .call { callee := .value (.func 10), args := #[], argTypes := ts })
    (h : T (Frame.enter Tryd.prog 10 #[] .normal) (b.at a (.inRegion ops (i :: rest) :: k) :: fs) w) : Wins Tryd.prog T (b.at a (.inRegion ops (i :: rest) :: k)) fs w := by
  have hcall : ∀ args w, (callFunc 10 args).run Tryd.prog w = .ok (.enter 10 args) w := enters Tryd.func10 (by kernel_rfl) rfl
  refine Wins.call ho hw (g := 10) (args := #[]) (w' := w) ?_ (Wins.stop h)
  unfold execOp
  simp [hop, resolve, invoke, Act.eval, Deferred.ofValue, hcall]
theorem AtWakes.mk {F : FuncId} {r : Nat} {G0 W : World} {fr : Frame} (hC : Cont F r fr) (hT : Tops W) (hb : Below G0.heap.size G0 W) : AtWakes F r G0 (Frame.enter Tryd.prog 10 #[] .normal) [fr] W := ⟨fr, rfl, rfl, hC, hT, .of hb⟩
theorem Wins.mono {T T' : Frame → List Frame → World → Prop} {f : Frame} {fs : List Frame} {w : World} (h : Wins Tryd.prog T f fs w) (hT : ∀ f fs w, T f fs w → T' f fs w) : Wins Tryd.prog T' f fs w := by
  obtain ⟨n, g, gs, x, h1, h2⟩ := h
  exact ⟨n, g, gs, x, h1, hT _ _ _ h2⟩
theorem AtWakes.blind {F : FuncId} {r : Nat} {G : World} {τ : Tape} {d : Nat} {f : Frame} {fs : List Frame} {W : World} (h : AtWakes F r (re G τ d) f fs W) : AtWakes F r G f fs W := by
  obtain ⟨fr, h1, h2, h3, h4, h5⟩ := h
  exact ⟨fr, h1, h2, h3, h4, ⟨h5.os, h5.output, h5.size, h5.block⟩⟩
end Go.Proofs.YtlanlkpamnoekaaDoor.Lk
namespace Go.Proofs.YtlanlkpamnoekaaDoor.Lk
open Go Go.RowKit Go.Conc
set_option maxRecDepth 100000

/-- How many have not come up. -/
def left (n : Nat) (listed : Array Bool) : Nat := (List.range n).countP (fun j => !listed.getD j true)

theorem count_lt {p q : Nat → Bool} : ∀ {L : List Nat} {x : Nat}, (∀ y, q y = true → p y = true) → x ∈ L → p x = true → q x = false → L.countP q + 1 ≤ L.countP p
  | y :: L, x, hqp, hx, hp, hq => by
    rcases List.mem_cons.1 hx with rfl | hx
    · rw [List.countP_cons_of_pos hp, List.countP_cons_of_neg (by simp [hq])]
      exact Nat.succ_le_succ (List.countP_mono_left fun y _ hy => hqp y hy)
    · have ih := count_lt hqp hx hp hq
      rw [List.countP_cons, List.countP_cons]
      by_cases h1 : q y = true
      · simp only [h1, hqp y h1, if_true]; omega
      · by_cases h2 : p y = true
        · simp only [h1, h2, if_true]; simp only [Bool.false_eq_true, if_false]; omega
        · simp only [h1, h2, if_false, Bool.false_eq_true]; omega

theorem left_ge {listed : Array Bool} {m : Nat} : ∀ (n : Nat), (∀ j, m ≤ j → j < n → listed.getD j true = false) → n - m ≤ left n listed
  | 0, _ => by simp
  | n + 1, h => by
    have ih := left_ge (listed := listed) (m := m) n fun j h1 h2 => h j h1 (by omega)
    unfold left at *
    rw [List.range_succ, List.countP_append, List.countP_singleton]
    by_cases hm : m ≤ n
    · rw [h n hm (by omega)]; simp only [Bool.not_false, if_true]; omega
    · omega

section
variable {ops : Array Oper} {i0 : Nat}
theorem getD_set {listed : Array Bool} {i j : Nat} (hi : i < listed.size) : (listed.setIfInBounds i true).getD j true = if j = i then true else listed.getD j true := by
  by_cases h : j = i
  · subst h; simp [Array.getD, hi]
  · rw [if_neg h]
    simp only [Array.getD_eq_getD_getElem?]
    rw [Array.getElem?_setIfInBounds_ne (by omega)]
theorem getDf_set {listed : Array Bool} {i j : Nat} (hi : i < listed.size) : (listed.setIfInBounds i true).getD j false = if j = i then true else listed.getD j false := by
  by_cases h : j = i
  · subst h; simp [Array.getD, hi]
  · rw [if_neg h]
    simp only [Array.getD_eq_getD_getElem?]
    rw [Array.getElem?_setIfInBounds_ne (by omega)]
theorem getD_tf {listed : Array Bool} {j : Nat} (h : j < listed.size) : listed.getD j true = listed.getD j false := by
  simp [Array.getD, h]

/-- Edges, by their numbers. -/
def Dep (ops : Array Oper) (j e : Nat) : Prop := ∃ o, ops[j]? = some o ∧ ∃ x ∈ o.after, Region.binds .any x = true ∧ x.on = e

structure Shape (ops : Array Oper) (i0 : Nat) : Prop where
  lt : i0 < ops.size
  back : ∀ j e, Dep ops j e → e < j
  up : ∀ j, j < i0 → ∃ j', j < j' ∧ j' ≤ i0 ∧ Dep ops j' j
  chain : ∀ j, i0 < j → j < ops.size → Dep ops j (j - 1)

theorem ready_mem {listed : Array Bool} {i : Nat} : i ∈ Region.ready .any ops listed ↔ i < ops.size ∧ listed.getD i true = false ∧ ∀ e, Dep ops i e → listed.getD e false = true := by
  unfold Region.ready Dep
  rw [List.mem_filter, List.mem_range]
  constructor
  · rintro ⟨h1, h2⟩
    obtain ⟨o, ho⟩ : ∃ o, ops[i]? = some o := ⟨_, Array.getElem?_eq_getElem h1⟩
    simp only [ho, Option.map_some, Option.getD_some, Bool.and_eq_true, Bool.not_eq_true', Array.all_eq_true_iff_forall_mem, Bool.or_eq_true] at h2
    refine ⟨h1, h2.1, ?_⟩
    rintro e ⟨o', ho', x, hx, hb, rfl⟩
    cases ho.symm.trans ho'
    rcases h2.2 x hx with h | h
    · rw [hb] at h; cases h
    · exact h
  · rintro ⟨h1, h2, h3⟩
    obtain ⟨o, ho⟩ : ∃ o, ops[i]? = some o := ⟨_, Array.getElem?_eq_getElem h1⟩
    refine ⟨h1, ?_⟩
    simp only [ho, Option.map_some, Option.getD_some, Bool.and_eq_true, Bool.not_eq_true', Array.all_eq_true_iff_forall_mem, Bool.or_eq_true]
    refine ⟨h2, fun x hx => ?_⟩
    cases hb : Region.binds .any x with
    | false => exact .inl rfl
    | true => exact .inr (h3 _ ⟨o, ho, x, hx, hb, rfl⟩)

/-- What has come up has what it waits for. -/
def Closed (ops : Array Oper) (listed : Array Bool) : Prop := ∀ j e, j < ops.size → listed.getD j true = true → Dep ops j e → listed.getD e false = true

theorem closed_set {listed : Array Bool} {i : Nat} (hs : listed.size = ops.size) (hc : Closed ops listed) (hi : i ∈ Region.ready .any ops listed) : Closed ops (listed.setIfInBounds i true) := by
  obtain ⟨h1, h2, h3⟩ := ready_mem.1 hi
  intro j e hj hl hd
  rw [getD_set (by omega)] at hl
  rw [getDf_set (by omega)]
  by_cases he : e = i
  · rw [if_pos he]
  rw [if_neg he]
  by_cases h : j = i
  · subst h; exact h3 e hd
  · rw [if_neg h] at hl; exact hc j e hj hl hd

/-- Some may come up while not all have. -/
theorem ready_some (H : Shape ops i0) {listed : Array Bool} (hs : listed.size = ops.size) : ∀ (j : Nat), j < ops.size → listed.getD j true = false → Region.ready .any ops listed ≠ [] := by
  intro j
  induction j using Nat.strongRecOn with
  | _ j ih =>
    intro hj hl
    by_cases h : ∀ e, Dep ops j e → listed.getD e false = true
    · exact List.ne_nil_of_mem (ready_mem.2 ⟨hj, hl, h⟩)
    · simp only [Classical.not_forall] at h
      obtain ⟨e, hd, he⟩ := h
      have hlt := H.back j e hd
      refine ih e hlt (by omega) ?_
      rw [getD_tf (by omega)]
      simpa using he

theorem go_eq (fuel t : Nat) (listed : Array Bool) : Region.linearise.go .any ops (fuel + 1) t listed [] = match (Region.ready .any ops listed)[t % (Region.ready .any ops listed).length]? with
    | some i => i :: Region.linearise.go .any ops fuel (t / (Region.ready .any ops listed).length) (listed.setIfInBounds i true) []
    | none => [] := by
  conv => lhs; unfold Region.linearise.go
  change (match (Region.ready .any ops listed)[t % (Region.ready .any ops listed).length]? with
      | some i => Region.linearise.go .any ops fuel (t / (Region.ready .any ops listed).length) (listed.setIfInBounds i true) [i]
      | none => [].reverse) = _
  split
  · rw [linearise_go_acc, List.reverse_singleton, List.singleton_append]
  · rfl
theorem pick_some {L : List Nat} (h : L ≠ []) (t : Nat) : ∃ i, L[t % L.length]? = some i ∧ i ∈ L := by
  have hl : 0 < L.length := by cases L with | nil => exact absurd rfl h | cons => simp
  refine ⟨L[t % L.length]'(Nat.mod_lt _ hl), List.getElem?_eq_getElem _, List.getElem_mem _⟩

/-- Behind the chain's head: the chain. -/
theorem tail_go (H : Shape ops i0) : ∀ (d m fuel t : Nat) (listed : Array Bool), listed.size = ops.size → i0 < m → m + d = ops.size → d ≤ fuel → (∀ j, j < ops.size → listed.getD j true = decide (j < m)) → Region.linearise.go .any ops fuel t listed [] = List.range' m d := by
  intro d
  induction d with
  | zero =>
    intro m fuel t listed hs hm he hf hl
    have hr : Region.ready .any ops listed = [] := by
      apply List.eq_nil_iff_forall_not_mem.2
      intro i hi
      obtain ⟨h1, h2, _⟩ := ready_mem.1 hi
      rw [hl i h1, decide_eq_true (by omega)] at h2
      cases h2
    cases fuel with
    | zero => simp [Region.linearise.go]
    | succ fuel => rw [go_eq, hr]; simp
  | succ d ih =>
    intro m fuel t listed hs hm he hf hl
    obtain ⟨fuel, rfl⟩ : ∃ f, fuel = f + 1 := ⟨fuel - 1, by omega⟩
    obtain ⟨i, hi, hir⟩ := pick_some (ready_some H hs m (by omega) (by rw [hl m (by omega)]; simp)) t
    obtain ⟨h1, h2, h3⟩ := ready_mem.1 hir
    rw [hl i h1] at h2
    have him : m ≤ i := by simpa using h2
    have : i = m := by
      rcases Nat.lt_or_ge m i with hlt | hge
      · have hd := h3 _ (H.chain i (by omega) h1)
        rw [← getD_tf (by omega), hl (i - 1) (by omega)] at hd
        simp at hd
        omega
      · omega
    subst this
    rw [go_eq, hi]
    simp only
    rw [List.range'_succ]
    congr 1
    refine ih (i + 1) fuel _ _ (by simp [hs]) (by omega) (by omega) (by omega) fun j hj => ?_
    rw [getD_set (by omega), hl j hj]
    by_cases h : j = i
    · rw [if_pos h]; simp; omega
    · rw [if_neg h]; congr 1; simp only [eq_iff_iff]; omega

theorem head_go (H : Shape ops i0) : ∀ (fuel t : Nat) (listed : Array Bool), listed.size = ops.size → left ops.size listed ≤ fuel → Closed ops listed → (∀ j, i0 ≤ j → j < ops.size → listed.getD j true = false) → ∃ l1, Region.linearise.go .any ops fuel t listed [] = l1 ++ List.range' i0 (ops.size - i0) ∧ ∀ j ∈ l1, j < i0 := by
  intro fuel
  induction fuel with
  | zero =>
    intro t listed hs hf hc hn
    have := left_ge (m := i0) ops.size hn
    have := H.lt
    omega
  | succ fuel ih =>
    intro t listed hs hf hc hn
    have hlt := H.lt
    obtain ⟨i, hi, hir⟩ := pick_some (ready_some H hs i0 hlt (hn i0 (Nat.le_refl _) hlt)) t
    obtain ⟨h1, h2, h3⟩ := ready_mem.1 hir
    have hf' : left ops.size (listed.setIfInBounds i true) ≤ fuel := by
      have := count_lt (p := fun j => !listed.getD j true) (q := fun j => !(listed.setIfInBounds i true).getD j true) (L := List.range ops.size) (x := i) (fun y hy => by
        rw [getD_set (by omega)] at hy
        by_cases h : y = i
        · rw [if_pos h] at hy; cases hy
        · rw [if_neg h] at hy; exact hy) (List.mem_range.2 h1) (by simp [h2]) (by rw [getD_set (by omega), if_pos rfl]; rfl)
      unfold left at *
      omega
    rw [go_eq, hi]
    simp only
    rcases Nat.lt_trichotomy i i0 with hlt' | heq | hgt
    · obtain ⟨l1, e1, e2⟩ := ih (t / (Region.ready .any ops listed).length) (listed.setIfInBounds i true) (by simp [hs]) hf' (closed_set hs hc hir) fun j hj1 hj2 => by
        rw [getD_set (by omega), if_neg (by omega)]; exact hn j hj1 hj2
      refine ⟨i :: l1, by rw [e1]; rfl, fun j hj => ?_⟩
      rcases List.mem_cons.1 hj with rfl | hj
      · exact hlt'
      · exact e2 j hj
    · subst heq
      refine ⟨[], ?_, by simp⟩
      have hall : ∀ (d j : Nat), j + d = i → 0 < d → listed.getD j true = true := by
        intro d
        induction d using Nat.strongRecOn with
        | _ d ihd =>
          intro j hj hd
          obtain ⟨j', a1, a2, a3⟩ := H.up j (by omega)
          rcases Nat.lt_or_ge j' i with hl | hl
          · have hj' := ihd (i - j') (by omega) j' (by omega) (by omega)
            rw [getD_tf (by omega)]
            exact hc j' j (by omega) hj' a3
          · obtain rfl : j' = i := by omega
            rw [getD_tf (by omega)]
            exact h3 j a3
      have hd : ops.size - i = (ops.size - (i + 1)) + 1 := by omega
      rw [hd, List.range'_succ, List.nil_append]
      congr 1
      refine tail_go H _ _ _ _ _ (by simp [hs]) (by omega) (by omega) ?_ fun j hj => ?_
      · have := left_ge (m := i + 1) (listed := listed.setIfInBounds i true) ops.size fun j b1 b2 => by
          rw [getD_set (by omega), if_neg (by omega)]; exact hn j (by omega) b2
        omega
      · rw [getD_set (by omega)]
        by_cases h : j = i
        · rw [if_pos h]; simp; omega
        · rw [if_neg h]
          by_cases hji : j < i
          · rw [hall (i - j) j (by omega) (by omega)]; simp; omega
          · rw [hn j (by omega) hj]; simp; omega
    · have := h3 _ (H.chain i hgt h1)
      rw [← getD_tf (by omega), hn (i - 1) (by omega) (by omega)] at this
      cases this

/-- Every order ends in the chain. -/
theorem orders_end (H : Shape ops i0) (t : Nat) : ∃ l1, Region.linearise .any ops t = l1 ++ List.range' i0 (ops.size - i0) ∧ ∀ j ∈ l1, j < i0 := by
  unfold Region.linearise
  refine head_go H _ _ _ (by simp) ?_ (fun j e hj hl _ => ?_) fun j _ hj => by simp [Array.getD, hj]
  · unfold left
    have := List.countP_le_length (l := List.range ops.size) (p := fun j => !(Array.replicate ops.size false).getD j true)
    simpa using this
  · simp [Array.getD, hj] at hl
end
end Go.Proofs.YtlanlkpamnoekaaDoor.Lk
namespace Go.Proofs.YtlanlkpamnoekaaDoor.Lk
open Go Go.RowKit Go.Conc
set_option maxRecDepth 100000

/-- An operation that does nothing in another's place. -/
def hush (o : Oper) : Oper := { o with op := .move (.const (.bool true)), dst := none, guard := none }
/-- A region whose last operations do nothing. -/
def swap (ops : Array Oper) (i0 : Nat) : Array Oper := (ops.toList.take i0 ++ (ops.toList.drop i0).map hush).toArray

section
variable {P : Program} {ops : Array Oper} {i0 : Nat}
theorem swap_lt {j : Nat} (h : j < i0) (hi : i0 < ops.size) : (swap ops i0)[j]? = ops[j]? := by
  unfold swap
  rw [List.getElem?_toArray, List.getElem?_append_left (by simp; omega), List.getElem?_take, if_pos h]
  simp
theorem swap_ge {j : Nat} (h : i0 ≤ j) (hi : i0 < ops.size) : (swap ops i0)[j]? = ops[j]?.map hush := by
  unfold swap
  have hl : (ops.toList.take i0).length = i0 := by simp; omega
  rw [List.getElem?_toArray, List.getElem?_append_right (by omega), hl, List.getElem?_map, List.getElem?_drop]
  rw [show i0 + (j - i0) = j by omega]
  simp
theorem swap_size (hi : i0 < ops.size) : (swap ops i0).size = ops.size := by
  unfold swap; simp; omega
theorem swap_after (hi : i0 < ops.size) (j : Nat) : (swap ops i0)[j]?.map (·.after) = ops[j]?.map (·.after) := by
  rcases Nat.lt_or_ge j i0 with h | h
  · rw [swap_lt h hi]
  · rw [swap_ge h hi]; cases ops[j]? <;> rfl
theorem ready_swap (hi : i0 < ops.size) (listed : Array Bool) : Region.ready .any (swap ops i0) listed = Region.ready .any ops listed := by
  unfold Region.ready
  rw [swap_size hi]
  refine List.filter_congr fun j _ => ?_
  have h := swap_after hi j
  cases h1 : (swap ops i0)[j]? <;> cases h2 : ops[j]? <;> simp_all
theorem go_swap (hi : i0 < ops.size) : ∀ (fuel t : Nat) (listed : Array Bool), Region.linearise.go .any (swap ops i0) fuel t listed [] = Region.linearise.go .any ops fuel t listed []
  | 0, _, _ => rfl
  | fuel + 1, t, listed => by
    rw [go_eq, go_eq, ready_swap hi]
    split
    · rw [go_swap hi fuel]
    · rfl
theorem linearise_swap (hi : i0 < ops.size) (t : Nat) : Region.linearise .any (swap ops i0) t = Region.linearise .any ops t := by
  unfold Region.linearise
  rw [swap_size hi, go_swap hi]

/-- A normal way out, another law behind it. -/
theorem oper_nrm {o : Oper} {a : Act} {w : World} {K K' : Act → World → Prop} {R R' : Act → World → Prop} (h : o.wp P a w K (nrm R)) (hK : ∀ a w, K a w → K' a w) : o.wp P a w K' (nrm R') := by
  unfold Oper.wp at *
  generalize (execOp a.eval o).run P w = r at *
  cases r with
  | ok n w' =>
    cases n <;> simp only [Oper.upon] at h ⊢ <;>
      first
        | exact hK _ _ h
        | exact Calls.mono h (fun e w'' he => by
            cases e with
            | returned v => exact hK _ _ he
            | panicked c => exact he.elim
            | outgrown => exact absurd he nrm_lets)
        | exact Rows.mono h (fun _ _ he => hK _ _ he)
  | halt x w' => cases x <;> simp only [Oper.upon] at h ⊢ <;> first | exact h.elim | exact absurd h nrm_lets | exact h

theorem yielded_swap {j : Nat} {tmps : Array Value} (h : j < i0) (hi : i0 < ops.size) : yielded (swap ops i0) tmps j = yielded ops tmps j := by
  unfold yielded
  rw [swap_lt h hi]

/-- Behind the first operations, the last. -/
theorem wpOps_swap (hi : i0 < ops.size) (hg : ∀ j o g b, j < i0 → ops[j]? = some o → o.guard = some (g, b) → g < i0) {R : Act → World → Prop} {l2 : List Nat} : ∀ (l1 : List Nat), (∀ j ∈ l1, j < i0) → ∀ (a : Act) (w : World), wpOps P (swap ops i0) (nrm R) (l1 ++ l2) a w → wpOps P ops (nrm fun a w => wpOps P (swap ops i0) (nrm R) l2 a w) l1 a w
  | [], _, a, w, h => h
  | i :: l1, hl, a, w, h => by
    have hi1 : i < i0 := hl i List.mem_cons_self
    have ih := wpOps_swap hi hg l1 (fun j hj => hl j (List.mem_cons_of_mem _ hj)) (R := R) (l2 := l2)
    rw [List.cons_append, wpOps_cons] at h
    rw [wpOps_cons]
    unfold wpOp at *
    rw [swap_lt hi1 hi] at h
    cases ho : ops[i]? with
    | none => simp only [ho] at h; exact ih _ _ h
    | some o =>
      simp only [ho] at h
      have hw : Region.wanted o (yielded (swap ops i0) a.tmps) = Region.wanted o (yielded ops a.tmps) := by
        unfold Region.wanted
        cases hgd : o.guard with
        | none => rfl
        | some gb =>
          obtain ⟨g, b⟩ := gb
          simp only
          rw [yielded_swap (hg i o g b hi1 ho hgd) hi]
      rw [hw] at h
      by_cases hwt : Region.wanted o (yielded ops a.tmps) = true
      · simp only [hwt, if_true] at h ⊢
        rcases h with h | ⟨_, hq⟩
        · exact .inl (oper_nrm h ih)
        · exact absurd hq nrm_lets
      · simp only [hwt, if_false, Bool.false_eq_true] at h ⊢
        exact ih _ _ h

theorem wpOps_hush (hi : i0 < ops.size) {R : Act → World → Prop} : ∀ (l : List Nat), (∀ j ∈ l, i0 ≤ j) → ∀ (a : Act) (w : World), wpOps P (swap ops i0) (nrm R) l a w → R a w
  | [], _, a, w, h => h
  | i :: l, hl, a, w, h => by
    have hi1 : i0 ≤ i := hl i List.mem_cons_self
    have ih := wpOps_hush hi l (fun j hj => hl j (List.mem_cons_of_mem _ hj)) (R := R)
    rw [wpOps_cons] at h
    unfold wpOp at h
    rw [swap_ge hi1 hi] at h
    cases ho : ops[i]? with
    | none => simp only [ho, Option.map_none] at h; exact ih _ _ h
    | some o =>
      simp only [ho, Option.map_some] at h
      have hw : Region.wanted (hush o) (yielded (swap ops i0) a.tmps) = true := rfl
      rw [if_pos hw] at h
      rcases h with h | ⟨_, hq⟩
      · have he : (execOp a.eval (hush o)).run P w = .ok (.value (.bool true)) w := by
          unfold execOp
          simp [hush, Act.eval]
        unfold Oper.wp at h
        rw [he, Oper.upon_value] at h
        exact ih _ _ h
      · exact absurd hq nrm_lets

/-- ████ A drawn region, up to its last operations. ████ -/
theorem Wins.drawn {T : Frame → List Frame → World → Prop} {b : Frame} {a : Act} {k : List Item} {fs : List Frame} {w : World} {id fuel : Nat} {L : Array Bool} {R : Act → World → Prop} {S : World → Prop} (H : Shape ops i0) (hg : ∀ j o g b, j < i0 → ops[j]? = some o → o.guard = some (g, b) → g < i0) (hm : P.follows .mixedOrders = true)
    (hfuel : fuel = ops.size) (hL : L = Array.replicate ops.size false) (h : wpAnyH P .any (swap ops i0) (nrm R) S fuel L a { w with drawn := w.drawn + 1 })
    (hk : ∀ a' w', R a' w' → Wins P T (b.at a' (.inRegion ops (List.range' i0 (ops.size - i0)) :: k)) fs w') : Wins P T (b.at a (.code (.region id ops true) :: k)) fs w := by
  subst hfuel hL
  have hi := H.lt
  refine .steps (.one step_region_draw) ?_
  generalize w.tape w.drawn (.order b.fn id) = t
  obtain ⟨l1, e1, e2⟩ := orders_end H t
  have h1 := wpAny_sound ops.size t _ a _ (wpAny_of_held _ _ _ _ h)
  have h2 : Region.linearise.go .any (swap ops i0) ops.size t (Array.replicate ops.size false) [] = l1 ++ List.range' i0 (ops.size - i0) := by
    rw [go_swap hi]; exact e1
  rw [h2] at h1
  have h3 := wpOps_swap hi hg l1 e2 a _ h1
  have h4 : Region.schedule (P.follows .mixedOrders) ops t = l1 ++ List.range' i0 (ops.size - i0) := by
    simp only [Region.schedule, hm, Bool.true_or, if_true]
    exact e1
  refine Wins.ops l1 _ h4 h3 fun a' w' h5 => hk a' w' (wpOps_hush hi _ (fun j hj => ?_) a' w' h5)
  rw [List.mem_range'] at hj
  omega
end

/-! ### the shape, by a program -/
def depB (ops : Array Oper) (j e : Nat) : Bool := (ops[j]?).elim false fun o => o.after.toList.any fun x => Region.binds .any x && x.on == e
def shapeB (ops : Array Oper) (i0 : Nat) : Bool :=
  decide (i0 < ops.size) && (List.range ops.size).all (fun j => (ops[j]?).elim true fun o => o.after.all fun x => decide (x.on < j)) &&
  (List.range i0).all (fun j => (List.range (i0 + 1)).any fun j' => decide (j < j') && depB ops j' j) && (List.range ops.size).all (fun j => decide (j ≤ i0) || depB ops j (j - 1)) &&
  (List.range i0).all fun j => (ops[j]?).elim true fun o => match o.guard with | none => true | some (g, _) => decide (g < i0)
theorem depB_spec {ops : Array Oper} {j e : Nat} (h : depB ops j e = true) : Dep ops j e := by
  unfold depB at h
  cases ho : ops[j]? with
  | none => simp [ho] at h
  | some o =>
    simp only [ho, Option.elim_some, List.any_eq_true, Bool.and_eq_true, beq_iff_eq] at h
    obtain ⟨x, hx, h1, h2⟩ := h
    exact ⟨o, ho, x, Array.mem_toList_iff.1 hx, h1, h2⟩
theorem shape_of {ops : Array Oper} {i0 : Nat} (h : shapeB ops i0 = true) : Shape ops i0 ∧ ∀ j o g b, j < i0 → ops[j]? = some o → o.guard = some (g, b) → g < i0 := by
  unfold shapeB at h
  simp only [Bool.and_eq_true, List.all_eq_true, List.mem_range, decide_eq_true_eq, List.any_eq_true, Bool.or_eq_true] at h
  obtain ⟨⟨⟨⟨h1, h2⟩, h3⟩, h4⟩, h5⟩ := h
  refine ⟨⟨h1, ?_, ?_, ?_⟩, ?_⟩
  · rintro j e ⟨o, ho, x, hx, hb, rfl⟩
    have hj : j < ops.size := by
      rcases Nat.lt_or_ge j ops.size with h | h
      · exact h
      · rw [Array.getElem?_eq_none h] at ho; cases ho
    have := h2 j hj
    simp only [ho, Option.elim_some, Array.all_eq_true_iff_forall_mem, decide_eq_true_eq] at this
    exact this x hx
  · intro j hj
    obtain ⟨j', h6, h7, h8⟩ := h3 j hj
    exact ⟨j', h7, by omega, depB_spec h8⟩
  · intro j hj hs
    rcases h4 j hs with h | h
    · omega
    · exact depB_spec h
  · intro j o g b hj ho hg
    have := h5 j hj
    simp only [ho, Option.elim_some, hg, decide_eq_true_eq] at this
    exact this
end Go.Proofs.YtlanlkpamnoekaaDoor.Lk
namespace Go.Proofs.YtlanlkpamnoekaaDoor
open Go Go.RowKit Rf Mem Bv Crc Str Bits
set_option maxRecDepth 100000
theorem numBits_num : ∀ (w : Nat) (l : List Bool), l.length = w → numBits (num l) w = l
  | 0, l, h => by obtain rfl : l = [] := List.length_eq_zero_iff.1 h; rfl
  | w + 1, l, h => by
    rcases List.eq_nil_or_concat l with rfl | ⟨l', b, rfl⟩
    · simp at h
    · have hl : l'.length = w := by simpa using h
      have hn : num (l' ++ [b]) = num l' * 2 + b.toNat := by rw [num_append]; simp [num]
      have h2 : (num l' * 2 + b.toNat) / 2 = num l' := by cases b <;> simp <;> omega
      have h0 : (num l' * 2 + b.toNat).testBit 0 = b := by
        rw [Nat.testBit_zero]
        cases b <;> simp <;> omega
      rw [List.concat_eq_append, numBits_succ, hn, h2, h0, numBits_num w l' hl]
/-- A word's bits. -/
theorem fld_bits (Y : List (BitVec 8)) (i : Nat) (h : 4 * i + 4 ≤ Y.length) : numBits (fld Y i).toNat 32 = ((bitsOf Y).drop (32 * i)).take 32 := by
  have hl : (((bitsOf Y).drop (32 * i)).take 32).length = 32 := by
    rw [List.length_take, List.length_drop, bitsOf_length]; omega
  have hlt := num_lt (((bitsOf Y).drop (32 * i)).take 32)
  rw [hl] at hlt
  have hf := fld_lt Y i hlt
  have hn : (fld Y i).toNat = num (((bitsOf Y).drop (32 * i)).take 32) := by omega
  rw [hn]
  exact numBits_num 32 _ hl
theorem put_take {X Y : List (BitVec 8)} {a b c d : U32} (h : Holds X (inB [a, b, c, d])) (ht : takeInV Y = (a, b, c, d, 0)) : X = Y := by
  refine holds_unique h ?_
  unfold takeInV at ht
  split at ht
  · rename_i h16
    simp only [Prod.mk.injEq, and_true] at ht
    obtain ⟨rfl, rfl, rfl, rfl⟩ := ht
    refine ⟨by rw [inB_len, h16]; simp, 0, ?_⟩
    simp only [inB, List.flatMap_cons, List.flatMap_nil, List.append_nil, List.replicate_zero]
    rw [fld_bits Y 0 (by omega), fld_bits Y 1 (by omega), fld_bits Y 2 (by omega), fld_bits Y 3 (by omega)]
    have hl := bitsOf_length Y
    rw [h16] at hl
    generalize bitsOf Y = B at *
    simp only [Nat.mul_zero, Nat.mul_one, List.drop_zero, Nat.reduceMul]
    have e3 : (B.drop 96).take 32 = B.drop 96 := List.take_of_length_le (by simp; omega)
    have e2 : (B.drop 64).take 32 ++ B.drop 96 = B.drop 64 := by
      have := List.take_append_drop 32 (B.drop 64)
      rwa [List.drop_drop] at this
    have e1 : (B.drop 32).take 32 ++ B.drop 64 = B.drop 32 := by
      have := List.take_append_drop 32 (B.drop 32)
      rwa [List.drop_drop] at this
    rw [e3, e2, e1, List.take_append_drop]
  · simp at ht
theorem run_cv {w : World} {a : Act} {o : Oper} {x : Operand} {v : Value} {bs : List (BitVec 8)} (h : SliceAt w 1 v bs.length (u8s bs)) (ho : o.op = .convert 36 9 x) (hx : a.eval x = v) : (execOp a.eval o).run Tryd.prog w = .ok (.value (.string (strOf bs))) w := by
  have hc := conv_str (P := Tryd.prog) (dst := 9) h Tryd.underlying36 Tryd.underlying5 Tryd.underlying9
  unfold execOp
  simp [ho, hx, hc]
theorem run_inv {w : World} {a : Act} {o : Oper} {x : Operand} {g : Nat} {p q r s : U32} (h : IVar w g p q r s) (ho : o.op = .load 35 x) (hx : a.eval x = .pointer (some ⟨g, 0, none⟩)) : (execOp a.eval o).run Tryd.prog w = .ok (.value (inv p q r s)) w := by
  have x0 := h.cell 0 _ rfl
  have x1 := h.cell 1 _ rfl
  have x2 := h.cell 2 _ rfl
  have x3 := h.cell 3 _ rfl
  generalize a.eval = ρ at *
  unfold execOp
  simp [ho, hx, go_sem, x0, x1, x2, x3]
end Go.Proofs.YtlanlkpamnoekaaDoor
namespace Go.Proofs.YtlanlkpamnoekaaDoor
open List renaming getElem_toArray → zA, getElem_cons_succ → zS, getElem_cons_zero → zZ, setIfInBounds_toArray → zP, set_cons_zero → zQ, set_cons_succ → zR
open Go Go.RowKit Rf Mem Bv Crc Str Lk Bits
set_option maxRecDepth 100000
attribute [local go_sem ↓] run_max2 run_min2
def lit64 (j : Nat → Value) : List Value := [j 0, j 1, j 2, j 3, j 4, j 5, j 6, j 7, j 8, j 9, j 10, j 11, j 12, j 13, j 14, j 15, j 16, j 17, j 18, j 19, j 20, j 21, j 22, j 23, j 24, j 25, j 26, j 27, j 28, j 29, j 30, j 31, j 32, j 33, j 34, j 35, j 36, j 37, j 38, j 39, j 40, j 41, j 42, j 43, j 44, j 45, j 46, j 47, j 48, j 49] ++ ([j 50, j 51, j 52, j 53, j 54, j 55, j 56, j 57, j 58, j 59, j 60, j 61, j 62, j 63])
theorem lit64_eq (j : Nat → Value) : (List.range 64).map j = lit64 j := by kernel_rfl
theorem Sl.lit64 {a : Act} {l : List (Nat × Value)} (h : Sl a 64 l) : ∃ j : Nat → Value, a = ⟨(lit64 j).toArray, []⟩ ∧ ∀ p ∈ l, j p.1 = p.2 := by
  obtain ⟨j, h1, h2⟩ := h.letters
  exact ⟨j, by rw [h1, lit64_eq], h2⟩

noncomputable def bodyF : Code := Tryd.f7.body.getD .skip
noncomputable def rgF (k : Nat) : Code := nthSeq k bodyF

noncomputable def rF1 : Code := match rgF 1 with | .seq r _ => r | _ => .skip
noncomputable def opsF2 : Array Oper := match rgF 1 with | .seq _ (.cond _ (.seq (.region _ o _) _) _) => o | _ => #[]
noncomputable def rF5 : Code := match rgF 4 with | .seq r _ => r | _ => .skip
noncomputable def rF6 : Code := match rgF 4 with | .seq _ (.cond _ (.seq r _) _) => r | _ => .skip
noncomputable def rF8 : Code := match rgF 6 with | .seq r _ => r | _ => .skip
noncomputable def opsF9 : Array Oper := match rgF 6 with | .seq _ (.cond _ (.seq (.region _ o _) _) _) => o | _ => #[]
noncomputable def opsF10 : Array Oper := match rgF 7 with | .region _ o _ => o | _ => #[]
theorem bodyF_eq : bodyF = .seq (rgF 0) (.seq (rgF 1) (.seq (rgF 2) (.seq (rgF 3) (.seq (rgF 4) (.seq (rgF 5) (.seq (rgF 6) (.seq (rgF 7) .ret))))))) := rfl
theorem rgF1_eq : rgF 1 = .seq rF1 (.cond (.tmp 12) (.seq (.region 2 opsF2 false) .ret) .skip) := rfl
theorem rgF4_eq : rgF 4 = .seq rF5 (.cond (.tmp 32) (.seq rF6 .ret) .skip) := rfl
theorem rgF6_eq : rgF 6 = .seq rF8 (.cond (.tmp 40) (.seq (.region 9 opsF9 false) .ret) .skip) := rfl
theorem rgF7_eq : rgF 7 = .region 10 opsF10 true := rfl
theorem sizeF2 : List.range opsF2.size = [0, 1] := by kernel_rfl
theorem sizeF9 : List.range opsF9.size = [0, 1, 2, 3, 4, 5, 6, 7] ++ [8, 9, 10] := by kernel_rfl
theorem shapeF10 : shapeB opsF10 11 = true := by kernel_rfl
theorem opsF9_from (k n : Nat) : ∀ j, j < ((opsF9.toList.drop k).take n).length → ((opsF9.toList.drop k).take n)[j]? = opsF9[k + j]? := by
  intro j hj
  simp only [List.length_take] at hj
  rw [List.getElem?_take, if_pos (by omega), List.getElem?_drop]
  simp
theorem opsF10_from (k n : Nat) : ∀ j, j < ((opsF10.toList.drop k).take n).length → ((opsF10.toList.drop k).take n)[j]? = opsF10[k + j]? := by
  intro j hj
  simp only [List.length_take] at hj
  rw [List.getElem?_take, if_pos (by omega), List.getElem?_drop]
  simp

theorem lf0 (q : Act) (a b c d : U32) (Ay : Option Addr) (cy : Nat) (Y : List (BitVec 8)) (hS : Sl q 64 [(0, inv a b c d), (1, .slice Ay Y.length cy)]) (w : World) : (rgF 0).wp Tryd.prog (nrm fun a' w' => ∃ g2, Sl a' 64 [(1, .slice Ay Y.length cy), (2, .pointer (some ⟨g2, 0, none⟩)), (4, .bool false)] ∧ IVar w' g2 a b c d ∧ Below w.heap.size w w') q w := by
  obtain ⟨j, rfl, hj⟩ := hS.lit64
  have h0 : j 0 = inv a b c d := hj (0, _) (by simp)
  have h1 : j 1 = .slice Ay Y.length cy := hj (1, _) (by simp)
  clear hj hS
  unfold rgF bodyF
  simp only [Tryd.f7, Option.getD_some, nthSeq, lit64, List.cons_append, List.nil_append, h0, h1]
  have b1 := below_new w (.cells (inc a b c d) 35)
  have Y1 : IVar (w.alloc (.cells (inc a b c d) 35)) w.heap.size a b c d := ⟨new_at rfl _⟩
  go_wp2
  exact ⟨_, ⟨rfl, rfl, by simp⟩, Y1, b1⟩
theorem lf1 (q : Act) (g2 : Nat) (Ay : Option Addr) (cy : Nat) (Y : List (BitVec 8)) (t : Bool) (ht : t = decide (200 < (Y.length : Int))) (hS : Sl q 64 [(1, .slice Ay Y.length cy), (2, .pointer (some ⟨g2, 0, none⟩)), (4, .bool false)]) (w : World) : rF1.wp Tryd.prog (nrm fun a' w' => Sl a' 64 [(1, .slice Ay Y.length cy), (2, .pointer (some ⟨g2, 0, none⟩)), (4, .bool false), (12, .bool t)] ∧ w' = w) q w := by
  obtain ⟨j, rfl, hj⟩ := hS.lit64
  have h1 : j 1 = .slice Ay Y.length cy := hj (1, _) (by simp)
  have h2 : j 2 = .pointer (some ⟨g2, 0, none⟩) := hj (2, _) (by simp)
  have h4 : j 4 = .bool false := hj (4, _) (by simp)
  clear hj hS
  unfold rF1 rgF bodyF
  simp only [Tryd.f7, Option.getD_some, nthSeq, lit64, List.cons_append, List.nil_append, h1, h2, h4]
  subst ht
  go_wp2
  exact ⟨⟨rfl, rfl, by simp⟩, rfl⟩
theorem lf3 (q : Act) (g2 : Nat) (a b c d : U32) (Ay : Option Addr) (cy : Nat) (Y : List (BitVec 8)) (hS : Sl q 64 [(1, .slice Ay Y.length cy), (2, .pointer (some ⟨g2, 0, none⟩)), (4, .bool false)]) (w : World) (I : IVar w g2 a b c d) : (rgF 2).wp Tryd.prog (nrm fun a' w' => ∃ Ap cp X, Sl a' 64 [(1, .slice Ay Y.length cy), (2, .pointer (some ⟨g2, 0, none⟩)), (4, .bool false), (5, .slice Ap 16 cp)] ∧ SliceAt w' 1 (.slice Ap 16 cp) 16 (u8s X) ∧ X.length = 16 ∧ Holds X (inB [a, b, c, d]) ∧ Below w.heap.size w w') q w := by
  obtain ⟨j, rfl, hj⟩ := hS.lit64
  have h1 : j 1 = .slice Ay Y.length cy := hj (1, _) (by simp)
  have h2 : j 2 = .pointer (some ⟨g2, 0, none⟩) := hj (2, _) (by simp)
  have h4 : j 4 = .bool false := hj (4, _) (by simp)
  clear hj hS
  unfold rgF bodyF
  simp only [Tryd.f7, Option.getD_some, nthSeq, lit64, List.cons_append, List.nil_append, h1, h2, h4]
  have x0 := I.cell 0 _ rfl
  have x1 := I.cell 1 _ rfl
  have x2 := I.cell 2 _ rfl
  have x3 := I.cell 3 _ rfl
  go_wp2_with fail
  refine (PutIn_c a b c d w).mono ?_
  rintro e W ⟨b, A, c', X, rfl, hs, hH⟩
  have h16 : X.length = 16 := by rw [hH.1, inB_len]; simp
  rw [h16] at hs ⊢
  clear x0 x1 x2 x3
  have HH := Lib.hid hH
  have H16 := Lib.hid h16
  clear hH h16
  go_wp2
  exact ⟨A, c', X, ⟨rfl, rfl, by simp⟩, hs, H16.out, HH.out, b⟩
theorem lf4 (q : Act) (g2 : Nat) (Ap : Option Addr) (cp : Nat) (X : List (BitVec 8)) (a b c d : U32) (Ay : Option Addr) (cy : Nat) (Y : List (BitVec 8)) (hS : Sl q 64 [(1, .slice Ay Y.length cy), (2, .pointer (some ⟨g2, 0, none⟩)), (4, .bool false), (5, .slice Ap 16 cp)]) (w : World) (hs : SliceAt w 1 (.slice Ap 16 cp) 16 (u8s X)) (hx16 : X.length = 16) (hH : Holds X (inB [a, b, c, d])) : (rgF 3).wp Tryd.prog (nrm fun a' w' => ∃ g6, Sl a' 64 [(1, .slice Ay Y.length cy), (2, .pointer (some ⟨g2, 0, none⟩)), (4, .bool false), (5, .slice Ap 16 cp), (6, .pointer (some ⟨g6, 0, none⟩)), (7, .int .i64 0)] ∧ IVar w' g6 a b c d ∧ Below w.heap.size w w') q w := by
  obtain ⟨j, rfl, hj⟩ := hS.lit64
  have h1 : j 1 = .slice Ay Y.length cy := hj (1, _) (by simp)
  have h2 : j 2 = .pointer (some ⟨g2, 0, none⟩) := hj (2, _) (by simp)
  have h4 : j 4 = .bool false := hj (4, _) (by simp)
  have h5 : j 5 = .slice Ap 16 cp := hj (5, _) (by simp)
  clear hj hS
  unfold rgF bodyF
  simp only [Tryd.f7, Option.getD_some, nthSeq, lit64, List.cons_append, List.nil_append, h1, h2, h4, h5]
  have ht := take_put hH
  go_wp2_with fail
  refine (TakeIn_c (.slice Ap 16 cp) X a b c d 0 w ht (by rw [hx16]; exact hs) (by rw [hx16]; omega)).mono ?_
  rintro e W ⟨rfl, b'⟩
  have b1 := below_new W (.cells (inc a b c d) 35)
  have V : IVar (W.alloc (.cells (inc a b c d) 35)) W.heap.size a b c d := ⟨new_at rfl _⟩
  have B := below_step b' b1
  clear ht hH hx16 hs b' b1
  go_wp2
  exact ⟨_, ⟨rfl, rfl, by simp⟩, V, B⟩
theorem lf5 (q : Act) (g2 g6 : Nat) (Ap : Option Addr) (cp : Nat) (a b c d : U32) (Ay : Option Addr) (cy : Nat) (Y : List (BitVec 8)) (hS : Sl q 64 [(1, .slice Ay Y.length cy), (2, .pointer (some ⟨g2, 0, none⟩)), (4, .bool false), (5, .slice Ap 16 cp), (6, .pointer (some ⟨g6, 0, none⟩)), (7, .int .i64 0)]) (w : World) (I : IVar w g2 a b c d) (J : IVar w g6 a b c d) : rF5.wp Tryd.prog (nrm fun a' w' => Sl a' 64 [(1, .slice Ay Y.length cy), (2, .pointer (some ⟨g2, 0, none⟩)), (4, .bool false), (5, .slice Ap 16 cp), (6, .pointer (some ⟨g6, 0, none⟩)), (7, .int .i64 0), (32, .bool false)] ∧ w' = w) q w := by
  obtain ⟨j, rfl, hj⟩ := hS.lit64
  have h1 : j 1 = .slice Ay Y.length cy := hj (1, _) (by simp)
  have h2 : j 2 = .pointer (some ⟨g2, 0, none⟩) := hj (2, _) (by simp)
  have h4 : j 4 = .bool false := hj (4, _) (by simp)
  have h5 : j 5 = .slice Ap 16 cp := hj (5, _) (by simp)
  have h6 : j 6 = .pointer (some ⟨g6, 0, none⟩) := hj (6, _) (by simp)
  have h7 : j 7 = .int .i64 0 := hj (7, _) (by simp)
  clear hj hS
  unfold rF5 rgF bodyF
  simp only [Tryd.f7, Option.getD_some, nthSeq, lit64, List.cons_append, List.nil_append, h1, h2, h4, h5, h6, h7]
  have x0 := I.cell 0 _ rfl
  have x1 := I.cell 1 _ rfl
  have x2 := I.cell 2 _ rfl
  have x3 := I.cell 3 _ rfl
  have y0 := J.cell 0 _ rfl
  have y1 := J.cell 1 _ rfl
  have y2 := J.cell 2 _ rfl
  have y3 := J.cell 3 _ rfl
  go_wp2
  exact ⟨⟨rfl, rfl, by simp⟩, rfl⟩
theorem lf7 (q : Act) (g2 : Nat) (a b c d : U32) (Ay : Option Addr) (cy : Nat) (Y : List (BitVec 8)) (er : Int) (hl : Y.length ≤ 200) (hr : takeInV Y = (a, b, c, d, er)) (hS : Sl q 64 [(1, .slice Ay Y.length cy), (2, .pointer (some ⟨g2, 0, none⟩)), (4, .bool false)]) (w : World) (hs : SliceAt w 1 (.slice Ay Y.length cy) Y.length (u8s Y)) : (rgF 5).wp Tryd.prog (nrm fun a' w' => ∃ g8, Sl a' 64 [(1, .slice Ay Y.length cy), (2, .pointer (some ⟨g2, 0, none⟩)), (4, .bool false), (8, .pointer (some ⟨g8, 0, none⟩)), (9, .int .i64 er)] ∧ IVar w' g8 a b c d ∧ Below w.heap.size w w') q w := by
  obtain ⟨j, rfl, hj⟩ := hS.lit64
  have h1 : j 1 = .slice Ay Y.length cy := hj (1, _) (by simp)
  have h2 : j 2 = .pointer (some ⟨g2, 0, none⟩) := hj (2, _) (by simp)
  have h4 : j 4 = .bool false := hj (4, _) (by simp)
  clear hj hS
  unfold rgF bodyF
  simp only [Tryd.f7, Option.getD_some, nthSeq, lit64, List.cons_append, List.nil_append, h1, h2, h4]
  go_wp2_with fail
  refine (TakeIn_c (.slice Ay Y.length cy) Y a b c d er w hr hs (by omega)).mono ?_
  rintro e W ⟨rfl, b'⟩
  have b1 := below_new W (.cells (inc a b c d) 35)
  have V : IVar (W.alloc (.cells (inc a b c d) 35)) W.heap.size a b c d := ⟨new_at rfl _⟩
  have B := below_step b' b1
  clear hr hl hs b' b1
  go_wp2
  exact ⟨_, ⟨rfl, rfl, by simp⟩, V, B⟩
theorem lf8 (q : Act) (g2 g8 : Nat) (Ay : Option Addr) (cy : Nat) (Y : List (BitVec 8)) (er : Int) (t : Bool) (ht : t = ((Y.length : Int) != 16)) (hS : Sl q 64 [(1, .slice Ay Y.length cy), (2, .pointer (some ⟨g2, 0, none⟩)), (4, .bool false), (8, .pointer (some ⟨g8, 0, none⟩)), (9, .int .i64 er)]) (w : World) : rF8.wp Tryd.prog (nrm fun a' w' => Sl a' 64 [(1, .slice Ay Y.length cy), (2, .pointer (some ⟨g2, 0, none⟩)), (4, .bool false), (8, .pointer (some ⟨g8, 0, none⟩)), (9, .int .i64 er), (40, .bool t)] ∧ w' = w) q w := by
  obtain ⟨j, rfl, hj⟩ := hS.lit64
  have h1 : j 1 = .slice Ay Y.length cy := hj (1, _) (by simp)
  have h2 : j 2 = .pointer (some ⟨g2, 0, none⟩) := hj (2, _) (by simp)
  have h4 : j 4 = .bool false := hj (4, _) (by simp)
  have h8 : j 8 = .pointer (some ⟨g8, 0, none⟩) := hj (8, _) (by simp)
  have h9 : j 9 = .int .i64 er := hj (9, _) (by simp)
  clear hj hS
  unfold rF8 rgF bodyF
  simp only [Tryd.f7, Option.getD_some, nthSeq, lit64, List.cons_append, List.nil_append, h1, h2, h4, h8, h9]
  subst ht
  go_wp2
  exact ⟨⟨rfl, rfl, by simp⟩, rfl⟩
theorem lf9a (q : Act) (g2 g8 : Nat) (Ay : Option Addr) (cy : Nat) (Y : List (BitVec 8)) (hS : Sl q 64 [(1, .slice Ay Y.length cy), (2, .pointer (some ⟨g2, 0, none⟩)), (4, .bool false), (8, .pointer (some ⟨g8, 0, none⟩)), (9, .int .i64 41)]) (w : World) (I : IVar w g8 0 0 0 0) : wpOps Tryd.prog opsF9 (nrm fun a' w' => Sl a' 64 [(48, .bool true)] ∧ w' = w) [0, 1, 2, 3, 4, 5, 6, 7] q w := by
  have h4 := fun Q => wpOps_some (P := Tryd.prog) (Q := Q) ((opsF9.toList.drop 0).take 8) 0 (opsF9_from 0 8)
  have h5 : ((opsF9.toList.drop 0).take 8).length = 8 := by kernel_rfl
  rw [h5] at h4
  show wpOps _ _ _ (List.range' 0 8) _ _
  rw [h4]
  clear h4 h5
  have x0 : w.cell? ⟨g8, 0, none⟩ = some (.int .u32 0) := I.cell 0 _ rfl
  have x1 : w.cell? ⟨g8, 1, none⟩ = some (.int .u32 0) := I.cell 1 _ rfl
  have x2 : w.cell? ⟨g8, 2, none⟩ = some (.int .u32 0) := I.cell 2 _ rfl
  have x3 : w.cell? ⟨g8, 3, none⟩ = some (.int .u32 0) := I.cell 3 _ rfl
  obtain ⟨j, rfl, hj⟩ := hS.lit64
  have h1 : j 1 = .slice Ay Y.length cy := hj (1, _) (by simp)
  have h2 : j 2 = .pointer (some ⟨g2, 0, none⟩) := hj (2, _) (by simp)
  have h4 : j 4 = .bool false := hj (4, _) (by simp)
  have h8 : j 8 = .pointer (some ⟨g8, 0, none⟩) := hj (8, _) (by simp)
  have h9 : j 9 = .int .i64 41 := hj (9, _) (by simp)
  clear hj hS
  unfold opsF9 rgF bodyF
  simp only [Tryd.f7, Option.getD_some, nthSeq, lit64, List.cons_append, List.nil_append, h1, h2, h4, h8, h9]
  simp only [List.drop_zero, List.take_succ_cons, List.take_zero]
  go_wp2
  exact ⟨⟨rfl, rfl, by simp⟩, rfl⟩
theorem lf9b (q : Act) (hS : Sl q 64 [(48, .bool true), (49, .bool true)]) (w : World) : wpOps Tryd.prog opsF9 (nrm fun a' w' => a'.defers = [] ∧ a'.tmps[4]? = some (.bool true) ∧ w' = w) [9, 10] q w := by
  have h4 := fun Q => wpOps_some (P := Tryd.prog) (Q := Q) ((opsF9.toList.drop 9).take 2) 9 (opsF9_from 9 2)
  have h5 : ((opsF9.toList.drop 9).take 2).length = 2 := by kernel_rfl
  rw [h5] at h4
  show wpOps _ _ _ (List.range' 9 2) _ _
  rw [h4]
  clear h4 h5
  obtain ⟨j, rfl, hj⟩ := hS.lit64
  have h48 : j 48 = .bool true := hj (48, _) (by simp)
  have h49 : j 49 = .bool true := hj (49, _) (by simp)
  clear hj hS
  unfold opsF9 rgF bodyF
  simp only [Tryd.f7, Option.getD_some, nthSeq, lit64, List.cons_append, List.nil_append, h48, h49]
  simp only [List.drop_succ_cons, List.drop_zero, List.take_succ_cons, List.take_zero]
  go_wp2
  exact ⟨rfl, rfl, rfl⟩
theorem lf10b (q : Act) (hS : Sl q 64 [(61, .bool true), (62, .bool true)]) (w : World) : wpOps Tryd.prog opsF10 (nrm fun a' w' => a'.defers = [] ∧ a'.tmps[4]? = some (.bool true) ∧ w' = w) [12, 13] q w := by
  have h4 := fun Q => wpOps_some (P := Tryd.prog) (Q := Q) ((opsF10.toList.drop 12).take 2) 12 (opsF10_from 12 2)
  have h5 : ((opsF10.toList.drop 12).take 2).length = 2 := by kernel_rfl
  rw [h5] at h4
  show wpOps _ _ _ (List.range' 12 2) _ _
  rw [h4]
  clear h4 h5
  obtain ⟨j, rfl, hj⟩ := hS.lit64
  have h61 : j 61 = .bool true := hj (61, _) (by simp)
  have h62 : j 62 = .bool true := hj (62, _) (by simp)
  clear hj hS
  unfold opsF10 rgF bodyF
  simp only [Tryd.f7, Option.getD_some, nthSeq, lit64, List.cons_append, List.nil_append, h61, h62]
  simp only [List.drop_succ_cons, List.drop_zero, List.take_succ_cons, List.take_zero]
  go_wp2
  exact ⟨rfl, rfl, rfl⟩

set_option maxHeartbeats 4000000 in
theorem lf10 (q : Act) (g2 g8 : Nat) (a b c d : U32) (Ay : Option Addr) (cy : Nat) (Y : List (BitVec 8)) (h16 : Y.length = 16) (hr : takeInV Y = (a, b, c, d, 0)) (hS : Sl q 64 [(1, .slice Ay Y.length cy), (2, .pointer (some ⟨g2, 0, none⟩)), (4, .bool false), (8, .pointer (some ⟨g8, 0, none⟩)), (9, .int .i64 0)]) (w : World) (I : IVar w g8 a b c d) (hs : SliceAt w 1 (.slice Ay Y.length cy) Y.length (u8s Y)) :
    wpAnyH Tryd.prog .any (swap opsF10 11) (nrm fun a' w' => Sl a' 64 [(61, .bool true)] ∧ Below w.heap.size w w') (fun w' => SliceAt w' 1 (.slice Ay Y.length cy) Y.length (u8s Y) ∧ IVar w' g8 a b c d) 14 (Array.replicate 14 false) q { w with drawn := w.drawn + 1 } := by
  obtain ⟨j, rfl, hj⟩ := hS.lit64
  have h1 : j 1 = .slice Ay Y.length cy := hj (1, _) (by simp)
  have h2 : j 2 = .pointer (some ⟨g2, 0, none⟩) := hj (2, _) (by simp)
  have h4 : j 4 = .bool false := hj (4, _) (by simp)
  have h8 : j 8 = .pointer (some ⟨g8, 0, none⟩) := hj (8, _) (by simp)
  have h9 : j 9 = .int .i64 0 := hj (9, _) (by simp)
  clear hj hS
  unfold opsF10 rgF bodyF
  simp only [Tryd.f7, Option.getD_some, nthSeq, lit64, List.cons_append, List.nil_append, h1, h2, h4, h8, h9]
  simp only [swap, List.take_succ_cons, List.take_zero, List.drop_succ_cons, List.drop_zero, List.map_cons, List.map_nil, hush, List.cons_append, List.nil_append]
  have Bb : Below w.heap.size w w.drew := (Below.refl _ w).drew
  have I0 := I.later Bb
  have S0 := hs.later Bb
  have hHeld : SliceAt w.drew 1 (.slice Ay Y.length cy) Y.length (u8s Y) ∧ IVar w.drew g8 a b c d := ⟨S0, I0⟩
  change wpAnyH _ _ _ _ _ _ _ _ w.drew
  clear hs I h16
  generalize w.drew = V at *
  refine Node.tk 0 ?_ rfl ?_ ?_
  rotate_left
  · intro w hSw; (try dsimp only at hSw); go_simp; try with_reducible rfl
  simp only [zA, zS, zZ, Act.put, zP, zQ, zR]
  refine Node.tk 1 ?_ rfl ?_ ?_
  rotate_left
  · intro w hSw; (try dsimp only at hSw); go_simp; try with_reducible rfl
  simp only [zA, zS, zZ, Act.put, zP, zQ, zR]
  refine Node.tk 2 ?_ rfl ?_ ?_
  rotate_left
  · intro w hSw; (try dsimp only at hSw); go_simp; try with_reducible rfl
  simp only [zA, zS, zZ, Act.put, zP, zQ, zR]
  refine Node.tk 6 ?_ rfl ?_ ?_
  rotate_left
  · intro w hSw; (try dsimp only at hSw); go_simp; try with_reducible rfl
  simp only [zA, zS, zZ, Act.put, zP, zQ, zR]
  refine Node.tk 7 (.string (strOf Y)) rfl (fun _ hSw => run_cv hSw.1 rfl rfl) ?_
  simp only [zA, zS, zZ, Act.put, zP, zQ, zR]
  refine Node.tk 3 (inv a b c d) rfl (fun _ hSw => run_inv hSw.2 rfl rfl) ?_
  simp only [zA, zS, zZ, Act.put, zP, zQ, zR]
  refine Node.on 4 rfl (fun K hK => ?_)
  refine Node.wp_fn 27 [.tmp 54] _ [inv a b c d] (by rfl) (by rfl) (enters Tryd.func27 (by kernel_rfl) rfl) (PutIn_c a b c d V) ?_
  rintro e V' ⟨b', A, c', X, rfl, hsX, hH⟩
  refine ⟨_, rfl, ?_⟩
  have hXY := put_take hH hr
  subst hXY
  replace Bb := below_step Bb b'
  replace I0 := I0.later b'
  replace S0 := S0.later b'
  clear b'
  generalize V' = V at *
  refine hK.out _ _ ⟨S0, I0⟩ (fun hHeld => ?_)
  clear hK K
  try simp only [zA, zS, zZ, Act.put, zP, zQ, zR]
  refine Node.on 5 rfl (fun K hK => ?_)
  refine Node.wp_val _ (run_cv hsX rfl rfl) ?_
  refine hK.out _ _ ⟨S0, I0⟩ (fun hHeld => ?_)
  clear hK K
  try simp only [zA, zS, zZ, Act.put, zP, zQ, zR]
  refine Node.tk 8 ?_ rfl ?_ ?_
  rotate_left
  · intro w hSw; (try dsimp only at hSw); go_simp; try with_reducible rfl
  simp only [zA, zS, zZ, Act.put, zP, zQ, zR]
  refine Node.tk 9 ?_ rfl ?_ ?_
  rotate_left
  · intro w hSw; (try dsimp only at hSw); go_simp; try with_reducible rfl
  simp only [zA, zS, zZ, Act.put, zP, zQ, zR]
  refine Node.tk 10 ?_ rfl ?_ ?_
  rotate_left
  · intro w hSw; (try dsimp only at hSw); go_simp; try with_reducible rfl
  simp only [zA, zS, zZ, Act.put, zP, zQ, zR]
  refine Node.tk 11 ?_ rfl ?_ ?_
  rotate_left
  · intro w hSw; (try dsimp only at hSw); go_simp; try with_reducible rfl
  simp only [zA, zS, zZ, Act.put, zP, zQ, zR]
  refine Node.tk 12 ?_ rfl ?_ ?_
  rotate_left
  · intro w hSw; (try dsimp only at hSw); go_simp; try with_reducible rfl
  simp only [zA, zS, zZ, Act.put, zP, zQ, zR]
  refine Node.tk 13 ?_ rfl ?_ ?_
  rotate_left
  · intro w hSw; (try dsimp only at hSw); go_simp; try with_reducible rfl
  simp only [zA, zS, zZ, Act.put, zP, zQ, zR]
  refine wpAnyH_done (by kernel_rfl) ?_ _
  exact ⟨⟨rfl, rfl, by simp⟩, Bb⟩
end Go.Proofs.YtlanlkpamnoekaaDoor
namespace Go.Proofs.YtlanlkpamnoekaaDoor
open Go Go.RowKit Rf Mem Bv Crc Str Lk Bits
set_option maxRecDepth 100000
namespace Lk
open Go.Conc
theorem enterF (a b c d : U32) (Ay : Option Addr) (cy : Nat) (Y : List (BitVec 8)) : Frame.enter Tryd.prog 7 #[inv a b c d, .slice Ay Y.length cy] .normal = (base 7).at ⟨#[inv a b c d, .slice Ay Y.length cy] ++ Array.replicate 62 undef, []⟩ [.code bodyF] := by
  rw [enter_at (c := bodyF) _ Tryd.func7 rfl, Tryd.ntmps7]
  rfl
theorem takeInV_er (Y : List (BitVec 8)) : ∃ a b c d, takeInV Y = (a, b, c, d, if Y.length = 16 then 0 else 41) ∧ (Y.length ≠ 16 → a = 0 ∧ b = 0 ∧ c = 0 ∧ d = 0) := by
  unfold takeInV
  split
  · exact ⟨_, _, _, _, rfl, fun h => absurd ‹_› h⟩
  · exact ⟨_, _, _, _, rfl, fun _ => ⟨rfl, rfl, rfl, rfl⟩⟩
/-- LinkFields comes to wakes, alone. -/
theorem fields_wins (a b c d : U32) (Ay : Option Addr) (cy : Nat) (Y : List (BitVec 8)) (G : World) (hT : Tops G) (hs : SliceAt G 1 (.slice Ay Y.length cy) Y.length (u8s Y)) : Wins Tryd.prog (AtWakes 7 4 G) (Frame.enter Tryd.prog 7 #[inv a b c d, .slice Ay Y.length cy] .normal) [] G := by
  rw [enterF, bodyF_eq]
  refine Wins.seq (Wins.wp (lf0 _ a b c d Ay cy Y ⟨rfl, by simp, by simp⟩ G) fun a0 W0 ⟨g2, t0, i0, b0⟩ => ?_)
  have hT0 := hT.below b0
  have hs0 := hs.later b0
  refine Wins.seq ?_
  rw [rgF1_eq]
  obtain ⟨t, ht⟩ : ∃ t, t = decide (200 < (Y.length : Int)) := ⟨_, rfl⟩
  refine Wins.seq (Wins.wp (lf1 a0 g2 Ay cy Y t ht t0 W0) fun a1 W1 ⟨t1, e1⟩ => ?_)
  subst e1
  have e12 : a1.tmps[12]? = some (.bool t) := t1.get (by simp)
  refine Wins.cond t (by simp [Act.eval, e12]) ?_
  cases t with
  | true =>
    refine Wins.seq (Wins.region ?_)
    rw [sizeF2]
    obtain ⟨o, ho, hg, hop⟩ : ∃ o, opsF2[0]? = some o ∧ o.guard = none ∧ o.op = .call { callee := .value (.func 10), args := #[], argTypes := #[] } := ⟨_, rfl, rfl, rfl⟩
    refine wins_wakes ho (wanted_none hg) hop (AtWakes.mk ?_ hT0 b0)
    obtain ⟨o2, ho2, hop2, hd2, hg2⟩ : ∃ o, opsF2[1]? = some o ∧ o.op = .assign (.tmp 13) ∧ o.dst = some 4 ∧ o.guard = none := ⟨_, rfl, rfl, rfl, rfl⟩
    exact cont_two rfl ho2 hop2 hd2 hg2 t1.defers (by rw [t1.size]; omega) (by rw [t1.size]; omega)
  | false =>
    have hl : Y.length ≤ 200 := by
      have := ht.symm
      simp at this
      omega
    refine Wins.skip ?_
    refine Wins.seq (Wins.wp (lf3 a1 g2 a b c d Ay cy Y (t1.sub (by simp)) W1 i0) fun a2 W2 ⟨Ap, cp, X, t2, sX, hX, hH, b2⟩ => ?_)
    have B2 := below_step b0 b2
    refine Wins.seq (Wins.wp (lf4 a2 g2 Ap cp X a b c d Ay cy Y t2 W2 sX hX hH) fun a3 W3 ⟨g6, t3, i6, b3⟩ => ?_)
    have B3 := below_step B2 b3
    have i3 := (i0.later b2).later b3
    refine Wins.seq ?_
    rw [rgF4_eq]
    refine Wins.seq (Wins.wp (lf5 a3 g2 g6 Ap cp a b c d Ay cy Y t3 W3 i3 i6) fun a4 W4 ⟨t4, e4⟩ => ?_)
    subst e4
    have e32 : a4.tmps[32]? = some (.bool false) := t4.get (by simp)
    refine Wins.cond false (by simp [Act.eval, e32]) (Wins.skip ?_)
    obtain ⟨ya, yb, yc, yd, hr, hz⟩ := takeInV_er Y
    have hs4 := hs.later B3
    refine Wins.seq (Wins.wp (lf7 a4 g2 ya yb yc yd Ay cy Y _ hl hr (t4.sub (by simp)) W4 hs4) fun a5 W5 ⟨g8, t5, i8, b5⟩ => ?_)
    have B5 := below_step B3 b5
    have hT5 := hT.below B5
    have hs5 := hs.later B5
    refine Wins.seq ?_
    rw [rgF6_eq]
    obtain ⟨u, hu⟩ : ∃ u, u = ((Y.length : Int) != 16) := ⟨_, rfl⟩
    refine Wins.seq (Wins.wp (lf8 a5 g2 g8 Ay cy Y _ u hu t5 W5) fun a6 W6 ⟨t6, e6⟩ => ?_)
    subst e6
    have e40 : a6.tmps[40]? = some (.bool u) := t6.get (by simp)
    refine Wins.cond u (by simp [Act.eval, e40]) ?_
    cases u with
    | true =>
      have h16 : Y.length ≠ 16 := by
        have := hu.symm
        simp at this
        omega
      obtain ⟨rfl, rfl, rfl, rfl⟩ := hz h16
      rw [if_neg h16] at t6
      refine Wins.seq (Wins.region (Wins.ops _ [8, 9, 10] sizeF9 (lf9a a6 g2 g8 Ay cy Y (t6.sub (by simp)) W6 i8) fun a7 W7 ⟨t7, e7⟩ => ?_))
      subst e7
      obtain ⟨o, ho, hg, hop⟩ : ∃ o, opsF9[8]? = some o ∧ o.guard = some (7, true) ∧ o.op = .call { callee := .value (.func 10), args := #[], argTypes := #[] } := ⟨_, rfl, rfl, rfl⟩
      refine wins_wakes ho (wanted_some (d := 48) hg rfl (t7.get (by simp))) hop (AtWakes.mk ?_ hT5 B5)
      exact cont_of (d := 49) rfl fun w => lf9b _ ((t7.put 49 (.bool true) (by omega) (by simp)).sub (by simp)) w
    | false =>
      have h16 : Y.length = 16 := by
        have := hu.symm
        simp at this
        omega
      rw [if_pos h16] at t6 hr
      refine Wins.skip (Wins.seq ?_)
      rw [rgF7_eq]
      obtain ⟨H, hg⟩ := shape_of shapeF10
      have hf : 14 = opsF10.size := by kernel_rfl
      have hL : Array.replicate 14 false = Array.replicate opsF10.size false := by rw [← hf]
      refine Wins.drawn H hg (by kernel_rfl) hf hL (lf10 a6 g2 g8 ya yb yc yd Ay cy Y h16 hr (t6.sub (by simp)) W6 i8 hs5) fun a7 W7 ⟨t7, b7⟩ => ?_
      have B7 := below_step B5 b7
      have hT7 := hT.below B7
      have hl2 : List.range' 11 (opsF10.size - 11) = [11, 12, 13] := by kernel_rfl
      rw [hl2]
      obtain ⟨o, ho, hgd, hop⟩ : ∃ o, opsF10[11]? = some o ∧ o.guard = some (10, true) ∧ o.op = .call { callee := .value (.func 10), args := #[], argTypes := #[] } := ⟨_, rfl, rfl, rfl⟩
      refine wins_wakes ho (wanted_some (d := 61) hgd rfl (t7.get (by simp))) hop (AtWakes.mk ?_ hT7 B7)
      exact cont_of (d := 62) rfl fun w => lf10b _ ((t7.put 62 (.bool true) (by omega) (by simp)).sub (by simp)) w

/-- ████ LinkFields in company. ████ -/
theorem fields_runs (a b c d : U32) (Ay : Option Addr) (cy : Nat) (Y : List (BitVec 8)) (A : World) (hT : Tops A) (hs : SliceAt A 1 (.slice Ay Y.length cy) Y.length (u8s Y)) (m : Machine) (t : Trace) (h : St (QL Tryd.prog) (Frame.enter Tryd.prog 7 #[inv a b c d, .slice Ay Y.length cy] .normal) [] A m t) :
    Run Tryd.prog m t (To (QL Tryd.prog) fun f' cs' A' => cs' = [] ∧ DoneF 7 4 f' ∧ Below A.heap.size A A') := by
  refine wakes_run (NF.enter (fit (fun _ => False)).nice (by decide) _) (fun τ k => ?_) h
  have hTG := (Sees.down A).tops hT
  have hsG := (Sees.heap (A := scrub (Zset (fun _ => False) A) A) (G := re (scrub (Zset (fun _ => False) A) A) τ k) rfl).sl ((Sees.down A).sl hs)
  refine Wins.mono (fields_wins a b c d Ay cy Y (re (scrub (Zset (fun _ => False) A) A) τ k) ⟨hTG.c0, hTG.c1, hTG.sz⟩ hsG) fun _ _ _ h => h.blind
end Lk
end Go.Proofs.YtlanlkpamnoekaaDoor
namespace Go.Proofs.YtlanlkpamnoekaaDoor
open Go.RowKit Rf Mem Go.ChangeAt
theorem tops_of_laid {W : World} (h : laidMetH Tryd.prog [("lockbar/tick.tops", Rows.laid_lockbar_tick_tops)] W) : Tops W := by
  have hg : Tryd.prog.globalNamed "lockbar/tick.tops" = some 0 := by kernel_rfl
  have t : Lib.TabIs Tryd.prog W "lockbar/tick.tops" .i64 [1073741824, 65535] := Lib.tabIs_of_head (rest := []) hg (t := 116) (by kernel_rfl) Tryd.underlying116 Tryd.underlying3 (by kernel_rfl) (by kernel_rfl) h
  have c0 := t.cell hg 0 (by decide)
  refine ⟨c0, t.cell hg 1 (by decide), ?_⟩
  unfold World.cell? at c0
  cases ho : W.heap[0]? with
  | none => simp [ho] at c0
  | some o => exact (Array.getElem?_eq_some_iff.1 ho).1
theorem byte_of {n : Int} (h : (Lit.int .u8 n).wf = true) : ∃ b : BitVec 8, n = (b.toNat : Int) := by
  have := bounds_u8 h
  exact ⟨BitVec.ofNat 8 n.toNat, by rw [BitVec.toNat_ofNat, Nat.mod_eq_of_lt (by omega)]; omega⟩
end Go.Proofs.YtlanlkpamnoekaaDoor
