/- Contracts of functions and words for memory. Nothing that was there is turned. -/
import Derived.Test.YtlanlkpamnoekaaDoorZD00
import Derived.Deep.RegionHeld
import Derived.OrdersIn
import Derived.BigFrameIn
import Derived.Deep.RegionWith
set_option linter.unusedSimpArgs false
set_option linter.unusedVariables false
namespace Go.Proofs.YtlanlkpamnoekaaDoor
open Go.RowKit Rf Mem Bv Crc Str
set_option maxRecDepth 100000
attribute [local go_sem ↓] run_max2 run_min2
theorem below_dN {n : Nat} {a w : World} (h : Below n a w) (m : Nat) : Below n a (w.drewN m) := ⟨h.os, h.tape, h.output, h.size, h.block⟩
/-- a link: its number, its ticks of quiet, its errors -/
abbrev lk (s q e : Int) : Value := .agg #[.int .i64 s, .int .i64 q, .int .i64 e]
/-- may a link be so? -/
def rightL (s q e : Int) : Bool := decide (-1 ≤ s ∧ s < 256) && decide (q = clamp q 65535) && decide (e = clamp e 65535)
/-- block g holds a link -/
structure LVar (W : World) (g : Nat) (s q e : Int) : Prop where
  at_ : W.heap[g]? = some (.cells #[.int .i64 s, .int .i64 q, .int .i64 e] 31 (0, 0))
theorem LVar.later {W W' : World} {g : Nat} {s q e : Int} (h : LVar W g s q e) (hb : Below W.heap.size W W') : LVar W' g s q e := ⟨below_at hb h.at_ (Array.getElem?_eq_some_iff.1 h.at_).1⟩
theorem LVar.c0 {W : World} {g : Nat} {s q e : Int} (h : LVar W g s q e) : W.cell? ⟨g, 0, none⟩ = some (.int .i64 s) := by rw [cell_at h.at_]; rfl
theorem LVar.c1 {W : World} {g : Nat} {s q e : Int} (h : LVar W g s q e) : W.cell? ⟨g, 1, none⟩ = some (.int .i64 q) := by rw [cell_at h.at_]; rfl
theorem LVar.c2 {W : World} {g : Nat} {s q e : Int} (h : LVar W g s q e) : W.cell? ⟨g, 2, none⟩ = some (.int .i64 e) := by rw [cell_at h.at_]; rfl
theorem LVar.new (W : World) (s q e : Int) : LVar (W.alloc (.cells #[.int .i64 s, .int .i64 q, .int .i64 e] 31)) W.heap.size s q e := ⟨new_at rfl _⟩

theorem link_Right_c (s q e : Int) (w : World) (r : Bool) (hr : r = rightL s q e) (hT : Tops w) : Calls Tryd.prog 21 #[lk s q e] w fun x w' => x = .returned (.bool r) ∧ Below w.heap.size w w' := by
  have hB := below_new w (.cells #[.int .i64 s, .int .i64 q, .int .i64 e] 31)
  have V := LVar.new w s q e
  have x0 := V.c0
  have x1 := V.c1
  have x2 := V.c2
  have hT1 := hT.below hB
  have hC1 : ∀ W, Tops W → Calls Tryd.prog 42 #[.int .i64 q] W fun e w' => e = .returned (.int .i64 (clamp q 65535)) ∧ w' = W := fun W h => (Count_c q W h).mono fun _ _ h => ⟨h.1, h.2.symm⟩
  have hC2 : ∀ W, Tops W → Calls Tryd.prog 42 #[.int .i64 e] W fun e' w' => e' = .returned (.int .i64 (clamp e 65535)) ∧ w' = W := fun W h => (Count_c e W h).mono fun _ _ h => ⟨h.1, h.2.symm⟩
  have hr' : r = (decide (-1 ≤ s) && decide (s < 256) && (q == clamp q 65535) && (e == clamp e 65535)) := by
    rw [hr, rightL, Bool.decide_and]; rfl
  clear hr
  generalize clamp q 65535 = cq at *
  generalize clamp e 65535 = ce at *
  generalize ha : decide (-1 ≤ s) = a at *
  generalize hb : decide (s < 256) = b at *
  generalize hc : (q == cq) = c at *
  generalize hd : (e == ce) = d at *
  go_enter Tryd.func21, Tryd.ntmps21
  go_wp2_with fail
  rcases a with _ | _
  · simp only [Bool.false_and] at hr'
    subst hr'
    go_quiet (fail)
    go_wp2
    go_ret
    exact ⟨rfl, below_dN hB _⟩
  rcases b with _ | _
  · simp only [Bool.false_and, Bool.and_false] at hr'
    subst hr'
    go_quiet (fail)
    go_wp2
    go_ret
    exact ⟨rfl, below_dN hB _⟩
  rcases c with _ | _
  · simp only [Bool.false_and, Bool.and_false] at hr'
    subst hr'
    go_quiet ((go_at_call 42; first | exact Calls.quiet_of_same (hC1 _ (hT1.below (below_dN (Below.refl _ _) _))) | exact Calls.quiet_of_same (hC2 _ (hT1.below (below_dN (Below.refl _ _) _)))))
    go_wp2
    go_ret
    exact ⟨rfl, below_dN hB _⟩
  simp only [Bool.true_and, Bool.and_true] at hr'
  subst hr'
  go_quiet ((go_at_call 42; first | exact Calls.quiet_of_same (hC1 _ (hT1.below (below_dN (Below.refl _ _) _))) | exact Calls.quiet_of_same (hC2 _ (hT1.below (below_dN (Below.refl _ _) _)))))
  go_wp2
  go_ret
  exact ⟨rfl, below_dN hB _⟩
end Go.Proofs.YtlanlkpamnoekaaDoor
namespace Go.Proofs.YtlanlkpamnoekaaDoor.Node
open Go.RowKit Rf
section
variable {P : Program} {w w' : World} {o : Oper} {a : Act} {K : Act → World → Prop} {Q : Exit → Act → World → Prop}
theorem wp_val (v : Value) (h0 : (execOp a.eval o).run P w = .ok (.value v) w') (h : K (a.put o.dst v) w') : o.wp P a w K Q := by
  unfold Oper.wp; rw [h0]; exact h
/-- a move or an assignment -/
theorem wp_set (v : Value) (x : Operand) (ho : o.op = .move x ∨ o.op = .assign x) (hx : a.eval x = v) (h : K (a.put o.dst v) w) : o.wp P a w K Q := by
  refine wp_val v ?_ h
  unfold execOp
  rcases ho with ho | ho <;> simp [ho, hx]
theorem wp_fn (f : FuncId) (xs : List Operand) (ts : Array TypeId) (vs : List Value) {R : Ending → World → Prop} (ho : o.op = .call { callee := .value (.func f), args := xs.toArray, argTypes := ts }) (hv : xs.map a.eval = vs)
    (he : ∀ args w, (callFunc f args).run P w = .ok (.enter f args) w) (hc : Calls P f vs.toArray w R) (h : ∀ e w', R e w' → ∃ v, e = .returned v ∧ K (a.put o.dst v) w') : o.wp P a w K Q := by
  have hr : (execOp a.eval o).run P w = .ok (.enter f vs.toArray) w := by
    unfold execOp
    simp [ho, resolve, invoke, Act.eval, hv, he, Deferred.ofValue]
  unfold Oper.wp
  rw [hr, Oper.upon_enter]
  refine Calls.mono hc fun e w'' hR => ?_
  obtain ⟨v, rfl, hK⟩ := h e w'' hR
  exact hK
theorem wp_new (T : TypeId) (z : Value) (zs : Array Value) (hi : (P.info? T).map (·.zero) = some (some z)) (hz : z.cells = zs) (ho : o.op = .alloc T) (h : K (a.put o.dst (.pointer (some ⟨w.heap.size, 0, none⟩))) (w.alloc (.cells zs T))) : o.wp P a w K Q := by
  subst hz
  refine wp_val _ ?_ h
  obtain ⟨i, h1, h2⟩ := Option.map_eq_some_iff.1 hi
  unfold execOp
  simp [ho, Instr.alloc, go_sem, h1, h2, zeroValue, typeInfo]
theorem wp_bs (t : TypeId) (n : Nat) (ps : List (Nat × Operand)) (vs : List (Nat × Value)) (v : Value) (ho : o.op = .buildSlice t n ps.toArray) (hp : ps.map (fun p => (p.1, a.eval p.2)) = vs) (hr : (Instr.buildSlice t n vs.toArray).run P w = .ok v w') (h : K (a.put o.dst v) w') : o.wp P a w K Q := by
  refine wp_val v ?_ h
  subst hp
  unfold execOp
  simp [ho, hr]
end
section
variable {P : Program} {ops : Array Oper} {Q : Exit → Act → World → Prop} {md : Region.Mode} {S : World → Prop} {o : Oper} {fuel : Nat} {listed : Array Bool} {a : Act} {w : World}
/-- number 'i' is taken first -/
theorem tk (i : Nat) (v : Value) (hi : ops[i]? = some o) (hy : ∀ w, S w → (execOp a.eval o).run P w = .ok (.value v) w) (h : wpAnyH P md ops Q S fuel (listed.setIfInBounds i true) (a.put o.dst v) w)
    (hg : Region.wanted o (yielded ops a.tmps) = true := by kernel_rfl) (hs : Region.noSelect ops = true := by kernel_rfl) (hf : Region.free md ops listed i = true := by kernel_rfl)
    (hr : (Region.ready md ops listed).contains i = true := by kernel_rfl) (hQ : ∀ c a w, Q (.panic c) (a.put o.dst v) w → Q (.panic c) a w := by exact fun _ _ _ h => h) (hS : S w := by assumption) :
    wpAnyH P md ops Q S (fuel + 1) listed a w := wpAnyH_take hi hs hf hr hQ (Or.inl ⟨hg, hy⟩) hS h
/-- number 'i', whose guard is false -/
theorem sk (i : Nat) (hi : ops[i]? = some o) (h : wpAnyH P md ops Q S fuel (listed.setIfInBounds i true) (a.put o.dst undef) w)
    (hg : Region.wanted o (yielded ops a.tmps) = false := by kernel_rfl) (hs : Region.noSelect ops = true := by kernel_rfl) (hf : Region.free md ops listed i = true := by kernel_rfl)
    (hr : (Region.ready md ops listed).contains i = true := by kernel_rfl) (hQ : ∀ c a w, Q (.panic c) (a.put o.dst undef) w → Q (.panic c) a w := by exact fun _ _ _ h => h) (hS : S w := by assumption) :
    wpAnyH P md ops Q S (fuel + 1) listed a w := wpAnyH_take hi hs hf hr hQ (Or.inr ⟨hg, rfl⟩) hS h
/-- number 'i' alone may come up -/
theorem on (i : Nat) (hi : ops[i]? = some o)
    (h : ∀ K' : Act → World → Prop, Shut (∀ a w, S w → (S w → wpAnyH P md ops Q S fuel (listed.setIfInBounds i true) a w) → K' a w) → if Region.wanted o (yielded ops a.tmps) = true then Oper.wp P o a w K' Q else K' (a.put o.dst undef) w)
    (hr : Region.ready md ops listed = [i] := by kernel_rfl) : wpAnyH P md ops Q S (fuel + 1) listed a w := wpAnyH_ready hr (by simp) (AllReadyH.cons hi h AllReadyH.nil)
end
section
variable {P : Program} {ops : Array Oper} {Q : Exit → Act → World → Prop} {S : World → Prop} {a : Act} {w : World} {id : Nat}
theorem region_key (S : World → Prop) (fuel : Nat) (E : Array Bool) (J : Act → World → Prop) (hk : ∀ a w, S w → J a w → wpAnyH P .any ops Q S fuel E a w)
    (h : (∀ a w, S w → J a w → wpAnyH P .any ops Q S fuel E a w) → (Code.region id ops true).wp P Q a w) : (Code.region id ops true).wp P Q a w := h hk
end
end Go.Proofs.YtlanlkpamnoekaaDoor.Node
namespace Go.Proofs.YtlanlkpamnoekaaDoor
open Go.RowKit Rf Mem Bv Crc Str
attribute [local go_sem ↓] run_max2 run_min2
theorem own_set {w : World} {base e sz n : Nat} {v : Value} {xs : List Value} (h : w.ownsRow base e sz v n xs) {p : Addr} (hp : p.block < base) (u : Value) : (w.setCell p u).ownsRow base e sz v n xs :=
  own_later h (fun g hg => Below.heap_setCell w p u g (by have := (own_base h hg).1; omega))
theorem ret_bool {a b : Bool} (h : a = b) : Ending.returned (.bool a) = .returned (.bool b) := by rw [h]
def newer (n was : Int) : Bool := decide (0 < (n - was) % 256 ∧ (n - was) % 256 < 128)
theorem i8_pos (x : Int) (h0 : 0 ≤ x) (h1 : x < 256) : 0 < IntKind.i8.wrap x ↔ 0 < x ∧ x < 128 := by
  simp [IntKind.wrap, IntKind.signed, IntKind.bits]
  split <;> omega
theorem Newer_c (n was : Int) (w : World) (h1 : 0 ≤ n) (h2 : n < 256) (h3 : 0 ≤ was) (h4 : was < 256) : Calls Tryd.prog 33 #[.int .u8 n, .int .u8 was] w fun e w' => e = .returned (.bool (newer n was)) ∧ w = w' := by
  go_enter Tryd.func33, Tryd.ntmps33
  go_wp2
  go_ret
  refine ⟨ret_bool ?_, rfl⟩
  unfold newer
  rw [Bool.eq_iff_iff, decide_eq_true_eq, decide_eq_true_eq]
  exact i8_pos _ (by omega) (by omega)
theorem refNewer_c (n was : Int) (w : World) (h1 : 0 ≤ n) (h2 : n < 256) (h3 : 0 ≤ was) (h4 : was < 256) : Calls Tryd.prog 30 #[.int .u8 n, .int .u8 was] w fun e w' => e = .returned (.bool (newer n was)) ∧ w = w' := by
  obtain ⟨d, hd⟩ : ∃ d, n - was = d := ⟨_, rfl⟩
  have hd1 : -256 < d := by omega
  have hd2 : d < 256 := by omega
  unfold newer
  rw [hd]
  have hcase : (decide (1 ≤ d % 256) = false ∧ false = decide (0 < d % 256 ∧ d % 256 < 128)) ∨ (decide (1 ≤ d % 256) = true ∧ decide (d % 256 ≤ 127) = decide (0 < d % 256 ∧ d % 256 < 128)) := by
    by_cases h : 1 ≤ d % 256
    · refine .inr ⟨decide_eq_true h, ?_⟩
      rw [Bool.eq_iff_iff, decide_eq_true_eq, decide_eq_true_eq]; omega
    · exact .inl ⟨decide_eq_false h, (decide_eq_false (by omega)).symm⟩
  rcases hcase with ⟨q1, q2⟩ | ⟨q1, q2⟩
  all_goals
    have Q2 := Lib.hid q2
    clear q2
    go_enter Tryd.func30, Tryd.ntmps30
    go_wp2
    go_ret
    exact ⟨ret_bool Q2.out, rfl⟩
/-- frames of the same kind, number, payload -/
def sameF (k1 s1 : Int) (p1 : List (BitVec 8)) (k2 s2 : Int) (p2 : List (BitVec 8)) : Bool := (k1 == k2) && ((s1 == s2) && decide (p1 = p2))
theorem sameF_refl (k s : Int) (p : List (BitVec 8)) : sameF k s p k s p = true := by unfold sameF; simp
theorem below_two (w : World) (o o2 : Obj) : Below w.heap.size w ((w.alloc o).alloc o2) := below_step (below_new w o) (below_new _ _)
set_option maxHeartbeats 1000000 in
set_option maxRecDepth 100000 in
theorem refSame_c (k1 s1 k2 s2 : Int) (v u : Value) (p1 p2 : List (BitVec 8)) (w : World) (ha : SliceAt w 1 v p1.length (u8s p1)) (hb : SliceAt w 1 u p2.length (u8s p2)) :
    Calls Tryd.prog 13 #[fv k1 s1 v, fv k2 s2 u] w fun e w' => e = .returned (.bool (sameF k1 s1 p1 k2 s2 p2)) ∧ Below w.heap.size w w' := by
  have hB := below_two w (.cells #[.int .u8 k1, .int .u8 s1, v] 41) (.cells #[.int .u8 k2, .int .u8 s2, u] 41)
  have ha' := ha.later hB
  have hb' := hb.later hB
  have c1 := conv_str (P := Tryd.prog) (dst := 9) ha' Tryd.underlying36 Tryd.underlying5 Tryd.underlying9
  have c2 := conv_str (P := Tryd.prog) (dst := 9) hb' Tryd.underlying36 Tryd.underlying5 Tryd.underlying9
  have c3 := str_beq p1 p2
  obtain ⟨Ax, c, rfl, _⟩ := ha.form
  obtain ⟨Bx, d, rfl, _⟩ := hb.form
  clear ha hb
  unfold sameF
  rcases q1 : (k1 == k2) with _ | _
  · go_enter Tryd.func13, Tryd.ntmps13
    go_wp2
    go_ret
    exact ⟨rfl, hB⟩
  · rcases q2 : (s1 == s2) with _ | _
    · go_enter Tryd.func13, Tryd.ntmps13
      go_wp2
      go_ret
      exact ⟨rfl, hB⟩
    · go_enter Tryd.func13, Tryd.ntmps13
      go_wp2
      go_ret
      exact ⟨rfl, hB⟩
end Go.Proofs.YtlanlkpamnoekaaDoor
namespace Go.Proofs.YtlanlkpamnoekaaDoor
open Go.RowKit Rf Mem Bv Crc Str
attribute [local go_sem ↓] run_max2 run_min2
attribute [local go_sem] Oper.semAt_some
/-- a frame's bytes but for its sum -/
def hb (k s : BitVec 8) (p : List (BitVec 8)) : List (BitVec 8) := k :: s :: BitVec.ofNat 8 p.length :: p
def byteList (l : List (BitVec 8)) : List (Array Value) := l.map fun b => #[.int .u8 (b.toNat : Int)]
/-- the block that a slice lies in -/
def vblock : Value → Option Nat
  | .slice (some a) _ _ => some a.block
  | _ => none
/-- block q holds elements of the slice v, of n -/
def VB (v : Value) (n q : Nat) : Prop := 0 < n ∧ vblock v = some q
theorem slice_keep {S : Nat → Prop} {W W' : World} {sz n : Nat} {v : Value} {cs : List Value} (h : SliceAt W sz v n cs) (hk : Keep S W W') (hS : ∀ q, VB v n q → S q) : SliceAt W' sz v n cs := by
  obtain ⟨A, c, rfl, h1, h2, h3, h4⟩ := h
  refine ⟨A, c, rfl, h1, h2, h3, ?_⟩
  rcases Nat.eq_zero_or_pos n with h0 | h0
  · exact .inl h0
  rcases h4 with h4 | ⟨b, off, rfl, hlt, hc⟩
  · exact .inl h4
  · exact .inr ⟨b, off, rfl, Nat.lt_of_lt_of_le hlt hk.size, fun i u hu => (World.cell?_of_block (a := ⟨b, off + i, none⟩) (hk.block b hlt (hS b ⟨h0, rfl⟩))).trans (hc i u hu)⟩
theorem vblock_lt {W : World} {sz n : Nat} {v : Value} {cs : List Value} (h : SliceAt W sz v n cs) {q : Nat} (hq : VB v n q) : q < W.heap.size := by
  obtain ⟨hn, hq⟩ := hq
  obtain ⟨b, off, c, rfl, _, _, hlt, _⟩ := h.pos hn
  cases hq; exact hlt
theorem FVar.keep {S : Nat → Prop} {W W' : World} {g : Nat} {k s : Int} {v : Value} {p : List (BitVec 8)} (h : FVar W g k s v p) (hk : Keep S W W') (hg : S g) (hS : ∀ q, VB v p.length q → S q) : FVar W' g k s v p :=
  ⟨hk.at_ h.at_ hg, slice_keep h.sl hk hS⟩
theorem not_later {O O' : Nat → Prop} {W : World} {q : Nat} (h : ¬ O q) (hq : q < W.heap.size) (ho : ∀ k, O' k → O k ∨ W.heap.size ≤ k) : ¬ O' q := fun hO => by
  rcases ho q hO with h1 | h1
  · exact h h1
  · omega
end Go.Proofs.YtlanlkpamnoekaaDoor
namespace Go.Proofs.YtlanlkpamnoekaaDoor
open Go.RowKit Rf Mem Bv Crc Str
attribute [local go_sem ↓] run_max2 run_min2
attribute [local go_sem] Oper.semAt_some
/-- block g holds a slice of the bytes l, in a row that the call owns; O: these blocks -/
def BAcc (base g : Nat) (O : Nat → Prop) (w : World) (l : List (BitVec 8)) : Prop :=
  ∃ v, w.heap[g]? = some (.cells #[v] 36 (0, 0)) ∧ w.ownsRow base 5 1 v l.length (u8s l) ∧ v.ownBlock ≠ some g ∧ ∀ k, O k ↔ (k = g ∨ v.ownBlock = some k)
theorem bacc_keep {base g : Nat} {O S : Nat → Prop} {W W' : World} {l : List (BitVec 8)} (h : BAcc base g O W l) (hk : Keep S W W') (hS : ∀ k, O k → S k) : BAcc base g O W' l := by
  obtain ⟨v, hg, ho, hne, hO⟩ := h
  exact ⟨v, hk.at_ hg (hS g ((hO g).2 (.inl rfl))), own_later ho (fun k hk' => hk.block k (own_base ho hk').2 (hS k ((hO k).2 (.inr hk')))), hne, hO⟩
theorem res_put {fn : Func} {t u : Tmp} (hf : fn.results = #[.cell t 36, .tmp u]) {tmps : Array Value} {W : World} {g : Nat} {x : Value} {f : Nat × Nat} (hs : tmps.getD t undef = .pointer (some ⟨g, 0, none⟩)) (hg : W.heap[g]? = some (.cells #[x] 36 f)) :
    (results fn tmps).run Tryd.prog W = .ok (.tuple #[x, tmps.getD u undef]) W := by
  have hs' : tmps[t]?.getD undef = .pointer (some ⟨g, 0, none⟩) := by simpa using hs
  have c0 := cell_at hg 0
  simp only [List.getElem?_toArray, List.getElem?_cons_zero] at c0
  simp [results, hf, hs', asAddr, go_sem, c0]
theorem bodyPostM_put0 {fn : Func} {R : Ending → World → Prop} {t u : Tmp} (hf : fn.results = #[.cell t 36, .tmp u]) {tmps : Array Value} {g : Nat} {W : World} {x : Value} {f : Nat × Nat}
    (hs : tmps.getD t undef = .pointer (some ⟨g, 0, none⟩)) (hg : W.heap[g]? = some (.cells #[x] 36 f)) (h : R (.returned (.tuple #[x, tmps.getD u undef])) W) :
    bodyPostM Fence.wide 0 Tryd.prog fn R .ret { tmps := tmps, defers := [] } W := ⟨_, res_put hf hs hg, h⟩
theorem bodyPostM_put {fn : Func} {R : Ending → World → Prop} {t u : Tmp} (hf : fn.results = #[.cell t 36, .tmp u]) {tmps : Array Value} {D g : Nat} {W : World} {x : Value} {f : Nat × Nat}
    (hD : W.heap[D]? = some (.deferred (some []))) (hs : tmps.getD t undef = .pointer (some ⟨g, 0, none⟩)) (hg : (W.putObj D (.deferred none)).heap[g]? = some (.cells #[x] 36 f))
    (h : R (.returned (.tuple #[x, tmps.getD u undef])) (W.putObj D (.deferred none))) :
    bodyPostM Fence.wide 0 Tryd.prog fn R .ret { tmps := tmps, defers := [{ target := .collected D, args := #[] }] } W := by
  refine ⟨by simp, .inl ⟨_, _, rfl, run_takeDeferred hD, ?_⟩⟩
  exact ⟨_, res_put hf hs hg, h⟩
theorem refPut_bad (k s : Int) (v : Value) (p : List (BitVec 8)) (w : World) (hs : SliceAt w 1 v p.length (u8s p)) (h : rightF k p.length = false) :
    Calls Tryd.prog 49 #[fv k s v] w fun e w' => Below w.heap.size w w' ∧ e = .returned (.tuple #[.slice none 0 0, .int .i64 2]) := by
  have hB := below_new w (.cells #[.int .u8 k, .int .u8 s, v] 41)
  have hs' := hs.later hB
  obtain ⟨A, c, rfl, _⟩ := hs.form
  clear hs
  go_enter Tryd.func49, Tryd.ntmps49
  go_wp2_with fail
  refine (refRight_c k s _ p _ hs').mono ?_
  rintro e w1 ⟨rfl, b1⟩
  rw [h]
  go_wp2
  go_ret2
  exact ⟨below_step hB b1, rfl⟩
set_option maxHeartbeats 1000000 in
set_option maxRecDepth 100000 in
theorem refPut_good (k s : BitVec 8) (v : Value) (p : List (BitVec 8)) (w : World) (hs : SliceAt w 1 v p.length (u8s p)) (h : rightF k.toNat p.length = true) :
    Calls Tryd.prog 49 #[fv k.toNat s.toNat v] w fun e w' => Below w.heap.size w w' ∧
      ∃ v', e = .returned (.tuple #[v', .int .i64 0]) ∧ w'.ownsRow w.heap.size 5 1 v' (Crc.close (hb k s p)).length (u8s (Crc.close (hb k s p))) := by
  obtain ⟨i0, hi, hz0, hz1, hz2⟩ := info_parts info_u8
  have hl : p.length ≤ 59 := by unfold rightF at h; simp at h; exact h.2
  have V := FVar.new (k := k.toNat) (s := s.toNat) hs
  have hB := below_new w (.cells #[.int .u8 (k.toNat : Int), .int .u8 (s.toNat : Int), v] 41)
  obtain ⟨A, c, rfl, _⟩ := hs.form
  have hw8 : IntKind.u8.wrap (p.length : Int) = (p.length : Int) := Bv.wrap_small .u8 rfl (by omega) (by simp [IntKind.bits]; omega)
  clear hs
  go_enter Tryd.func49, Tryd.ntmps49
  go_wp2_with fail
  refine (refRight_c _ _ _ p _ V.sl).mono ?_
  rintro e w1 ⟨rfl, b1⟩
  rw [h]
  replace V := V.later b1
  have x0 := V.c0
  have x1 := V.c1
  have x2 := V.c2
  have hbn := below_new w1 (.cells #[.int .u8 (k.toNat : Int), .int .u8 (s.toNat : Int), .int .u8 (p.length : Int)] 5)
  have x3 := (V.later hbn).c2
  have hsrc := (V.later hbn).sl
  have hown : (w1.alloc (.cells #[.int .u8 (k.toNat : Int), .int .u8 (s.toNat : Int), .int .u8 (p.length : Int)] 5)).ownsRow w1.heap.size 5 1 (.slice (some ⟨w1.heap.size, 0, none⟩) 3 3) 3 [.int .u8 (k.toNat : Int), .int .u8 (s.toNat : Int), .int .u8 (p.length : Int)] :=
    ⟨by simp, .inr ⟨w1.heap.size, 3, _, rfl, Nat.le_refl _, new_at rfl _, by simp, by simp [maxLen], by simp, by simp⟩⟩
  have el : (hb k s p).length = 3 + p.length := by simp [hb]; omega
  have eu : u8s (hb k s p) = [.int .u8 (k.toNat : Int), .int .u8 (s.toNat : Int), .int .u8 (p.length : Int)] ++ u8s p := by
    unfold hb u8s
    rw [List.map_cons, List.map_cons, List.map_cons, BitVec.toNat_ofNat, Nat.mod_eq_of_lt (show p.length < 2 ^ 8 by omega)]; rfl
  have EL := Lib.hid el
  have EU := Lib.hid eu
  have ecl : (Crc.close (hb k s p)).length = (hb k s p).length + 2 := by simp [Crc.close]
  have ECL := Lib.hid ecl
  clear el eu ecl
  go_wp2_with (at_builtin; refine wpList_append_src (by rfl) (.tmp 15) (.tmp 17) _ (by rfl) w1.heap.size 5 i0 _ 1 1 Tryd.underlying36 hi hz0 hz1 hz2 rfl (by omega) (.slice (some ⟨w1.heap.size, 0, none⟩) 3 3) 3 [.int .u8 (k.toNat : Int), .int .u8 (s.toNat : Int), .int .u8 (p.length : Int)] (by rfl) hown (.slice A p.length c) p.length (u8s p) (by rfl) hsrc (u8s_one p) (by simp only [maxLen]; omega) (by omega) (by simp) ?_; intro v1 w2 ho1 hg1 hw1; obtain ⟨A1, k1, rfl, _, _⟩ := (sliceAt_of_own ho1).form)
  have b2 := below_own (hbn) hg1 (by simp) (by intro g hg; cases hg; exact Nat.le_refl _)
  rw [← EU.out, ← EL.out] at ho1
  rw [← EL.out]
  refine (refClose_c _ (hb k s p) _ (sliceAt_of_own ho1) (by rw [EL.out]; omega)).mono ?_
  rintro e w3 ⟨v3, rfl, ho3, b3⟩
  go_wp2
  go_ret2
  rw [ECL.out]
  refine ⟨below_step (below_step (below_step hB b1) b2) b3, v3, rfl, own_base_le ho3 ?_⟩
  have := hB.size; have := b1.size; have := b2.size; omega
end Go.Proofs.YtlanlkpamnoekaaDoor
namespace Go.Proofs.YtlanlkpamnoekaaDoor
open List renaming getElem_toArray → zA, getElem_cons_succ → zS, getElem_cons_zero → zZ, setIfInBounds_toArray → zP, set_cons_zero → zQ, set_cons_succ → zR
open Go.RowKit Rf Mem Bv Crc Str
attribute [local go_sem ↓] run_max2 run_min2
theorem open_close (bs : List (BitVec 8)) : openV (Crc.close bs) = (bs, 0) := by
  unfold openV
  have hl : (Crc.close bs).length = bs.length + 2 := by simp [Crc.close]
  rw [if_neg (by omega), hl, Nat.add_sub_cancel, show (Crc.close bs).take bs.length = bs by simp [Crc.close], if_pos rfl]
theorem Open_c (v : Value) (bs : List (BitVec 8)) (w : World) (hs : SliceAt w 1 v bs.length (u8s bs)) (hl : bs.length ≤ 140737488355328) :
    Calls Tryd.prog 50 #[v] w fun e w' => ∃ v', e = .returned (.tuple #[v', .int .i64 (openV bs).2]) ∧ w'.ownsRow w.heap.size 5 1 v' (openV bs).1.length (u8s (openV bs).1) ∧ Below w.heap.size w w' := by
  by_cases h : bs.length < 2
  · refine (Open_short v bs w hs h).mono ?_
    rintro e w' ⟨rfl, rfl⟩
    have : openV bs = ([], 40) := by unfold openV; rw [if_pos h]
    rw [this]
    exact ⟨_, rfl, own_nil _ _ _ _, Below.refl _ _⟩
  · exact Open_long v bs (bs.length - 2) w hs (by omega) hl
theorem refOpen_c (v : Value) (bs : List (BitVec 8)) (w : World) (hs : SliceAt w 1 v bs.length (u8s bs)) (hl : bs.length ≤ 140737488355320) :
    Calls Tryd.prog 47 #[v] w fun e w' => ∃ v', e = .returned (.tuple #[v', .int .i64 (openV bs).2]) ∧ w'.ownsRow w.heap.size 5 1 v' (openV bs).1.length (u8s (openV bs).1) ∧ Below w.heap.size w w' := by
  by_cases h : bs.length < 2
  · refine (refOpen_short v bs w hs h).mono ?_
    rintro e w' ⟨rfl, rfl⟩
    have : openV bs = ([], 40) := by unfold openV; rw [if_pos h]
    rw [this]
    exact ⟨_, rfl, own_nil _ _ _ _, Below.refl _ _⟩
  · exact refOpen_long v bs (bs.length - 2) w hs (by omega) hl
/-- what is taken out of bytes: kind, number, payload, error -/
def takeV (b : List (BitVec 8)) : BitVec 8 × BitVec 8 × List (BitVec 8) × Int :=
  if b.length < 5 then (0#8, 0#8, [], 40) else
  if (openV b).2 ≠ 0 then (0#8, 0#8, [], (openV b).2) else
  match (openV b).1 with
  | k :: s :: n :: p => if rightF k.toNat p.length && ((n.toNat : Int) == (p.length : Int)) then (k, s, p, 0) else (0#8, 0#8, [], 41)
  | _ => (0#8, 0#8, [], 41)
theorem own_some {w : World} {base e n : Nat} {A : Option Addr} {c : Nat} {xs : List Value} (h : w.ownsRow base e 1 (.slice A n c) n xs) (hn : 0 < n) : ∃ g, A = some ⟨g, 0, none⟩ := by
  rcases h.2 with ⟨_, h0⟩ | ⟨g, cap, cur, hv, _⟩
  · omega
  · obtain ⟨rfl, _, _⟩ := Value.slice.inj hv; exact ⟨g, rfl⟩
theorem cell_far {W : World} {g i : Nat} {u : Value} (h : W.cell? ⟨g, i, none⟩ = some u) {p : Addr} (hp : g ≠ p.block) (x : Value) : (W.setCell p x).cell? ⟨g, i, none⟩ = some u :=
  (World.cell?_of_block (a := ⟨g, i, none⟩) (Below.heap_setCell W p x g hp)).trans h
theorem Right_g (k s : Int) (v : Value) (p : List (BitVec 8)) (r : Bool) (w : World) (hr : rightF k p.length = r) (hs : SliceAt w 1 v p.length (u8s p)) :
    Calls Tryd.prog 52 #[fv k s v] w fun e w' => e = .returned (.bool r) ∧ Below w.heap.size w w' := by subst hr; exact Right_c k s v p w hs
theorem refRight_g (k s : Int) (v : Value) (p : List (BitVec 8)) (r : Bool) (w : World) (hr : rightF k p.length = r) (hs : SliceAt w 1 v p.length (u8s p)) :
    Calls Tryd.prog 48 #[fv k s v] w fun e w' => e = .returned (.bool r) ∧ Below w.heap.size w w' := by subst hr; exact refRight_c k s v p w hs
theorem own_vb {v : Value} {q : Nat} (h : vblock v = some q) : v.ownBlock = some q := by
  unfold vblock at h
  split at h
  · exact h
  · cases h
theorem openV_len {b : List (BitVec 8)} (h : (openV b).2 = 0) : (openV b).1.length + 2 = b.length := by
  unfold openV at h ⊢
  split at h
  · cases h
  · split at h
    · rename_i h1 h2
      rw [if_neg h1, if_pos h2]
      simp only [List.length_take]; omega
    · cases h
set_option maxHeartbeats 1000000 in
set_option maxRecDepth 100000 in
theorem Take_short (v : Value) (b : List (BitVec 8)) (w : World) (hs : SliceAt w 1 v b.length (u8s b)) (hl : b.length < 5) :
    Calls Tryd.prog 32 #[v] w fun e w' => Below w.heap.size w w' ∧ e = .returned (.tuple #[fv 0 0 (.slice none 0 0), .int .i64 40]) := by
  have hB := below_new w (.cells #[.int .u8 0, .int .u8 0, .slice none 0 0] 41)
  obtain ⟨A, c, rfl, _⟩ := hs.form
  have q1 : decide ((b.length : Int) < 5) = true := decide_eq_true (by omega)
  clear hs
  have g2 : (w.alloc (.cells #[.int .u8 0, .int .u8 0, .slice none 0 0] 41)).heap[w.heap.size]? = some _ := new_at rfl _
  have d0 := cell_at g2 0
  have d1 := cell_at g2 1
  have d2 := cell_at g2 2
  have e0 := free_at g2 0
  have e1 := free_at g2 1
  have e2 := free_at g2 2
  go_enter Tryd.func32, Tryd.ntmps32
  go_wp2_with fail
  refine wp_scope_fwd 0 (by simp only [findLabel]; rfl) ?_
  go_wp2
  go_step3
  go_wp2
  rw [jump_goto]
  go_wp2
  rw [Exit.noGoto_ret]
  exact bodyPost_ret (res_frm2 (t := 2) (u := 3) rfl rfl g2) rfl ⟨hB, rfl⟩
set_option maxHeartbeats 1000000 in
set_option maxRecDepth 100000 in
theorem Take_crc (v : Value) (b : List (BitVec 8)) (w : World) (hs : SliceAt w 1 v b.length (u8s b)) (hl : 5 ≤ b.length) (hl2 : b.length ≤ 140737488355328) (he : (openV b).2 ≠ 0) :
    Calls Tryd.prog 32 #[v] w fun e w' => Below w.heap.size w w' ∧ e = .returned (.tuple #[fv 0 0 (.slice none 0 0), .int .i64 (openV b).2]) := by
  have hB := below_new w (.cells #[.int .u8 0, .int .u8 0, .slice none 0 0] 41)
  have hs' := hs.later hB
  obtain ⟨A, c, rfl, _⟩ := hs.form
  have q1 : decide ((b.length : Int) < 5) = false := decide_eq_false (by omega)
  have hO := Open_c _ b _ hs' hl2
  generalize (openV b).1 = p at *
  generalize (openV b).2 = er at *
  have HO := Lib.hid hO
  have q2 : (er != 0) = true := by simpa using he
  clear hs hO
  go_enter Tryd.func32, Tryd.ntmps32
  go_wp2_with fail
  refine wp_scope_fwd 0 (by simp only [findLabel]; rfl) ?_
  go_wp2_with fail
  refine (HO.out).mono ?_
  rintro e w1 ⟨v1, rfl, ho1, b1⟩
  obtain ⟨A1, c1, rfl, _⟩ := (sliceAt_of_own ho1).form
  have g2 := below_at b1 (k := w.heap.size) (o := .cells #[.int .u8 0, .int .u8 0, .slice none 0 0] 41) (new_at rfl _) (by simp)
  have d0 := cell_at g2 0
  have d1 := cell_at g2 1
  have d2 := cell_at g2 2
  have e0 := free_at g2 0
  have e1 := free_at g2 1
  have e2 := free_at g2 2
  go_wp2
  go_step3
  go_wp2
  rw [jump_goto]
  go_wp2
  rw [Exit.noGoto_ret]
  refine bodyPost_ret (res_frm2 (t := 2) (u := 3) rfl rfl (set_at (set_at (set_at g2 0 _) 1 _) 2 _)) rfl ⟨?_, rfl⟩
  exact (((below_step hB b1).setCell (by simp) _).setCell (by simp) _).setCell (by simp) _
set_option maxHeartbeats 4000000 in
set_option maxRecDepth 100000 in
theorem Take_form (v : Value) (b : List (BitVec 8)) (k s n : BitVec 8) (p : List (BitVec 8)) (w : World) (hs : SliceAt w 1 v b.length (u8s b)) (hl : 5 ≤ b.length) (hl2 : b.length ≤ 140737488355328) (he : openV b = (k :: s :: n :: p, 0)) :
    Calls Tryd.prog 32 #[v] w fun e w' => Below w.heap.size w w' ∧ 
      if rightF k.toNat p.length && ((n.toNat : Int) == (p.length : Int)) then ∃ A c, e = .returned (.tuple #[fv k.toNat s.toNat (.slice A p.length c), .int .i64 0]) ∧ SliceAt w' 1 (.slice A p.length c) p.length (u8s p)
      else e = .returned (.tuple #[fv 0 0 (.slice none 0 0), .int .i64 41]) := by
  have hB := below_new w (.cells #[.int .u8 0, .int .u8 0, .slice none 0 0] 41)
  have hs' := hs.later hB
  obtain ⟨A, c, rfl, _⟩ := hs.form
  have q1 : decide ((b.length : Int) < 5) = false := decide_eq_false (by omega)
  have hO := Open_c _ b _ hs' hl2
  have hpl := openV_len (b := b) (by rw [he])
  rw [he] at hO hpl
  have hpl2 : p.length ≤ 140737488355328 := by simp at hpl; omega
  have HO := Lib.hid hO
  clear hs hO he hpl
  go_enter Tryd.func32, Tryd.ntmps32
  go_wp2_with fail
  refine wp_scope_fwd 0 (by simp only [findLabel]; rfl) ?_
  go_wp2_with fail
  refine (HO.out).mono ?_
  rintro e w1 ⟨v1, rfl, ho1, b1⟩
  obtain ⟨A1, c1, rfl, c2, _⟩ := (sliceAt_of_own ho1).form
  obtain ⟨g, rfl⟩ := own_some ho1 (by simp)
  have S1 : SliceAt w1 1 (.slice (some ⟨g, 0, none⟩) (p.length + 3) c1) (p.length + 3) (u8s (k :: s :: n :: p)) := sliceAt_of_own ho1
  have hgb := own_base ho1 (g := g) rfl
  simp only [World.size_alloc] at hgb
  have x0 : w1.cell? ⟨g, 0, none⟩ = some (.int .u8 (k.toNat : Int)) := ho1.cellAt 0 (by simp)
  have x1 : w1.cell? ⟨g, 1, none⟩ = some (.int .u8 (s.toNat : Int)) := ho1.cellAt 1 (by simp)
  have x2 : w1.cell? ⟨g, 2, none⟩ = some (.int .u8 (n.toNat : Int)) := ho1.cellAt 2 (by simp)
  have hsub := S1.sub (lo := 3) (hi := p.length + 3) (by omega) (Nat.le_refl _)
  rw [Nat.add_sub_cancel, show List.take (p.length * 1) (List.drop (3 * 1) (u8s (k :: s :: n :: p))) = u8s p from by simp only [u8s, List.map_cons, Nat.mul_one, Nat.one_mul, List.drop_succ_cons, List.drop_zero]; exact List.take_of_length_le (by simp)] at hsub
  have g2 := below_at b1 (k := w.heap.size) (o := .cells #[.int .u8 0, .int .u8 0, .slice none 0 0] 41) (new_at rfl _) (by simp)
  have d0 := cell_at g2 0
  have d1 := cell_at g2 1
  have d2 := cell_at g2 2
  have e0 := free_at g2 0
  have e1 := free_at g2 1
  have e2 := free_at g2 2
  have c2' : p.length + 3 ≤ c1 := c2
  change Hid _ at HO
  clear HO c2 ho1
  obtain ⟨L, hL⟩ : ∃ L, p.length + 3 = L := ⟨_, rfl⟩
  rw [show (k :: s :: n :: p).length = L from hL]
  have i0 : 0 < L := by omega
  have i1 : (1 : Int) < (L : Int) := by omega
  have i2 : (2 : Int) < (L : Int) := by omega
  have i3 : (3 : Int) ≤ (L : Int) := by omega
  have i4 : (L : Int) ≤ (c1 : Int) := by omega
  have hcase : (c1 = 3 ∧ SliceAt w1 1 (.slice (some ⟨g, 0, none⟩) (L - 3) 0) p.length (u8s p)) ∨ (¬ c1 = 3 ∧ SliceAt w1 1 (.slice (some ⟨g, 3, none⟩) (L - 3) (c1 - 3)) p.length (u8s p)) := by
    have hp3 : L - 3 = p.length := by omega
    rw [hp3]
    by_cases hc3 : c1 = 3
    · left; rw [if_pos hc3] at hsub; rw [hc3] at hsub; exact ⟨hc3, hsub⟩
    · right; rw [if_neg hc3] at hsub; exact ⟨hc3, hsub⟩
  have HL := Lib.hid hL
  clear hL hsub
  have hgn : g ≠ w.heap.size := by omega
  rcases hcase with ⟨rfl, hs3⟩ | ⟨hc3, hs3⟩
  all_goals
    go_wp2_with fail
    go_region_held3 (fun w' => w'.cell? ⟨g, 0, none⟩ = some (.int .u8 (k.toNat : Int)) ∧ w'.cell? ⟨g, 1, none⟩ = some (.int .u8 (s.toNat : Int))) (first | exact ⟨x0, x1⟩ | exact ⟨cell_far (cell_far (cell_far y0 hgn _) hgn _) hgn _, cell_far (cell_far (cell_far y1 hgn _) hgn _) hgn _⟩ | exact ⟨y0, y1⟩)
      (first | (go_at_call 51; refine (Clone_c _ p _ (hs3.later (Below.refl _ _).drew) hpl2).mono ?_; rintro e w2 ⟨v2, rfl, ho2, b2⟩; have y0 := (b2.cell (p := ⟨g, 0, none⟩) hgb.2).trans x0; have y1 := (b2.cell (p := ⟨g, 1, none⟩) hgb.2).trans x1; have y2 := (b2.cell (p := ⟨g, 2, none⟩) hgb.2).trans x2; have g3 := below_at b2 g2 (by have := b1.size; simp at this; simp; omega); have e3 := free_at g3 0; have e4 := free_at g3 1; have e5 := free_at g3 2; have k3 := cell_at g3 0; have k4 := cell_at g3 1; have k5 := cell_at g3 2; obtain ⟨A2, c2, rfl, _⟩ := (sliceAt_of_own ho2).form))
    have V : FVar (((w2.setCell ⟨w.heap.size, 0, none⟩ (.int .u8 (k.toNat : Int))).setCell ⟨w.heap.size, 1, none⟩ (.int .u8 (s.toNat : Int))).setCell ⟨w.heap.size, 2, none⟩ (.slice A2 p.length c2)) w.heap.size k.toNat s.toNat (.slice A2 p.length c2) p :=
      ⟨set_at (set_at (set_at g3 0 _) 1 _) 2 _, sliceAt_of_own (own_set (own_set (own_set ho2 (show w.heap.size < w1.heap.size by omega) _) (show w.heap.size < w1.heap.size by omega) _) (show w.heap.size < w1.heap.size by omega) _)⟩
    have B3 : Below w.heap.size w (((w2.setCell ⟨w.heap.size, 0, none⟩ (.int .u8 (k.toNat : Int))).setCell ⟨w.heap.size, 1, none⟩ (.int .u8 (s.toNat : Int))).setCell ⟨w.heap.size, 2, none⟩ (.slice A2 p.length c2)) :=
      (((((below_step hB b1).drew).trans (b2.mono (show w.heap.size ≤ w1.heap.size by omega))).setCell (by simp) _).setCell (by simp) _).setCell (by simp) _
    have z2 := cell_far (cell_far (cell_far y2 hgn (p := ⟨w.heap.size, 0, none⟩) (.int .u8 (k.toNat : Int))) hgn (p := ⟨w.heap.size, 1, none⟩) (.int .u8 (s.toNat : Int))) hgn (p := ⟨w.heap.size, 2, none⟩) (.slice A2 p.length c2)
    have hA2 : ∀ q, VB (.slice A2 p.length c2) p.length q → q ≠ w.heap.size := fun q hq e => by
      have := (own_base ho2 (own_vb hq.2)).1
      have h2 : w1.heap.size ≤ q := this
      omega
    have HA2 := Lib.hid hA2
    clear hA2
    clear x0 x1 x2 y0 y1 y2 g2 g3 d0 d1 d2 e0 e1 e2 e3 e4 e5 k3 k4 k5 ho2
    generalize (((w2.setCell ⟨w.heap.size, 0, none⟩ (.int .u8 (k.toNat : Int))).setCell ⟨w.heap.size, 1, none⟩ (.int .u8 (s.toNat : Int))).setCell ⟨w.heap.size, 2, none⟩ (.slice A2 p.length c2)) = W3 at *
    have x0 := V.c0
    have x1 := V.c1
    have x2 := V.c2
    have hgs : g < W3.heap.size := lt_of_cell (p := ⟨g, 2, none⟩) z2
    have VD := V.later (Below.refl _ _).drew
    have hn8 : (n.toNat : Int) < 256 := by have := n.isLt; omega
    have hwn : IntKind.i64.wrap (n.toNat : Int) = (n.toNat : Int) := IntWalk.i64_in _ (by have := n.isLt; omega)
    rcases hr : rightF k.toNat p.length with _ | _
    · have HR := Lib.hid hr
      clear hr
      go_wp2_with fail
      refine wp_region_held_drew (S := (fun w' => w'.cell? ⟨w.heap.size, 0, none⟩ = some (.int .u8 (k.toNat : Int)) ∧ w'.cell? ⟨w.heap.size, 1, none⟩ = some (.int .u8 (s.toNat : Int)) ∧ w'.cell? ⟨w.heap.size, 2, none⟩ = some (.slice A2 p.length c2))) (by kernel_rfl) ?_ (fun hHeld => ?_)
      · exact ⟨x0, x1, x2⟩
      refine Node.tk 0 ?_ rfl ?_ ?_
      rotate_left
      · intro w hSw; (try dsimp only at hSw); go_simp; try with_reducible rfl
      simp only [zA, zS, zZ, Act.put, zP, zQ, zR]
      refine Node.on 1 rfl (fun K hK => ?_)
      go_simp
      refine (Right_g _ _ _ p false _ HR.out VD.sl).mono ?_
      rintro e w4 ⟨rfl, b4⟩
      refine hK.out _ _ ?_ (fun hHeld => ?_)
      · exact ⟨(VD.later b4).c0, (VD.later b4).c1, (VD.later b4).c2⟩
      clear hK K
      refine Node.tk 2 ?_ rfl ?_ ?_
      rotate_left
      · intro w hSw; (try dsimp only at hSw); go_simp; try with_reducible rfl
      simp only [zA, zS, zZ, Act.put, zP, zQ, zR]
      refine Node.sk 3 rfl ?_
      refine Node.sk 4 rfl ?_
      refine Node.sk 5 rfl ?_
      refine Node.sk 6 rfl ?_
      refine Node.sk 7 rfl ?_
      refine Node.sk 8 rfl ?_
      refine Node.sk 9 rfl ?_
      refine Node.sk 10 rfl ?_
      simp only [zA, zS, zZ, Act.put, zP, zQ, zR]
      refine Node.tk 11 ?_ rfl ?_ ?_
      rotate_left
      · intro w hSw; (try dsimp only at hSw); go_simp; try with_reducible rfl
      simp only [zA, zS, zZ, Act.put, zP, zQ, zR]
      refine wpAnyH_done (by kernel_rfl) ?_ _
      have V4 := VD.later b4
      have d0 := V4.c0
      have d1 := V4.c1
      have d2 := V4.c2
      have e0 := free_at V4.at_ 0
      have e1 := free_at V4.at_ 1
      have e2 := free_at V4.at_ 2
      clear x0 x1 x2 z2
      go_wp2
      go_step3
      go_wp2
      rw [jump_ret]
      refine bodyPost_ret (res_frm2 (t := 2) (u := 3) rfl rfl (set_at (set_at (set_at V4.at_ 0 _) 1 _) 2 _)) rfl ⟨?_, ?_⟩
      · exact ((((B3.drew).trans (b4.mono B3.size)).setCell (by simp) _).setCell (by simp) _).setCell (by simp) _
      · rw [HR.out]; simp
    · have HR := Lib.hid hr
      clear hr
      have hnp : ((n.toNat : Int) == (p.length : Int)) = true ∨ ((n.toNat : Int) == (p.length : Int)) = false := by cases ((n.toNat : Int) == (p.length : Int)) <;> simp
      rcases hnp with hnp | hnp
      all_goals have HNP := Lib.hid hnp
      · go_wp2_with fail
        go_region_held3 (fun w' => w'.cell? ⟨w.heap.size, 0, none⟩ = some (.int .u8 (k.toNat : Int)) ∧ w'.cell? ⟨w.heap.size, 1, none⟩ = some (.int .u8 (s.toNat : Int)) ∧ w'.cell? ⟨w.heap.size, 2, none⟩ = some (.slice A2 p.length c2) ∧ w'.cell? ⟨g, 2, none⟩ = some (.int .u8 (n.toNat : Int)))
          (first | exact ⟨V4.c0, V4.c1, V4.c2, z4⟩ | exact ⟨x0, x1, x2, z2⟩)
          (first | (go_at_call 52; refine (Right_g _ _ _ p true _ HR.out VD.sl).mono ?_; rintro e w4 ⟨rfl, b4⟩; have V4 := VD.later b4; have z4 := (b4.cell (p := ⟨g, 2, none⟩) hgs).trans z2))
        have d0 := V4.c0
        have d1 := V4.c1
        have d2 := V4.c2
        have e0 := free_at V4.at_ 0
        have e1 := free_at V4.at_ 1
        have e2 := free_at V4.at_ 2
        clear x0 x1 x2 z2 z4
        go_wp2
        rw [jump_ret]
        refine bodyPost_ret (res_frm2 (t := 2) (u := 3) rfl rfl (set_at (set_at (set_at V4.at_ 0 _) 1 _) 2 _)) rfl ⟨?_, ?_⟩
        · exact ((((B3.drew).trans (b4.mono B3.size)).setCell (by simp) _).setCell (by simp) _).setCell (by simp) _
        · rw [HR.out, HNP.out, Bool.and_self, if_pos rfl]
          refine ⟨A2, c2, rfl, slice_keep V4.sl ((((Keep.refl (fun q => q ≠ w.heap.size) w4).setCell (fun _ h => h rfl) _).setCell (fun _ h => h rfl) _).setCell (fun _ h => h rfl) _) HA2.out⟩
      · go_wp2_with fail
        go_region_held3 (fun w' => w'.cell? ⟨w.heap.size, 0, none⟩ = some (.int .u8 (k.toNat : Int)) ∧ w'.cell? ⟨w.heap.size, 1, none⟩ = some (.int .u8 (s.toNat : Int)) ∧ w'.cell? ⟨w.heap.size, 2, none⟩ = some (.slice A2 p.length c2) ∧ w'.cell? ⟨g, 2, none⟩ = some (.int .u8 (n.toNat : Int)))
          (first | exact ⟨V4.c0, V4.c1, V4.c2, z4⟩ | exact ⟨x0, x1, x2, z2⟩)
          (first | (go_at_call 52; refine (Right_g _ _ _ p true _ HR.out VD.sl).mono ?_; rintro e w4 ⟨rfl, b4⟩; have V4 := VD.later b4; have z4 := (b4.cell (p := ⟨g, 2, none⟩) hgs).trans z2))
        have d0 := V4.c0
        have d1 := V4.c1
        have d2 := V4.c2
        have e0 := free_at V4.at_ 0
        have e1 := free_at V4.at_ 1
        have e2 := free_at V4.at_ 2
        clear x0 x1 x2 z2 z4
        go_wp2
        go_step3
        go_wp2
        rw [jump_ret]
        refine bodyPost_ret (res_frm2 (t := 2) (u := 3) rfl rfl (set_at (set_at (set_at V4.at_ 0 _) 1 _) 2 _)) rfl ⟨?_, ?_⟩
        · exact ((((B3.drew).trans (b4.mono B3.size)).setCell (by simp) _).setCell (by simp) _).setCell (by simp) _
        · rw [HR.out, HNP.out]; simp
end Go.Proofs.YtlanlkpamnoekaaDoor
namespace Go.Proofs.YtlanlkpamnoekaaDoor
open Go.RowKit Rf Mem Bv Crc Str
attribute [local go_sem ↓] run_max2 run_min2
theorem Take_yes (k s : BitVec 8) (k' s' : Int) (v : Value) (p b : List (BitVec 8)) (w : World) (hk : k' = k.toNat) (hs' : s' = s.toNat) (hs : SliceAt w 1 v b.length (u8s b)) (hb : takeV b = (k, s, p, 0)) (hl2 : b.length ≤ 140737488355328) :
    Calls Tryd.prog 32 #[v] w fun e w' => Below w.heap.size w w' ∧ ∃ A c, e = .returned (.tuple #[fv k' s' (.slice A p.length c), .int .i64 0]) ∧ SliceAt w' 1 (.slice A p.length c) p.length (u8s p) := by
  subst hk hs'
  unfold takeV at hb
  split at hb
  · cases hb
  rename_i h5
  split at hb
  · rename_i he; simp only [Prod.mk.injEq] at hb; exact absurd hb.2.2.2 he
  rename_i he
  have he' : (openV b).2 = 0 := by simpa using he
  split at hb
  · rename_i k1 s1 n p1 heq
    split at hb
    · rename_i hc
      simp only [Prod.mk.injEq] at hb
      obtain ⟨rfl, rfl, rfl, _⟩ := hb
      refine (Take_form v b k1 s1 n p1 w hs (by omega) hl2 (Prod.ext heq he')).mono ?_
      rintro e w' ⟨b1, h2⟩
      rw [if_pos hc] at h2
      exact ⟨b1, h2⟩
    · simp at hb
  · simp at hb
theorem Take_no (v : Value) (b : List (BitVec 8)) (er : Int) (w : World) (hs : SliceAt w 1 v b.length (u8s b)) (hb : (takeV b).2.2.2 = er) (h0 : er ≠ 0) (hl2 : b.length ≤ 140737488355328) :
    Calls Tryd.prog 32 #[v] w fun e w' => Below w.heap.size w w' ∧ e = .returned (.tuple #[fv 0 0 (.slice none 0 0), .int .i64 er]) := by
  subst hb
  unfold takeV at h0 ⊢
  split
  · rename_i h5
    exact Take_short v b w hs h5
  · rename_i h5
    rw [if_neg h5] at h0
    split
    · rename_i he
      exact Take_crc v b w hs (by omega) hl2 he
    · rename_i he
      rw [if_neg he] at h0
      have he' : (openV b).2 = 0 := by simpa using he
      have hlen := openV_len he'
      split
      · rename_i k1 s1 n p1 heq
        rw [heq] at h0
        dsimp only at h0
        split
        · rename_i hc; rw [if_pos hc] at h0; exact absurd rfl h0
        · rename_i hc
          refine (Take_form v b k1 s1 n p1 w hs (by omega) hl2 (Prod.ext heq he')).mono ?_
          rintro e w' ⟨b1, h2⟩
          rw [if_neg hc] at h2
          exact ⟨b1, h2⟩
      · rename_i hne
        exfalso
        rcases h : (openV b).1 with _ | ⟨a, _ | ⟨a2, _ | ⟨a3, p⟩⟩⟩
        · rw [h] at hlen; simp at hlen; omega
        · rw [h] at hlen; simp at hlen; omega
        · rw [h] at hlen; simp at hlen; omega
        · exact hne _ _ _ _ h
theorem Newer_g (n was : Int) (r : Bool) (w : World) (hr : r = newer n was) (h1 : 0 ≤ n) (h2 : n < 256) (h3 : 0 ≤ was) (h4 : was < 256) : Calls Tryd.prog 33 #[.int .u8 n, .int .u8 was] w fun e w' => e = .returned (.bool r) ∧ w = w' := by subst hr; exact Newer_c n was w h1 h2 h3 h4
theorem refSame_g (k1 s1 k2 s2 : Int) (v u : Value) (p1 p2 : List (BitVec 8)) (r : Bool) (w : World) (hr : r = sameF k1 s1 p1 k2 s2 p2) (ha : SliceAt w 1 v p1.length (u8s p1)) (hb : SliceAt w 1 u p2.length (u8s p2)) :
    Calls Tryd.prog 13 #[fv k1 s1 v, fv k2 s2 u] w fun e w' => e = .returned (.bool r) ∧ Below w.heap.size w w' := by subst hr; exact refSame_c k1 s1 k2 s2 v u p1 p2 w ha hb
end Go.Proofs.YtlanlkpamnoekaaDoor
namespace Go.Proofs.YtlanlkpamnoekaaDoor
open List renaming getElem_toArray → zA, getElem_cons_succ → zS, getElem_cons_zero → zZ, setIfInBounds_toArray → zP, set_cons_zero → zQ, set_cons_succ → zR
open Go.RowKit Rf Mem Bv Crc Str
attribute [local go_sem ↓] run_max2 run_min2
set_option maxHeartbeats 4000000 in
set_option maxRecDepth 100000 in
theorem Take_formF (v : Value) (b : List (BitVec 8)) (k s n : BitVec 8) (p : List (BitVec 8)) (w : World) (hs : SliceAt w 1 v b.length (u8s b)) (hl : 5 ≤ b.length) (hl2 : b.length ≤ 140737488355328) (he : openV b = (k :: s :: n :: p, 0)) :
    Calls Tryd.prog 32 #[v] w fun e w' => Below w.heap.size w w' ∧ 
      if rightF k.toNat p.length && ((n.toNat : Int) == (p.length : Int)) then ∃ A c, e = .returned (.tuple #[fv k.toNat s.toNat (.slice A p.length c), .int .i64 0]) ∧ SliceAt w' 1 (.slice A p.length c) p.length (u8s p) ∧ ∀ q, VB (.slice A p.length c) p.length q → w.heap.size < q
      else e = .returned (.tuple #[fv 0 0 (.slice none 0 0), .int .i64 41]) := by
  have hB := below_new w (.cells #[.int .u8 0, .int .u8 0, .slice none 0 0] 41)
  have hs' := hs.later hB
  obtain ⟨A, c, rfl, _⟩ := hs.form
  have q1 : decide ((b.length : Int) < 5) = false := decide_eq_false (by omega)
  have hO := Open_c _ b _ hs' hl2
  have hpl := openV_len (b := b) (by rw [he])
  rw [he] at hO hpl
  have hpl2 : p.length ≤ 140737488355328 := by simp at hpl; omega
  have HO := Lib.hid hO
  clear hs hO he hpl
  go_enter Tryd.func32, Tryd.ntmps32
  go_wp2_with fail
  refine wp_scope_fwd 0 (by simp only [findLabel]; rfl) ?_
  go_wp2_with fail
  refine (HO.out).mono ?_
  rintro e w1 ⟨v1, rfl, ho1, b1⟩
  obtain ⟨A1, c1, rfl, c2, _⟩ := (sliceAt_of_own ho1).form
  obtain ⟨g, rfl⟩ := own_some ho1 (by simp)
  have S1 : SliceAt w1 1 (.slice (some ⟨g, 0, none⟩) (p.length + 3) c1) (p.length + 3) (u8s (k :: s :: n :: p)) := sliceAt_of_own ho1
  have hgb := own_base ho1 (g := g) rfl
  simp only [World.size_alloc] at hgb
  have x0 : w1.cell? ⟨g, 0, none⟩ = some (.int .u8 (k.toNat : Int)) := ho1.cellAt 0 (by simp)
  have x1 : w1.cell? ⟨g, 1, none⟩ = some (.int .u8 (s.toNat : Int)) := ho1.cellAt 1 (by simp)
  have x2 : w1.cell? ⟨g, 2, none⟩ = some (.int .u8 (n.toNat : Int)) := ho1.cellAt 2 (by simp)
  have hsub := S1.sub (lo := 3) (hi := p.length + 3) (by omega) (Nat.le_refl _)
  rw [Nat.add_sub_cancel, show List.take (p.length * 1) (List.drop (3 * 1) (u8s (k :: s :: n :: p))) = u8s p from by simp only [u8s, List.map_cons, Nat.mul_one, Nat.one_mul, List.drop_succ_cons, List.drop_zero]; exact List.take_of_length_le (by simp)] at hsub
  have g2 := below_at b1 (k := w.heap.size) (o := .cells #[.int .u8 0, .int .u8 0, .slice none 0 0] 41) (new_at rfl _) (by simp)
  have d0 := cell_at g2 0
  have d1 := cell_at g2 1
  have d2 := cell_at g2 2
  have e0 := free_at g2 0
  have e1 := free_at g2 1
  have e2 := free_at g2 2
  have c2' : p.length + 3 ≤ c1 := c2
  change Hid _ at HO
  clear HO c2 ho1
  obtain ⟨L, hL⟩ : ∃ L, p.length + 3 = L := ⟨_, rfl⟩
  rw [show (k :: s :: n :: p).length = L from hL]
  have i0 : 0 < L := by omega
  have i1 : (1 : Int) < (L : Int) := by omega
  have i2 : (2 : Int) < (L : Int) := by omega
  have i3 : (3 : Int) ≤ (L : Int) := by omega
  have i4 : (L : Int) ≤ (c1 : Int) := by omega
  have hcase : (c1 = 3 ∧ SliceAt w1 1 (.slice (some ⟨g, 0, none⟩) (L - 3) 0) p.length (u8s p)) ∨ (¬ c1 = 3 ∧ SliceAt w1 1 (.slice (some ⟨g, 3, none⟩) (L - 3) (c1 - 3)) p.length (u8s p)) := by
    have hp3 : L - 3 = p.length := by omega
    rw [hp3]
    by_cases hc3 : c1 = 3
    · left; rw [if_pos hc3] at hsub; rw [hc3] at hsub; exact ⟨hc3, hsub⟩
    · right; rw [if_neg hc3] at hsub; exact ⟨hc3, hsub⟩
  have HL := Lib.hid hL
  clear hL hsub
  have hgn : g ≠ w.heap.size := by omega
  rcases hcase with ⟨rfl, hs3⟩ | ⟨hc3, hs3⟩
  all_goals
    go_wp2_with fail
    go_region_held3 (fun w' => w'.cell? ⟨g, 0, none⟩ = some (.int .u8 (k.toNat : Int)) ∧ w'.cell? ⟨g, 1, none⟩ = some (.int .u8 (s.toNat : Int))) (first | exact ⟨x0, x1⟩ | exact ⟨cell_far (cell_far (cell_far y0 hgn _) hgn _) hgn _, cell_far (cell_far (cell_far y1 hgn _) hgn _) hgn _⟩ | exact ⟨y0, y1⟩)
      (first | (go_at_call 51; refine (Clone_c _ p _ (hs3.later (Below.refl _ _).drew) hpl2).mono ?_; rintro e w2 ⟨v2, rfl, ho2, b2⟩; have y0 := (b2.cell (p := ⟨g, 0, none⟩) hgb.2).trans x0; have y1 := (b2.cell (p := ⟨g, 1, none⟩) hgb.2).trans x1; have y2 := (b2.cell (p := ⟨g, 2, none⟩) hgb.2).trans x2; have g3 := below_at b2 g2 (by have := b1.size; simp at this; simp; omega); have e3 := free_at g3 0; have e4 := free_at g3 1; have e5 := free_at g3 2; have k3 := cell_at g3 0; have k4 := cell_at g3 1; have k5 := cell_at g3 2; obtain ⟨A2, c2, rfl, _⟩ := (sliceAt_of_own ho2).form))
    have V : FVar (((w2.setCell ⟨w.heap.size, 0, none⟩ (.int .u8 (k.toNat : Int))).setCell ⟨w.heap.size, 1, none⟩ (.int .u8 (s.toNat : Int))).setCell ⟨w.heap.size, 2, none⟩ (.slice A2 p.length c2)) w.heap.size k.toNat s.toNat (.slice A2 p.length c2) p :=
      ⟨set_at (set_at (set_at g3 0 _) 1 _) 2 _, sliceAt_of_own (own_set (own_set (own_set ho2 (show w.heap.size < w1.heap.size by omega) _) (show w.heap.size < w1.heap.size by omega) _) (show w.heap.size < w1.heap.size by omega) _)⟩
    have B3 : Below w.heap.size w (((w2.setCell ⟨w.heap.size, 0, none⟩ (.int .u8 (k.toNat : Int))).setCell ⟨w.heap.size, 1, none⟩ (.int .u8 (s.toNat : Int))).setCell ⟨w.heap.size, 2, none⟩ (.slice A2 p.length c2)) :=
      (((((below_step hB b1).drew).trans (b2.mono (show w.heap.size ≤ w1.heap.size by omega))).setCell (by simp) _).setCell (by simp) _).setCell (by simp) _
    have z2 := cell_far (cell_far (cell_far y2 hgn (p := ⟨w.heap.size, 0, none⟩) (.int .u8 (k.toNat : Int))) hgn (p := ⟨w.heap.size, 1, none⟩) (.int .u8 (s.toNat : Int))) hgn (p := ⟨w.heap.size, 2, none⟩) (.slice A2 p.length c2)
    have hA2 : ∀ q, VB (.slice A2 p.length c2) p.length q → w.heap.size < q := fun q hq => by
      have := (own_base ho2 (own_vb hq.2)).1
      have h2 : w1.heap.size ≤ q := this
      omega
    have HA2 := Lib.hid hA2
    clear hA2
    clear x0 x1 x2 y0 y1 y2 g2 g3 d0 d1 d2 e0 e1 e2 e3 e4 e5 k3 k4 k5 ho2
    generalize (((w2.setCell ⟨w.heap.size, 0, none⟩ (.int .u8 (k.toNat : Int))).setCell ⟨w.heap.size, 1, none⟩ (.int .u8 (s.toNat : Int))).setCell ⟨w.heap.size, 2, none⟩ (.slice A2 p.length c2)) = W3 at *
    have x0 := V.c0
    have x1 := V.c1
    have x2 := V.c2
    have hgs : g < W3.heap.size := lt_of_cell (p := ⟨g, 2, none⟩) z2
    have VD := V.later (Below.refl _ _).drew
    have hn8 : (n.toNat : Int) < 256 := by have := n.isLt; omega
    have hwn : IntKind.i64.wrap (n.toNat : Int) = (n.toNat : Int) := IntWalk.i64_in _ (by have := n.isLt; omega)
    rcases hr : rightF k.toNat p.length with _ | _
    · have HR := Lib.hid hr
      clear hr
      go_wp2_with fail
      refine wp_region_held_drew (S := (fun w' => w'.cell? ⟨w.heap.size, 0, none⟩ = some (.int .u8 (k.toNat : Int)) ∧ w'.cell? ⟨w.heap.size, 1, none⟩ = some (.int .u8 (s.toNat : Int)) ∧ w'.cell? ⟨w.heap.size, 2, none⟩ = some (.slice A2 p.length c2))) (by kernel_rfl) ?_ (fun hHeld => ?_)
      · exact ⟨x0, x1, x2⟩
      refine Node.tk 0 ?_ rfl ?_ ?_
      rotate_left
      · intro w hSw; (try dsimp only at hSw); go_simp; try with_reducible rfl
      simp only [zA, zS, zZ, Act.put, zP, zQ, zR]
      refine Node.on 1 rfl (fun K hK => ?_)
      go_simp
      refine (Right_g _ _ _ p false _ HR.out VD.sl).mono ?_
      rintro e w4 ⟨rfl, b4⟩
      refine hK.out _ _ ?_ (fun hHeld => ?_)
      · exact ⟨(VD.later b4).c0, (VD.later b4).c1, (VD.later b4).c2⟩
      clear hK K
      refine Node.tk 2 ?_ rfl ?_ ?_
      rotate_left
      · intro w hSw; (try dsimp only at hSw); go_simp; try with_reducible rfl
      simp only [zA, zS, zZ, Act.put, zP, zQ, zR]
      refine Node.sk 3 rfl ?_
      refine Node.sk 4 rfl ?_
      refine Node.sk 5 rfl ?_
      refine Node.sk 6 rfl ?_
      refine Node.sk 7 rfl ?_
      refine Node.sk 8 rfl ?_
      refine Node.sk 9 rfl ?_
      refine Node.sk 10 rfl ?_
      simp only [zA, zS, zZ, Act.put, zP, zQ, zR]
      refine Node.tk 11 ?_ rfl ?_ ?_
      rotate_left
      · intro w hSw; (try dsimp only at hSw); go_simp; try with_reducible rfl
      simp only [zA, zS, zZ, Act.put, zP, zQ, zR]
      refine wpAnyH_done (by kernel_rfl) ?_ _
      have V4 := VD.later b4
      have d0 := V4.c0
      have d1 := V4.c1
      have d2 := V4.c2
      have e0 := free_at V4.at_ 0
      have e1 := free_at V4.at_ 1
      have e2 := free_at V4.at_ 2
      clear x0 x1 x2 z2
      go_wp2
      go_step3
      go_wp2
      rw [jump_ret]
      refine bodyPost_ret (res_frm2 (t := 2) (u := 3) rfl rfl (set_at (set_at (set_at V4.at_ 0 _) 1 _) 2 _)) rfl ⟨?_, ?_⟩
      · exact ((((B3.drew).trans (b4.mono B3.size)).setCell (by simp) _).setCell (by simp) _).setCell (by simp) _
      · rw [HR.out]; simp
    · have HR := Lib.hid hr
      clear hr
      have hnp : ((n.toNat : Int) == (p.length : Int)) = true ∨ ((n.toNat : Int) == (p.length : Int)) = false := by cases ((n.toNat : Int) == (p.length : Int)) <;> simp
      rcases hnp with hnp | hnp
      all_goals have HNP := Lib.hid hnp
      · go_wp2_with fail
        go_region_held3 (fun w' => w'.cell? ⟨w.heap.size, 0, none⟩ = some (.int .u8 (k.toNat : Int)) ∧ w'.cell? ⟨w.heap.size, 1, none⟩ = some (.int .u8 (s.toNat : Int)) ∧ w'.cell? ⟨w.heap.size, 2, none⟩ = some (.slice A2 p.length c2) ∧ w'.cell? ⟨g, 2, none⟩ = some (.int .u8 (n.toNat : Int)))
          (first | exact ⟨V4.c0, V4.c1, V4.c2, z4⟩ | exact ⟨x0, x1, x2, z2⟩)
          (first | (go_at_call 52; refine (Right_g _ _ _ p true _ HR.out VD.sl).mono ?_; rintro e w4 ⟨rfl, b4⟩; have V4 := VD.later b4; have z4 := (b4.cell (p := ⟨g, 2, none⟩) hgs).trans z2))
        have d0 := V4.c0
        have d1 := V4.c1
        have d2 := V4.c2
        have e0 := free_at V4.at_ 0
        have e1 := free_at V4.at_ 1
        have e2 := free_at V4.at_ 2
        clear x0 x1 x2 z2 z4
        go_wp2
        rw [jump_ret]
        refine bodyPost_ret (res_frm2 (t := 2) (u := 3) rfl rfl (set_at (set_at (set_at V4.at_ 0 _) 1 _) 2 _)) rfl ⟨?_, ?_⟩
        · exact ((((B3.drew).trans (b4.mono B3.size)).setCell (by simp) _).setCell (by simp) _).setCell (by simp) _
        · rw [HR.out, HNP.out, Bool.and_self, if_pos rfl]
          refine ⟨A2, c2, rfl, slice_keep V4.sl ((((Keep.refl (fun q => q ≠ w.heap.size) w4).setCell (fun _ h => h rfl) _).setCell (fun _ h => h rfl) _).setCell (fun _ h => h rfl) _) (fun q hq => Nat.ne_of_gt (HA2.out q hq)), HA2.out⟩
      · go_wp2_with fail
        go_region_held3 (fun w' => w'.cell? ⟨w.heap.size, 0, none⟩ = some (.int .u8 (k.toNat : Int)) ∧ w'.cell? ⟨w.heap.size, 1, none⟩ = some (.int .u8 (s.toNat : Int)) ∧ w'.cell? ⟨w.heap.size, 2, none⟩ = some (.slice A2 p.length c2) ∧ w'.cell? ⟨g, 2, none⟩ = some (.int .u8 (n.toNat : Int)))
          (first | exact ⟨V4.c0, V4.c1, V4.c2, z4⟩ | exact ⟨x0, x1, x2, z2⟩)
          (first | (go_at_call 52; refine (Right_g _ _ _ p true _ HR.out VD.sl).mono ?_; rintro e w4 ⟨rfl, b4⟩; have V4 := VD.later b4; have z4 := (b4.cell (p := ⟨g, 2, none⟩) hgs).trans z2))
        have d0 := V4.c0
        have d1 := V4.c1
        have d2 := V4.c2
        have e0 := free_at V4.at_ 0
        have e1 := free_at V4.at_ 1
        have e2 := free_at V4.at_ 2
        clear x0 x1 x2 z2 z4
        go_wp2
        go_step3
        go_wp2
        rw [jump_ret]
        refine bodyPost_ret (res_frm2 (t := 2) (u := 3) rfl rfl (set_at (set_at (set_at V4.at_ 0 _) 1 _) 2 _)) rfl ⟨?_, ?_⟩
        · exact ((((B3.drew).trans (b4.mono B3.size)).setCell (by simp) _).setCell (by simp) _).setCell (by simp) _
        · rw [HR.out, HNP.out]; simp
theorem Take_yesF (k s : BitVec 8) (k' s' : Int) (v : Value) (p b : List (BitVec 8)) (w : World) (hk : k' = k.toNat) (hs' : s' = s.toNat) (hs : SliceAt w 1 v b.length (u8s b)) (hb : takeV b = (k, s, p, 0)) (hl2 : b.length ≤ 140737488355328) :
    Calls Tryd.prog 32 #[v] w fun e w' => Below w.heap.size w w' ∧ ∃ A c, e = .returned (.tuple #[fv k' s' (.slice A p.length c), .int .i64 0]) ∧ SliceAt w' 1 (.slice A p.length c) p.length (u8s p) ∧ ∀ q, VB (.slice A p.length c) p.length q → w.heap.size < q := by
  subst hk hs'
  unfold takeV at hb
  split at hb
  · cases hb
  rename_i h5
  split at hb
  · rename_i he; simp only [Prod.mk.injEq] at hb; exact absurd hb.2.2.2 he
  rename_i he
  have he' : (openV b).2 = 0 := by simpa using he
  split at hb
  · rename_i k1 s1 n p1 heq
    split at hb
    · rename_i hc
      simp only [Prod.mk.injEq] at hb
      obtain ⟨rfl, rfl, rfl, _⟩ := hb
      refine (Take_formF v b k1 s1 n p1 w hs (by omega) hl2 (Prod.ext heq he')).mono ?_
      rintro e w' ⟨b1, h2⟩
      rw [if_pos hc] at h2
      exact ⟨b1, h2⟩
    · simp at hb
  · simp at hb
end Go.Proofs.YtlanlkpamnoekaaDoor
