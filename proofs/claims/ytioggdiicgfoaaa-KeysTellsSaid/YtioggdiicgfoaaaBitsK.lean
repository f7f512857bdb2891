/- Contracts: Take of bits. -/
import Derived.Test.YtioggdiicgfoaaaBitsJ
namespace Go.Proofs.Ytioggdiicgfoaaa
open Go.RowKit Rf Mem Bv Bits Str
attribute [local go_sem ↓] run_max2 run_min2
theorem num_snoc (l : List Bool) (b : Bool) : num (l ++ [b]) = 2 * num l + b.toNat := by
  rw [num_append, List.length_singleton, Nat.pow_one, Nat.mul_comm]; cases b <;> rfl
/-- one more bit, as the code reads it -/
theorem take_step {B : List (BitVec 8)} {l : List Bool} (h : Holds B l) {at_ k : Nat} (hk : at_ + k < l.length) {y : BitVec 8} (hy : B[(at_ + k) / 8]? = some y) :
    num ((l.drop at_).take (k + 1)) = 2 * num ((l.drop at_).take k) + y.toNat / 2 ^ (7 - (at_ + k) % 8) % 2 := by
  have h1 : l[at_ + k]? = some (y.getLsbD (7 - (at_ + k) % 8)) := by
    have := bitsOf_get B ((at_ + k) / 8) ((at_ + k) % 8) (by omega)
    rw [hy, Option.map_some, show 8 * ((at_ + k) / 8) + (at_ + k) % 8 = at_ + k by omega, holds_get h hk] at this
    exact this
  rw [List.take_add_one, List.getElem?_drop, h1]
  have e2 : (some (y.getLsbD (7 - (at_ + k) % 8))).toList = [y.getLsbD (7 - (at_ + k) % 8)] := rfl
  rw [e2, num_snoc]
  congr 1
  rw [BitVec.getLsbD, Nat.testBit_eq_decide_div_mod_eq]
  rcases Nat.mod_two_eq_zero_or_one (y.toNat / 2 ^ (7 - (at_ + k) % 8)) with e | e <;> rw [e] <;> rfl
set_option maxHeartbeats 1000000 in
set_option maxRecDepth 100000 in
theorem Take_bad (v : Value) (B : List (BitVec 8)) (N at_ wd : Int) (w : World) (hs : SliceAt w 1 v B.length (u8s B)) (hN1 : -9223372036854775808 ≤ N) (hN2 : N ≤ 9223372036854775807)
    (h : right B N = false ∨ wd < 0 ∨ 32 < wd ∨ at_ < 0) :
    Calls Try.prog 21 #[bv v N, .int .i64 at_, .int .i64 wd] w fun e w' => Below w.heap.size w w' ∧ e = .returned (.tuple #[.int .i64 0, .int .i64 2]) := by
  have hB : Below w.heap.size w (w.alloc (.cells #[v, .int .i64 N] 62)) := (Below.refl _ w).alloc (Nat.le_refl _) _
  have hs' := hs.later hB
  obtain ⟨A, c, rfl, _⟩ := hs.form
  clear hs
  have hcase : (right B N = false) ∨ (right B N = true ∧ decide (wd < 0) = true) ∨ (right B N = true ∧ decide (wd < 0) = false ∧ decide (32 < wd) = true) ∨ (right B N = true ∧ decide (wd < 0) = false ∧ decide (32 < wd) = false ∧ decide (at_ < 0) = true) := by
    rcases hr : right B N with _ | _
    · exact .inl rfl
    by_cases h1 : wd < 0
    · exact .inr (.inl ⟨rfl, decide_eq_true h1⟩)
    by_cases h2 : 32 < wd
    · exact .inr (.inr (.inl ⟨rfl, decide_eq_false h1, decide_eq_true h2⟩))
    rcases h with h | h | h | h
    · rw [hr] at h; cases h
    · exact absurd h h1
    · exact absurd h h2
    · exact .inr (.inr (.inr ⟨rfl, decide_eq_false h1, decide_eq_false h2, decide_eq_true h⟩))
  clear h
  rcases hcase with hr | ⟨hr, q1⟩ | ⟨hr, q1, q2⟩ | ⟨hr, q1, q2, q3⟩
  all_goals
    go_enter Try.func21, Try.ntmps21
    go_wp2_with fail
    refine wp_scope_fwd 0 (by simp only [findLabel]; rfl) ?_
    go_wp2_with fail
    refine (Right_c _ B N _ hs' hN1 hN2).mono ?_
    rintro e w1 ⟨rfl, b1⟩
    rw [hr]
    go_wp2
    go_step3
    go_wp2
    rw [jump_goto]
    go_wp2
    rw [Exit.noGoto_ret]
    go_ret2
    exact ⟨below_step hB b1, rfl⟩
set_option maxHeartbeats 1000000 in
set_option maxRecDepth 100000 in
theorem Take_short (v : Value) (B : List (BitVec 8)) (N at_ wd : Int) (w : World) (hs : SliceAt w 1 v B.length (u8s B)) (hN1 : -9223372036854775808 ≤ N) (hN2 : N ≤ 9223372036854775807)
    (hr : right B N = true) (h1 : 0 ≤ wd) (h2 : wd ≤ 32) (h3 : 0 ≤ at_) (h4 : N < at_ ∨ N - at_ < wd) :
    Calls Try.prog 21 #[bv v N, .int .i64 at_, .int .i64 wd] w fun e w' => Below w.heap.size w w' ∧ e = .returned (.tuple #[.int .i64 0, .int .i64 40]) := by
  have hB : Below w.heap.size w (w.alloc (.cells #[v, .int .i64 N] 62)) := (Below.refl _ w).alloc (Nat.le_refl _) _
  have hs' := hs.later hB
  obtain ⟨A, c, rfl, _⟩ := hs.form
  clear hs
  have hN0 : 0 ≤ N := by
    obtain ⟨l, rfl, _⟩ := (right_iff B N).1 hr; omega
  have q1 : decide (wd < 0) = false := decide_eq_false (by omega)
  have q2 : decide (32 < wd) = false := decide_eq_false (by omega)
  have q3 : decide (at_ < 0) = false := decide_eq_false (by omega)
  have hcase : (decide (N < at_) = true) ∨ (decide (N < at_) = false ∧ decide (N - at_ < wd) = true) := by
    by_cases h5 : N < at_
    · exact .inl (decide_eq_true h5)
    · exact .inr ⟨decide_eq_false h5, decide_eq_true (by omega)⟩
  clear h4
  rcases hcase with q4 | ⟨q4, q5⟩
  all_goals
    try have i1 : at_ ≤ N := by simpa using q4
    try have i2 : N - at_ ≤ 9223372036854775807 := by omega
    try have hwl : wrap64 (N - at_) = N - at_ := by unfold wrap64; omega
    go_enter Try.func21, Try.ntmps21
    go_wp2_with fail
    refine wp_scope_fwd 0 (by simp only [findLabel]; rfl) ?_
    go_wp2_with fail
    refine (Right_c _ B N _ hs' hN1 hN2).mono ?_
    rintro e w1 ⟨rfl, b1⟩
    rw [hr]
    have g1 := below_at b1 (k := w.heap.size) (o := .cells #[.slice A B.length c, .int .i64 N] 62) (new_at rfl _) (by simp)
    have c11 := cell_at g1 1
    go_wp2
    go_step3
    go_wp2
    rw [jump_goto]
    go_wp2
    rw [Exit.noGoto_ret]
    go_ret2
    exact ⟨below_step hB b1, rfl⟩
end Go.Proofs.Ytioggdiicgfoaaa
