/- Contracts of the document's bits: Take. -/
import Derived.Test.YtefbinlmakkjeaaBitsY
namespace Go.Proofs.Ytefbinlmakkjeaa
open Go.RowKit Rf Mem Bv Bits Str
attribute [local go_sem ↓] run_max2 run_min2
set_option maxHeartbeats 1000000 in
set_option maxRecDepth 100000 in
theorem refTake_g (v : Value) (B : List (BitVec 8)) (l : List Bool) (at_ wd : Nat) (N at' wd' r : Int) (w : World) (hN : N = l.length) (ha : at' = at_) (hwd : wd' = wd) (hr : r = num ((l.drop at_).take wd)) (hs : SliceAt w 1 v B.length (u8s B)) (hH : Holds B l) (hl : l.length ≤ 1000000) (h2 : wd ≤ 32) (h4 : at_ + wd ≤ l.length) :
    Calls Try.prog 13 #[bv v N, .int .i64 at', .int .i64 wd'] w fun e w' => Below w.heap.size w w' ∧ e = .returned (.tuple #[.int .i64 r, .int .i64 0]) := by
  subst hN ha hwd hr
  have hrt : true = right B (l.length : Int) := right_yes hH rfl
  have hBl := hH.1
  have HH := Lib.hid hH
  have hBs : B.length ≤ 125001 := by omega
  clear hBl hH
  have hB := below_new w (.cells #[v, .int .i64 (l.length : Int)] 24)
  have hs' := hs.later hB
  obtain ⟨A, c, rfl, _⟩ := hs.form
  have n1 : -9223372036854775808 ≤ (l.length : Int) := by omega
  have n2 : (l.length : Int) ≤ 9223372036854775807 := by omega
  have q1 : (wd : Int) ≤ 32 := by omega
  have q2 : (at_ : Int) ≤ (l.length : Int) := by omega
  have q3 : (wd : Int) ≤ (l.length : Int) - (at_ : Int) := by omega
  have q4 : (l.length : Int) ≤ 1000000 := by omega
  have q5 : decide (l.length < at_) = false := by simp; omega
  clear hs
  go_enter Try.func13, Try.ntmps13
  go_wp2_with fail
  refine (refRight_g _ B _ _ _ hrt hs' n1 n2).mono ?_
  rintro e w0 ⟨rfl, b0⟩
  have g1 := below_at b0 (k := w.heap.size) (o := .cells #[.slice A B.length c, .int .i64 (l.length : Int)] 24) (new_at rfl _) (by simp)
  have c10 := cell_at g1 0
  have c11 := cell_at g1 1
  have hs0 := hs'.later b0
  have hB0 := below_step hB b0
  clear hrt hB b0 hs'
  go_wp2_with fail
  clear c10 c11
  go_loopw [8, 9] (fun n i wr => ∃ k z : Nat, k ≤ wd ∧ z = num ((l.drop at_).take k) ∧ n = .int .i64 z ∧ i = .int .i64 k ∧ Below w0.heap.size w0 wr) (fun _ i _ => wd - (intOf i).toNat)
  case atStart => exact ⟨0, 0, by omega, rfl, rfl, rfl, Below.refl _ _⟩
  case round =>
    obtain ⟨k, z, hk, hz, rfl, rfl, hb⟩ := hrel
    have gr := below_at hb g1 (Array.getElem?_eq_some_iff.1 g1).1
    have c10 := cell_at gr 0
    have c11 := cell_at gr 1
    by_cases hlt : k < wd
    · have hget : l[at_ + k]? = some l[at_ + k] := List.getElem?_eq_getElem (by omega)
      have hT : (l.drop at_).take (k + 1) = (l.drop at_).take k ++ [l[at_ + k]] := by rw [List.take_add_one, List.getElem?_drop, hget]; rfl
      have hzb : z < 4294967296 := by
        have h1 := num_lt ((l.drop at_).take k)
        have h3 : ((l.drop at_).take k).length ≤ 32 := by rw [List.length_take]; omega
        have h5 : (2 : Nat) ^ ((l.drop at_).take k).length ≤ 2 ^ 32 := Nat.pow_le_pow_right (by omega) h3
        have h20 : (2 : Nat) ^ 32 = 4294967296 := by decide
        omega
      have hz1 : num ((l.drop at_).take (k + 1)) = 2 * z + l[at_ + k].toNat := by
        have h1 : ∀ b : Bool, num [b] = b.toNat := by intro b; cases b <;> rfl
        rw [hT, num_append, hz, h1]; simp only [List.length_cons, List.length_nil, Nat.zero_add, Nat.pow_one]; omega
      have hki : (k : Int) < (wd : Int) := by omega
      have hbl : (l[at_ + k].toNat : Int) ≤ 1 := by cases l[at_ + k] <;> decide
      have HZ := Lib.hid hz1
      have HG := Lib.hid hget
      clear hT hz1 hget hz
      generalize l[at_ + k] = b at *
      go_wp2_with fail
      refine (bit_c _ B l _ _ (at_ + k) b _ (by push_cast; rfl) (hs0.later hb) HH.out hl HG.out).mono ?_
      rintro e w1 ⟨rfl, b1⟩
      go_wp2
      go_roundw
      case rel => exact ⟨k + 1, 2 * z + b.toNat, by omega, HZ.out.symm, by push_cast; rfl, by go_num, below_step hb b1⟩
      case measure => simp [intOf]; omega
    · have e : k = wd := by omega
      subst e
      subst hz
      have e' : (k : Int) = (k : Int) := rfl
      go_wp2
      go_ret2
      exact ⟨below_step hB0 hb, rfl⟩
end Go.Proofs.Ytefbinlmakkjeaa
