/- Images: contracts of the document's Stale, bit, Lit, Occupied, At. Nothing that was there is turned. -/
import Derived.Test.YtbeijbhgpddbmaaAspT
namespace Go.Proofs.Ytbeijbhgpddbmaa
open Go.RowKit Rf Mem Bv
attribute [local go_sem ↓] run_max2 run_min2
theorem low32 (b : BitVec 32) (j : Nat) : (Go.bits .and .u32 ((b.toNat : Int) / 2 ^ j) 1 == 1) = b.getLsbD j := by
  have e1 : ((b.toNat : Int) / 2 ^ j) = ((b >>> j).toNat : Int) := by
    rw [BitVec.toNat_ushiftRight, Nat.shiftRight_eq_div_pow]; norm_cast
  have e2 : Go.bits .and .u32 ((b >>> j).toNat : Int) 1 = (((b >>> j) &&& 1#32).toNat : Int) := Bv.bits_and .u32 rfl (b >>> j) 1#32
  rw [e1, e2]
  have e3 : (b >>> j) &&& 1#32 = if b.getLsbD j then 1#32 else 0#32 := by
    rw [BitVec.and_one_eq_setWidth_ofBool_getLsbD]
    simp only [BitVec.getLsbD_ushiftRight, Nat.add_zero]
    cases b.getLsbD j <;> rfl
  rw [e3]
  cases b.getLsbD j <;> rfl
theorem bitV_nat (x : BitVec 32) {k : Nat} (h : k < 32) : bitV x k = x.getLsbD k := by
  unfold bitV
  rw [decide_eq_true (by omega : (0 : Int) ≤ k), decide_eq_true (by omega : (k : Int) < 32)]
  simp
theorem bitV_neg {x : BitVec 32} {n : Int} (h : ¬ 0 ≤ n) : bitV x n = false := by
  unfold bitV; rw [decide_eq_false h]; rfl
theorem bitV_big {x : BitVec 32} {n : Int} (h : ¬ n < 32) : bitV x n = false := by
  unfold bitV; rw [decide_eq_false h]; simp
theorem refStale_c (L M : List Value) (age st : Int) (s : Bool) (w : World) (hs : s = decide (st < age)) (hL : L[6]? = some (.int .i64 st)) (hM : M[0]? = some (.int .i64 age)) :
    Calls Try.prog 10 #[.agg L.toArray, .agg M.toArray] w fun e w' => e = .returned (.bool s) ∧ Below w.heap.size w w' := by
  subst hs
  have b0 := below_new w (.cells L.toArray 29)
  have b1 := below_new (w.alloc (.cells L.toArray 29)) (.cells M.toArray 35)
  have x0 := cell_list (old_at (new_at (w := w) rfl (.cells L.toArray 29)) (.cells M.toArray 35)) hL
  have x1 := cell_list (new_at (w := w.alloc (.cells L.toArray 29)) (by simp; rfl) (.cells M.toArray 35)) hM
  go_enter Try.func10, Try.ntmps10
  go_wp2_with fail
  refine (r3Late_c age st _).mono ?_
  rintro e w' ⟨rfl, rfl⟩
  go_wp2
  go_ret
  exact ⟨rfl, below_step b0 b1⟩
theorem refbit_c (x : BitVec 32) (n : Int) (b : Bool) (w : World) (hb : b = bitV x n) :
    Calls Try.prog 80 #[.int .u32 x.toNat, .int .i64 n] w fun e w' => e = .returned (.bool b) ∧ w' = w := by
  by_cases h1 : 0 ≤ n
  · obtain ⟨k, rfl⟩ := Int.eq_ofNat_of_zero_le h1
    by_cases h2 : k < 32
    · have q1 : decide (0 ≤ (k : Int)) = true := decide_eq_true h1
      have q2 : decide ((k : Int) < 32) = true := decide_eq_true (by omega)
      have i2 : (k : Int) < 32 := by omega
      have hl := low32 x k
      rw [bitV_nat x h2] at hb
      rw [← hb] at hl
      clear hb
      generalize (x.toNat : Int) = xi at *
      go_enter Try.func80, Try.ntmps80
      go_wp2
      go_ret
      exact ⟨rfl, rfl⟩
    · have q1 : decide (0 ≤ (k : Int)) = true := decide_eq_true h1
      have q2 : decide ((k : Int) < 32) = false := decide_eq_false (by omega)
      obtain rfl : b = false := hb.trans (bitV_big (by omega))
      clear hb
      go_enter Try.func80, Try.ntmps80
      go_wp2
      go_ret
      exact ⟨rfl, rfl⟩
  · have q1 : decide (0 ≤ n) = false := decide_eq_false h1
    obtain rfl : b = false := hb.trans (bitV_neg h1)
    clear hb
    go_enter Try.func80, Try.ntmps80
    go_wp2
    go_ret
    exact ⟨rfl, rfl⟩
end Go.Proofs.Ytbeijbhgpddbmaa
