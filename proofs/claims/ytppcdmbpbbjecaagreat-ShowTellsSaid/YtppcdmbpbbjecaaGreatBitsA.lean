/- Words for the package bits: masks, the last byte of bits that may be. -/
import Derived.Test.YtppcdmbpbbjecaaGreatBitsMath
namespace Go.Proofs.YtppcdmbpbbjecaaGreat.Bits
open Bv Go.RowKit
theorem mask7 (x : Int) : Go.bits .and .i64 x 7 = x % 8 := by
  have h : ((BitVec.ofInt 64 x) &&& (BitVec.ofInt 64 7)).toNat = (x % 18446744073709551616).toNat % 8 := by
    rw [BitVec.toNat_and, BitVec.toNat_ofInt, BitVec.toNat_ofInt]
    exact Nat.and_two_pow_sub_one_eq_mod _ 3
  have h2 : Go.bits .and .i64 x 7 = IntKind.i64.wrap ((((BitVec.ofInt 64 x) &&& (BitVec.ofInt 64 7)).toNat : Nat) : Int) := rfl
  rw [h2, h, IntWalk.i64_in _ (by omega)]; omega
theorem mask1 (x : Int) : Go.bits .and .i64 x 1 = x % 2 := by
  have h : ((BitVec.ofInt 64 x) &&& (BitVec.ofInt 64 1)).toNat = (x % 18446744073709551616).toNat % 2 := by
    rw [BitVec.toNat_and, BitVec.toNat_ofInt, BitVec.toNat_ofInt]
    exact Nat.and_two_pow_sub_one_eq_mod _ 1
  have h2 : Go.bits .and .i64 x 1 = IntKind.i64.wrap ((((BitVec.ofInt 64 x) &&& (BitVec.ofInt 64 1)).toNat : Nat) : Int) := rfl
  rw [h2, h, IntWalk.i64_in _ (by omega)]; omega
theorem or_bit (n b : Nat) (hn : n < 4611686018427387904) (hb : b ≤ 1) : Go.bits .or .i64 (2 * (n : Int)) (b : Int) = ((2 * n + b : Nat) : Int) := by
  have h : ((BitVec.ofInt 64 (2 * (n : Int))) ||| (BitVec.ofInt 64 (b : Int))).toNat = 2 * n + b := by
    rw [BitVec.toNat_or, BitVec.toNat_ofInt, BitVec.toNat_ofInt]
    rw [show ((2 * (n : Int)) % ((2 ^ 64 : Nat) : Int)).toNat = 2 * n by omega, show ((b : Int) % ((2 ^ 64 : Nat) : Int)).toNat = b by omega]
    rw [show 2 * n = 2 ^ 1 * n by omega, ← Nat.two_pow_add_eq_or_of_lt (by omega)]
  have h2 : Go.bits .or .i64 (2 * (n : Int)) (b : Int) = IntKind.i64.wrap ((((BitVec.ofInt 64 (2 * (n : Int))) ||| (BitVec.ofInt 64 (b : Int))).toNat : Nat) : Int) := rfl
  rw [h2, h, IntWalk.i64_in _ (by omega)]
theorem low_zero (x : BitVec 8) (k : Nat) : x.toNat % 2 ^ k = 0 ↔ ∀ i, i < k → x.getLsbD i = false := by
  constructor
  · intro h i hi
    have := congrArg (fun z => z.testBit i) h
    simp only [Nat.testBit_mod_two_pow, Nat.zero_testBit, decide_eq_true hi, Bool.true_and] at this
    exact this
  · intro h
    apply Nat.eq_of_testBit_eq
    intro i
    rw [Nat.testBit_mod_two_pow, Nat.zero_testBit]
    by_cases hi : i < k
    · have := h i hi
      rw [BitVec.getLsbD] at this
      rw [this, Bool.and_false]
    · rw [decide_eq_false hi, Bool.false_and]
theorem right_neg (B : List (BitVec 8)) {N : Int} (h : N < 0) : right B N = false := by
  unfold right; rw [decide_eq_false (by omega), Bool.false_and]
theorem right_len (B : List (BitVec 8)) {n : Nat} (h : B.length ≠ (n + 7) / 8) : right B (n : Int) = false := by
  unfold right; rw [decide_eq_false (by omega), Bool.false_and]
theorem right_whole (B : List (BitVec 8)) {n : Nat} (h : B.length = (n + 7) / 8) (h8 : n % 8 = 0) : right B (n : Int) = true := by
  unfold right
  rw [decide_eq_true (by omega), Bool.true_and, List.drop_of_length_le (by rw [bitsOf_length]; omega)]; rfl
theorem right_last (B : List (BitVec 8)) {n : Nat} (h : B.length = (n + 7) / 8) (h8 : n % 8 ≠ 0) {x : BitVec 8} (hx : B[n / 8]? = some x) : right B (n : Int) = decide (x.toNat % 2 ^ (8 - n % 8) = 0) := by
  have key : right B (n : Int) = true ↔ x.toNat % 2 ^ (8 - n % 8) = 0 := by
    rw [low_zero, right_iff]
    constructor
    · rintro ⟨l, hl, hH⟩ i hi
      have hl' : l.length = n := by omega
      have hg : (bitsOf B)[8 * (n / 8) + (7 - i)]? = some false := by
        rw [holds_len hH, List.getElem?_append_right (by omega), List.getElem?_replicate, if_pos (by omega)]
      rw [bitsOf_get _ _ _ (by omega), hx, Option.map_some, show 7 - (7 - i) = i by omega] at hg
      exact Option.some.inj hg
    · intro hz
      have hl : ((bitsOf B).take n).length = n := by rw [List.length_take, bitsOf_length]; omega
      refine ⟨(bitsOf B).take n, by omega, by omega, 8 * B.length - n, ?_⟩
      apply List.ext_getElem?
      intro i
      by_cases hi : i < n
      · rw [List.getElem?_append_left (by omega), List.getElem?_take, if_pos hi]
      · rw [List.getElem?_append_right (by omega), hl]
        by_cases hi2 : i < 8 * B.length
        · rw [List.getElem?_replicate, if_pos (by omega)]
          have e : i = 8 * (n / 8) + (i - 8 * (n / 8)) := by omega
          rw [e, bitsOf_get _ _ _ (by omega), hx, Option.map_some, hz _ (by omega)]
        · rw [List.getElem?_eq_none (by rw [bitsOf_length]; omega), List.getElem?_eq_none (by simp; omega)]
  rw [Bool.eq_iff_iff, key, decide_eq_true_eq]
end Go.Proofs.YtppcdmbpbbjecaaGreat.Bits
