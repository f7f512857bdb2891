/- Keys: the law's cut. Nothing that was there is turned. -/
import Derived.Test.YtlebpaebdjdbbaaKeyO
namespace Go.Proofs.Ytlebpaebdjdbbaa
open Go.RowKit Rf Mem KM Bits Bv
attribute [local go_sem ↓] run_max2 run_min2
def mask (n : Nat) : BitVec 32 := BitVec.ofNat 32 (2 ^ n - 1)
def cutK (ks : List (BitVec 8)) (nc j : Nat) : List (BitVec 8) := (List.range 24).map fun i => if i < j then (if i < nc then BitVec.ofNat 8 ((ks.getD i 0#8).toNat % 4) else 0#8) else ks.getD i 0#8
def cutB (b : Btn) (ns ne nc : Nat) : Btn := ⟨b.ent &&& mask ns, b.exi &&& mask ne, b.via &&& mask nc, b.can, b.aut, cutK b.keys nc 24⟩
theorem and_mask (x : BitVec 32) (n : Nat) (hn : n < 32) : Go.bits .and .u32 (x.toNat : Int) ((2 ^ n - 1) % 4294967296) = ((x &&& mask n).toNat : Int) := by
  have hp : (2 : Nat) ^ n < 2 ^ 32 := Nat.pow_lt_pow_right (by omega) hn
  have h1 : 1 ≤ (2 : Nat) ^ n := Nat.one_le_two_pow
  have hm : ((2 : Int) ^ n - 1) % 4294967296 = ((mask n).toNat : Int) := by
    unfold mask
    rw [BitVec.toNat_ofNat, Nat.mod_eq_of_lt (by omega)]
    have e : ((2 : Int) ^ n) = (((2 : Nat) ^ n : Nat) : Int) := by simp
    rw [e]
    omega
  rw [hm]
  exact Bv.bits_and .u32 rfl x (mask n)
theorem cutK_len (ks : List (BitVec 8)) (nc j : Nat) : (cutK ks nc j).length = 24 := by simp [cutK]
theorem cutK_zero (ks : List (BitVec 8)) (nc : Nat) (h : ks.length = 24) : cutK ks nc 0 = ks := by
  apply List.ext_getElem?
  intro i
  by_cases hi : i < 24
  · simp [cutK, hi, List.getD, List.getElem?_eq_getElem (show i < ks.length by omega)]
  · rw [List.getElem?_eq_none (by rw [cutK_len]; omega), List.getElem?_eq_none (by omega)]
theorem cutK_get (ks : List (BitVec 8)) (nc : Nat) {j : Nat} (hj : j < 24) : (cutK ks nc j).getD j 0#8 = ks.getD j 0#8 := by
  simp [cutK, List.getD, hj]
theorem cutK_succ (ks : List (BitVec 8)) (nc j : Nat) (hj : j < 24) (z : BitVec 8) (hz : z = if j < nc then BitVec.ofNat 8 ((ks.getD j 0#8).toNat % 4) else 0#8) : (cutK ks nc j).set j z = cutK ks nc (j + 1) := by
  subst hz
  apply List.ext_getElem?
  intro i
  rw [List.getElem?_set]
  by_cases hi : i < 24
  · by_cases e : j = i
    · subst e; simp [cutK, hi]
    · simp only [if_neg e, cutK, List.getElem?_map, List.getElem?_range hi, Option.map_some]
      congr 1
      by_cases h1 : i < j
      · rw [if_pos h1, if_pos (show i < j + 1 by omega)]
      · rw [if_neg h1, if_neg (show ¬ i < j + 1 by omega)]
  · simp [cutK, hi]
    intro h; omega
theorem mod4_8 (x : BitVec 8) : (x.toNat : Int).tmod 4 = ((BitVec.ofNat 8 (x.toNat % 4)).toNat : Int) := by
  rw [BitVec.toNat_ofNat, Int.tmod_eq_emod_of_nonneg (by omega)]; omega
end Go.Proofs.Ytlebpaebdjdbbaa
