/- Up to 16 bits side by side that are others, not all as they were: what is told behind a close is told no more. Plain Lean. No condition. -/
import Derived.Test.YtbjhmaefjgihlaaCrcC
namespace Go.Proofs.Ytbjhmaefjgihlaa.Crc
open Bv Mem
def bits16 (w : BitVec 16) : List Bool := (List.range 16).map w.getLsbD
def zeros (n : Nat) : List Bool := List.replicate n false
theorem zed_split (w : BitVec 16) : zed w = (w >>> 1) ^^^ zed (ofBit (w.getLsbD 0)) := by
  have h0 : zed 0#16 = 0#16 := by decide
  have h1 : zed 1#16 = 0x8408#16 := by decide
  conv => lhs; unfold zed
  unfold ofBit
  cases w.getLsbD 0
  · simp [h0]
  · simp [h1]
theorem zip_zeros : ∀ (k : Nat) (l : List Bool), l.length = k → List.zipWith (· ^^ ·) (zeros k) l = l
  | 0, l, h => by rw [List.eq_nil_of_length_eq_zero h]; rfl
  | k + 1, x :: l, h => by
    have := zip_zeros k l (by simpa using h)
    simp only [zeros, List.replicate_succ, List.zipWith_cons_cons, Bool.false_xor] at this ⊢
    rw [this]
theorem zip_zeros' (k : Nat) (l : List Bool) (h : l.length = k) : List.zipWith (· ^^ ·) l (zeros k) = l := by
  rw [List.zipWith_comm_of_comm (fun a b => Bool.xor_comm a b), zip_zeros k l h]
theorem goBits_zeros (k : Nat) : goBits 0#16 (zeros k) = 0#16 := by
  induction k with
  | zero => rfl
  | succ k ih => exact ih
theorem goBits_split (s : BitVec 16) (k : Nat) (l : List Bool) (h : l.length = k) : goBits s l = goBits s (zeros k) ^^^ goBits 0#16 l := by
  have := goBits_xor (zeros k) l s 0#16 (by rw [h]; simp [zeros])
  rwa [zip_zeros k l h, BitVec.xor_zero] at this
theorem zeros_xor (s t : BitVec 16) (k : Nat) : goBits (s ^^^ t) (zeros k) = goBits s (zeros k) ^^^ goBits t (zeros k) := by
  have := goBits_xor (zeros k) (zeros k) s t rfl
  rwa [zip_zeros k (zeros k) (by simp [zeros])] at this
theorem feed0 : ∀ (k : Nat) (w : BitVec 16), (∀ i, k ≤ i → w.getLsbD i = false) → goBits 0#16 ((List.range k).map w.getLsbD) = goBits w (zeros k)
  | 0, w, h => by
    have : w = 0#16 := by apply BitVec.eq_of_getLsbD_eq; intro i hi; simp [h i (Nat.zero_le _)]
    rw [this]; rfl
  | k + 1, w, h => by
    have ih := feed0 k (w >>> 1) (fun i hi => by rw [BitVec.getLsbD_ushiftRight]; exact h _ (by omega))
    have hl : ((List.range (k + 1)).map w.getLsbD) = w.getLsbD 0 :: ((List.range k).map (w >>> 1).getLsbD) := by
      rw [List.range_succ_eq_map, List.map_cons, List.map_map]
      congr 1
      apply List.map_congr_left
      intro i _
      simp [BitVec.getLsbD_ushiftRight, Nat.add_comm]
    rw [hl]
    have e1 : goBits 0#16 (w.getLsbD 0 :: ((List.range k).map (w >>> 1).getLsbD)) = goBits (zed (ofBit (w.getLsbD 0))) ((List.range k).map (w >>> 1).getLsbD) := by
      simp [goBits, by1]
    have e2 : goBits w (zeros (k + 1)) = goBits (zed w) (zeros k) := by
      simp [goBits, zeros, List.replicate_succ, by1, ofBit]
    rw [e1, e2, goBits_split _ k _ (by simp), ih, zed_split w, zeros_xor, BitVec.xor_comm]
theorem feed (r w : BitVec 16) : goBits r (bits16 w) = goBits (r ^^^ w) (zeros 16) := by
  rw [goBits_split r 16 (bits16 w) (by simp [bits16]), zeros_xor]
  congr 1
  exact feed0 16 w (fun i hi => BitVec.getLsbD_of_ge _ _ hi)
theorem bits_join (x y : BitVec 8) : bits8 x ++ bits8 y = bits16 (join16 x y) := by
  have h : ∀ i, i < 16 → (join16 x y).getLsbD i = if i < 8 then x.getLsbD i else y.getLsbD (i - 8) := by
    intro i hi
    unfold join16
    simp only [BitVec.getLsbD_or, BitVec.getLsbD_shiftLeft, BitVec.getLsbD_setWidth]
    by_cases h8 : i < 8
    · simp [h8, hi]
    · have : x.getLsbD i = false := BitVec.getLsbD_of_ge _ _ (by omega)
      have h9 : i - 8 < 16 := by omega
      simp [h8, hi, this, h9]
  apply List.ext_getElem?
  intro i
  by_cases hi : i < 16
  · have hr : (bits16 (join16 x y))[i]? = some ((join16 x y).getLsbD i) := by simp [bits16, hi]
    rw [hr, h i hi]
    by_cases h8 : i < 8
    · rw [List.getElem?_append_left (by rw [bits8_length]; exact h8), bits8_get x i h8, if_pos h8]
    · rw [List.getElem?_append_right (by rw [bits8_length]; omega), bits8_length, bits8_get y (i - 8) (by omega), if_neg h8]
  · rw [List.getElem?_eq_none (by rw [List.length_append, bits8_length, bits8_length]; omega), List.getElem?_eq_none (by simp [bits16]; omega)]
theorem ones (i : Nat) (hi : i < 16) : (0xffff#16).getLsbD i = true := by
  rw [show (0xffff#16 : BitVec 16) = BitVec.allOnes 16 from rfl, BitVec.getLsbD_allOnes, decide_eq_true hi]
/-- what is left behind a close -/
def left : BitVec 16 := goBits 0xffff#16 (zeros 16)
theorem valid_iff (x : List (BitVec 8)) (n : Nat) (h : x.length = n + 2) : Crc.close (x.take n) = x ↔ go 0xffff#16 x = left := by
  obtain ⟨a, b, ha, hb, hs⟩ := split_last x n h
  rw [← open_test x n a b hs]
  have e : go 0xffff#16 x = goBits (go 0xffff#16 (x.take n) ^^^ join16 a b) (zeros 16) := by
    conv => lhs; rw [hs, go_append]
    rw [← feed, ← bits_join]; simp [go, allBits]
  rw [e]
  unfold Crc.sum left
  generalize go 0xffff#16 (x.take n) = r
  generalize join16 a b = j
  constructor
  · rintro rfl
    congr 1
    apply BitVec.eq_of_getLsbD_eq; intro i hi
    rw [ones i hi, BitVec.getLsbD_xor, BitVec.getLsbD_not, decide_eq_true hi]; cases r.getLsbD i <;> rfl
  · intro q
    have := goBits_inj _ q
    apply BitVec.eq_of_getLsbD_eq; intro i hi
    have h2 := congrArg (fun z => z.getLsbD i) this
    simp only [ones i hi, BitVec.getLsbD_xor] at h2
    rw [BitVec.getLsbD_not, decide_eq_true hi]
    revert h2; cases r.getLsbD i <;> cases j.getLsbD i <;> simp
theorem close_valid (bs : List (BitVec 8)) : go 0xffff#16 (Crc.close bs) = left := by
  rw [← valid_iff _ bs.length (by simp [Crc.close])]
  rw [show (Crc.close bs).take bs.length = bs by simp [Crc.close]]
/-- d is c with bits of by put together with it, from bit k on: i of them -/
def Err (c d : List (BitVec 8)) (k : Nat) (by_ : BitVec 16) (i : Nat) : Prop :=
  d.length = c.length ∧ ∀ q x y, c[q]? = some x → d[q]? = some y → ∀ r, r < 8 → y.getLsbD r = (x.getLsbD r ^^ (decide (k ≤ 8 * q + r) && decide (8 * q + r < k + i) && by_.getLsbD (8 * q + r - k)))
theorem allBits_get (bs : List (BitVec 8)) (q r : Nat) (hr : r < 8) : (allBits bs)[8 * q + r]? = (bs[q]?).map (fun b => b.getLsbD r) := by
  induction bs generalizing q with
  | nil => simp [allBits]
  | cons b bs ih =>
    have e : allBits (b :: bs) = bits8 b ++ allBits bs := by simp [allBits]
    rw [e]
    cases q with
    | zero => rw [List.getElem?_append_left (by rw [bits8_length]; omega), Nat.mul_zero, Nat.zero_add, bits8_get b r hr]; rfl
    | succ q =>
      rw [List.getElem?_append_right (by rw [bits8_length]; omega), bits8_length, show 8 * (q + 1) + r - 8 = 8 * q + r by omega, ih q]
      simp
theorem err_bits {c d : List (BitVec 8)} {k : Nat} {by_ : BitVec 16} (h : Err c d k by_ 16) (m : Nat) (hm : k + 16 + m = 8 * c.length) :
    allBits d = List.zipWith (· ^^ ·) (allBits c) (zeros k ++ (bits16 by_ ++ zeros m)) := by
  apply List.ext_getElem?
  intro p
  have hp : p = 8 * (p / 8) + p % 8 := by omega
  have hr : p % 8 < 8 := by omega
  generalize p / 8 = q at *
  generalize p % 8 = r at *
  subst hp
  rw [allBits_get d q r hr, List.getElem?_zipWith, allBits_get c q r hr]
  by_cases hq : q < c.length
  · have hc : c[q]? = some c[q] := List.getElem?_eq_getElem hq
    have hd : d[q]? = some (d[q]'(by rw [h.1]; exact hq)) := List.getElem?_eq_getElem _
    have := h.2 q _ _ hc hd r hr
    rw [hc, hd]
    have he : (zeros k ++ (bits16 by_ ++ zeros m))[8 * q + r]? = some (decide (k ≤ 8 * q + r) && decide (8 * q + r < k + 16) && by_.getLsbD (8 * q + r - k)) := by
      by_cases h1 : 8 * q + r < k
      · rw [List.getElem?_append_left (by simp [zeros]; exact h1)]
        simp [zeros, h1]; omega
      · rw [List.getElem?_append_right (by simp [zeros]; omega)]
        by_cases h2 : 8 * q + r < k + 16
        · rw [List.getElem?_append_left (by simp [zeros, bits16]; omega)]
          have h3 : 8 * q + r - k < 16 := by omega
          have h4 : k ≤ 8 * q + r := by omega
          simp [zeros, bits16, h2, h3, h4]
        · rw [List.getElem?_append_right (by simp [zeros, bits16]; omega)]
          have h3 : 8 * q + r - k - 16 < m := by omega
          simp [zeros, bits16, h2, h3]
    rw [he]
    simp [this]
  · rw [List.getElem?_eq_none (by rw [h.1]; omega), List.getElem?_eq_none (by omega)]; rfl
theorem err_open {bs d : List (BitVec 8)} {k : Nat} {by_ : BitVec 16} (h : Err (Crc.close bs) d k by_ 16) (hk : k + 16 ≤ 8 * (bs.length + 2)) :
    (openV d).2 = (if by_ = 0#16 then 0 else 42) ∧ (by_ ≠ 0#16 → (openV d).1 = []) := by
  have hl : d.length = bs.length + 2 := by rw [h.1]; simp [Crc.close]
  have hcl : (Crc.close bs).length = bs.length + 2 := by simp [Crc.close]
  have hb := err_bits h (8 * (bs.length + 2) - (k + 16)) (by rw [hcl]; omega)
  have hg : go 0xffff#16 d = left ^^^ goBits (goBits by_ (zeros 16)) (zeros (8 * (bs.length + 2) - (k + 16))) := by
    have e : go 0xffff#16 d = goBits (0xffff#16 ^^^ 0#16) (allBits d) := by simp [go]
    rw [e, hb, goBits_xor _ _ _ _ (by rw [allBits_length, hcl]; simp [zeros, bits16]; omega), goBits_append, goBits_append, goBits_zeros, feed, BitVec.zero_xor]
    congr 1
    exact close_valid bs
  have hz : go 0xffff#16 d = left ↔ by_ = 0#16 := by
    rw [hg]
    constructor
    · intro q
      have q2 : goBits (goBits by_ (zeros 16)) (zeros (8 * (bs.length + 2) - (k + 16))) = 0#16 := by
        have := congrArg (left ^^^ ·) q
        simpa [← BitVec.xor_assoc] using this
      rw [← goBits_zeros (8 * (bs.length + 2) - (k + 16))] at q2
      have q3 := goBits_inj _ q2
      rw [← goBits_zeros 16] at q3
      exact goBits_inj _ q3
    · rintro rfl; rw [goBits_zeros, goBits_zeros, BitVec.xor_zero]
  have hv := valid_iff d bs.length hl
  unfold openV
  rw [if_neg (by omega), show d.length - 2 = bs.length by omega]
  by_cases hby : by_ = 0#16
  · rw [if_pos (hv.2 (hz.2 hby)), if_pos hby]; exact ⟨rfl, fun h => absurd hby h⟩
  · rw [if_neg (fun h => hby (hz.1 (hv.1 h))), if_neg hby]; exact ⟨rfl, fun _ => rfl⟩
theorem err_start (c : List (BitVec 8)) (k : Nat) (by_ : BitVec 16) : Err c c k by_ 0 := by
  refine ⟨rfl, fun q x y h1 h2 r hr => ?_⟩
  rw [h1] at h2; cases h2
  by_cases h : k ≤ 8 * q + r
  · simp [show ¬ 8 * q + r < k by omega]
  · simp [h]
theorem err_skip {c d : List (BitVec 8)} {k : Nat} {by_ : BitVec 16} {i : Nat} (h : Err c d k by_ i) (hb : by_.getLsbD i = false) : Err c d k by_ (i + 1) := by
  refine ⟨h.1, fun q x y h1 h2 r hr => ?_⟩
  rw [h.2 q x y h1 h2 r hr]
  by_cases e : 8 * q + r = k + i
  · rw [show 8 * q + r - k = i by omega, hb]; simp
  · rw [show decide (8 * q + r < k + i) = decide (8 * q + r < k + (i + 1)) from decide_eq_decide.2 (by omega)]
theorem err_set {c d : List (BitVec 8)} {k : Nat} {by_ : BitVec 16} {i q0 r0 : Nat} {y0 : BitVec 8} (h : Err c d k by_ i) (hb : by_.getLsbD i = true) (hq : 8 * q0 + r0 = k + i) (hr0 : r0 < 8) (hy : d[q0]? = some y0) :
    Err c (d.set q0 (y0 ^^^ (1#8 <<< r0))) k by_ (i + 1) := by
  have hlt : q0 < d.length := (List.getElem?_eq_some_iff.1 hy).1
  refine ⟨by simpa using h.1, fun q x y h1 h2 r hr => ?_⟩
  by_cases e : q = q0
  · subst e
    rw [List.getElem?_set_self hlt] at h2
    cases h2
    have := h.2 q x y0 h1 hy r hr
    rw [BitVec.getLsbD_xor, this]
    by_cases er : r = r0
    · subst er
      have h3 : (1#8 <<< r).getLsbD r = true := by simp [hr]
      rw [h3, show 8 * q + r - k = i by omega, hb]
      simp [show ¬ 8 * q + r < k + i by omega, show 8 * q + r < k + (i + 1) by omega, show k ≤ 8 * q + r by omega]
    · have h3 : (1#8 <<< r0).getLsbD r = false := by
        rw [BitVec.getLsbD_shiftLeft, BitVec.getLsbD_one]
        by_cases hlt : r < r0
        · simp [hlt]
        · simp [show ¬ (r - r0 = 0) by omega]
      rw [h3, Bool.xor_false, show decide (8 * q + r < k + i) = decide (8 * q + r < k + (i + 1)) from decide_eq_decide.2 (by omega)]
  · rw [List.getElem?_set_ne (fun h => e h.symm)] at h2
    rw [h.2 q x y h1 h2 r hr, show decide (8 * q + r < k + i) = decide (8 * q + r < k + (i + 1)) from decide_eq_decide.2 (by omega)]
end Go.Proofs.Ytbjhmaefjgihlaa.Crc
