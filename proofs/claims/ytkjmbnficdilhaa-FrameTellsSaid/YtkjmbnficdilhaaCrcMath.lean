/- Sums of frames, in plain Lean: states behind bits and bytes; they are linear, unlike states stay unlike. No condition, no program. -/
import Derived.Test.YtkjmbnficdilhaaBv
namespace Go.Proofs.Ytkjmbnficdilhaa.Crc
open Bv

/-- by a bit 0 -/
def zed (s : BitVec 16) : BitVec 16 := (s >>> 1) ^^^ (if s.getLsbD 0 then 0x8408#16 else 0#16)
def ofBit (b : Bool) : BitVec 16 := if b then 1#16 else 0#16
/-- by a bit -/
def by1 (s : BitVec 16) (b : Bool) : BitVec 16 := zed (s ^^^ ofBit b)
def goBits (s : BitVec 16) (l : List Bool) : BitVec 16 := l.foldl by1 s
def bits8 (b : BitVec 8) : List Bool := (List.range 8).map b.getLsbD
def allBits (bs : List (BitVec 8)) : List Bool := bs.flatMap bits8
def go (s : BitVec 16) (bs : List (BitVec 8)) : BitVec 16 := goBits s (allBits bs)
def sum (bs : List (BitVec 8)) : BitVec 16 := ~~~ go 0xffff#16 bs
def lo (s : BitVec 16) : BitVec 8 := s.setWidth 8
def hi (s : BitVec 16) : BitVec 8 := (s >>> 8).setWidth 8
def close (bs : List (BitVec 8)) : List (BitVec 8) := bs ++ [lo (sum bs), hi (sum bs)]

theorem bits8_length (b : BitVec 8) : (bits8 b).length = 8 := by simp [bits8]
theorem bits8_get (b : BitVec 8) (j : Nat) (h : j < 8) : (bits8 b)[j]? = some (b.getLsbD j) := by simp [bits8, h]

theorem by1_old (s : BitVec 16) (b : Bool) : by1 s b = (s >>> 1) ^^^ (if (s.getLsbD 0 != b) then 0x8408#16 else 0#16) := by
  unfold by1 zed ofBit
  cases b
  · simp
  · have h1 : (s ^^^ 1#16) >>> 1 = s >>> 1 := by
      apply BitVec.eq_of_getLsbD_eq; intro i hi; simp [BitVec.getLsbD_one]
    have h2 : (s ^^^ 1#16).getLsbD 0 = !s.getLsbD 0 := by simp [BitVec.getLsbD_xor]
    simp only [if_true, h1, h2]
    cases s.getLsbD 0 <;> rfl

theorem zed_xor (s t : BitVec 16) : zed (s ^^^ t) = zed s ^^^ zed t := by
  unfold zed
  rw [BitVec.ushiftRight_xor_distrib, BitVec.getLsbD_xor]
  apply BitVec.eq_of_getLsbD_eq
  intro i hi
  cases s.getLsbD 0 <;> cases t.getLsbD 0 <;> simp only [BitVec.getLsbD_xor, Bool.xor_false, Bool.xor_true, Bool.not_true, Bool.not_false, if_true, if_false, BitVec.getLsbD_zero, Bool.false_eq_true] <;>
    generalize (s >>> 1).getLsbD i = a <;> generalize (t >>> 1).getLsbD i = b <;> generalize BitVec.getLsbD 0x8408#16 i = c <;> revert a b c <;> decide
theorem zed_zero : zed 0#16 = 0#16 := by decide
theorem zed_inj0 (s : BitVec 16) (h : zed s = 0#16) : s = 0#16 := by
  have h15 : (zed s).getLsbD 15 = s.getLsbD 0 := by
    unfold zed
    rw [BitVec.getLsbD_xor, BitVec.getLsbD_ushiftRight]
    rw [show s.getLsbD (1 + 15) = false by apply BitVec.getLsbD_of_ge; omega]
    cases s.getLsbD 0 <;> simp
  have h0 : s.getLsbD 0 = false := by rw [← h15, h]; simp
  have hs : s >>> 1 = 0#16 := by
    have : zed s = s >>> 1 := by unfold zed; rw [h0]; simp
    rw [← this, h]
  apply BitVec.eq_of_getLsbD_eq
  intro i hi
  rcases i with _ | i
  · simpa using h0
  · have := congrArg (fun x => x.getLsbD i) hs
    simp only [BitVec.getLsbD_ushiftRight] at this
    rw [Nat.add_comm 1 i] at this
    simpa using this
theorem xor_eq_zero {s t : BitVec 16} (h : s ^^^ t = 0#16) : s = t := by
  have h2 := congrArg (· ^^^ t) h
  simpa [BitVec.xor_assoc] using h2
theorem zed_inj {s t : BitVec 16} (h : zed s = zed t) : s = t := by
  apply xor_eq_zero
  apply zed_inj0
  rw [zed_xor, h, BitVec.xor_self]

theorem ofBit_xor (a b : Bool) : ofBit (a ^^ b) = ofBit a ^^^ ofBit b := by cases a <;> cases b <;> decide
theorem ofBit_inj {a b : Bool} (h : ofBit a = ofBit b) : a = b := by revert h; cases a <;> cases b <;> decide
theorem by1_xor (s t : BitVec 16) (a b : Bool) : by1 (s ^^^ t) (a ^^ b) = by1 s a ^^^ by1 t b := by
  unfold by1
  rw [← zed_xor, ofBit_xor]
  congr 1
  simp only [BitVec.xor_assoc]
  congr 1
  rw [← BitVec.xor_assoc, BitVec.xor_comm t, BitVec.xor_assoc]
theorem by1_inj {s t : BitVec 16} {b : Bool} (h : by1 s b = by1 t b) : s = t := by
  have := zed_inj h
  have h2 := congrArg (· ^^^ ofBit b) this
  simpa [BitVec.xor_assoc] using h2
theorem by1_bit {s : BitVec 16} {a b : Bool} (h : by1 s a = by1 s b) : a = b := by
  have := zed_inj h
  have h2 := congrArg (s ^^^ ·) this
  simp only [← BitVec.xor_assoc, BitVec.xor_self, BitVec.zero_xor] at h2
  exact ofBit_inj h2

theorem goBits_append (s : BitVec 16) (a b : List Bool) : goBits s (a ++ b) = goBits (goBits s a) b := List.foldl_append
theorem go_append (s : BitVec 16) (a b : List (BitVec 8)) : go s (a ++ b) = go (go s a) b := by
  unfold go allBits; rw [List.flatMap_append, goBits_append]
theorem goBits_inj : ∀ (l : List Bool) {s t : BitVec 16}, goBits s l = goBits t l → s = t
  | [], _, _, h => h
  | b :: l, s, t, h => by1_inj (goBits_inj l (s := by1 s b) (t := by1 t b) h)
theorem goBits_xor : ∀ (a b : List Bool) (s t : BitVec 16), a.length = b.length → goBits (s ^^^ t) (List.zipWith (· ^^ ·) a b) = goBits s a ^^^ goBits t b
  | [], [], s, t, _ => rfl
  | x :: a, y :: b, s, t, h => by
    simp only [goBits, List.zipWith_cons_cons, List.foldl_cons]
    have := goBits_xor a b (by1 s x) (by1 t y) (by simpa using h)
    rw [by1_xor]; exact this
theorem bits8_xor (a b : BitVec 8) : bits8 (a ^^^ b) = List.zipWith (· ^^ ·) (bits8 a) (bits8 b) := by
  unfold bits8
  apply List.ext_getElem
  · simp
  · intro i h1 h2; simp [BitVec.getLsbD_xor]
theorem allBits_xor : ∀ (a b : List (BitVec 8)), allBits (List.zipWith (· ^^^ ·) a b) = List.zipWith (· ^^ ·) (allBits a) (allBits b)
  | [], b => by simp [allBits]
  | x :: a, [] => by simp [allBits]
  | x :: a, y :: b => by
    have h := allBits_xor a b
    simp only [allBits, List.zipWith_cons_cons, List.flatMap_cons] at h ⊢
    rw [List.zipWith_append (by simp [bits8_length]), ← bits8_xor, h]
theorem allBits_length (a : List (BitVec 8)) : (allBits a).length = 8 * a.length := by
  induction a with
  | nil => rfl
  | cons x a ih => simp only [allBits, List.flatMap_cons, List.length_append, List.length_cons, bits8_length] at ih ⊢; omega
theorem go_xor (a b : List (BitVec 8)) (s t : BitVec 16) (h : a.length = b.length) : go (s ^^^ t) (List.zipWith (· ^^^ ·) a b) = go s a ^^^ go t b := by
  unfold go; rw [allBits_xor]; exact goBits_xor _ _ _ _ (by rw [allBits_length, allBits_length, h])
theorem go_inj (l : List (BitVec 8)) {s t : BitVec 16} (h : go s l = go t l) : s = t := goBits_inj _ h
end Go.Proofs.Ytkjmbnficdilhaa.Crc
