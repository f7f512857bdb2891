/- Bits side by side, in plain Lean: bytes hold a list of bits, the highest bit of a byte first; behind them there are bits 0. No condition, no program. -/
import Derived.Test.YtppcdmbpbbjecaaGreatBv
namespace Go.Proofs.YtppcdmbpbbjecaaGreat.Bits
open Bv
/-- a byte's bits, the highest first -/
def bitsB (b : BitVec 8) : List Bool := (List.range 8).map fun j => b.getLsbD (7 - j)
def bitsOf (B : List (BitVec 8)) : List Bool := B.flatMap bitsB
/-- the bytes B hold the bits l, and bits 0 behind them, as few as make whole bytes -/
def Holds (B : List (BitVec 8)) (l : List Bool) : Prop := B.length = (l.length + 7) / 8 ∧ ∃ m, bitsOf B = l ++ List.replicate m false
/-- may these bits be? -/
def right (B : List (BitVec 8)) (N : Int) : Bool := decide (0 ≤ N ∧ (B.length : Int) = (N + 7) / 8) && ((bitsOf B).drop N.toNat).all (fun b => !b)
theorem bitsB_length (b : BitVec 8) : (bitsB b).length = 8 := by simp [bitsB]
theorem bitsB_get (b : BitVec 8) (j : Nat) (h : j < 8) : (bitsB b)[j]? = some (b.getLsbD (7 - j)) := by simp [bitsB, h]
theorem bitsB_inj {a b : BitVec 8} (h : bitsB a = bitsB b) : a = b := by
  apply BitVec.eq_of_getLsbD_eq; intro i hi
  have h1 := congrArg (fun l => l[7 - i]?) h
  simp only [bitsB_get _ _ (show 7 - i < 8 by omega), show 7 - (7 - i) = i by omega] at h1
  exact Option.some.inj h1
theorem bitsOf_length (B : List (BitVec 8)) : (bitsOf B).length = 8 * B.length := by
  induction B with
  | nil => rfl
  | cons b B ih => simp only [bitsOf, List.flatMap_cons, List.length_append, bitsB_length, List.length_cons] at ih ⊢; omega
theorem bitsOf_inj : ∀ {A B : List (BitVec 8)}, bitsOf A = bitsOf B → A = B
  | [], [], _ => rfl
  | [], b :: B, h => by have := congrArg List.length h; rw [bitsOf_length, bitsOf_length] at this; simp at this
  | a :: A, [], h => by have := congrArg List.length h; rw [bitsOf_length, bitsOf_length] at this; simp at this
  | a :: A, b :: B, h => by
    simp only [bitsOf, List.flatMap_cons] at h
    have h2 := List.append_inj h (by rw [bitsB_length, bitsB_length])
    rw [bitsB_inj h2.1, bitsOf_inj h2.2]
theorem bitsOf_append (A B : List (BitVec 8)) : bitsOf (A ++ B) = bitsOf A ++ bitsOf B := List.flatMap_append
theorem bitsOf_get (B : List (BitVec 8)) (q r : Nat) (hr : r < 8) : (bitsOf B)[8 * q + r]? = (B[q]?).map fun b => b.getLsbD (7 - r) := by
  induction B generalizing q with
  | nil => simp [bitsOf]
  | cons b B ih =>
    have e : bitsOf (b :: B) = bitsB b ++ bitsOf B := by simp [bitsOf]
    rw [e]
    cases q with
    | zero => rw [List.getElem?_append_left (by rw [bitsB_length]; omega), Nat.mul_zero, Nat.zero_add, bitsB_get b r hr]; rfl
    | succ q =>
      rw [List.getElem?_append_right (by rw [bitsB_length]; omega), bitsB_length, show 8 * (q + 1) + r - 8 = 8 * q + r by omega, ih q]
      simp
theorem holds_len {B : List (BitVec 8)} {l : List Bool} (h : Holds B l) : bitsOf B = l ++ List.replicate (8 * B.length - l.length) false := by
  obtain ⟨_, m, h2⟩ := h
  have := congrArg List.length h2
  rw [bitsOf_length, List.length_append, List.length_replicate] at this
  rw [show 8 * B.length - l.length = m by omega]; exact h2
theorem holds_unique {A B : List (BitVec 8)} {l : List Bool} (h1 : Holds A l) (h2 : Holds B l) : A = B := by
  apply bitsOf_inj
  rw [holds_len h1, holds_len h2, h1.1, h2.1]
theorem holds_get {B : List (BitVec 8)} {l : List Bool} (h : Holds B l) {i : Nat} (hi : i < l.length) : (bitsOf B)[i]? = l[i]? := by
  rw [holds_len h, List.getElem?_append_left hi]
theorem holds_inj {B : List (BitVec 8)} {l l' : List Bool} (h1 : Holds B l) (h2 : Holds B l') (hl : l.length = l'.length) : l = l' := by
  apply List.ext_getElem?
  intro i
  by_cases hi : i < l.length
  · rw [← holds_get h1 hi, holds_get h2 (by omega)]
  · rw [List.getElem?_eq_none (by omega), List.getElem?_eq_none (by omega)]
theorem right_iff (B : List (BitVec 8)) (N : Int) : right B N = true ↔ ∃ l : List Bool, N = l.length ∧ Holds B l := by
  have hall : ((bitsOf B).drop N.toNat).all (fun b => !b) = true ↔ ∀ i, N.toNat ≤ i → i < 8 * B.length → (bitsOf B)[i]? = some false := by
    rw [List.all_eq_true]
    constructor
    · intro h i h1 h2
      have hi : i < (bitsOf B).length := by rw [bitsOf_length]; exact h2
      have hm : (bitsOf B)[i] ∈ (bitsOf B).drop N.toNat := by
        rw [List.mem_iff_getElem?]
        exact ⟨i - N.toNat, by rw [List.getElem?_drop, show N.toNat + (i - N.toNat) = i by omega, List.getElem?_eq_getElem hi]⟩
      have := h _ hm
      rw [List.getElem?_eq_getElem hi]
      simpa using this
    · intro h x hx
      obtain ⟨i, hi⟩ := List.mem_iff_getElem?.1 hx
      rw [List.getElem?_drop] at hi
      have hlt := (List.getElem?_eq_some_iff.1 hi).1
      rw [bitsOf_length] at hlt
      rw [h _ (by omega) hlt] at hi
      rw [← Option.some.inj hi]; rfl
  unfold right
  rw [Bool.and_eq_true, hall, decide_eq_true_eq, and_assoc]
  constructor
  · rintro ⟨h0, h1, h2⟩
    have hl : ((bitsOf B).take N.toNat).length = N.toNat := by rw [List.length_take, bitsOf_length]; omega
    refine ⟨(bitsOf B).take N.toNat, by omega, by omega, (8 * B.length - N.toNat), ?_⟩
    apply List.ext_getElem?
    intro i
    by_cases hi : i < N.toNat
    · rw [List.getElem?_append_left (by omega), List.getElem?_take, if_pos hi]
    · rw [List.getElem?_append_right (by omega), hl]
      by_cases hi2 : i < 8 * B.length
      · rw [h2 i (by omega) hi2, List.getElem?_replicate, if_pos (by omega)]
      · rw [List.getElem?_eq_none (by rw [bitsOf_length]; omega), List.getElem?_eq_none (by simp; omega)]
  · rintro ⟨l, rfl, h⟩
    refine ⟨by omega, by have := h.1; omega, fun i hi1 hi2 => ?_⟩
    rw [holds_len h, List.getElem?_append_right (by omega), List.getElem?_replicate, if_pos (by omega)]
theorem holds_nil : Holds [] [] := ⟨rfl, 0, rfl⟩
/-- one bit behind -/
def addB (B : List (BitVec 8)) (n : Nat) (b : Bool) : List (BitVec 8) :=
  let B' := if n % 8 = 0 then B ++ [0#8] else B
  if b then B'.modify (B'.length - 1) (fun x => x ||| (128#8 >>> (n % 8))) else B'
theorem high_get (r j : Nat) (hr : r < 8) (hj : j < 8) : (128#8 >>> r).getLsbD (7 - j) = decide (j = r) := by
  have h : ∀ r : Fin 8, ∀ j : Fin 8, (128#8 >>> r.val).getLsbD (7 - j.val) = decide (j.val = r.val) := by decide
  exact h ⟨r, hr⟩ ⟨j, hj⟩
theorem holds_add {B : List (BitVec 8)} {l : List Bool} (h : Holds B l) (b : Bool) : Holds (addB B l.length b) (l ++ [b]) := by
  have hlen : (addB B l.length b).length = (l.length + 1 + 7) / 8 := by
    have := h.1
    unfold addB
    dsimp only
    split <;> split <;> (try simp) <;> omega
  refine ⟨by rw [List.length_append]; exact hlen, 8 * ((l.length + 1 + 7) / 8) - (l.length + 1), ?_⟩
  have hB := h.1
  have hE : ∀ q r, r < 8 → ∀ B' : List (BitVec 8), B' = (if l.length % 8 = 0 then B ++ [0#8] else B) → (bitsOf B')[8 * q + r]? = (l ++ List.replicate (8 * ((l.length + 1 + 7) / 8) - l.length) false)[8 * q + r]? := by
    intro q r hr B' hB'
    subst hB'
    split
    · rw [bitsOf_append, holds_len h, List.append_assoc]
      have : bitsOf [0#8] = List.replicate 8 false := by decide
      rw [this, List.replicate_append_replicate]
      congr 3; omega
    · rw [holds_len h]; congr 3; omega
  apply List.ext_getElem?
  intro i
  have hi : i = 8 * (i / 8) + i % 8 := by omega
  have hr : i % 8 < 8 := by omega
  generalize i / 8 = q at *
  generalize i % 8 = r at *
  subst hi
  have hEq := hE q r hr _ rfl
  have hl' : (if l.length % 8 = 0 then B ++ [0#8] else B).length = (l.length + 1 + 7) / 8 := by split <;> (try simp) <;> omega
  unfold addB
  dsimp only
  generalize (if l.length % 8 = 0 then B ++ [0#8] else B) = B' at *
  have hgoal : ∀ x : Bool, 8 * q + r < 8 * ((l.length + 1 + 7) / 8) → x = (if 8 * q + r < l.length then (l[8 * q + r]?).getD false else if 8 * q + r = l.length then b else false) →
      (l ++ [b] ++ List.replicate (8 * ((l.length + 1 + 7) / 8) - (l.length + 1)) false)[8 * q + r]? = some x := by
    rintro x hlt rfl
    by_cases h1 : 8 * q + r < l.length
    · rw [if_pos h1, List.append_assoc, List.getElem?_append_left h1, List.getElem?_eq_getElem h1]; rfl
    · rw [if_neg h1, List.append_assoc, List.getElem?_append_right (by omega)]
      by_cases h2 : 8 * q + r = l.length
      · rw [if_pos h2, h2, Nat.sub_self]; rfl
      · rw [if_neg h2, List.getElem?_append_right (by simp; omega), List.getElem?_replicate, if_pos (by simp; omega)]
  have hold : ∀ x : Bool, (bitsOf B')[8 * q + r]? = some x → x = (if 8 * q + r < l.length then (l[8 * q + r]?).getD false else false) ∧ 8 * q + r < 8 * ((l.length + 1 + 7) / 8) := by
    intro x hx
    have hlt : 8 * q + r < 8 * ((l.length + 1 + 7) / 8) := by
      have := (List.getElem?_eq_some_iff.1 hx).1
      rw [bitsOf_length] at this; omega
    refine ⟨?_, hlt⟩
    rw [hEq] at hx
    by_cases h1 : 8 * q + r < l.length
    · rw [List.getElem?_append_left h1] at hx
      rw [if_pos h1, hx]; rfl
    · rw [List.getElem?_append_right (by omega), List.getElem?_replicate, if_pos (by omega)] at hx
      rw [if_neg h1]; exact (Option.some.inj hx).symm
  by_cases hq : q < B'.length
  · have hqe : B'[q]? = some B'[q] := List.getElem?_eq_getElem hq
    have hx := bitsOf_get B' q r hr
    rw [hqe, Option.map_some] at hx
    obtain ⟨hx1, hx2⟩ := hold _ hx
    cases b
    · rw [if_neg (by simp)]
      rw [hx, hgoal _ hx2]
      rw [hx1]
      split
      · rfl
      · split <;> rfl
    · rw [if_pos rfl, bitsOf_get _ q r hr, List.getElem?_modify, hqe, Option.map_eq_map, Option.map_some]
      by_cases hlast : B'.length - 1 = q
      · rw [if_pos hlast]
        simp only [Option.map_some, id]
        symm
        apply hgoal _ hx2
        rw [BitVec.getLsbD_or, hx1, high_get (l.length % 8) r (by omega) hr]
        by_cases h1 : 8 * q + r < l.length
        · rw [if_pos h1, if_pos h1, decide_eq_false (by omega), Bool.or_false]
        · rw [if_neg h1, if_neg h1, Bool.false_or]
          by_cases h2 : 8 * q + r = l.length
          · rw [if_pos h2, decide_eq_true (by omega)]
          · rw [if_neg h2, decide_eq_false (by omega)]
      · rw [if_neg hlast]
        simp only [Option.map_some, id]
        symm
        apply hgoal _ hx2
        rw [hx1]
        by_cases h1 : 8 * q + r < l.length
        · rw [if_pos h1, if_pos h1]
        · exfalso; omega
  · have e1 : ∀ C : List (BitVec 8), C.length = B'.length → (bitsOf C)[8 * q + r]? = none := fun C hC => List.getElem?_eq_none (by rw [bitsOf_length]; omega)
    have e2 : (l ++ [b] ++ List.replicate (8 * ((l.length + 1 + 7) / 8) - (l.length + 1)) false)[8 * q + r]? = none := List.getElem?_eq_none (by rw [List.length_append, List.length_append, List.length_replicate, List.length_singleton]; omega)
    rw [e2]
    split
    · exact e1 _ (by simp)
    · exact e1 _ rfl
/-- a number's bits, the highest first; and the number that bits are -/
def numBits (n w : Nat) : List Bool := (List.range w).map fun i => n.testBit (w - 1 - i)
def num (l : List Bool) : Nat := l.foldl (fun n b => 2 * n + b.toNat) 0
theorem numBits_length (n w : Nat) : (numBits n w).length = w := by simp [numBits]
theorem num_foldl (l : List Bool) : ∀ a, l.foldl (fun n b => 2 * n + b.toNat) a = a * 2 ^ l.length + num l := by
  induction l with
  | nil => intro a; simp [num]
  | cons b l ih =>
    intro a
    unfold num
    simp only [List.foldl_cons, List.length_cons, Nat.mul_zero, Nat.zero_add]
    rw [ih, ih b.toNat, Nat.pow_succ]
    have : (2 * a + b.toNat) * 2 ^ l.length = a * (2 ^ l.length * 2) + b.toNat * 2 ^ l.length := by rw [Nat.add_mul, Nat.mul_comm 2 a, Nat.mul_assoc, Nat.mul_comm 2]
    omega
theorem num_append (a b : List Bool) : num (a ++ b) = num a * 2 ^ b.length + num b := by
  unfold num; rw [List.foldl_append, num_foldl]; rfl
theorem num_lt (l : List Bool) : num l < 2 ^ l.length := by
  induction l with
  | nil => decide
  | cons b l ih =>
    have := num_append [b] l
    rw [List.singleton_append] at this
    rw [this, List.length_cons, Nat.pow_succ]
    have hb : num [b] ≤ 1 := by cases b <;> decide
    have : num [b] * 2 ^ l.length ≤ 1 * 2 ^ l.length := Nat.mul_le_mul_right _ hb
    omega
theorem numBits_succ (n w : Nat) : numBits n (w + 1) = numBits (n / 2) w ++ [n.testBit 0] := by
  unfold numBits
  rw [List.range_succ, List.map_append]
  congr 1
  · apply List.map_congr_left
    intro i hi
    have := List.mem_range.1 hi
    rw [show w + 1 - 1 - i = (w - 1 - i) + 1 by omega, Nat.testBit_succ]
  · simp
theorem num_numBits : ∀ (w n : Nat), num (numBits n w) = n % 2 ^ w
  | 0, n => by simp [numBits, num, Nat.mod_one]
  | w + 1, n => by
    rw [numBits_succ, num_append, num_numBits w]
    have : num [n.testBit 0] = n % 2 := by
      rw [Nat.testBit_zero]
      rcases Nat.mod_two_eq_zero_or_one n with h | h <;> rw [h] <;> rfl
    rw [this, List.length_singleton, Nat.pow_one, Nat.pow_succ, Nat.mul_comm (2 ^ w) 2, Nat.mod_mul]
    omega
end Go.Proofs.YtppcdmbpbbjecaaGreat.Bits
