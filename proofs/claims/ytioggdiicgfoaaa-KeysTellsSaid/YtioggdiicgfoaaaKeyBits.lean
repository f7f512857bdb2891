/- Payloads of buttons, bit by bit. No condition. -/
import Derived.Test.YtioggdiicgfoaaaBitsMath
import Derived.Test.YtioggdiicgfoaaaKeyMath
namespace Go.Proofs.Ytioggdiicgfoaaa.KM
open Bits
/-- a word's bits, the first ones -/
def flagsL (z : BitVec 32) (n : Nat) : List Bool := (List.range n).map fun i => z.getLsbD i
theorem flagsL_length (z : BitVec 32) (n : Nat) : (flagsL z n).length = n := by simp [flagsL]
theorem flagsL_get (z : BitVec 32) {n i : Nat} (h : i < n) : (flagsL z n)[i]? = some (z.getLsbD i) := by simp [flagsL, h]
theorem flagsL_succ (z : BitVec 32) (n : Nat) : flagsL z (n + 1) = flagsL z n ++ [z.getLsbD n] := by simp [flagsL, List.range_succ]
/-- the word of which the bits are these -/
def wordF (f : Nat → Bool) : Nat → BitVec 32
  | 0 => 0#32
  | n + 1 => if f n then wordF f n ||| BitVec.twoPow 32 n else wordF f n
theorem wordF_get (f : Nat → Bool) (i : Nat) : ∀ n, n ≤ 32 → (wordF f n).getLsbD i = (decide (i < n) && f i)
  | 0, _ => by simp [wordF]
  | n + 1, h => by
    have ih := wordF_get f i n (by omega)
    unfold wordF
    by_cases hf : f n
    · rw [if_pos hf, BitVec.getLsbD_or, ih, BitVec.getLsbD_twoPow]
      by_cases e : i = n
      · subst e; simp [hf]; omega
      · have : decide (n = i) = false := decide_eq_false (fun h => e h.symm)
        rw [this]
        have : decide (i < n + 1) = decide (i < n) := by rw [Bool.eq_iff_iff]; simp; omega
        rw [this]; simp
    · rw [if_neg hf, ih]
      by_cases e : i = n
      · subst e; simp [hf]
      · have : decide (i < n + 1) = decide (i < n) := by rw [Bool.eq_iff_iff]; simp; omega
        rw [this]
def wordL (l : List Bool) (n : Nat) : BitVec 32 := wordF (fun i => l.getD i false) n
theorem flagsL_wordL (l : List Bool) (n : Nat) (hn : n ≤ 32) (hl : n ≤ l.length) : flagsL (wordL l n) n = l.take n := by
  apply List.ext_getElem?
  intro i
  by_cases h : i < n
  · rw [flagsL_get _ h, wordL, wordF_get _ _ _ hn, List.getElem?_take, if_pos h]
    rw [List.getElem?_eq_getElem (by omega)]
    simp [h, List.getD, List.getElem?_eq_getElem (show i < l.length by omega)]
  · rw [List.getElem?_eq_none (by rw [flagsL_length]; omega), List.getElem?_eq_none (by simp; omega)]
theorem wordL_flagsL (z : BitVec 32) (r : List Bool) (n : Nat) (hn : n ≤ 32) (hz : ∀ i, n ≤ i → z.getLsbD i = false) : wordL (flagsL z n ++ r) n = z := by
  apply BitVec.eq_of_getLsbD_eq
  intro i hi
  rw [wordL, wordF_get _ _ _ hn]
  by_cases h : i < n
  · have : (flagsL z n ++ r).getD i false = z.getLsbD i := by
      rw [List.getD_eq_getElem?_getD, List.getElem?_append_left (by rw [flagsL_length]; exact h), flagsL_get _ h]; rfl
    rw [this]; simp [h]
  · rw [hz i (by omega)]; simp [h]
theorem numBits_two (n : Nat) : numBits n 2 = [n.testBit 1, n.testBit 0] := by rfl
/-- keys as bits: two each -/
def keyBits (ks : List (BitVec 8)) (n : Nat) : List Bool := (List.range n).flatMap fun i => numBits ((ks.getD i 0#8).toNat % 4) 2
theorem keyBits_succ (ks : List (BitVec 8)) (n : Nat) : keyBits ks (n + 1) = keyBits ks n ++ numBits ((ks.getD n 0#8).toNat % 4) 2 := by
  simp [keyBits, List.range_succ]
theorem keyBits_length (ks : List (BitVec 8)) : ∀ n, (keyBits ks n).length = 2 * n
  | 0 => rfl
  | n + 1 => by rw [keyBits_succ, List.length_append, keyBits_length ks n]; simp [numBits]; omega
/-- a key, read -/
def keyAt (l : List Bool) (at_ : Nat) : BitVec 8 := BitVec.ofNat 8 (num ((l.drop at_).take 2))
theorem num_two (a b : Bool) : num [a, b] = 2 * a.toNat + b.toNat := by simp [num]
theorem two_num (l : List Bool) (h : l.length = 2) : numBits (num l) 2 = l := by
  match l, h with
  | [a, b], _ => cases a <;> cases b <;> rfl
theorem num_two_lt (l : List Bool) (h : l.length = 2) : num l < 4 := by
  match l, h with
  | [a, b], _ => cases a <;> cases b <;> decide
theorem keyBits_read (l : List Bool) (at_ n : Nat) (ks : List (BitVec 8)) (h : at_ + 2 * n ≤ l.length) (hk : ∀ i, i < n → ks.getD i 0#8 = keyAt l (at_ + 2 * i)) : keyBits ks n = (l.drop at_).take (2 * n) := by
  induction n with
  | zero => rfl
  | succ n ih =>
    rw [keyBits_succ, ih (by omega) (fun i hi => hk i (by omega)), hk n (by omega)]
    have h2 : ((l.drop (at_ + 2 * n)).take 2).length = 2 := by simp; omega
    have h3 := num_two_lt _ h2
    have h4 : (keyAt l (at_ + 2 * n)).toNat % 4 = num ((l.drop (at_ + 2 * n)).take 2) := by
      unfold keyAt
      rw [BitVec.toNat_ofNat]; omega
    rw [h4, two_num _ h2, show 2 * (n + 1) = 2 * n + 2 by omega, List.take_add, List.drop_drop]
theorem keyBits_at (ks : List (BitVec 8)) (n i : Nat) (h : i < n) : ((keyBits ks n).drop (2 * i)).take 2 = numBits ((ks.getD i 0#8).toNat % 4) 2 := by
  induction n with
  | zero => omega
  | succ n ih =>
    rw [keyBits_succ]
    by_cases e : i = n
    · subst e
      rw [List.drop_append_of_le_length (by rw [keyBits_length]; omega), List.drop_of_length_le (by rw [keyBits_length]; omega)]
      rfl
    · rw [List.drop_append_of_le_length (by rw [keyBits_length]; omega), List.take_append_of_le_length (by rw [List.length_drop, keyBits_length]; omega)]
      exact ih (by omega)
theorem keyAt_keyBits (p : List (BitVec 8)) (pre r : List Bool) (n i : Nat) (h : i < n) : keyAt (pre ++ (keyBits p n ++ r)) (pre.length + 2 * i) = BitVec.ofNat 8 ((p.getD i 0#8).toNat % 4) := by
  unfold keyAt
  rw [← List.drop_drop, List.drop_left, List.drop_append_of_le_length (by rw [keyBits_length]; omega), List.take_append_of_le_length (by rw [List.length_drop, keyBits_length]; omega), keyBits_at p n i h, num_numBits]
  congr 1
  omega
/-- a payload's bits -/
def payBits (b : Btn) (ns ne nc : Nat) : List Bool := flagsL b.ent ns ++ (flagsL b.exi ne ++ (flagsL b.via nc ++ ([b.can, b.aut] ++ keyBits b.keys nc)))
theorem payBits_length (b : Btn) (ns ne nc : Nat) : (payBits b ns ne nc).length = ns + ne + 3 * nc + 2 := by
  simp only [payBits, List.length_append, flagsL_length, keyBits_length, List.length_cons, List.length_nil]; omega
def sizeK (ns ne nc : Nat) : Nat := (ns + ne + 3 * nc + 2 + 7) / 8
theorem getD_app_right (a b : List Bool) (i : Nat) : (a ++ b).getD (a.length + i) false = b.getD i false := by
  simp only [List.getD_eq_getElem?_getD]
  rw [List.getElem?_append_right (by omega), show a.length + i - a.length = i by omega]
/-- buttons that a layout of so many rows has -/
structure Cut (b : Btn) (ns ne nc : Nat) : Prop where
  ent : ∀ i, ns ≤ i → b.ent.getLsbD i = false
  exi : ∀ i, ne ≤ i → b.exi.getLsbD i = false
  via : ∀ i, nc ≤ i → b.via.getLsbD i = false
  len : b.keys.length = 24
  low : ∀ i, i < nc → (b.keys.getD i 0#8).toNat < 4
  zero : ∀ i, nc ≤ i → b.keys.getD i 0#8 = 0#8
/-- the buttons that bits tell -/
def rdB (l : List Bool) (ns ne nc : Nat) : Btn :=
  ⟨wordL l ns, wordL (l.drop ns) ne, wordL (l.drop (ns + ne)) nc, l.getD (ns + ne + nc) false, l.getD (ns + ne + nc + 1) false, (List.range 24).map fun i => if i < nc then keyAt l (ns + ne + nc + 2 + 2 * i) else 0#8⟩
theorem rd_pay {b : Btn} {ns ne nc : Nat} (h : Cut b ns ne nc) (h1 : ns ≤ 32) (h2 : ne ≤ 32) (h3 : nc ≤ 24) (r : List Bool) : rdB (payBits b ns ne nc ++ r) ns ne nc = b := by
  obtain ⟨ent, exi, via, can, aut, keys⟩ := b
  have hl1 := flagsL_length ent ns
  have hl2 := flagsL_length exi ne
  have hl3 := flagsL_length via nc
  have e0 : payBits ⟨ent, exi, via, can, aut, keys⟩ ns ne nc ++ r = flagsL ent ns ++ (flagsL exi ne ++ (flagsL via nc ++ ([can, aut] ++ (keyBits keys nc ++ r)))) := by simp only [payBits, List.append_assoc]
  have d1 : (payBits ⟨ent, exi, via, can, aut, keys⟩ ns ne nc ++ r).drop ns = flagsL exi ne ++ (flagsL via nc ++ ([can, aut] ++ (keyBits keys nc ++ r))) := by
    rw [e0]; exact List.drop_left' hl1
  have d2 : (payBits ⟨ent, exi, via, can, aut, keys⟩ ns ne nc ++ r).drop (ns + ne) = flagsL via nc ++ ([can, aut] ++ (keyBits keys nc ++ r)) := by
    rw [← List.drop_drop, d1]; exact List.drop_left' hl2
  have g : ∀ i, (payBits ⟨ent, exi, via, can, aut, keys⟩ ns ne nc ++ r).getD (ns + ne + nc + i) false = ([can, aut] ++ (keyBits keys nc ++ r)).getD i false := fun i => by
    have := getD_app_right (flagsL ent ns ++ (flagsL exi ne ++ flagsL via nc)) ([can, aut] ++ (keyBits keys nc ++ r)) i
    simp only [List.length_append, hl1, hl2, hl3, List.append_assoc] at this
    rw [e0, ← this]
    congr 1; omega
  unfold rdB
  rw [d1, d2, e0, wordL_flagsL ent _ ns h1 h.ent, wordL_flagsL exi _ ne h2 h.exi, wordL_flagsL via _ nc (by omega) h.via, ← e0, g 1]
  have g0 := g 0
  rw [Nat.add_zero] at g0
  rw [g0]
  have hk : ((List.range 24).map fun i => if i < nc then keyAt (payBits ⟨ent, exi, via, can, aut, keys⟩ ns ne nc ++ r) (ns + ne + nc + 2 + 2 * i) else 0#8) = keys := by
    apply List.ext_getElem?
    intro i
    by_cases hi : i < 24
    · have hki : keys[i]? = some (keys.getD i 0#8) := by
        have : i < keys.length := by rw [h.len]; exact hi
        simp [List.getD, List.getElem?_eq_getElem this]
      rw [hki, List.getElem?_map, List.getElem?_range hi]
      simp only [Option.map_some]
      congr 1
      by_cases hn : i < nc
      · rw [if_pos hn]
        have e1 : payBits ⟨ent, exi, via, can, aut, keys⟩ ns ne nc ++ r = (flagsL ent ns ++ (flagsL exi ne ++ (flagsL via nc ++ [can, aut]))) ++ (keyBits keys nc ++ r) := by simp only [payBits, List.append_assoc]
        have hlp : (flagsL ent ns ++ (flagsL exi ne ++ (flagsL via nc ++ [can, aut]))).length = ns + ne + nc + 2 := by simp only [List.length_append, hl1, hl2, hl3, List.length_cons, List.length_nil]; omega
        have := keyAt_keyBits keys (flagsL ent ns ++ (flagsL exi ne ++ (flagsL via nc ++ [can, aut]))) r nc i hn
        rw [hlp] at this
        rw [e1, this]
        have hlow := h.low i hn
        simp only at hlow
        apply BitVec.eq_of_toNat_eq
        rw [BitVec.toNat_ofNat]; omega
      · rw [if_neg hn]; exact (h.zero i (by omega)).symm
    · rw [List.getElem?_eq_none (by simp; omega), List.getElem?_eq_none (by rw [h.len]; omega)]
  rw [hk]
  rfl
theorem pay_rd (l : List Bool) (ns ne nc : Nat) (h1 : ns ≤ 32) (h2 : ne ≤ 32) (h3 : nc ≤ 24) (hl : ns + ne + 3 * nc + 2 ≤ l.length) : payBits (rdB l ns ne nc) ns ne nc = l.take (ns + ne + 3 * nc + 2) := by
  have hk := keyBits_read l (ns + ne + nc + 2) nc ((List.range 24).map fun i => if i < nc then keyAt l (ns + ne + nc + 2 + 2 * i) else 0#8) (by omega) (fun i hi => by
    rw [List.getD_eq_getElem?_getD, List.getElem?_map, List.getElem?_range (by omega)]
    simp [hi])
  have hb : [l.getD (ns + ne + nc) false, l.getD (ns + ne + nc + 1) false] = (l.drop (ns + ne + nc)).take 2 := by
    apply List.ext_getElem?
    intro i
    match i with
    | 0 => simp [List.getD, List.getElem?_drop, List.getElem?_eq_getElem (show ns + ne + nc < l.length by omega)]
    | 1 => simp [List.getD, List.getElem?_drop, List.getElem?_eq_getElem (show ns + ne + nc + 1 < l.length by omega)]
    | i + 2 => rw [List.getElem?_eq_none (by simp), List.getElem?_eq_none (by simp; omega)]
  simp only [payBits, rdB]
  rw [flagsL_wordL _ _ h1 (by omega), flagsL_wordL _ _ h2 (by simp; omega), flagsL_wordL _ _ (by omega) (by simp; omega), hk, hb]
  have t1 : ∀ a b : Nat, l.take (a + b) = l.take a ++ (l.drop a).take b := fun a b => List.take_add
  rw [show ns + ne + 3 * nc + 2 = ns + (ne + (nc + (2 + 2 * nc))) by omega, t1 ns, List.take_add (i := ne), List.take_add (i := nc), List.take_add (i := 2)]
  simp only [List.drop_drop]
theorem pay_inj {b c : Btn} {ns ne nc : Nat} (hb : Cut b ns ne nc) (hc : Cut c ns ne nc) (h1 : ns ≤ 32) (h2 : ne ≤ 32) (h3 : nc ≤ 24) (h : payBits b ns ne nc = payBits c ns ne nc) : b = c := by
  have e1 := rd_pay hb h1 h2 h3 []
  have e2 := rd_pay hc h1 h2 h3 []
  rw [← e1, h, e2]
end Go.Proofs.Ytioggdiicgfoaaa.KM
