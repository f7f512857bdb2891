/- Presses, in plain words. No condition. -/
import Derived.WalkKit
namespace Go.Proofs.Ytioggdiicgfoaaa.KM
/-- a press: its kind, its number, its position -/
abbrev Pr := Int × Int × Int
structure Btn where
  ent : BitVec 32
  exi : BitVec 32
  via : BitVec 32
  can : Bool
  aut : Bool
  keys : List (BitVec 8)
def oneP (kind : Int) (is : Bool) : List Pr := if is then [(kind, 0, 0)] else []
def rowP (kind : Int) (z : BitVec 32) (n : Nat) : List Pr := ((List.range n).filter fun i => z.getLsbD i).map fun i : Nat => (kind, (i : Int), 0)
def keyOn (k x y : BitVec 8) : Bool := (k == 1#8 || k == 2#8) && (x == k && (y != k && y != 3#8))
def keyF (b x y : Btn) (i : Nat) : Option Pr := if keyOn (b.keys.getD i 0#8) (x.keys.getD i 0#8) (y.keys.getD i 0#8) then some (6, (i : Int), ((b.keys.getD i 0#8).toNat : Int) - 1) else none
def keyP (b x y : Btn) (n : Nat) : List Pr := (List.range n).filterMap (keyF b x y)
def front (a b c : BitVec 32) : BitVec 32 := a &&& b &&& ~~~c
def pressL (b x y : Btn) (ns ne nc : Nat) : List Pr :=
  oneP 1 (b.can && (x.can && !y.can)) ++ (oneP 2 (b.aut && (x.aut && !y.aut)) ++ (rowP 3 (front b.ent x.ent y.ent) ns ++ (rowP 4 (front b.via x.via y.via) nc ++ (rowP 5 (front b.exi x.exi y.exi) ne ++ keyP b x y nc))))
theorem rowP_succ (kind : Int) (z : BitVec 32) (n : Nat) : rowP kind z (n + 1) = rowP kind z n ++ (if z.getLsbD n then [(kind, (n : Int), 0)] else []) := by
  unfold rowP
  rw [List.range_succ, List.filter_append, List.map_append]
  congr 1
  by_cases h : z.getLsbD n = true
  · simp [h]
  · simp [h]
theorem keyP_succ (b x y : Btn) (n : Nat) : keyP b x y (n + 1) = keyP b x y n ++ (if keyOn (b.keys.getD n 0#8) (x.keys.getD n 0#8) (y.keys.getD n 0#8) then [(6, (n : Int), ((b.keys.getD n 0#8).toNat : Int) - 1)] else []) := by
  unfold keyP
  rw [List.range_succ, List.filterMap_append]
  congr 1
  simp only [List.filterMap_cons, List.filterMap_nil, keyF]
  by_cases h : keyOn (b.keys.getD n 0#8) (x.keys.getD n 0#8) (y.keys.getD n 0#8) = true
  · simp only [h, if_true]
  · simp only [h]; rfl
/-- what a press is, of buttons and two memories -/
inductive Is (b x y : Btn) (ns ne nc : Nat) : Pr → Prop
  | cancel (h : (b.can && (x.can && !y.can)) = true) : Is b x y ns ne nc (1, 0, 0)
  | auto (h : (b.aut && (x.aut && !y.aut)) = true) : Is b x y ns ne nc (2, 0, 0)
  | entrance (i : Nat) (hi : i < ns) (h : (front b.ent x.ent y.ent).getLsbD i = true) : Is b x y ns ne nc (3, i, 0)
  | via (i : Nat) (hi : i < nc) (h : (front b.via x.via y.via).getLsbD i = true) : Is b x y ns ne nc (4, i, 0)
  | exit (i : Nat) (hi : i < ne) (h : (front b.exi x.exi y.exi).getLsbD i = true) : Is b x y ns ne nc (5, i, 0)
  | key (i : Nat) (hi : i < nc) (h : keyOn (b.keys.getD i 0#8) (x.keys.getD i 0#8) (y.keys.getD i 0#8) = true) : Is b x y ns ne nc (6, i, ((b.keys.getD i 0#8).toNat : Int) - 1)
theorem mem_oneP {k : Int} {is : Bool} {p : Pr} : p ∈ oneP k is ↔ is = true ∧ p = (k, 0, 0) := by
  unfold oneP; cases is <;> simp
theorem mem_rowP {k : Int} {z : BitVec 32} {n : Nat} {p : Pr} : p ∈ rowP k z n ↔ ∃ i : Nat, i < n ∧ z.getLsbD i = true ∧ p = (k, (i : Int), 0) := by
  simp only [rowP, List.mem_map, List.mem_filter, List.mem_range]
  constructor
  · rintro ⟨i, ⟨h1, h2⟩, rfl⟩; exact ⟨i, h1, h2, rfl⟩
  · rintro ⟨i, h1, h2, rfl⟩; exact ⟨i, ⟨h1, h2⟩, rfl⟩
theorem mem_keyP {b x y : Btn} {n : Nat} {p : Pr} : p ∈ keyP b x y n ↔ ∃ i : Nat, i < n ∧ keyOn (b.keys.getD i 0#8) (x.keys.getD i 0#8) (y.keys.getD i 0#8) = true ∧ p = (6, (i : Int), ((b.keys.getD i 0#8).toNat : Int) - 1) := by
  simp only [keyP, List.mem_filterMap, List.mem_range, keyF]
  constructor
  · rintro ⟨i, h1, h2⟩
    split at h2
    · rename_i h; exact ⟨i, h1, h, (Option.some.inj h2).symm⟩
    · cases h2
  · rintro ⟨i, h1, h2, rfl⟩; exact ⟨i, h1, by rw [if_pos h2]⟩
theorem mem_pressL {b x y : Btn} {ns ne nc : Nat} {p : Pr} (h : p ∈ pressL b x y ns ne nc) : Is b x y ns ne nc p := by
  simp only [pressL, List.mem_append, mem_oneP, mem_rowP, mem_keyP] at h
  rcases h with ⟨h, rfl⟩ | ⟨h, rfl⟩ | ⟨i, hi, h, rfl⟩ | ⟨i, hi, h, rfl⟩ | ⟨i, hi, h, rfl⟩ | ⟨i, hi, h, rfl⟩
  · exact .cancel h
  · exact .auto h
  · exact .entrance i hi h
  · exact .via i hi h
  · exact .exit i hi h
  · exact .key i hi h
def Lt (p q : Pr) : Prop := p.1 < q.1 ∨ (p.1 = q.1 ∧ p.2.1 < q.2.1)
theorem kind_of {b x y : Btn} {ns ne nc : Nat} {p : Pr} (h : Is b x y ns ne nc p) : 1 ≤ p.1 ∧ p.1 ≤ 6 := by cases h <;> simp
theorem range_lt (n : Nat) : (List.range n).Pairwise (· < ·) := List.pairwise_lt_range
theorem rowP_sorted (k : Int) (z : BitVec 32) (n : Nat) : (rowP k z n).Pairwise Lt := by
  unfold rowP
  rw [List.pairwise_map]
  refine List.Pairwise.filter _ ((range_lt n).imp ?_)
  intro a b h
  exact .inr ⟨rfl, by simpa using h⟩
theorem keyP_sorted (b x y : Btn) (n : Nat) : (keyP b x y n).Pairwise Lt := by
  unfold keyP
  rw [List.pairwise_filterMap]
  refine (range_lt n).imp ?_
  intro i j h p hp q hq
  simp only [keyF] at hp hq
  split at hp <;> split at hq <;> simp at hp hq
  subst hp hq
  exact .inr ⟨rfl, by simpa using h⟩
theorem oneP_sorted (k : Int) (is : Bool) : (oneP k is).Pairwise Lt := by unfold oneP; cases is <;> simp
theorem pressL_sorted (b x y : Btn) (ns ne nc : Nat) : (pressL b x y ns ne nc).Pairwise Lt := by
  unfold pressL
  simp only [List.pairwise_append, List.mem_append, mem_oneP, mem_rowP, mem_keyP]
  refine ⟨oneP_sorted _ _, ⟨oneP_sorted _ _, ⟨rowP_sorted _ _ _, ⟨rowP_sorted _ _ _, ⟨rowP_sorted _ _ _, keyP_sorted _ _ _ _, ?_⟩, ?_⟩, ?_⟩, ?_⟩, ?_⟩
  · rintro p ⟨i, _, _, rfl⟩ q ⟨j, _, _, rfl⟩; exact .inl (by simp)
  · rintro p ⟨i, _, _, rfl⟩ q (⟨j, _, _, rfl⟩ | ⟨j, _, _, rfl⟩) <;> exact .inl (by simp)
  · rintro p ⟨i, _, _, rfl⟩ q (⟨j, _, _, rfl⟩ | ⟨j, _, _, rfl⟩ | ⟨j, _, _, rfl⟩) <;> exact .inl (by simp)
  · rintro p ⟨_, rfl⟩ q (⟨j, _, _, rfl⟩ | ⟨j, _, _, rfl⟩ | ⟨j, _, _, rfl⟩ | ⟨j, _, _, rfl⟩) <;> exact .inl (by simp)
  · rintro p ⟨_, rfl⟩ q (⟨_, rfl⟩ | ⟨j, _, _, rfl⟩ | ⟨j, _, _, rfl⟩ | ⟨j, _, _, rfl⟩ | ⟨j, _, _, rfl⟩) <;> exact .inl (by simp)
/-- how many presses of a kind with a number -/
def cnt (k n : Int) (l : List Pr) : Int := (l.countP fun p => p.1 == k && p.2.1 == n : Nat)
theorem cnt_append (k n : Int) (l m : List Pr) : cnt k n (l ++ m) = cnt k n l + cnt k n m := by simp [cnt]
theorem cnt_oneP (k n j : Int) (is : Bool) (h : j ≠ k) : cnt k n (oneP j is) = 0 := by unfold oneP; cases is <;> simp [cnt, h]
theorem cnt_rowP_ne (k n j : Int) (z : BitVec 32) (m : Nat) (h : j ≠ k) : cnt k n (rowP j z m) = 0 := by
  simp only [cnt]
  have : (rowP j z m).countP (fun p => p.1 == k && p.2.1 == n) = 0 := by
    rw [List.countP_eq_zero]
    intro p hp
    obtain ⟨i, _, _, rfl⟩ := mem_rowP.1 hp
    simp [h]
  rw [this]; rfl
theorem cnt_keyP_ne (k n : Int) (b x y : Btn) (m : Nat) (h : (6 : Int) ≠ k) : cnt k n (keyP b x y m) = 0 := by
  simp only [cnt]
  have : (keyP b x y m).countP (fun p => p.1 == k && p.2.1 == n) = 0 := by
    rw [List.countP_eq_zero]
    intro p hp
    obtain ⟨i, _, _, rfl⟩ := mem_keyP.1 hp
    simp [h]
  rw [this]; rfl
theorem cnt_rowP (k : Int) (z : BitVec 32) (s : Nat) : ∀ m : Nat, cnt k s (rowP k z m) = if s < m ∧ z.getLsbD s = true then 1 else 0
  | 0 => by simp [rowP, cnt]
  | m + 1 => by
    rw [rowP_succ, cnt_append, cnt_rowP k z s m]
    by_cases e : s = m
    · subst e
      by_cases h : z.getLsbD s = true
      · simp [h, cnt]
      · simp [h, cnt]
    · have e2 : ¬ ((m : Int) = (s : Int)) := by omega
      by_cases h : z.getLsbD m = true
      · simp [h, cnt, e2]; congr 1; simp; omega
      · simp [h, cnt]; congr 1; simp; omega
theorem cnt_keyP (b x y : Btn) (s : Nat) : ∀ m : Nat, cnt 6 s (keyP b x y m) = if s < m ∧ keyOn (b.keys.getD s 0#8) (x.keys.getD s 0#8) (y.keys.getD s 0#8) = true then 1 else 0
  | 0 => by simp [keyP, cnt]
  | m + 1 => by
    rw [keyP_succ, cnt_append, cnt_keyP b x y s m]
    by_cases e : s = m
    · subst e
      by_cases h : keyOn (b.keys.getD s 0#8) (x.keys.getD s 0#8) (y.keys.getD s 0#8) = true
      · simp only [h]; simp [cnt]
      · simp only [h]; simp [cnt]
    · have e2 : ¬ ((m : Int) = (s : Int)) := by omega
      have e3 : (s < m + 1 ∧ keyOn (b.keys.getD s 0#8) (x.keys.getD s 0#8) (y.keys.getD s 0#8) = true) ↔ (s < m ∧ keyOn (b.keys.getD s 0#8) (x.keys.getD s 0#8) (y.keys.getD s 0#8) = true) := by
        constructor <;> rintro ⟨h1, h2⟩ <;> exact ⟨by omega, h2⟩
      simp only [e3]
      by_cases h : keyOn (b.keys.getD m 0#8) (x.keys.getD m 0#8) (y.keys.getD m 0#8) = true
      · simp only [h, if_true]; simp only [cnt]; simp [e2]
      · simp only [h]; simp [cnt]
theorem cnt_entrance (b x y : Btn) (ns ne nc s : Nat) (h : s < ns) : cnt 3 s (pressL b x y ns ne nc) = if (front b.ent x.ent y.ent).getLsbD s then 1 else 0 := by
  unfold pressL
  simp only [cnt_append]
  rw [cnt_oneP _ _ _ _ (by decide), cnt_oneP _ _ _ _ (by decide), cnt_rowP, cnt_rowP_ne _ _ _ _ _ (by decide), cnt_rowP_ne _ _ _ _ _ (by decide), cnt_keyP_ne _ _ _ _ _ _ (by decide)]
  simp [h]
theorem cnt_via (b x y : Btn) (ns ne nc s : Nat) (h : s < nc) : cnt 4 s (pressL b x y ns ne nc) = if (front b.via x.via y.via).getLsbD s then 1 else 0 := by
  unfold pressL
  simp only [cnt_append]
  rw [cnt_oneP _ _ _ _ (by decide), cnt_oneP _ _ _ _ (by decide), cnt_rowP, cnt_rowP_ne _ _ _ _ _ (by decide), cnt_rowP_ne _ _ _ _ _ (by decide), cnt_keyP_ne _ _ _ _ _ _ (by decide)]
  simp [h]
theorem cnt_key (b x y : Btn) (ns ne nc s : Nat) (h : s < nc) : cnt 6 s (pressL b x y ns ne nc) = if keyOn (b.keys.getD s 0#8) (x.keys.getD s 0#8) (y.keys.getD s 0#8) then 1 else 0 := by
  unfold pressL
  simp only [cnt_append]
  rw [cnt_oneP _ _ _ _ (by decide), cnt_oneP _ _ _ _ (by decide), cnt_keyP, cnt_rowP_ne _ _ _ _ _ (by decide), cnt_rowP_ne _ _ _ _ _ (by decide), cnt_rowP_ne _ _ _ _ _ (by decide)]
  simp only [h, true_and]
  simp
/-- buttons that are all down -/
def deadB : Btn := ⟨BitVec.allOnes 32, BitVec.allOnes 32, BitVec.allOnes 32, true, true, List.replicate 24 3#8⟩
/-- the frame ahead, and the one ahead of that -/
def memX (fs : List Btn) : Nat → Btn
  | 0 => deadB
  | i + 1 => fs.getD i deadB
def memY (fs : List Btn) : Nat → Btn
  | 0 => deadB
  | i + 1 => memX fs i
def sumF (F : Nat → Bool) : Nat → Int
  | 0 => 0
  | n + 1 => sumF F n + (if F n then 1 else 0)
theorem sumF_le (F : Nat → Bool) : ∀ n, 0 ≤ sumF F n ∧ sumF F n ≤ n
  | 0 => by simp [sumF]
  | n + 1 => by have := sumF_le F n; unfold sumF; split <;> omega
def entF (fs : List Btn) (s i : Nat) : Bool := (front (fs.getD i deadB).ent (memX fs i).ent (memY fs i).ent).getLsbD s
def viaF (fs : List Btn) (s i : Nat) : Bool := (front (fs.getD i deadB).via (memX fs i).via (memY fs i).via).getLsbD s
def kyF (fs : List Btn) (s i : Nat) : Bool := keyOn ((fs.getD i deadB).keys.getD s 0#8) ((memX fs i).keys.getD s 0#8) ((memY fs i).keys.getD s 0#8)
theorem memY_dead (fs : List Btn) {i : Nat} (h : i < 2) : memY fs i = deadB := by
  match i, h with
  | 0, _ => rfl
  | 1, _ => rfl
theorem entF_lo (fs : List Btn) (s : Nat) {i : Nat} (hs : s < 32) (h : i < 2) : entF fs s i = false := by
  unfold entF; rw [memY_dead fs h]; simp [front, deadB, hs]
theorem viaF_lo (fs : List Btn) (s : Nat) {i : Nat} (hs : s < 32) (h : i < 2) : viaF fs s i = false := by
  unfold viaF; rw [memY_dead fs h]; simp [front, deadB, hs]
theorem dead_key {s : Nat} (hs : s < 24) : deadB.keys.getD s 0#8 = 3#8 := by
  unfold deadB
  rw [List.getD_eq_getElem?_getD, List.getElem?_replicate, if_pos hs]; rfl
theorem kyF_lo (fs : List Btn) (s : Nat) {i : Nat} (hs : s < 24) (h : i < 2) : kyF fs s i = false := by
  unfold kyF
  rw [memY_dead fs h, dead_key hs]
  simp [keyOn]
theorem sumF_two {F : Nat → Bool} (h0 : F 0 = false) (h1 : F 1 = false) : sumF F 2 = 0 := by simp [sumF, h0, h1]
theorem memX_succ (fs : List Btn) (i : Nat) : memX fs (i + 1) = fs.getD i deadB := rfl
theorem memY_succ (fs : List Btn) (i : Nat) : memY fs (i + 1) = memX fs i := rfl
end Go.Proofs.Ytioggdiicgfoaaa.KM
