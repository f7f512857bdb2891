/- Routes that are held, and when they are clear, in plain words. No condition. -/
import Derived.WalkKit
namespace Go.Proofs.YtppcdmbpbbjecaaGreat.AM
/-- a step, a need: three numbers -/
abbrev T3 := Int × Int × Int
structure HeldM where
  id : Int
  sig : Int
  ex : Int
  steps : List T3
  over : List T3
  needs : List T3
  stage : Int
  gone : Int
  was : List Bool
  opn : Bool
  timer : Int
  shown : Bool
def stillB (gone : Int) (n : Nat) (opn : Bool) (x : T3) : Bool := decide (max gone 0 ≤ x.2.2) && (x.2.2 != (n : Int) || !opn)
/-- the needs that still hold -/
def needsL (h : HeldM) : List T3 := h.needs.filter (stillB h.gone h.steps.length h.opn)
/-- the sections that are still held -/
def secsL (h : HeldM) : List Int := (h.steps.drop (max h.gone 0).toNat).map (·.1) ++ (if h.opn then [] else h.over.map (·.1))
def hasB (h : HeldM) (s : Int) : Bool := (secsL h).any (fun x => x == s)
def bothB (x y : T3) : Bool := x.1 == y.1 && x.2.1 != y.2.1
def clashB (a b : List T3) : Bool := a.any fun x => b.any fun y => bothB x y
def apartB (a b : HeldM) : Bool := (secsL a).all (fun s => !hasB b s) && !clashB (needsL a) (needsL b)
def provesB (st : Int → Int) (h : HeldM) : Bool := (needsL h).all fun n => st n.1 == n.2.1
def clearB (st : Int → Int) (occ lit : Int → Bool) (h : HeldM) : Bool :=
  h.stage == 2 && (lit h.sig && ((h.steps.all fun s => !occ s.1) && ((h.over.all fun s => !occ s.1) && provesB st h)))
/-- a route's signal, as a bit -/
def sigBit (is : Bool) (s : Int) : BitVec 32 := if is && (decide (0 ≤ s) && decide (s < 12)) then BitVec.twoPow 32 s.toNat else 0#32
/-- the signals of some routes -/
def sigW (cl : HeldM → Bool) : List HeldM → BitVec 32
  | [] => 0#32
  | h :: r => sigBit (cl h) h.sig ||| sigW cl r
theorem sigW_snoc (cl : HeldM → Bool) (h : HeldM) : ∀ l : List HeldM, sigW cl (l ++ [h]) = sigW cl l ||| sigBit (cl h) h.sig
  | [] => by simp [sigW]
  | a :: r => by rw [List.cons_append, sigW, sigW_snoc cl h r, sigW, BitVec.or_assoc]
theorem sigBit_hi (is : Bool) (s : Int) (i : Nat) (hi : 12 ≤ i) : (sigBit is s).getLsbD i = false := by
  unfold sigBit
  split
  · rename_i h
    simp only [Bool.and_eq_true, decide_eq_true_eq] at h
    rw [BitVec.getLsbD_twoPow]
    have : s.toNat ≠ i := by omega
    simp [this]
  · simp
theorem sigW_hi (cl : HeldM → Bool) (i : Nat) (hi : 12 ≤ i) : ∀ l : List HeldM, (sigW cl l).getLsbD i = false
  | [] => by simp [sigW]
  | h :: r => by rw [sigW, BitVec.getLsbD_or, sigBit_hi _ _ i hi, sigW_hi cl i hi r]; rfl
theorem low_of_hi (b : BitVec 32) (n : Nat) (h : ∀ i, n ≤ i → b.getLsbD i = false) : b.toNat < 2 ^ n := by
  apply Nat.lt_pow_two_of_testBit
  intro i hi
  exact h i hi
theorem sigW_small (cl : HeldM → Bool) (l : List HeldM) : (sigW cl l).toNat < 4096 := low_of_hi _ 12 (fun i hi => sigW_hi cl i hi l)
theorem sigW_none (cl : HeldM → Bool) : ∀ l : List HeldM, (∀ h ∈ l, cl h = false) → sigW cl l = 0#32
  | [], _ => rfl
  | h :: r, hl => by
    rw [sigW, sigW_none cl r (fun x hx => hl x (by simp [hx])), hl h (by simp)]
    simp [sigBit]
theorem clearB_dark {st : Int → Int} {occ lit : Int → Bool} {h : HeldM} (hd : lit h.sig = false) : clearB st occ lit h = false := by simp [clearB, hd]
theorem provesB_bad {st : Int → Int} {h : HeldM} {n : T3} (hn : n ∈ needsL h) (hb : st n.1 ≠ n.2.1) : provesB st h = false := by
  rw [Bool.eq_false_iff]
  intro e
  have := List.all_eq_true.1 e n hn
  exact hb (by simpa using this)
theorem clearB_proves {st : Int → Int} {occ lit : Int → Bool} {h : HeldM} (hp : provesB st h = false) : clearB st occ lit h = false := by simp [clearB, hp]
theorem clearB_parts {st : Int → Int} {occ lit : Int → Bool} {h : HeldM} : clearB st occ lit h = true ↔ h.stage = 2 ∧ lit h.sig = true ∧ (∀ s ∈ h.steps ++ h.over, occ s.1 = false) ∧ provesB st h = true := by
  simp only [clearB, Bool.and_eq_true, beq_iff_eq, List.all_eq_true, Bool.not_eq_true', List.mem_append]
  constructor
  · rintro ⟨h1, h2, h3, h4, h5⟩
    exact ⟨h1, h2, fun s hs => hs.elim (h3 s) (h4 s), h5⟩
  · rintro ⟨h1, h2, h3, h4⟩
    exact ⟨h1, h2, fun s hs => h3 s (.inl hs), fun s hs => h3 s (.inr hs), h4⟩
/-- a loop that finds -/
theorem any_take {α : Type} (p : α → Bool) (l : List α) (k : Nat) (x : α) (h : l[k]? = some x) : (l.take (k + 1)).any p = ((l.take k).any p || p x) := by
  rw [List.take_add_one, h, List.any_append]; simp
theorem all_take {α : Type} (p : α → Bool) (l : List α) (k : Nat) (x : α) (h : l[k]? = some x) : (l.take (k + 1)).all p = ((l.take k).all p && p x) := by
  rw [List.take_add_one, h, List.all_append]; simp
theorem filter_take {α : Type} (p : α → Bool) (l : List α) (k : Nat) (x : α) (h : l[k]? = some x) : (l.take (k + 1)).filter p = (l.take k).filter p ++ (if p x then [x] else []) := by
  rw [List.take_add_one, h, List.filter_append]
  cases hp : p x <;> simp [hp]
end Go.Proofs.YtppcdmbpbbjecaaGreat.AM
