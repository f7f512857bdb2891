/- Images: plain words for ImageWorst. No condition. -/
import Derived.Test.YtialnndpckcgbaaDoorTV
import Derived.Deep.CutRange
namespace Go.Proofs.YtialnndpckcgbaaDoor
open Go.RowKit Rf Mem
structure SV (w W : World) (L M : List Value) : Prop where
  l : W.heap[w.heap.size]? = some (.cells L.toArray 29 (0, 0))
  m : W.heap[w.heap.size + 1]? = some (.cells M.toArray 35 (0, 0))
  bb : Below w.heap.size w W
  t0 : Tops w
theorem SV.t {w W : World} {L M : List Value} (h : SV w W L M) : Tops W := h.t0.below h.bb
theorem SV.new (w : World) (L M : List Value) (hT : Tops w) : SV w ((w.alloc (.cells L.toArray 29)).alloc (.cells M.toArray 35)) L M :=
  ⟨old_at (new_at rfl _) _, new_at (by simp) _, below_step (below_new w (.cells L.toArray 29)) (below_new _ (.cells M.toArray 35)), hT⟩
theorem SV.later {w W W' : World} {L M : List Value} (h : SV w W L M) (b : Below W.heap.size W W') : SV w W' L M := ⟨var_later h.l b, var_later h.m b, below_step h.bb b, h.t0⟩
def hasV (ns : Nat) (n : Int) : Bool := decide (0 ≤ n) && decide (n < (ns : Int))
/-- the answers for a number, and what binds them -/
structure Wor (kinds : List Int) (nsig : Nat) (n : Int) (s h b O Li T : Bool) (a : Int) : Prop where
  k1 : (s || (!h || decide (24 ≤ n))) = true → O = true
  k2 : (s || (!h || b)) = true → a = -1
  k3 : (s || (decide (n < 0) || decide ((nsig : Int) ≤ n))) = true → Li = false
  k4 : T = true → s = false ∧ h = true ∧ O = true
  k5 : a = -1 ∨ ((a = 0 ∨ a = 1) ∧ h = true ∧ kinds.getD n.toNat 0 = 2)
def bothV (kinds : List Int) (nor rev : BitVec 32) (n : Int) : Bool := hasV kinds.length n && (decide (n < 32) && (nor.getLsbD n.toNat == rev.getLsbD n.toNat))
theorem wor (kinds : List Int) (nsig : Nat) (n clr : Int) (free : List Int) (occ nor rev lam : BitVec 32) (s : Bool) :
    Wor kinds nsig n s (hasV kinds.length n) (bothV kinds nor rev n) (occV kinds.length occ s free clr n) (litV nsig lam s n) (toldV kinds.length occ s n) (atV kinds nor rev s n) := by
  have hbit : ∀ x : BitVec 32, n < 0 → bitV x n = false := fun x h => by unfold bitV; rw [decide_eq_false (by omega : ¬ 0 ≤ n)]; rfl
  refine ⟨fun h => ?_, fun h => ?_, fun h => ?_, fun h => ?_, ?_⟩
  · unfold occV
    cases s
    · simp only [hasV, Bool.false_or, Bool.or_eq_true, Bool.not_eq_true', Bool.and_eq_false_iff, decide_eq_false_iff_not, decide_eq_true_eq] at h
      by_cases h0 : n < 0
      · simp [h0]
      · have : min (kinds.length : Int) 24 ≤ n := by omega
        simp [this]
    · simp
  · unfold atV
    cases s
    · simp only [Bool.false_or] at h
      by_cases h0 : n < 0
      · simp [h0]
      by_cases h1 : (kinds.length : Int) ≤ n
      · simp [h1]
      have hh : hasV kinds.length n = true := by simp [hasV]; omega
      rw [hh] at h
      simp only [Bool.not_true, Bool.false_or] at h
      simp only [bothV, hh, Bool.true_and, Bool.and_eq_true, decide_eq_true_eq, beq_iff_eq] at h
      have e : bitV nor n = bitV rev n := by
        obtain ⟨k, rfl⟩ := Int.eq_ofNat_of_zero_le (by omega : 0 ≤ n)
        rw [bitV_nat _ (by omega), bitV_nat _ (by omega)]
        exact h.2
      rw [e]
      cases bitV rev n <;> simp
    · simp
  · unfold litV
    cases s
    · simp only [Bool.false_or, Bool.or_eq_true, decide_eq_true_eq] at h
      rcases h with h | h
      · rw [hbit lam h]; simp
      · rw [decide_eq_false (by omega : ¬ n < (nsig : Int))]; rfl
    · simp
  · unfold toldV at h
    simp only [Bool.and_eq_true, decide_eq_true_eq, Bool.not_eq_true'] at h
    obtain ⟨h1, h2, h3⟩ := h
    have h0 : ¬ n < 0 := fun h0 => by rw [hbit occ h0] at h2; cases h2
    refine ⟨h3, by simp [hasV]; omega, ?_⟩
    unfold occV
    rw [h2]; simp
  · unfold atV
    split
    · exact .inl rfl
    · rename_i h
      simp only [Bool.or_eq_true, decide_eq_true_eq, bne_iff_ne, ne_eq, not_or, Classical.not_not] at h
      obtain ⟨h0, h1, h2, h3⟩ := h
      have hh : hasV kinds.length n = true := by simp [hasV]; omega
      split
      · exact .inr ⟨.inl rfl, hh, h2⟩
      · split
        · exact .inr ⟨.inr rfl, hh, h2⟩
        · exact .inl rfl
end Go.Proofs.YtialnndpckcgbaaDoor
