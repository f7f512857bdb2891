/- What Take answers, as one relation. -/
import Derived.Test.YtefbinlmakkjeaaBitsP
namespace Go.Proofs.Ytefbinlmakkjeaa
open Go.RowKit Rf Mem Bv Bits Str
def TakeR (B : List (BitVec 8)) (N at_ wd r er : Int) : Prop :=
  ((right B N = false ∨ wd < 0 ∨ 32 < wd ∨ at_ < 0) ∧ r = 0 ∧ er = 2) ∨
  (right B N = true ∧ ¬ (wd < 0 ∨ 32 < wd ∨ at_ < 0) ∧ (N < at_ ∨ N - at_ < wd) ∧ r = 0 ∧ er = 40) ∨
  (right B N = true ∧ ¬ (wd < 0 ∨ 32 < wd ∨ at_ < 0) ∧ ¬ (N < at_ ∨ N - at_ < wd) ∧ er = 0 ∧ ∃ l : List Bool, N = l.length ∧ Holds B l ∧ r = num ((l.drop at_.toNat).take wd.toNat))
theorem TakeR.same {B : List (BitVec 8)} {N at_ wd r1 e1 r2 e2 : Int} (h : TakeR B N at_ wd r1 e1) (k : TakeR B N at_ wd r2 e2) : r1 = r2 ∧ e1 = e2 := by
  have hn : ∀ {p : Prop}, right B N = true → ¬ p → ¬ (right B N = false ∨ p) := by
    intro p a b c; rcases c with c | c
    · rw [a] at c; cases c
    · exact b c
  rcases h with ⟨a, rfl, rfl⟩ | ⟨a, b, c, rfl, rfl⟩ | ⟨a, b, c, rfl, l, h1, h2, rfl⟩
  · rcases k with ⟨_, rfl, rfl⟩ | ⟨a', b', _⟩ | ⟨a', b', _⟩
    · exact ⟨rfl, rfl⟩
    · exact absurd a (hn a' b')
    · exact absurd a (hn a' b')
  · rcases k with ⟨a', _⟩ | ⟨_, _, _, rfl, rfl⟩ | ⟨_, _, c', _⟩
    · exact absurd a' (hn a b)
    · exact ⟨rfl, rfl⟩
    · exact absurd c c'
  · rcases k with ⟨a', _⟩ | ⟨_, _, c', _⟩ | ⟨_, _, _, rfl, l', h1', h2', rfl⟩
    · exact absurd a' (hn a b)
    · exact absurd c' c
    · obtain rfl := holds_list h2 h2' (by omega)
      exact ⟨rfl, rfl⟩
theorem Take_t (v : Value) (B : List (BitVec 8)) (N at_ wd : Int) (w : World) (hs : SliceAt w 1 v B.length (u8s B)) (hl : B.length ≤ 1000) (hN1 : -9223372036854775808 ≤ N) (hN2 : N ≤ 9223372036854775807) :
    Calls Try.prog 12 #[bv v N, .int .i64 at_, .int .i64 wd] w fun e w' => Below w.heap.size w w' ∧ ∃ r er : Int, e = .returned (.tuple #[.int .i64 r, .int .i64 er]) ∧ TakeR B N at_ wd r er := by
  rcases hr : right B N with _ | _
  · exact (Take_bad v B N at_ wd w hs hN1 hN2 (.inl hr)).mono fun e w' h => ⟨h.1, 0, 2, h.2, .inl ⟨.inl hr, rfl, rfl⟩⟩
  by_cases hb : wd < 0 ∨ 32 < wd ∨ at_ < 0
  · exact (Take_bad v B N at_ wd w hs hN1 hN2 (.inr hb)).mono fun e w' h => ⟨h.1, 0, 2, h.2, .inl ⟨.inr hb, rfl, rfl⟩⟩
  have h1 : 0 ≤ wd := by omega
  have h2 : wd ≤ 32 := by omega
  have h3 : 0 ≤ at_ := by omega
  by_cases h4 : N < at_ ∨ N - at_ < wd
  · exact (Take_short v B N at_ wd w hs hN1 hN2 hr h1 h2 h3 h4).mono fun e w' h => ⟨h.1, 0, 40, h.2, .inr (.inl ⟨hr, hb, h4, rfl, rfl⟩)⟩
  obtain ⟨l, hNl, hH⟩ := (right_iff B N).1 hr
  have := hH.1
  obtain ⟨at', rfl⟩ := Int.eq_ofNat_of_zero_le h3
  obtain ⟨wd', rfl⟩ := Int.eq_ofNat_of_zero_le h1
  exact (Take_g v B l at' wd' N _ _ _ w hNl rfl rfl rfl hs hH (by omega) (by omega) (by omega)).mono fun e w' h => ⟨h.1, _, 0, h.2, .inr (.inr ⟨hr, hb, h4, rfl, l, hNl, hH, rfl⟩)⟩
theorem refTake_t (v : Value) (B : List (BitVec 8)) (N at_ wd : Int) (w : World) (hs : SliceAt w 1 v B.length (u8s B)) (hl : B.length ≤ 1000) (hN1 : -9223372036854775808 ≤ N) (hN2 : N ≤ 9223372036854775807) :
    Calls Try.prog 13 #[bv v N, .int .i64 at_, .int .i64 wd] w fun e w' => Below w.heap.size w w' ∧ ∃ r er : Int, e = .returned (.tuple #[.int .i64 r, .int .i64 er]) ∧ TakeR B N at_ wd r er := by
  rcases hr : right B N with _ | _
  · exact (refTake_bad v B N at_ wd w hs hN1 hN2 (.inl hr)).mono fun e w' h => ⟨h.1, 0, 2, h.2, .inl ⟨.inl hr, rfl, rfl⟩⟩
  by_cases hb : wd < 0 ∨ 32 < wd ∨ at_ < 0
  · exact (refTake_bad v B N at_ wd w hs hN1 hN2 (.inr hb)).mono fun e w' h => ⟨h.1, 0, 2, h.2, .inl ⟨.inr hb, rfl, rfl⟩⟩
  have h1 : 0 ≤ wd := by omega
  have h2 : wd ≤ 32 := by omega
  have h3 : 0 ≤ at_ := by omega
  by_cases h4 : N < at_ ∨ N - at_ < wd
  · exact (refTake_short v B N at_ wd w hs hN1 hN2 hr h1 h2 h3 h4).mono fun e w' h => ⟨h.1, 0, 40, h.2, .inr (.inl ⟨hr, hb, h4, rfl, rfl⟩)⟩
  obtain ⟨l, hNl, hH⟩ := (right_iff B N).1 hr
  have := hH.1
  obtain ⟨at', rfl⟩ := Int.eq_ofNat_of_zero_le h3
  obtain ⟨wd', rfl⟩ := Int.eq_ofNat_of_zero_le h1
  exact (refTake_g v B l at' wd' N _ _ _ w hNl rfl rfl rfl hs hH (by omega) (by omega) (by omega)).mono fun e w' h => ⟨h.1, _, 0, h.2, .inr (.inr ⟨hr, hb, h4, rfl, l, hNl, hH, rfl⟩)⟩
end Go.Proofs.Ytefbinlmakkjeaa
