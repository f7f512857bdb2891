/- What Put, Flags and Pad answer, as one relation. -/
import Derived.Test.YtefbinlmakkjeaaBitsO
namespace Go.Proofs.Ytefbinlmakkjeaa
open Go.RowKit Rf Mem Bv Bits Str
/-- refused: no bits and errno 2; else the bits f l in bytes B' -/
def OutR (good : Bool) (B : List (BitVec 8)) (N : Int) (f : List Bool → List Bool) (B' : List (BitVec 8)) (N' e : Int) : Prop :=
  (good = false ∧ B' = [] ∧ N' = 0 ∧ e = 2) ∨ (good = true ∧ e = 0 ∧ ∃ l : List Bool, N = l.length ∧ Holds B l ∧ Holds B' (f l) ∧ N' = (f l).length)
theorem holds_list {B : List (BitVec 8)} {l l' : List Bool} (h : Holds B l) (h' : Holds B l') (e : l.length = l'.length) : l = l' := by
  apply List.ext_getElem e
  intro i h1 h2
  have a := holds_get h h1
  have b := holds_get h' h2
  rw [a] at b
  simpa [List.getElem?_eq_getElem h1, List.getElem?_eq_getElem h2] using b
theorem OutR.same {good : Bool} {B : List (BitVec 8)} {N : Int} {f : List Bool → List Bool} {B1 B2 : List (BitVec 8)} {N1 N2 e1 e2 : Int} (h : OutR good B N f B1 N1 e1) (k : OutR good B N f B2 N2 e2) : B1 = B2 ∧ N1 = N2 ∧ e1 = e2 := by
  rcases h with ⟨g, rfl, rfl, rfl⟩ | ⟨g, rfl, l, hl, hB, h1, rfl⟩
  · rcases k with ⟨_, rfl, rfl, rfl⟩ | ⟨g', _⟩
    · exact ⟨rfl, rfl, rfl⟩
    · rw [g] at g'; cases g'
  · rcases k with ⟨g', _⟩ | ⟨_, rfl, l', hl', hB', h2, rfl⟩
    · rw [g] at g'; cases g'
    · obtain rfl := holds_list hB hB' (by omega)
      exact ⟨holds_unique h1 h2, rfl, rfl⟩
/-- what a call answers -/
def OutE (good : Bool) (B : List (BitVec 8)) (N : Int) (f : List Bool → List Bool) (w : World) : Ending → World → Prop := fun e w' =>
  Below w.heap.size w w' ∧ ∃ (A : Option Addr) (c : Nat) (B' : List (BitVec 8)) (N' er : Int), e = .returned (.tuple #[bv (.slice A B'.length c) N', .int .i64 er]) ∧ SliceAt w' 1 (.slice A B'.length c) B'.length (u8s B') ∧ OutR good B N f B' N' er
theorem OutE.bad {good : Bool} {B : List (BitVec 8)} {N : Int} {f : List Bool → List Bool} {w w' : World} {e : Ending} (hg : good = false) (h : Below w.heap.size w w' ∧ e = .returned (.tuple #[bv (.slice none 0 0) 0, .int .i64 2])) : OutE good B N f w e w' :=
  ⟨h.1, none, 0, [], 0, 2, h.2, SliceAt.nil_ w' 1, .inl ⟨hg, rfl, rfl, rfl⟩⟩
theorem OutE.good {good : Bool} {B : List (BitVec 8)} {N N' : Int} {f : List Bool → List Bool} {w w' : World} {e : Ending} {l : List Bool} (hg : good = true) (hN : N = l.length) (hH : Holds B l) (hN' : N' = (f l).length)
    (h : Below w.heap.size w w' ∧ ∃ A c B', e = .returned (.tuple #[bv (.slice A (B' : List (BitVec 8)).length c) N', .int .i64 0]) ∧ SliceAt w' 1 (.slice A B'.length c) B'.length (u8s B') ∧ Holds B' (f l)) : OutE good B N f w e w' := by
  obtain ⟨b, A, c, B', rfl, hs, hH'⟩ := h
  exact ⟨b, A, c, B', N', 0, rfl, hs, .inr ⟨hg, rfl, l, hN, hH, hH', hN'⟩⟩
theorem fits_yes {n wd : Int} (h : fits n wd = true) : ∃ n' wd' : Nat, n = n' ∧ wd = wd' ∧ wd' ≤ 32 ∧ n' < 2 ^ wd' := by
  simp only [fits, Bool.and_eq_true, decide_eq_true_eq] at h
  obtain ⟨⟨⟨h1, h2⟩, h3⟩, h4⟩ := h
  obtain ⟨n', rfl⟩ := Int.eq_ofNat_of_zero_le h3
  obtain ⟨wd', rfl⟩ := Int.eq_ofNat_of_zero_le h1
  refine ⟨n', wd', rfl, rfl, by omega, ?_⟩
  rw [Int.toNat_natCast] at h4
  exact_mod_cast h4
theorem Put_t (v : Value) (B : List (BitVec 8)) (N n wd : Int) (w : World) (hs : SliceAt w 1 v B.length (u8s B)) (hl : B.length ≤ 1000) (hN1 : -9223372036854775808 ≤ N) (hN2 : N ≤ 9223372036854775807) (hn : n ≤ 9223372036854775807) :
    Calls Try.prog 5 #[bv v N, .int .i64 n, .int .i64 wd] w (OutE (right B N && fits n wd) B N (fun l => l ++ numBits n.toNat wd.toNat) w) := by
  rcases hg : (right B N && fits n wd) with _ | _
  · exact (Put_bad v B N n wd w hs (by omega) hN1 hN2 hn hg).mono fun e w' h => OutE.bad rfl h
  · obtain ⟨hr, hf⟩ := Bool.and_eq_true_iff.1 hg
    obtain ⟨l, hNl, hH⟩ := (right_iff B N).1 hr
    obtain ⟨n', wd', rfl, rfl, h1, h2⟩ := fits_yes hf
    have := hH.1
    exact (Put_g v B l n' wd' N _ _ _ w hNl rfl rfl rfl hs hH (by omega) h1 h2).mono fun e w' h => OutE.good rfl hNl hH (by rw [List.length_append, numBits_length]; rfl) h
theorem fits_no {n wd : Int} (h : fits n wd = false) (hw : wd ≤ 32 → 0 ≤ wd → wrap64 (2 ^ wd.toNat) = 2 ^ wd.toNat) : wd < 0 ∨ 32 < wd ∨ n < 0 ∨ (0 ≤ wd ∧ wd ≤ 32 ∧ wrap64 (2 ^ wd.toNat) ≤ n) := by
  by_cases h1 : wd < 0
  · exact .inl h1
  by_cases h2 : 32 < wd
  · exact .inr (.inl h2)
  by_cases h3 : n < 0
  · exact .inr (.inr (.inl h3))
  have hw' := hw (by omega) (by omega)
  refine .inr (.inr (.inr ⟨by omega, by omega, ?_⟩))
  rw [hw']
  rw [fits, decide_eq_true (by omega : 0 ≤ wd), decide_eq_true (by omega : wd ≤ 32), decide_eq_true (by omega : 0 ≤ n)] at h
  exact Int.not_lt.1 (by simpa using h)
theorem wrap_pow32 {m : Int} (h1 : m ≤ 32) (h0 : 0 ≤ m) : wrap64 (2 ^ m.toNat) = 2 ^ m.toNat := by
  obtain ⟨n, rfl⟩ : ∃ n : Nat, m = n := ⟨m.toNat, by omega⟩
  have h2 : 2 ^ n ≤ 2 ^ 32 := Nat.pow_le_pow_right (by omega) (by omega)
  have e : ((2 : Int) ^ ((n : Int).toNat)) = ((2 ^ n : Nat) : Int) := by rw [Int.toNat_natCast]; push_cast; rfl
  rw [e]
  generalize 2 ^ n = t at *
  unfold wrap64; omega
theorem refPut_t (v : Value) (B : List (BitVec 8)) (N n wd : Int) (w : World) (hs : SliceAt w 1 v B.length (u8s B)) (hl : B.length ≤ 1000) (hN1 : -9223372036854775808 ≤ N) (hN2 : N ≤ 9223372036854775807) :
    Calls Try.prog 6 #[bv v N, .int .i64 n, .int .i64 wd] w (OutE (right B N && fits n wd) B N (fun l => l ++ numBits n.toNat wd.toNat) w) := by
  rcases hg : (right B N && fits n wd) with _ | _
  · refine (refPut_bad v B N n wd w hs hN1 hN2 ?_).mono fun e w' h => OutE.bad rfl h
    rcases hr : right B N with _ | _
    · exact .inl rfl
    · rw [hr, Bool.true_and] at hg
      exact .inr (fits_no hg wrap_pow32)
  · obtain ⟨hr, hf⟩ := Bool.and_eq_true_iff.1 hg
    obtain ⟨l, hNl, hH⟩ := (right_iff B N).1 hr
    obtain ⟨n', wd', rfl, rfl, h1, h2⟩ := fits_yes hf
    have := hH.1
    exact (refPut_g v B l n' wd' N _ _ _ w hNl rfl rfl rfl hs hH (by omega) h1 h2).mono fun e w' h => OutE.good rfl hNl hH (by rw [List.length_append, numBits_length]; rfl) h
theorem Flags_t (v : Value) (B : List (BitVec 8)) (N : Int) (u : Value) (fl : List Bool) (w : World) (hs : SliceAt w 1 v B.length (u8s B)) (hu : SliceAt w 1 u fl.length (bools fl)) (hl : B.length ≤ 1000) (hfl : fl.length ≤ 1000) (hN1 : -9223372036854775808 ≤ N) (hN2 : N ≤ 9223372036854775807) :
    Calls Try.prog 7 #[bv v N, u] w (OutE (right B N) B N (fun l => l ++ fl) w) := by
  rcases hr : right B N with _ | _
  · exact (Flags_bad v B N u fl w hs hu (by omega) hN1 hN2 hr).mono fun e w' h => OutE.bad rfl h
  · obtain ⟨l, hNl, hH⟩ := (right_iff B N).1 hr
    have := hH.1
    exact (Flags_g v B l u fl N _ w hNl rfl hs hu hH (by omega) hfl).mono fun e w' h => OutE.good rfl hNl hH (by rw [List.length_append]) h
theorem refFlags_t (v : Value) (B : List (BitVec 8)) (N : Int) (u : Value) (fl : List Bool) (w : World) (hs : SliceAt w 1 v B.length (u8s B)) (hu : SliceAt w 1 u fl.length (bools fl)) (hl : B.length ≤ 1000) (hfl : fl.length ≤ 1000) (hN1 : -9223372036854775808 ≤ N) (hN2 : N ≤ 9223372036854775807) :
    Calls Try.prog 8 #[bv v N, u] w (OutE (right B N) B N (fun l => l ++ fl) w) := by
  rcases hr : right B N with _ | _
  · exact (refFlags_bad v B N u w hs hN1 hN2 hr).mono fun e w' h => OutE.bad rfl h
  · obtain ⟨l, hNl, hH⟩ := (right_iff B N).1 hr
    have := hH.1
    exact (refFlags_g v B l u fl N _ w hNl rfl hs hu hH (by omega) hfl).mono fun e w' h => OutE.good rfl hNl hH (by rw [List.length_append]) h
theorem Pad_t (v : Value) (B : List (BitVec 8)) (N : Int) (w : World) (hs : SliceAt w 1 v B.length (u8s B)) (hl : B.length ≤ 1000) (hN1 : -9223372036854775808 ≤ N) (hN2 : N ≤ 9223372036854775807) :
    Calls Try.prog 10 #[bv v N] w (OutE (right B N) B N (fun l => l ++ List.replicate (8 * B.length - l.length) false) w) := by
  rcases hr : right B N with _ | _
  · exact (Pad_bad v B N w hs (by omega) hN1 hN2 hr).mono fun e w' h => OutE.bad rfl h
  · obtain ⟨l, hNl, hH⟩ := (right_iff B N).1 hr
    have := hH.1
    refine (Pad_g v B l N _ w hNl rfl hs hH (by omega)).mono fun e w' h => ?_
    obtain ⟨b, A, c, rfl, hs'⟩ := h
    exact OutE.good rfl hNl hH (by rw [List.length_append, List.length_replicate]; omega) ⟨b, A, c, B, rfl, hs', holds_pad hH⟩
theorem refPad_t (v : Value) (B : List (BitVec 8)) (N : Int) (w : World) (hs : SliceAt w 1 v B.length (u8s B)) (hl : B.length ≤ 1000) (hN1 : -9223372036854775808 ≤ N) (hN2 : N ≤ 9223372036854775807) :
    Calls Try.prog 11 #[bv v N] w (OutE (right B N) B N (fun l => l ++ List.replicate (8 * B.length - l.length) false) w) := by
  rcases hr : right B N with _ | _
  · exact (refPad_bad v B N w hs hN1 hN2 hr).mono fun e w' h => OutE.bad rfl h
  · obtain ⟨l, hNl, hH⟩ := (right_iff B N).1 hr
    have := hH.1
    refine (refPad_g v B l N _ w hNl rfl hs hH (by omega)).mono fun e w' h => ?_
    obtain ⟨b, A, c, rfl, hs'⟩ := h
    exact OutE.good rfl hNl hH (by rw [List.length_append, List.length_replicate]; omega) ⟨b, A, c, B, rfl, hs', holds_pad hH⟩
end Go.Proofs.Ytefbinlmakkjeaa
