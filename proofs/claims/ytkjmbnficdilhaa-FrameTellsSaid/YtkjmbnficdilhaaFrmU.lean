/- Frames: total contracts of Put and Take, of both sides. -/
import Derived.Test.YtkjmbnficdilhaaFrmT
namespace Go.Proofs.Ytkjmbnficdilhaa
open Go.RowKit Rf Mem Bv Crc Str
attribute [local go_sem ↓] run_max2 run_min2
theorem refTake_yes (k s : BitVec 8) (k' s' : Int) (v : Value) (p b : List (BitVec 8)) (w : World) (hk : k' = k.toNat) (hs' : s' = s.toNat) (hs : SliceAt w 1 v b.length (u8s b)) (hb : takeV b = (k, s, p, 0)) (hl2 : b.length ≤ 140737488355320) :
    Calls Try.prog 8 #[v] w fun e w' => Below w.heap.size w w' ∧ ∃ A c, e = .returned (.tuple #[fv k' s' (.slice A p.length c), .int .i64 0]) ∧ SliceAt w' 1 (.slice A p.length c) p.length (u8s p) := by
  subst hk hs'
  unfold takeV at hb
  split at hb
  · cases hb
  rename_i h5
  split at hb
  · rename_i he; simp only [Prod.mk.injEq] at hb; exact absurd hb.2.2.2 he
  rename_i he
  have he' : (openV b).2 = 0 := by simpa using he
  split at hb
  · rename_i k1 s1 n p1 heq
    split at hb
    · rename_i hc
      simp only [Prod.mk.injEq] at hb
      obtain ⟨rfl, rfl, rfl, _⟩ := hb
      refine (refTake_form v b k1 s1 n p1 w hs (by omega) hl2 (Prod.ext heq he')).mono ?_
      rintro e w' ⟨b1, h2⟩
      unfold FormR at h2
      rw [if_pos hc] at h2
      exact ⟨b1, h2⟩
    · simp at hb
  · simp at hb
theorem refTake_no (v : Value) (b : List (BitVec 8)) (er : Int) (w : World) (hs : SliceAt w 1 v b.length (u8s b)) (hb : (takeV b).2.2.2 = er) (h0 : er ≠ 0) (hl2 : b.length ≤ 140737488355320) :
    Calls Try.prog 8 #[v] w fun e w' => Below w.heap.size w w' ∧ e = .returned (.tuple #[fv 0 0 (.slice none 0 0), .int .i64 er]) := by
  subst hb
  unfold takeV at h0 ⊢
  split
  · rename_i h5
    exact refTake_short v b w hs h5
  · rename_i h5
    rw [if_neg h5] at h0
    split
    · rename_i he
      exact refTake_crc v b w hs (by omega) hl2 he
    · rename_i he
      rw [if_neg he] at h0
      have he' : (openV b).2 = 0 := by simpa using he
      have hlen := openV_len he'
      split
      · rename_i k1 s1 n p1 heq
        rw [heq] at h0
        dsimp only at h0
        split
        · rename_i hc; rw [if_pos hc] at h0; exact absurd rfl h0
        · rename_i hc
          refine (refTake_form v b k1 s1 n p1 w hs (by omega) hl2 (Prod.ext heq he')).mono ?_
          rintro e w' ⟨b1, h2⟩
          unfold FormR at h2
          rw [if_neg hc] at h2
          exact ⟨b1, h2⟩
      · rename_i hne
        exfalso
        rcases h : (openV b).1 with _ | ⟨a, _ | ⟨a2, _ | ⟨a3, p⟩⟩⟩
        · rw [h] at hlen; simp at hlen; omega
        · rw [h] at hlen; simp at hlen; omega
        · rw [h] at hlen; simp at hlen; omega
        · exact hne _ _ _ _ h
theorem refPut_g (k s : BitVec 8) (k' s' : Int) (v : Value) (p X : List (BitVec 8)) (w : World) (hk : k' = k.toNat) (hs' : s' = s.toNat) (hX : X = Crc.close (hb k s p)) (hs : SliceAt w 1 v p.length (u8s p)) (h : rightF k.toNat p.length = true) :
    Calls Try.prog 6 #[fv k' s' v] w fun e w' => Below w.heap.size w w' ∧ ∃ A c, e = .returned (.tuple #[.slice A X.length c, .int .i64 0]) ∧ SliceAt w' 1 (.slice A X.length c) X.length (u8s X) := by
  subst hk hs' hX
  refine (refPut_good k s v p w hs h).mono ?_
  rintro e w' ⟨b, v', rfl, ho⟩
  have S := sliceAt_of_own ho
  obtain ⟨A, c, rfl, _⟩ := S.form
  exact ⟨b, A, c, rfl, S⟩
/-- what Put answers -/
def putV (k s : BitVec 8) (p : List (BitVec 8)) : List (BitVec 8) × Int := if rightF k.toNat p.length then (Crc.close (hb k s p), 0) else ([], 2)
theorem Put_t (k s : BitVec 8) (v : Value) (p X : List (BitVec 8)) (er : Int) (w : World) (hX : putV k s p = (X, er)) (hs : SliceAt w 1 v p.length (u8s p)) :
    Calls Try.prog 5 #[fv k.toNat s.toNat v] w fun e w' => Below w.heap.size w w' ∧ ∃ A c, e = .returned (.tuple #[.slice A X.length c, .int .i64 er]) ∧ SliceAt w' 1 (.slice A X.length c) X.length (u8s X) := by
  unfold putV at hX
  rcases hr : rightF k.toNat p.length with _ | _
  · rw [hr] at hX; simp at hX; obtain ⟨rfl, rfl⟩ := hX
    exact (Put_bad _ _ v p w hs hr).mono fun e w' h => ⟨h.1, none, 0, h.2, .nil_ _ _⟩
  · rw [hr] at hX; simp at hX; obtain ⟨rfl, rfl⟩ := hX
    exact Put_g k s _ _ v p _ w rfl rfl rfl hs hr
theorem refPut_t (k s : BitVec 8) (v : Value) (p X : List (BitVec 8)) (er : Int) (w : World) (hX : putV k s p = (X, er)) (hs : SliceAt w 1 v p.length (u8s p)) :
    Calls Try.prog 6 #[fv k.toNat s.toNat v] w fun e w' => Below w.heap.size w w' ∧ ∃ A c, e = .returned (.tuple #[.slice A X.length c, .int .i64 er]) ∧ SliceAt w' 1 (.slice A X.length c) X.length (u8s X) := by
  unfold putV at hX
  rcases hr : rightF k.toNat p.length with _ | _
  · rw [hr] at hX; simp at hX; obtain ⟨rfl, rfl⟩ := hX
    exact (refPut_bad _ _ v p w hs hr).mono fun e w' h => ⟨h.1, none, 0, h.2, .nil_ _ _⟩
  · rw [hr] at hX; simp at hX; obtain ⟨rfl, rfl⟩ := hX
    exact refPut_g k s _ _ v p _ w rfl rfl rfl hs hr
theorem takeV_no {b : List (BitVec 8)} (h : (takeV b).2.2.2 ≠ 0) : takeV b = (0#8, 0#8, [], (takeV b).2.2.2) := by
  unfold takeV at h ⊢
  split
  · rfl
  · rename_i h5
    rw [if_neg h5] at h
    split
    · rfl
    · rename_i he
      rw [if_neg he] at h
      split
      · rename_i k1 s1 n p1 heq
        rw [heq] at h
        dsimp only at h
        split
        · rename_i hc; rw [if_pos hc] at h; exact absurd rfl h
        · rfl
      · rfl
theorem Take_t (v : Value) (b : List (BitVec 8)) (k s : BitVec 8) (p : List (BitVec 8)) (er : Int) (w : World) (hb : takeV b = (k, s, p, er)) (hs : SliceAt w 1 v b.length (u8s b)) (hl2 : b.length ≤ 140737488355320) :
    Calls Try.prog 7 #[v] w fun e w' => Below w.heap.size w w' ∧ ∃ A c, e = .returned (.tuple #[fv k.toNat s.toNat (.slice A p.length c), .int .i64 er]) ∧ SliceAt w' 1 (.slice A p.length c) p.length (u8s p) := by
  by_cases h0 : er = 0
  · subst h0
    exact Take_yes k s _ _ v p b w rfl rfl hs hb (by omega)
  · have h1 : (takeV b).2.2.2 = er := by rw [hb]
    have h2 := takeV_no (b := b) (by rw [h1]; exact h0)
    rw [hb] at h2
    simp only [Prod.mk.injEq] at h2
    obtain ⟨rfl, rfl, rfl, _⟩ := h2
    exact (Take_no v b er w hs h1 h0 (by omega)).mono fun e w' h => ⟨h.1, none, 0, h.2, .nil_ _ _⟩
theorem refTake_t (v : Value) (b : List (BitVec 8)) (k s : BitVec 8) (p : List (BitVec 8)) (er : Int) (w : World) (hb : takeV b = (k, s, p, er)) (hs : SliceAt w 1 v b.length (u8s b)) (hl2 : b.length ≤ 140737488355320) :
    Calls Try.prog 8 #[v] w fun e w' => Below w.heap.size w w' ∧ ∃ A c, e = .returned (.tuple #[fv k.toNat s.toNat (.slice A p.length c), .int .i64 er]) ∧ SliceAt w' 1 (.slice A p.length c) p.length (u8s p) := by
  by_cases h0 : er = 0
  · subst h0
    exact refTake_yes k s _ _ v p b w rfl rfl hs hb (by omega)
  · have h1 : (takeV b).2.2.2 = er := by rw [hb]
    have h2 := takeV_no (b := b) (by rw [h1]; exact h0)
    rw [hb] at h2
    simp only [Prod.mk.injEq] at h2
    obtain ⟨rfl, rfl, rfl, _⟩ := h2
    exact (refTake_no v b er w hs h1 h0 (by omega)).mono fun e w' h => ⟨h.1, none, 0, h.2, .nil_ _ _⟩
theorem refSize_g (k s : Int) (v : Value) (p : List (BitVec 8)) (r : Int) (w : World) (hr : r = if rightF k p.length then (p.length : Int) + 5 else 0) (hs : SliceAt w 1 v p.length (u8s p)) :
    Calls Try.prog 16 #[fv k s v] w fun e w' => e = .returned (.int .i64 r) ∧ Below w.heap.size w w' := by subst hr; exact refSize_c k s v p w hs
theorem refNewer_g (n was : Int) (r : Bool) (w : World) (hr : r = newer n was) (h1 : 0 ≤ n) (h2 : n < 256) (h3 : 0 ≤ was) (h4 : was < 256) : Calls Try.prog 14 #[.int .u8 n, .int .u8 was] w fun e w' => e = .returned (.bool r) ∧ w = w' := by subst hr; exact refNewer_c n was w h1 h2 h3 h4
end Go.Proofs.Ytkjmbnficdilhaa
