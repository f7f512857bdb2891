/- Frames: contracts as laws use them. -/
import Derived.Test.YtkjmbnficdilhaaFrmE
namespace Go.Proofs.Ytkjmbnficdilhaa
open Go.RowKit Rf Mem Bv Crc Str
attribute [local go_sem ↓] run_max2 run_min2
theorem Put_g (k s : BitVec 8) (k' s' : Int) (v : Value) (p X : List (BitVec 8)) (w : World) (hk : k' = k.toNat) (hs' : s' = s.toNat) (hX : X = Crc.close (hb k s p)) (hs : SliceAt w 1 v p.length (u8s p)) (h : rightF k.toNat p.length = true) :
    Calls Try.prog 5 #[fv k' s' v] w fun e w' => Below w.heap.size w w' ∧ ∃ A c, e = .returned (.tuple #[.slice A X.length c, .int .i64 0]) ∧ SliceAt w' 1 (.slice A X.length c) X.length (u8s X) := by
  subst hk hs' hX
  refine (Put_good k s v p w hs h).mono ?_
  rintro e w' ⟨b, v', rfl, ho⟩
  have S := sliceAt_of_own ho
  obtain ⟨A, c, rfl, _⟩ := S.form
  exact ⟨b, A, c, rfl, S⟩
theorem Take_yes (k s : BitVec 8) (k' s' : Int) (v : Value) (p b : List (BitVec 8)) (w : World) (hk : k' = k.toNat) (hs' : s' = s.toNat) (hs : SliceAt w 1 v b.length (u8s b)) (hb : takeV b = (k, s, p, 0)) (hl2 : b.length ≤ 140737488355328) :
    Calls Try.prog 7 #[v] w fun e w' => Below w.heap.size w w' ∧ ∃ A c, e = .returned (.tuple #[fv k' s' (.slice A p.length c), .int .i64 0]) ∧ SliceAt w' 1 (.slice A p.length c) p.length (u8s p) := by
  subst hk hs'
  unfold takeV at hb
  split at hb
  · cases hb
  rename_i h5
  split at hb
  · rename_i he; simp only [Prod.mk.injEq] at hb; exact absurd hb.2.2.2 he
  rename_i he
  have he' : (openV b).2 = 0 := by simpa using he
  split at hb
  · rename_i k1 s1 n p1 heq
    split at hb
    · rename_i hc
      simp only [Prod.mk.injEq] at hb
      obtain ⟨rfl, rfl, rfl, _⟩ := hb
      refine (Take_form v b k1 s1 n p1 w hs (by omega) hl2 (Prod.ext heq he')).mono ?_
      rintro e w' ⟨b1, h2⟩
      rw [if_pos hc] at h2
      exact ⟨b1, h2⟩
    · simp at hb
  · simp at hb
theorem Take_no (v : Value) (b : List (BitVec 8)) (er : Int) (w : World) (hs : SliceAt w 1 v b.length (u8s b)) (hb : (takeV b).2.2.2 = er) (h0 : er ≠ 0) (hl2 : b.length ≤ 140737488355328) :
    Calls Try.prog 7 #[v] w fun e w' => Below w.heap.size w w' ∧ e = .returned (.tuple #[fv 0 0 (.slice none 0 0), .int .i64 er]) := by
  subst hb
  unfold takeV at h0 ⊢
  split
  · rename_i h5
    exact Take_short v b w hs h5
  · rename_i h5
    rw [if_neg h5] at h0
    split
    · rename_i he
      exact Take_crc v b w hs (by omega) hl2 he
    · rename_i he
      rw [if_neg he] at h0
      have he' : (openV b).2 = 0 := by simpa using he
      have hlen := openV_len he'
      split
      · rename_i k1 s1 n p1 heq
        rw [heq] at h0
        dsimp only at h0
        split
        · rename_i hc; rw [if_pos hc] at h0; exact absurd rfl h0
        · rename_i hc
          refine (Take_form v b k1 s1 n p1 w hs (by omega) hl2 (Prod.ext heq he')).mono ?_
          rintro e w' ⟨b1, h2⟩
          rw [if_neg hc] at h2
          exact ⟨b1, h2⟩
      · rename_i hne
        exfalso
        rcases h : (openV b).1 with _ | ⟨a, _ | ⟨a2, _ | ⟨a3, p⟩⟩⟩
        · rw [h] at hlen; simp at hlen; omega
        · rw [h] at hlen; simp at hlen; omega
        · rw [h] at hlen; simp at hlen; omega
        · exact hne _ _ _ _ h
theorem Size_g (k s : Int) (v : Value) (p : List (BitVec 8)) (r : Int) (w : World) (hr : r = if rightF k p.length then (p.length : Int) + 5 else 0) (hs : SliceAt w 1 v p.length (u8s p)) :
    Calls Try.prog 15 #[fv k s v] w fun e w' => e = .returned (.int .i64 r) ∧ Below w.heap.size w w' := by subst hr; exact Size_c k s v p w hs
theorem Newer_g (n was : Int) (r : Bool) (w : World) (hr : r = newer n was) (h1 : 0 ≤ n) (h2 : n < 256) (h3 : 0 ≤ was) (h4 : was < 256) : Calls Try.prog 13 #[.int .u8 n, .int .u8 was] w fun e w' => e = .returned (.bool r) ∧ w = w' := by subst hr; exact Newer_c n was w h1 h2 h3 h4
theorem Same_g (k1 s1 k2 s2 : Int) (v u : Value) (p1 p2 : List (BitVec 8)) (r : Bool) (w : World) (hr : r = sameF k1 s1 p1 k2 s2 p2) (ha : SliceAt w 1 v p1.length (u8s p1)) (hb : SliceAt w 1 u p2.length (u8s p2)) :
    Calls Try.prog 17 #[fv k1 s1 v, fv k2 s2 u] w fun e w' => e = .returned (.bool r) ∧ Below w.heap.size w w' := by subst hr; exact Same_c k1 s1 k2 s2 v u p1 p2 w ha hb
theorem refSame_g (k1 s1 k2 s2 : Int) (v u : Value) (p1 p2 : List (BitVec 8)) (r : Bool) (w : World) (hr : r = sameF k1 s1 p1 k2 s2 p2) (ha : SliceAt w 1 v p1.length (u8s p1)) (hb : SliceAt w 1 u p2.length (u8s p2)) :
    Calls Try.prog 10 #[fv k1 s1 v, fv k2 s2 u] w fun e w' => e = .returned (.bool r) ∧ Below w.heap.size w w' := by subst hr; exact refSame_c k1 s1 k2 s2 v u p1 p2 w ha hb
end Go.Proofs.Ytkjmbnficdilhaa
