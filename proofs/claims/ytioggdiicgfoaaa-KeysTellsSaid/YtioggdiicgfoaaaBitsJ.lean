/- Contracts: Pad and Take of bits. -/
import Derived.Test.YtioggdiicgfoaaaBitsI
namespace Go.Proofs.Ytioggdiicgfoaaa
open Go.RowKit Rf Mem Bv Bits Str
attribute [local go_sem ↓] run_max2 run_min2
theorem holds_pad {B : List (BitVec 8)} {l : List Bool} (h : Holds B l) : Holds B (l ++ List.replicate (8 * B.length - l.length) false) := by
  have h1 := h.1
  refine ⟨by rw [List.length_append, List.length_replicate]; omega, 0, ?_⟩
  rw [List.replicate_zero, List.append_nil]; exact holds_len h
set_option maxHeartbeats 1000000 in
set_option maxRecDepth 100000 in
theorem Pad_bad (v : Value) (B : List (BitVec 8)) (N : Int) (w : World) (hs : SliceAt w 1 v B.length (u8s B)) (hl : B.length ≤ 140737488355328) (hN1 : -9223372036854775808 ≤ N) (hN2 : N ≤ 9223372036854775807)
    (h : right B N = false) :
    Calls Try.prog 34 #[bv v N] w fun e w' => Below w.heap.size w w' ∧ e = .returned (.tuple #[bv (.slice none 0 0) 0, .int .i64 2]) := by
  have hB : Below w.heap.size w ((w.alloc (.cells #[v, .int .i64 N] 62)).alloc (.cells #[.slice none 0 0, .int .i64 0] 62)) := ((Below.refl _ w).alloc (Nat.le_refl _) _).alloc (by simp) _
  have hs' := hs.later hB
  obtain ⟨A, c, rfl, _⟩ := hs.form
  clear hs
  go_enter Try.func34, Try.ntmps34
  go_wp2_with fail
  refine (begin_c _ B _ _ hs' hl hN1 hN2).mono ?_
  rintro e w1 ⟨b1, (⟨hr, v1, rfl, ho1⟩ | ⟨hf, rfl⟩)⟩
  · rw [hr] at h; cases h
  · have g1 := below_at b1 (k := w.heap.size + 1) (o := .cells #[.slice none 0 0, .int .i64 0] 62) (new_at (by simp) _) (by simp)
    have d0 := cell_at g1 0
    have d1 := cell_at g1 1
    have e0 := free_at g1 0
    have e1 := free_at g1 1
    clear h
    go_wp2
    refine bodyPost_ret (res_bits2 (t := 2) (u := 3) rfl rfl (set_at (set_at (set_at (set_at g1 0 _) 1 _) 0 _) 1 _)) rfl ⟨?_, rfl⟩
    exact ((((hB.trans (b1.mono hB.size)).setCell (by simp) _).setCell (by simp) _).setCell (by simp) _).setCell (by simp) _
set_option maxHeartbeats 1000000 in
set_option maxRecDepth 100000 in
theorem Pad_good (v : Value) (B : List (BitVec 8)) (l : List Bool) (w : World) (hs : SliceAt w 1 v B.length (u8s B)) (hH : Holds B l) (hl : l.length ≤ 900000) :
    Calls Try.prog 34 #[bv v l.length] w fun e w' => Below w.heap.size w w' ∧
      ∃ v', e = .returned (.tuple #[bv v' ((B.length : Int) * 8), .int .i64 0]) ∧ w'.ownsRow w.heap.size 5 1 v' B.length (u8s B) := by
  have hr : right B (l.length : Int) = true := (right_iff B _).2 ⟨l, rfl, hH⟩
  have hBl := hH.1
  have hBs : B.length ≤ 125000 := by omega
  clear hBl hH
  have hB : Below w.heap.size w ((w.alloc (.cells #[v, .int .i64 (l.length : Int)] 62)).alloc (.cells #[.slice none 0 0, .int .i64 0] 62)) := ((Below.refl _ w).alloc (Nat.le_refl _) _).alloc (by simp) _
  have hs' := hs.later hB
  obtain ⟨A, c, rfl, _⟩ := hs.form
  clear hs
  go_enter Try.func34, Try.ntmps34
  go_wp2_with fail
  refine (begin_c _ B _ _ hs' (by omega) (by omega) (by omega)).mono ?_
  rintro e w1 ⟨b1, (⟨_, v1, rfl, ho1⟩ | ⟨hf, _⟩)⟩
  rotate_left
  · rw [hr] at hf; cases hf
  clear hr
  have g1 := below_at b1 (k := w.heap.size + 1) (o := .cells #[.slice none 0 0, .int .i64 0] 62) (new_at (by simp) _) (by simp)
  have c10 := cell_at g1 0
  have c11 := cell_at g1 1
  have f10 := free_at g1 0
  have f11 := free_at g1 1
  obtain ⟨A1, c1, rfl, _⟩ := (sliceAt_of_own ho1).form
  have hg1s : ∀ k, (Value.slice A1 B.length c1).ownBlock = some k → w.heap.size + 2 ≤ k ∧ k < w1.heap.size := fun k hk => by
    have := own_base ho1 hk; simp only [World.size_alloc] at this; omega
  have hG := Lib.hid hg1s
  clear hg1s
  have k0 := cell_at (set_at (set_at (set_at g1 0 (Value.slice A1 B.length c1)) 1 (.int .i64 (l.length : Int))) 1 (.int .i64 ((B.length : Int) * 8))) 0
  have k1 := cell_at (set_at (set_at (set_at g1 0 (Value.slice A1 B.length c1)) 1 (.int .i64 (l.length : Int))) 1 (.int .i64 ((B.length : Int) * 8))) 1
  go_wp2
  refine bodyPost_ret (res_bits2 (t := 2) (u := 3) rfl rfl (set_at (set_at (set_at (set_at (set_at g1 0 _) 1 _) 1 _) 0 _) 1 _)) rfl ?_
  refine ⟨?_, _, rfl, ?_⟩
  · exact (((((hB.trans (b1.mono hB.size)).setCell (by simp) _).setCell (by simp) _).setCell (by simp) _).setCell (by simp) _).setCell (by simp) _
  · exact own_base_le (own_set (own_set (own_set (own_set (own_set ho1 (by simp) _) (by simp) _) (by simp) _) (by simp) _) (by simp) _) (by simp; omega)
end Go.Proofs.Ytioggdiicgfoaaa
