/- Contracts of the document's bits: what it refuses. -/
import Derived.Test.YtefbinlmakkjeaaBitsZ
namespace Go.Proofs.Ytefbinlmakkjeaa
open Go.RowKit Rf Mem Bv Bits Str
attribute [local go_sem ↓] run_max2 run_min2
set_option maxHeartbeats 1000000 in
set_option maxRecDepth 100000 in
theorem refPad_bad (v : Value) (B : List (BitVec 8)) (N : Int) (w : World) (hs : SliceAt w 1 v B.length (u8s B)) (hN1 : -9223372036854775808 ≤ N) (hN2 : N ≤ 9223372036854775807)
    (h : right B N = false) :
    Calls Try.prog 11 #[bv v N] w fun e w' => Below w.heap.size w w' ∧ e = .returned (.tuple #[bv (.slice none 0 0) 0, .int .i64 2]) := by
  have hB : Below w.heap.size w ((w.alloc (.cells #[v, .int .i64 N] 24)).alloc (.cells #[.slice none 0 0, .int .i64 0] 24)) := below_step (below_new w _) (below_new _ _)
  have hs' := hs.later hB
  obtain ⟨A, c, rfl, _⟩ := hs.form
  clear hs
  go_enter Try.func11, Try.ntmps11
  go_wp2_with fail
  refine (refRight_g _ B N false _ h.symm hs' hN1 hN2).mono ?_
  rintro e w1 ⟨rfl, b1⟩
  have g1 := below_at b1 (k := w.heap.size + 1) (o := .cells #[.slice none 0 0, .int .i64 0] 24) (new_at (by simp) _) (by simp)
  have d0 := cell_at g1 0
  have d1 := cell_at g1 1
  have e0 := free_at g1 0
  have e1 := free_at g1 1
  clear h
  go_wp2
  refine bodyPost_ret (res_bits2 (t := 2) (u := 3) rfl rfl (set_at (set_at g1 0 _) 1 _)) rfl ?_
  exact ⟨((below_step hB b1).setCell (by simp) _).setCell (by simp) _, rfl⟩
set_option maxHeartbeats 1000000 in
set_option maxRecDepth 100000 in
theorem refFlags_bad (v : Value) (B : List (BitVec 8)) (N : Int) (u : Value) (w : World) (hs : SliceAt w 1 v B.length (u8s B)) (hN1 : -9223372036854775808 ≤ N) (hN2 : N ≤ 9223372036854775807)
    (h : right B N = false) :
    Calls Try.prog 8 #[bv v N, u] w fun e w' => Below w.heap.size w w' ∧ e = .returned (.tuple #[bv (.slice none 0 0) 0, .int .i64 2]) := by
  have hB : Below w.heap.size w ((w.alloc (.cells #[v, .int .i64 N] 24)).alloc (.cells #[.slice none 0 0, .int .i64 0] 24)) := below_step (below_new w _) (below_new _ _)
  have hs' := hs.later hB
  obtain ⟨A, c, rfl, _⟩ := hs.form
  clear hs
  go_enter Try.func8, Try.ntmps8
  go_wp2_with fail
  refine (refRight_g _ B N false _ h.symm hs' hN1 hN2).mono ?_
  rintro e w1 ⟨rfl, b1⟩
  have g1 := below_at b1 (k := w.heap.size + 1) (o := .cells #[.slice none 0 0, .int .i64 0] 24) (new_at (by simp) _) (by simp)
  have d0 := cell_at g1 0
  have d1 := cell_at g1 1
  have e0 := free_at g1 0
  have e1 := free_at g1 1
  clear h
  go_wp2
  refine bodyPost_ret (res_bits2 (t := 4) (u := 5) rfl rfl (set_at (set_at g1 0 _) 1 _)) rfl ?_
  exact ⟨((below_step hB b1).setCell (by simp) _).setCell (by simp) _, rfl⟩
set_option maxHeartbeats 1000000 in
set_option maxRecDepth 100000 in
theorem refPut_bad (v : Value) (B : List (BitVec 8)) (N n wd : Int) (w : World) (hs : SliceAt w 1 v B.length (u8s B)) (hN1 : -9223372036854775808 ≤ N) (hN2 : N ≤ 9223372036854775807)
    (h : right B N = false ∨ wd < 0 ∨ 32 < wd ∨ n < 0 ∨ (0 ≤ wd ∧ wd ≤ 32 ∧ wrap64 (2 ^ wd.toNat) ≤ n)) :
    Calls Try.prog 6 #[bv v N, .int .i64 n, .int .i64 wd] w fun e w' => Below w.heap.size w w' ∧ e = .returned (.tuple #[bv (.slice none 0 0) 0, .int .i64 2]) := by
  have hB : Below w.heap.size w ((w.alloc (.cells #[v, .int .i64 N] 24)).alloc (.cells #[.slice none 0 0, .int .i64 0] 24)) := below_step (below_new w _) (below_new _ _)
  have hs' := hs.later hB
  obtain ⟨A, c, rfl, _⟩ := hs.form
  obtain ⟨r, hr⟩ : ∃ r, r = right B N := ⟨_, rfl⟩
  rw [← hr] at h
  clear hs
  go_enter Try.func6, Try.ntmps6
  go_wp2_with fail
  refine (refRight_g _ B N r _ hr hs' hN1 hN2).mono ?_
  rintro e w1 ⟨rfl, b1⟩
  have g1 := below_at b1 (k := w.heap.size + 1) (o := .cells #[.slice none 0 0, .int .i64 0] 24) (new_at (by simp) _) (by simp)
  have d0 := cell_at g1 0
  have d1 := cell_at g1 1
  have e0 := free_at g1 0
  have e1 := free_at g1 1
  clear hr hs'
  rcases r with _ | _
  · clear h
    go_wp2
    refine bodyPost_ret (res_bits2 (t := 6) (u := 7) rfl rfl (set_at (set_at g1 0 _) 1 _)) rfl ?_
    exact ⟨((below_step hB b1).setCell (by simp) _).setCell (by simp) _, rfl⟩
  · have hc : wd < 0 ∨ (0 ≤ wd ∧ 32 < wd) ∨ ((0 ≤ wd ∧ wd ≤ 32) ∧ n < 0) ∨ ((0 ≤ wd ∧ wd ≤ 32) ∧ 0 ≤ n ∧ wrap64 (2 ^ wd.toNat) ≤ n) := by
      rcases h with h | h | h | h | ⟨h1, h2, h3⟩
      · cases h
      · exact .inl h
      · exact .inr (.inl ⟨by omega, h⟩)
      · by_cases h1 : wd < 0
        · exact .inl h1
        · by_cases h2 : 32 < wd
          · exact .inr (.inl ⟨by omega, h2⟩)
          · exact .inr (.inr (.inl ⟨⟨by omega, by omega⟩, h⟩))
      · by_cases h4 : n < 0
        · exact .inr (.inr (.inl ⟨⟨h1, h2⟩, h4⟩))
        · exact .inr (.inr (.inr ⟨⟨h1, h2⟩, by omega, h3⟩))
    clear h
    rcases hc with h | ⟨h1, h2⟩ | ⟨⟨h1, h2⟩, h3⟩ | ⟨⟨h1, h2⟩, h3, h4⟩
    all_goals
      go_wp2
      refine bodyPost_ret (res_bits2 (t := 6) (u := 7) rfl rfl (set_at (set_at g1 0 _) 1 _)) rfl ?_
      exact ⟨((below_step hB b1).setCell (by simp) _).setCell (by simp) _, rfl⟩
end Go.Proofs.Ytefbinlmakkjeaa
