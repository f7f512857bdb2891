/- Put of bits where it refuses. -/
import Derived.Test.YtioggdiicgfoaaaBitsG
namespace Go.Proofs.Ytioggdiicgfoaaa
open Go.RowKit Rf Mem Bv Bits Str
attribute [local go_sem ↓] run_max2 run_min2
/-- may the number n be put so wide? -/
def fits (n wd : Int) : Bool := decide (0 ≤ wd) && decide (wd ≤ 32) && decide (0 ≤ n) && decide (n < 2 ^ wd.toNat)
theorem bodyPostM_bits0 {fn : Func} {R : Ending → World → Prop} {t u : Tmp} (hf : fn.results = #[.cell t 62, .tmp u]) {tmps : Array Value} {g : Nat} {W : World} {x y : Value} {f : Nat × Nat}
    (hs : tmps.getD t undef = .pointer (some ⟨g, 0, none⟩)) (hg : W.heap[g]? = some (.cells #[x, y] 62 f)) (h : R (.returned (.tuple #[.agg #[x, y], tmps.getD u undef])) W) :
    bodyPostM Fence.wide 0 Try.prog fn R .ret { tmps := tmps, defers := [] } W := ⟨_, res_bits2 hf hs hg, h⟩
set_option maxHeartbeats 200000 in
set_option maxRecDepth 100000 in
theorem Put_bad (v : Value) (B : List (BitVec 8)) (N n wd : Int) (w : World) (hs : SliceAt w 1 v B.length (u8s B)) (hl : B.length ≤ 140737488355328) (hN1 : -9223372036854775808 ≤ N) (hN2 : N ≤ 9223372036854775807) (hn : n ≤ 9223372036854775807)
    (h : (right B N && fits n wd) = false) :
    Calls Try.prog 33 #[bv v N, .int .i64 n, .int .i64 wd] w fun e w' => Below w.heap.size w w' ∧ e = .returned (.tuple #[bv (.slice none 0 0) 0, .int .i64 2]) := by
  have hB : Below w.heap.size w ((w.alloc (.cells #[v, .int .i64 N] 62)).alloc (.cells #[.slice none 0 0, .int .i64 0] 62)) := ((Below.refl _ w).alloc (Nat.le_refl _) _).alloc (by simp) _
  have hs' := hs.later hB
  obtain ⟨A, c, rfl, _⟩ := hs.form
  clear hs
  refine (callsIn_wide (n := 0)).1 (callsIn_of_wp_marks Try.func33 rfl trivial ?_ rfl)
  refine wpIn_wide.2 ?_
  simp only [Try.ntmps33, List.size_toArray, List.length_cons, List.length_nil, Nat.reduceAdd, Nat.reduceSub, Array.replicate_succ, Array.replicate_zero, List.push_toArray, List.append_toArray, List.nil_append, List.cons_append]
  go_wp2_with fail
  refine (begin_c _ B _ _ hs' hl hN1 hN2).mono ?_
  rintro e w1 ⟨b1, (⟨hr, v1, rfl, ho1⟩ | ⟨hf, rfl⟩)⟩
  · rw [hr, Bool.true_and] at h
    have g1 := below_at b1 (k := w.heap.size + 1) (o := .cells #[.slice none 0 0, .int .i64 0] 62) (new_at (by simp) _) (by simp)
    have d0 := cell_at g1 0
    have d1 := cell_at g1 1
    have e0 := free_at g1 0
    have e1 := free_at g1 1
    obtain ⟨A1, c1, rfl, _⟩ := (sliceAt_of_own ho1).form
    have hcase : (decide (wd < 0) = true) ∨ (decide (wd < 0) = false ∧ decide (32 < wd) = true) ∨ (decide (wd < 0) = false ∧ decide (32 < wd) = false ∧ decide (n < 0) = true) ∨ (decide (wd < 0) = false ∧ decide (32 < wd) = false ∧ decide (n < 0) = false ∧ ∃ m : Nat, wd = (m : Int) ∧ m ≤ 32 ∧ decide (0 < n / 2 ^ m) = true) := by
      by_cases h1 : wd < 0
      · exact .inl (decide_eq_true h1)
      by_cases h2 : 32 < wd
      · exact .inr (.inl ⟨decide_eq_false h1, decide_eq_true h2⟩)
      by_cases h3 : n < 0
      · exact .inr (.inr (.inl ⟨decide_eq_false h1, decide_eq_false h2, decide_eq_true h3⟩))
      refine .inr (.inr (.inr ⟨decide_eq_false h1, decide_eq_false h2, decide_eq_false h3, wd.toNat, by omega, by omega, ?_⟩))
      apply decide_eq_true
      have h4 : ¬ n < 2 ^ wd.toNat := fun h4 => by
        unfold fits at h
        rw [decide_eq_true (show 0 ≤ wd by omega), decide_eq_true (show wd ≤ 32 by omega), decide_eq_true (show 0 ≤ n by omega), decide_eq_true h4] at h
        cases h
      have hp : (0 : Int) < 2 ^ wd.toNat := Int.pow_pos (by omega)
      have := (Int.le_ediv_iff_mul_le hp (a := 1) (b := n)).2 (by omega)
      omega
    clear h hr
    rcases hcase with q1 | ⟨q1, q2⟩ | ⟨q1, q2, q3⟩ | ⟨q1, q2, q3, m, rfl, hm32, hz⟩
    all_goals
      go_wp2
      refine bodyPostM_bits0 (t := 6) (u := 7) rfl rfl (set_at (set_at (set_at (set_at g1 0 _) 1 _) 0 _) 1 _) ⟨?_, rfl⟩
      exact ((((hB.trans (b1.mono hB.size)).setCell (by simp) _).setCell (by simp) _).setCell (by simp) _).setCell (by simp) _
  · have g1 := below_at b1 (k := w.heap.size + 1) (o := .cells #[.slice none 0 0, .int .i64 0] 62) (new_at (by simp) _) (by simp)
    have d0 := cell_at g1 0
    have d1 := cell_at g1 1
    have e0 := free_at g1 0
    have e1 := free_at g1 1
    clear h
    go_wp2
    refine bodyPostM_bits0 (t := 6) (u := 7) rfl rfl (set_at (set_at (set_at (set_at g1 0 _) 1 _) 0 _) 1 _) ⟨?_, rfl⟩
    exact ((((hB.trans (b1.mono hB.size)).setCell (by simp) _).setCell (by simp) _).setCell (by simp) _).setCell (by simp) _
end Go.Proofs.Ytioggdiicgfoaaa
