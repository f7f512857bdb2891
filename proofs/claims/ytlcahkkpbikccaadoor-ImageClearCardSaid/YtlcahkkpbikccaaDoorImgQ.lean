/- Images: the contract of the layout 'three'. Nothing that was there is turned. -/
import Derived.Test.YtlcahkkpbikccaaDoorImgP
namespace Go.Proofs.YtlcahkkpbikccaaDoor
open Go.RowKit Rf Mem
attribute [local go_sem ↓] run_max2 run_min2
theorem res_lay {fn : Func} {t : Tmp} (hf : fn.results = #[.cell t 29]) {tmps : Array Value} {W : World} {g : Nat} {M : List Value} {f : Nat × Nat} (hs : tmps.getD t undef = .pointer (some ⟨g, 0, none⟩)) (hg : W.heap[g]? = some (.cells M.toArray 29 f)) (hl : M.length = 11) :
    (results fn tmps).run Tryd.prog W = .ok (.agg M.toArray) W := by
  have hs' : tmps[t]?.getD undef = .pointer (some ⟨g, 0, none⟩) := by simpa using hs
  have h := run_loadVar_mid (P := Tryd.prog) W g 0 29 M _ (range_of hg) Tryd.underlying29 rfl (lay_size hl)
  simp [results, hf, hs', asAddr, h]
/-- a section of a kind, else 0 -/
def secK (k : Int) : List Value := [.int .u8 k, .int .i64 0, .int .i64 0, .int .i64 0, .int .i64 0, .int .i64 0, .int .i64 0, .int .i64 0, .int .i64 0, .int .i64 0, .int .i64 0]
def secs3 : List (List Value) := [secK 1, secK 2]
set_option maxHeartbeats 1000000 in
set_option maxRecDepth 100000 in
theorem three_c (w : World) : Calls Tryd.prog 13 #[] w fun e w' => Below w.heap.size w w' ∧ ∃ L A c A1 c1, e = .returned (.agg (L : List Value).toArray) ∧ LayF L 2 1 2 2 A c A1 c1 ∧ SecsAt w' (.slice A 2 c) [1, 2] ∧ SecsR w' (.slice A 2 c) secs3 ∧ ∀ u ∈ L, u.oneCell' = true := by
  go_enter Tryd.func13, Tryd.ntmps13
  go_wp2_with fail
  obtain ⟨g, hg⟩ : ∃ g, w.heap.size = g := ⟨_, rfl⟩
  refine bodyPost_ret (res_lay (t := 0) (M := [.slice (some ⟨w.heap.size + 1, 0, none⟩) 2 2, .slice (some ⟨w.heap.size + 1 + 1, 0, none⟩) 1 1, .slice none 0 0, .slice none 0 0, .int .i64 2, .int .i64 0, .int .i64 2, .int .i64 0, .int .i64 0, .int .i64 0, .int .i64 0]) rfl rfl (old_at (old_at (new_at rfl _) _) _) rfl) rfl ?_
  have hg : (((w.alloc (.cells #[.slice (some ⟨w.heap.size + 1, 0, none⟩) 2 2, .slice (some ⟨w.heap.size + 1 + 1, 0, none⟩) 1 1, .slice none 0 0, .slice none 0 0, .int .i64 2, .int .i64 0, .int .i64 2, .int .i64 0, .int .i64 0, .int .i64 0, .int .i64 0] 29)).alloc (.cells #[.int .u8 1, .int .i64 0, .int .i64 0, .int .i64 0, .int .i64 0, .int .i64 0, .int .i64 0, .int .i64 0, .int .i64 0, .int .i64 0, .int .i64 0, .int .u8 2, .int .i64 0, .int .i64 0, .int .i64 0, .int .i64 0, .int .i64 0, .int .i64 0, .int .i64 0, .int .i64 0, .int .i64 0, .int .i64 0] 63)).alloc (.cells #[.int .i64 0, .int .i64 0] 65)).heap[w.heap.size + 1]? = some (.cells (secK 1 ++ secK 2).toArray 63 (0, 0)) := old_at (new_at (by simp) _) _
  refine ⟨((below_new _ _).alloc (by simp) _).alloc (by simp; omega) _, _, _, _, _, _, rfl, ⟨rfl, rfl, rfl, rfl, rfl⟩, ⟨_, 2, rfl, by simp, by simp [maxLen], .inr ⟨w.heap.size + 1, 0, rfl, by simp, fun k z hk => ?_⟩⟩, ⟨_, 2, rfl, by simp [secs3], by simp [maxLen], ?_, .inr ⟨w.heap.size + 1, 0, rfl, by simp, fun k s hk => ?_⟩⟩, by intro u hu; simp at hu; rcases hu with rfl | rfl | rfl | rfl | rfl | rfl | rfl <;> rfl⟩
  · have hk2 := (List.getElem?_eq_some_iff.1 hk).1
    match k, hk2, hk with
    | 0, _, hk => obtain rfl := Option.some.inj hk; exact cell_list hg rfl
    | 1, _, hk => obtain rfl := Option.some.inj hk; exact cell_list hg rfl
  · intro s hs
    simp only [secs3, List.mem_cons, List.not_mem_nil, or_false] at hs
    rcases hs with rfl | rfl
    all_goals exact ⟨rfl, by intro u hu; simp [secK] at hu; rcases hu with rfl | rfl <;> rfl⟩
  · have hk2 := (List.getElem?_eq_some_iff.1 hk).1
    match k, hk2, hk with
    | 0, _, hk =>
      obtain rfl := Option.some.inj hk
      intro j v hv
      refine cell_list hg ?_
      have hj := (List.getElem?_eq_some_iff.1 hv).1
      rw [show 0 + 0 * 11 + j = j by omega, List.getElem?_append_left hj]; exact hv
    | 1, _, hk =>
      obtain rfl := Option.some.inj hk
      intro j v hv
      refine cell_list hg ?_
      rw [show 0 + 1 * 11 + j = 11 + j by omega, List.getElem?_append_right (by simp [secK])]
      rw [show 11 + j - (secK 1).length = j by simp [secK]]; exact hv
end Go.Proofs.YtlcahkkpbikccaaDoor
