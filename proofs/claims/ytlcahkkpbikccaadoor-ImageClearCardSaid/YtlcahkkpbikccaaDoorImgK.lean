/- Images: contracts of New, counter, Right. Nothing that was there is turned. -/
import Derived.Test.YtlcahkkpbikccaaDoorImgI
namespace Go.Proofs.YtlcahkkpbikccaaDoor
open Go.RowKit Rf Mem
attribute [local go_sem ↓] run_max2 run_min2
def newI : List Value := [.int .i64 65535, .int .i64 0, .int .i64 0, .int .i64 0, .int .i64 0, .int .i64 0, .int .i64 0, .int .i64 0, .int .i64 0, .int .i64 0, .int .i64 0, .int .i64 0, .int .i64 0, .int .i64 0, .int .i64 0, .int .i64 0, .int .i64 0, .int .i64 0, .int .i64 0, .int .i64 0, .int .i64 0, .int .i64 0, .int .i64 0, .int .i64 0, .int .i64 0, .int .u32 0, .int .u32 0, .int .u32 0, .int .u32 0]
theorem newI_f : ImgF newI 65535 (List.replicate 24 0) 0#32 0#32 0#32 0#32 := by
  refine ⟨rfl, by simp, rfl, fun k z hk => ?_, rfl, rfl, rfl, rfl⟩
  have hlt : k < 24 := by have := (List.getElem?_eq_some_iff.1 hk).1; simpa using this
  have hz : z = 0 := by
    have := List.mem_of_getElem? hk
    simp at this; exact this
  subst hz
  have : ∀ k, k < 24 → newI[1 + k]? = some (.int .i64 0) := by
    intro k hk
    rw [show newI = .int .i64 65535 :: (List.replicate 24 (.int .i64 0) ++ List.replicate 4 (.int .u32 0)) from rfl, Nat.add_comm, List.getElem?_cons_succ, List.getElem?_append_left (by simpa using hk), List.getElem?_replicate, if_pos hk]
  exact this k hlt
theorem counter_c (n : Int) (w : World) (hT : Tops w) : Calls Tryd.prog 22 #[.int .i64 n] w fun e w' => e = .returned (.bool (n == clamp n 65535)) ∧ w = w' := by
  go_enter Tryd.func22, Tryd.ntmps22
  go_wp2_with fail
  refine (Count_c n _ hT).mono ?_
  rintro e w' ⟨rfl, rfl⟩
  go_wp2
  go_ret
  exact ⟨rfl, rfl⟩
set_option maxHeartbeats 1000000 in
set_option maxRecDepth 100000 in
theorem New_c (w : World) : Calls Tryd.prog 7 #[] w fun e w' => Below w.heap.size w w' ∧ e = .returned (.agg newI.toArray) := by
  have b0 := below_new w (.cells #[.int .i64 0, .int .i64 0, .int .i64 0, .int .i64 0, .int .i64 0, .int .i64 0, .int .i64 0, .int .i64 0, .int .i64 0, .int .i64 0, .int .i64 0, .int .i64 0, .int .i64 0, .int .i64 0, .int .i64 0, .int .i64 0, .int .i64 0, .int .i64 0, .int .i64 0, .int .i64 0, .int .i64 0, .int .i64 0, .int .i64 0, .int .i64 0, .int .i64 0, .int .u32 0, .int .u32 0, .int .u32 0, .int .u32 0] 39)
  have g0 : (w.alloc (.cells #[.int .i64 0, .int .i64 0, .int .i64 0, .int .i64 0, .int .i64 0, .int .i64 0, .int .i64 0, .int .i64 0, .int .i64 0, .int .i64 0, .int .i64 0, .int .i64 0, .int .i64 0, .int .i64 0, .int .i64 0, .int .i64 0, .int .i64 0, .int .i64 0, .int .i64 0, .int .i64 0, .int .i64 0, .int .i64 0, .int .i64 0, .int .i64 0, .int .i64 0, .int .u32 0, .int .u32 0, .int .u32 0, .int .u32 0] 39)).heap[w.heap.size]? = some (.cells #[.int .i64 0, .int .i64 0, .int .i64 0, .int .i64 0, .int .i64 0, .int .i64 0, .int .i64 0, .int .i64 0, .int .i64 0, .int .i64 0, .int .i64 0, .int .i64 0, .int .i64 0, .int .i64 0, .int .i64 0, .int .i64 0, .int .i64 0, .int .i64 0, .int .i64 0, .int .i64 0, .int .i64 0, .int .i64 0, .int .i64 0, .int .i64 0, .int .i64 0, .int .u32 0, .int .u32 0, .int .u32 0, .int .u32 0] 39 (0, 0)) := new_at rfl _
  have hs := newI_f
  have szI : (Tryd.prog.info? 39).map (·.size) = some newI.length := img_size hs.len
  have szm : (Tryd.prog.info? 39).map (·.size) = some newI.toArray.size := by simpa using szI
  have oneM : newI.toArray.all (·.oneCell') = true := all_oneCell_toArray hs.one
  go_enter Tryd.func7, Tryd.ntmps7
  go_upto_region 1 with (fail)
  generalize w.alloc (.cells #[.int .i64 0, .int .i64 0, .int .i64 0, .int .i64 0, .int .i64 0, .int .i64 0, .int .i64 0, .int .i64 0, .int .i64 0, .int .i64 0, .int .i64 0, .int .i64 0, .int .i64 0, .int .i64 0, .int .i64 0, .int .i64 0, .int .i64 0, .int .i64 0, .int .i64 0, .int .i64 0, .int .i64 0, .int .i64 0, .int .i64 0, .int .i64 0, .int .i64 0, .int .u32 0, .int .u32 0, .int .u32 0, .int .u32 0] 39) = W0 at *
  have d0 := cell_at g0 0
  have f0 := free_at g0 0
  have g1 := set_at g0 0 (.int .i64 65535)
  have b1 := b0.setCell (p := ⟨w.heap.size, 0, none⟩) (Nat.le_refl _) (.int .i64 65535)
  go_upto_region 2 with (fail)
  generalize W0.setCell ⟨w.heap.size, 0, none⟩ (.int .i64 65535) = W1 at *
  have R := range_set (M := newI) g1 rfl
  have k2 : W1.there w.heap.size 0 newI.toArray.size := there_of g1 0 _ (by simp [newI])
  have k3 : (W1.setCells w.heap.size 0 newI.toArray.toList).heap[w.heap.size]? = some (.cells newI.toArray 39 (0, 0)) := by rw [setCells_at _ _ g1, setL_all (by simp [newI])]
  have k4 : Below w.heap.size w (W1.setCells w.heap.size 0 newI.toArray.toList) := below_setCells (Nat.le_refl _) _ _ b1
  have K34 := Lib.hid (And.intro k3 k4)
  clear k3 k4 d0 f0 g0 g1 b0 b1
  go_wp2_with (first
      | refine wpList_load_g (by rfl) 39 (.tmp 0) (by rfl) w.heap.size 0 (by rfl) newI _ R Tryd.underlying39 rfl szI ?_
      | (refine wpList_store_mid rfl 39 (.tmp 0) (.tmp 2) (by rfl) w.heap.size 0 newI.toArray (by rfl) (by rfl) k2 szm oneM ?_; generalize hWs : W1.setCells w.heap.size 0 newI.toArray.toList = Ws at *))
  exact bodyPost_ret (res_img (t := 0) rfl rfl K34.out.1 hs.len) rfl ⟨K34.out.2, rfl⟩
end Go.Proofs.YtlcahkkpbikccaaDoor
