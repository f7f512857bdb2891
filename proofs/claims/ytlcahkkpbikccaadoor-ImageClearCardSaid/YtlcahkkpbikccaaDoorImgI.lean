/- Images: contracts of Take and New. Nothing that was there is turned. -/
import Derived.Test.YtlcahkkpbikccaaDoorImgH
import Derived.Deep.Cut
namespace Go.Proofs.YtlcahkkpbikccaaDoor
open Go.RowKit Rf Mem
attribute [local go_sem ↓] run_max2 run_min2
set_option maxHeartbeats 2000000 in
set_option maxRecDepth 100000 in
theorem Take_c (L M : List Value) (ns nsig : Nat) (clr st age : Int) (A A1 : Option Addr) (c c1 : Nat) (free : List Int) (occ nor rev lam o n r l : BitVec 32) (w : World) (hT : Tops w) (hL : LayF L ns nsig clr st A c A1 c1) (hM : ImgF M age free occ nor rev lam) :
    Calls Tryd.prog 8 #[.agg L.toArray, .agg M.toArray, .agg (inV o n r l)] w fun e w' => Below w.heap.size w w' ∧ e = .returned (.agg (withFree (withIn M o n r l) (rowL o (decide (st < 0)) free 24)).toArray) := by
  have T := Two.new w L M
  have bi := below_new ((w.alloc (.cells L.toArray 29)).alloc (.cells M.toArray 39)) (.cells (inV o n r l) 37)
  have bz := below_new (((w.alloc (.cells L.toArray 29)).alloc (.cells M.toArray 39)).alloc (.cells (inV o n r l) 37)) (.cells #[.int .i64 0, .int .i64 0, .int .i64 0, .int .i64 0, .int .i64 0, .int .i64 0, .int .i64 0, .int .i64 0, .int .i64 0, .int .i64 0, .int .i64 0, .int .i64 0, .int .i64 0, .int .i64 0, .int .i64 0, .int .i64 0, .int .i64 0, .int .i64 0, .int .i64 0, .int .i64 0, .int .i64 0, .int .i64 0, .int .i64 0, .int .i64 0, .int .i64 0, .int .u32 0, .int .u32 0, .int .u32 0, .int .u32 0] 39)
  have T := T.later (below_step bi bz)
  have GI : ((((w.alloc (.cells L.toArray 29)).alloc (.cells M.toArray 39)).alloc (.cells (inV o n r l) 37)).alloc (.cells #[.int .i64 0, .int .i64 0, .int .i64 0, .int .i64 0, .int .i64 0, .int .i64 0, .int .i64 0, .int .i64 0, .int .i64 0, .int .i64 0, .int .i64 0, .int .i64 0, .int .i64 0, .int .i64 0, .int .i64 0, .int .i64 0, .int .i64 0, .int .i64 0, .int .i64 0, .int .i64 0, .int .i64 0, .int .i64 0, .int .i64 0, .int .i64 0, .int .i64 0, .int .u32 0, .int .u32 0, .int .u32 0, .int .u32 0] 39)).heap[w.heap.size + 1 + 1]? = some (.cells (inV o n r l) 37 (0, 0)) := old_at (new_at (by simp) _) _
  have G4 : ((((w.alloc (.cells L.toArray 29)).alloc (.cells M.toArray 39)).alloc (.cells (inV o n r l) 37)).alloc (.cells #[.int .i64 0, .int .i64 0, .int .i64 0, .int .i64 0, .int .i64 0, .int .i64 0, .int .i64 0, .int .i64 0, .int .i64 0, .int .i64 0, .int .i64 0, .int .i64 0, .int .i64 0, .int .i64 0, .int .i64 0, .int .i64 0, .int .i64 0, .int .i64 0, .int .i64 0, .int .i64 0, .int .i64 0, .int .i64 0, .int .i64 0, .int .i64 0, .int .i64 0, .int .u32 0, .int .u32 0, .int .u32 0, .int .u32 0] 39)).heap[w.heap.size + 1 + 1 + 1]? = some (.cells #[.int .i64 0, .int .i64 0, .int .i64 0, .int .i64 0, .int .i64 0, .int .i64 0, .int .i64 0, .int .i64 0, .int .i64 0, .int .i64 0, .int .i64 0, .int .i64 0, .int .i64 0, .int .i64 0, .int .i64 0, .int .i64 0, .int .i64 0, .int .i64 0, .int .i64 0, .int .i64 0, .int .i64 0, .int .i64 0, .int .i64 0, .int .i64 0, .int .i64 0, .int .u32 0, .int .u32 0, .int .u32 0, .int .u32 0] 39 (0, 0)) := new_at (by simp) _
  have szL := lay_size hL.len
  have hM2 := hM.withIn_ o n r l
  obtain ⟨M', hM'⟩ : ∃ M', withFree (withIn M o n r l) (rowL o (decide (st < 0)) free 24) = M' := ⟨_, rfl⟩
  rw [hM']
  have HM := Lib.hid hM'.symm
  have hMf := hM2.with_ (f := rowL o (decide (st < 0)) free 24) (rowL_len _ _ _ _)
  rw [hM'] at hMf
  have szM2 := img_size hM2.len
  have szm : (Tryd.prog.info? 39).map (·.size) = some M'.toArray.size := by simpa using img_size hMf.len
  have oneM : M'.toArray.all (·.oneCell') = true := all_oneCell_toArray hMf.one
  clear bz bi hM'
  go_enter Tryd.func8, Tryd.ntmps8
  go_upto_region 1 with (fail)
  generalize (((w.alloc (.cells L.toArray 29)).alloc (.cells M.toArray 39)).alloc (.cells (inV o n r l) 37)).alloc (.cells #[.int .i64 0, .int .i64 0, .int .i64 0, .int .i64 0, .int .i64 0, .int .i64 0, .int .i64 0, .int .i64 0, .int .i64 0, .int .i64 0, .int .i64 0, .int .i64 0, .int .i64 0, .int .i64 0, .int .i64 0, .int .i64 0, .int .i64 0, .int .i64 0, .int .i64 0, .int .i64 0, .int .i64 0, .int .i64 0, .int .i64 0, .int .i64 0, .int .i64 0, .int .u32 0, .int .u32 0, .int .u32 0, .int .u32 0] 39) = W0 at *
  have y0 := cell_at GI 0
  have y1 := cell_at GI 1
  have y2 := cell_at GI 2
  have y3 := cell_at GI 3
  have x0 := T.cm hM.age
  have x1 := T.cm hM.occ
  have x2 := T.cm hM.nor
  have x3 := T.cm hM.rev
  have x4 := T.cm hM.lam
  have f0 := free_at T.m 0
  have f1 := free_at T.m 25
  have f2 := free_at T.m 26
  have f3 := free_at T.m 27
  have f4 := free_at T.m 28
  have hm2 := set_at (set_at (set_at (set_at (set_at T.m 25 (.int .u32 o.toNat)) 26 (.int .u32 n.toNat)) 27 (.int .u32 r.toNat)) 28 (.int .u32 l.toNat)) 0 (.int .i64 0)
  have hl2 := set_far (p := ⟨w.heap.size + 1, 0, none⟩) (set_far (p := ⟨w.heap.size + 1, 28, none⟩) (set_far (p := ⟨w.heap.size + 1, 27, none⟩) (set_far (p := ⟨w.heap.size + 1, 26, none⟩) (set_far (p := ⟨w.heap.size + 1, 25, none⟩) T.l (by simp) (.int .u32 o.toNat)) (by simp) (.int .u32 n.toNat)) (by simp) (.int .u32 r.toNat)) (by simp) (.int .u32 l.toNat)) (by simp) (.int .i64 0)
  have hg2 := set_far (p := ⟨w.heap.size + 1, 0, none⟩) (set_far (p := ⟨w.heap.size + 1, 28, none⟩) (set_far (p := ⟨w.heap.size + 1, 27, none⟩) (set_far (p := ⟨w.heap.size + 1, 26, none⟩) (set_far (p := ⟨w.heap.size + 1, 25, none⟩) G4 (by simp; omega) (.int .u32 o.toNat)) (by simp; omega) (.int .u32 n.toNat)) (by simp; omega) (.int .u32 r.toNat)) (by simp; omega) (.int .u32 l.toNat)) (by simp; omega) (.int .i64 0)
  have hb2 := ((((T.below.setCell (p := ⟨w.heap.size + 1, 25, none⟩) (by simp) (.int .u32 o.toNat)).setCell (p := ⟨w.heap.size + 1, 26, none⟩) (by simp) (.int .u32 n.toNat)).setCell (p := ⟨w.heap.size + 1, 27, none⟩) (by simp) (.int .u32 r.toNat)).setCell (p := ⟨w.heap.size + 1, 28, none⟩) (by simp) (.int .u32 l.toNat)).setCell (p := ⟨w.heap.size + 1, 0, none⟩) (by simp) (.int .i64 0)
  clear T G4 GI
  have RL := range_of hl2
  have RM := range_set (M := withIn M o n r l) hm2 (by simp [withIn])
  clear hm2 hl2
  go_upto_region 2 with (fail)
  clear x0 x1 x2 x3 x4 f0 f1 f2 f3 f4 y0 y1 y2 y3
  generalize ((((W0.setCell ⟨w.heap.size + 1, 25, none⟩ (.int .u32 o.toNat)).setCell ⟨w.heap.size + 1, 26, none⟩ (.int .u32 n.toNat)).setCell ⟨w.heap.size + 1, 27, none⟩ (.int .u32 r.toNat)).setCell ⟨w.heap.size + 1, 28, none⟩ (.int .u32 l.toNat)).setCell ⟨w.heap.size + 1, 0, none⟩ (.int .i64 0) = W5 at *
  go_wp2_with (first
      | refine wpList_load_g (by rfl) 29 (.tmp 3) (by rfl) w.heap.size 0 (by rfl) L _ RL Tryd.underlying29 rfl szL ?_
      | refine wpList_load_g (by rfl) 39 (.tmp 4) (by rfl) (w.heap.size + 1) 0 (by rfl) (withIn M o n r l) _ RM Tryd.underlying39 rfl szM2 ?_)
  refine (rows_g L (withIn M o n r l) M' ns nsig clr st 0 A A1 c c1 free o n r l _ HM.out (hT.below hb2) hL hM2).mono ?_
  rintro e W3' ⟨b3, rfl⟩
  have G5 := below_at b3 hg2 (Array.getElem?_eq_some_iff.1 hg2).1
  have k2 : W3'.there (w.heap.size + 1 + 1 + 1) 0 M'.toArray.size := there_of G5 0 _ (by simp [hMf.len])
  have k3 : (W3'.setCells (w.heap.size + 1 + 1 + 1) 0 M'.toArray.toList).heap[w.heap.size + 1 + 1 + 1]? = some (.cells M'.toArray 39 (0, 0)) := by rw [setCells_at _ _ G5, setL_all (by simp [hMf.len])]
  have k4 : Below w.heap.size w (W3'.setCells (w.heap.size + 1 + 1 + 1) 0 M'.toArray.toList) := below_setCells (by omega) _ _ (below_step hb2 b3)
  have K34 := Lib.hid (And.intro k3 k4)
  clear k3 k4 G5 hg2 RL RM
  go_wp2_with (first
      | (refine wpList_store_mid rfl 39 (.tmp 6) (.tmp 12) (by rfl) (w.heap.size + 1 + 1 + 1) 0 M'.toArray (by rfl) (by rfl) k2 szm oneM ?_; generalize hWs : W3'.setCells (w.heap.size + 1 + 1 + 1) 0 M'.toArray.toList = Ws at *))
  exact bodyPost_ret (res_img (t := 6) rfl rfl K34.out.1 hMf.len) rfl ⟨K34.out.2, rfl⟩
end Go.Proofs.YtlcahkkpbikccaaDoor
