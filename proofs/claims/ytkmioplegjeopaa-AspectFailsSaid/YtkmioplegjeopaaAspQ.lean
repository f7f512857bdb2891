/- Images behind a tick: contracts of the document's Take, New. Nothing that was there is turned. -/
import Derived.Test.YtkmioplegjeopaaAspP
namespace Go.Proofs.Ytkmioplegjeopaa
open Go.RowKit Rf Mem Bv AM
attribute [local go_sem ↓] run_max2 run_min2
theorem range_set {W : World} {g : Nat} {M : List Value} {cs : Array Value} {t : TypeId} {f : Nat × Nat} (h : W.heap[g]? = some (.cells cs t f)) (e : cs = M.toArray) : W.rangeAt g 0 M := range_of (e ▸ h)
def newI : List Value := [.int .i64 65535, .int .i64 0, .int .i64 0, .int .i64 0, .int .i64 0, .int .i64 0, .int .i64 0, .int .i64 0, .int .i64 0, .int .i64 0, .int .i64 0, .int .i64 0, .int .i64 0, .int .i64 0, .int .i64 0, .int .i64 0, .int .i64 0, .int .i64 0, .int .i64 0, .int .i64 0, .int .i64 0, .int .i64 0, .int .i64 0, .int .i64 0, .int .i64 0, .int .u32 0, .int .u32 0, .int .u32 0, .int .u32 0]
theorem newI_f : ImgF newI 65535 (List.replicate 24 0) 0#32 0#32 0#32 0#32 := by
  refine ⟨rfl, by simp, rfl, fun k z hk => ?_, rfl, rfl, rfl, rfl⟩
  have hlt : k < 24 := by have := (List.getElem?_eq_some_iff.1 hk).1; simpa using this
  have hz : z = 0 := by
    have := List.mem_of_getElem? hk
    simp at this; exact this
  subst hz
  have : ∀ k, k < 24 → newI[1 + k]? = some (.int .i64 0) := by
    intro k hk
    rw [show newI = .int .i64 65535 :: (List.replicate 24 (.int .i64 0) ++ List.replicate 4 (.int .u32 0)) from rfl, Nat.add_comm, List.getElem?_cons_succ, List.getElem?_append_left (by simpa using hk), List.getElem?_replicate, if_pos hk]
  exact this k hlt
set_option maxHeartbeats 2000000 in
set_option maxRecDepth 100000 in
theorem refTake_c (L M : List Value) (ns nsig : Nat) (clr st age : Int) (A A1 : Option Addr) (c c1 : Nat) (free : List Int) (occ nor rev lam o n r l : BitVec 32) (w : World) (hL : LayF L ns nsig clr st A c A1 c1) (hM : ImgF M age free occ nor rev lam) :
    Calls Try.prog 17 #[.agg L.toArray, .agg M.toArray, .agg (inV o n r l)] w fun e w' => Below w.heap.size w w' ∧ e = .returned (.agg (withFree (withIn M o n r l) (rowL o (decide (st < 0)) free 24)).toArray) := by
  have T := Two.new w L M
  have bi := below_new ((w.alloc (.cells L.toArray 29)).alloc (.cells M.toArray 35)) (.cells (inV o n r l) 33)
  have bz := below_new (((w.alloc (.cells L.toArray 29)).alloc (.cells M.toArray 35)).alloc (.cells (inV o n r l) 33)) (.cells #[.int .i64 0, .int .i64 0, .int .i64 0, .int .i64 0, .int .i64 0, .int .i64 0, .int .i64 0, .int .i64 0, .int .i64 0, .int .i64 0, .int .i64 0, .int .i64 0, .int .i64 0, .int .i64 0, .int .i64 0, .int .i64 0, .int .i64 0, .int .i64 0, .int .i64 0, .int .i64 0, .int .i64 0, .int .i64 0, .int .i64 0, .int .i64 0, .int .i64 0, .int .u32 0, .int .u32 0, .int .u32 0, .int .u32 0] 35)
  have T := T.later (below_step bi bz)
  have GI : ((((w.alloc (.cells L.toArray 29)).alloc (.cells M.toArray 35)).alloc (.cells (inV o n r l) 33)).alloc (.cells #[.int .i64 0, .int .i64 0, .int .i64 0, .int .i64 0, .int .i64 0, .int .i64 0, .int .i64 0, .int .i64 0, .int .i64 0, .int .i64 0, .int .i64 0, .int .i64 0, .int .i64 0, .int .i64 0, .int .i64 0, .int .i64 0, .int .i64 0, .int .i64 0, .int .i64 0, .int .i64 0, .int .i64 0, .int .i64 0, .int .i64 0, .int .i64 0, .int .i64 0, .int .u32 0, .int .u32 0, .int .u32 0, .int .u32 0] 35)).heap[w.heap.size + 1 + 1]? = some (.cells (inV o n r l) 33 (0, 0)) := old_at (new_at (by simp) _) _
  have G4 : ((((w.alloc (.cells L.toArray 29)).alloc (.cells M.toArray 35)).alloc (.cells (inV o n r l) 33)).alloc (.cells #[.int .i64 0, .int .i64 0, .int .i64 0, .int .i64 0, .int .i64 0, .int .i64 0, .int .i64 0, .int .i64 0, .int .i64 0, .int .i64 0, .int .i64 0, .int .i64 0, .int .i64 0, .int .i64 0, .int .i64 0, .int .i64 0, .int .i64 0, .int .i64 0, .int .i64 0, .int .i64 0, .int .i64 0, .int .i64 0, .int .i64 0, .int .i64 0, .int .i64 0, .int .u32 0, .int .u32 0, .int .u32 0, .int .u32 0] 35)).heap[w.heap.size + 1 + 1 + 1]? = some (.cells #[.int .i64 0, .int .i64 0, .int .i64 0, .int .i64 0, .int .i64 0, .int .i64 0, .int .i64 0, .int .i64 0, .int .i64 0, .int .i64 0, .int .i64 0, .int .i64 0, .int .i64 0, .int .i64 0, .int .i64 0, .int .i64 0, .int .i64 0, .int .i64 0, .int .i64 0, .int .i64 0, .int .i64 0, .int .i64 0, .int .i64 0, .int .i64 0, .int .i64 0, .int .u32 0, .int .u32 0, .int .u32 0, .int .u32 0] 35 (0, 0)) := new_at (by simp) _
  have szL := lay_size hL.len
  have hM2 := hM.withIn_ o n r l
  obtain ⟨M', hM'⟩ : ∃ M', withFree (withIn M o n r l) (rowL o (decide (st < 0)) free 24) = M' := ⟨_, rfl⟩
  rw [hM']
  have HM := Lib.hid hM'.symm
  have hMf := hM2.with_ (f := rowL o (decide (st < 0)) free 24) (rowL_len _ _ _ _)
  rw [hM'] at hMf
  have szM2 := img_size hM2.len
  have szm : (Try.prog.info? 35).map (·.size) = some M'.toArray.size := by simpa using img_size hMf.len
  have oneM : M'.toArray.all (·.oneCell') = true := all_oneCell_toArray hMf.one
  clear bz bi hM'
  go_enter Try.func17, Try.ntmps17
  go_upto_region 1 with (fail)
  generalize (((w.alloc (.cells L.toArray 29)).alloc (.cells M.toArray 35)).alloc (.cells (inV o n r l) 33)).alloc (.cells #[.int .i64 0, .int .i64 0, .int .i64 0, .int .i64 0, .int .i64 0, .int .i64 0, .int .i64 0, .int .i64 0, .int .i64 0, .int .i64 0, .int .i64 0, .int .i64 0, .int .i64 0, .int .i64 0, .int .i64 0, .int .i64 0, .int .i64 0, .int .i64 0, .int .i64 0, .int .i64 0, .int .i64 0, .int .i64 0, .int .i64 0, .int .i64 0, .int .i64 0, .int .u32 0, .int .u32 0, .int .u32 0, .int .u32 0] 35) = W0 at *
  have y0 := cell_at GI 0
  have y1 := cell_at GI 1
  have y2 := cell_at GI 2
  have y3 := cell_at GI 3
  have x0 := T.cm hM.age
  have x1 := T.cm hM.occ
  have x2 := T.cm hM.nor
  have x3 := T.cm hM.rev
  have x4 := T.cm hM.lam
  have f0 := free_at T.m 0
  have f1 := free_at T.m 25
  have f2 := free_at T.m 26
  have f3 := free_at T.m 27
  have f4 := free_at T.m 28
  have hm2 := set_at (set_at (set_at (set_at (set_at T.m 25 (.int .u32 o.toNat)) 26 (.int .u32 n.toNat)) 27 (.int .u32 r.toNat)) 28 (.int .u32 l.toNat)) 0 (.int .i64 0)
  have hl2 := set_far (p := ⟨w.heap.size + 1, 0, none⟩) (set_far (p := ⟨w.heap.size + 1, 28, none⟩) (set_far (p := ⟨w.heap.size + 1, 27, none⟩) (set_far (p := ⟨w.heap.size + 1, 26, none⟩) (set_far (p := ⟨w.heap.size + 1, 25, none⟩) T.l (by simp) (.int .u32 o.toNat)) (by simp) (.int .u32 n.toNat)) (by simp) (.int .u32 r.toNat)) (by simp) (.int .u32 l.toNat)) (by simp) (.int .i64 0)
  have hg2 := set_far (p := ⟨w.heap.size + 1, 0, none⟩) (set_far (p := ⟨w.heap.size + 1, 28, none⟩) (set_far (p := ⟨w.heap.size + 1, 27, none⟩) (set_far (p := ⟨w.heap.size + 1, 26, none⟩) (set_far (p := ⟨w.heap.size + 1, 25, none⟩) G4 (by simp; omega) (.int .u32 o.toNat)) (by simp; omega) (.int .u32 n.toNat)) (by simp; omega) (.int .u32 r.toNat)) (by simp; omega) (.int .u32 l.toNat)) (by simp; omega) (.int .i64 0)
  have hb2 := ((((T.below.setCell (p := ⟨w.heap.size + 1, 25, none⟩) (by simp) (.int .u32 o.toNat)).setCell (p := ⟨w.heap.size + 1, 26, none⟩) (by simp) (.int .u32 n.toNat)).setCell (p := ⟨w.heap.size + 1, 27, none⟩) (by simp) (.int .u32 r.toNat)).setCell (p := ⟨w.heap.size + 1, 28, none⟩) (by simp) (.int .u32 l.toNat)).setCell (p := ⟨w.heap.size + 1, 0, none⟩) (by simp) (.int .i64 0)
  clear T G4 GI
  have RL := range_of hl2
  have RM := range_set (M := withIn M o n r l) hm2 (by simp [withIn])
  clear hm2 hl2
  go_upto_region 3 with (fail)
  clear x0 x1 x2 x3 x4 f0 f1 f2 f3 f4 y0 y1 y2 y3
  generalize ((((W0.setCell ⟨w.heap.size + 1, 25, none⟩ (.int .u32 o.toNat)).setCell ⟨w.heap.size + 1, 26, none⟩ (.int .u32 n.toNat)).setCell ⟨w.heap.size + 1, 27, none⟩ (.int .u32 r.toNat)).setCell ⟨w.heap.size + 1, 28, none⟩ (.int .u32 l.toNat)).setCell ⟨w.heap.size + 1, 0, none⟩ (.int .i64 0) = W5 at *
  go_wp2_with (first
      | refine wpList_load_g (by rfl) 29 (.tmp 3) (by rfl) w.heap.size 0 (by rfl) L _ RL Try.underlying29 rfl szL ?_
      | refine wpList_load_g (by rfl) 35 (.tmp 4) (by rfl) (w.heap.size + 1) 0 (by rfl) (withIn M o n r l) _ RM Try.underlying35 rfl szM2 ?_)
  refine (refrows_c L (withIn M o n r l) ns nsig clr st 0 A A1 c c1 free o n r l _ _ rfl hL hM2).mono ?_
  rw [← HM.out]
  rintro e W3' ⟨rfl, b3⟩
  have G5 := below_at b3 hg2 (Array.getElem?_eq_some_iff.1 hg2).1
  have k2 : W3'.there (w.heap.size + 1 + 1 + 1) 0 M'.toArray.size := there_of G5 0 _ (by simp [hMf.len])
  have k3 : (W3'.setCells (w.heap.size + 1 + 1 + 1) 0 M'.toArray.toList).heap[w.heap.size + 1 + 1 + 1]? = some (.cells M'.toArray 35 (0, 0)) := by rw [setCells_at _ _ G5, setL_all (by simp [hMf.len])]
  have k4 : Below w.heap.size w (W3'.setCells (w.heap.size + 1 + 1 + 1) 0 M'.toArray.toList) := below_setCells (by omega) _ _ (below_step hb2 b3)
  have K34 := Lib.hid (And.intro k3 k4)
  clear k3 k4 G5 hg2 RL RM
  go_wp2_with (first
      | (refine wpList_store_mid rfl 35 (.tmp 6) (.tmp 12) (by rfl) (w.heap.size + 1 + 1 + 1) 0 M'.toArray (by rfl) (by rfl) k2 szm oneM ?_; generalize hWs : W3'.setCells (w.heap.size + 1 + 1 + 1) 0 M'.toArray.toList = Ws at *))
  exact bodyPost_ret (res_mid (t := 6) (M := M') Try.underlying35 rfl rfl (img_size hMf.len) rfl K34.out.1) rfl ⟨K34.out.2, rfl⟩
theorem run_newI (W : World) : (Instr.build 35 #[(0, .int .i64 65535)]).run Try.prog W = .ok (.agg newI.toArray) W := by
  go_simp
  rfl
set_option maxRecDepth 100000 in
theorem refNew_c (w : World) : Calls Try.prog 38 #[] w fun e w' => Below w.heap.size w w' ∧ e = .returned (.agg newI.toArray) := by
  have b0 := below_new w (.cells zImg 35)
  have g0 := new_at (w := w) rfl (.cells zImg 35)
  have hs := newI_f
  have szI : (Try.prog.info? 35).map (·.size) = some newI.length := img_size hs.len
  have oneM := all_one hs.one
  obtain ⟨W3, hW, X, BF, far, ths⟩ := fill_new newI g0 rfl b0 (Nat.le_refl _)
  have HW := Lib.hid hW
  clear hW
  go_enter Try.func38, Try.ntmps38
  go_upto_region 1 with (fail)
  generalize w.alloc (.cells zImg 35) = W0 at *
  go_wp2_with (first
    | (refine wpList_store_mid rfl 35 (.tmp 0) (.tmp 1) (by rfl) w.heap.size 0 newI.toArray (by rfl) (by rfl) ths (by simpa using szI) oneM ?_; rw [HW.out])
    | fail)
  exact bodyPost_ret (res_mid (t := 0) (M := newI) Try.underlying35 rfl rfl szI rfl X) rfl ⟨BF, rfl⟩
end Go.Proofs.Ytkmioplegjeopaa
