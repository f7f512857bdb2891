/- Images: contracts of New, Take and Pass. Nothing that was there is turned. -/
import Derived.Test.YtlcahkkpbikccaaDoorImgG
namespace Go.Proofs.YtlcahkkpbikccaaDoor
open Go.RowKit Rf Mem
attribute [local go_sem ↓] run_max2 run_min2
/-- what is told, as a value -/
abbrev inV (o n r l : BitVec 32) : Array Value := #[.int .u32 o.toNat, .int .u32 n.toNat, .int .u32 r.toNat, .int .u32 l.toNat]
def withIn (M : List Value) (o n r l : BitVec 32) : List Value := (((((M.set 25 (.int .u32 o.toNat)).set 26 (.int .u32 n.toNat)).set 27 (.int .u32 r.toNat)).set 28 (.int .u32 l.toNat)).set 0 (.int .i64 0))
theorem ImgF.withIn_ {M : List Value} {age : Int} {free : List Int} {occ nor rev lam : BitVec 32} (h : ImgF M age free occ nor rev lam) (o n r l : BitVec 32) : ImgF (withIn M o n r l) 0 free o n r l := by
  have hl := h.len
  refine ⟨by simp [withIn, hl], h.fl, by simp [withIn, hl], fun k z hk => ?_, by simp [withIn, List.getElem?_set, hl], by simp [withIn, List.getElem?_set, hl], by simp [withIn, List.getElem?_set, hl], by simp [withIn, List.getElem?_set, hl]⟩
  have hlt : k < 24 := by have := (List.getElem?_eq_some_iff.1 hk).1; rwa [h.fl] at this
  have h1 := h.free k z hk
  simp only [withIn, List.getElem?_set]
  rw [if_neg (by omega), if_neg (by omega), if_neg (by omega), if_neg (by omega), if_neg (by omega)]
  exact h1
def withAge (M : List Value) (a : Int) : List Value := M.set 0 (.int .i64 a)
theorem ImgF.withAge_ {M : List Value} {age : Int} {free : List Int} {occ nor rev lam : BitVec 32} (h : ImgF M age free occ nor rev lam) (a : Int) : ImgF (withAge M a) a free occ nor rev lam := by
  have hl := h.len
  refine ⟨by simp [withAge, hl], h.fl, by simp [withAge, hl], fun k z hk => ?_, ?_, ?_, ?_, ?_⟩
  · simp only [withAge, List.getElem?_set]; rw [if_neg (by omega)]; exact h.free k z hk
  · simp only [withAge, List.getElem?_set]; rw [if_neg (by omega)]; exact h.occ
  · simp only [withAge, List.getElem?_set]; rw [if_neg (by omega)]; exact h.nor
  · simp only [withAge, List.getElem?_set]; rw [if_neg (by omega)]; exact h.rev
  · simp only [withAge, List.getElem?_set]; rw [if_neg (by omega)]; exact h.lam
theorem rows_g (L M M' : List Value) (ns nsig : Nat) (clr st age : Int) (A A1 : Option Addr) (c c1 : Nat) (free : List Int) (occ nor rev lam : BitVec 32) (w : World) (hM' : M' = withFree M (rowL occ (decide (st < age)) free 24)) (hT : Tops w) (hL : LayF L ns nsig clr st A c A1 c1) (hM : ImgF M age free occ nor rev lam) :
    Calls Tryd.prog 19 #[.agg L.toArray, .agg M.toArray] w fun e w' => Below w.heap.size w w' ∧ e = .returned (.agg M'.toArray) := by subst hM'; exact rows_c L M ns nsig clr st age A A1 c c1 free occ nor rev lam w hT hL hM
theorem range_set {W : World} {g : Nat} {M : List Value} {cs : Array Value} {t : TypeId} {f : Nat × Nat} (h : W.heap[g]? = some (.cells cs t f)) (e : cs = M.toArray) : W.rangeAt g 0 M := range_of (e ▸ h)
set_option maxHeartbeats 2000000 in
set_option maxRecDepth 100000 in
theorem Pass_c (L M : List Value) (ns nsig : Nat) (clr st age : Int) (A A1 : Option Addr) (c c1 : Nat) (free : List Int) (occ nor rev lam : BitVec 32) (w : World) (hT : Tops w) (hL : LayF L ns nsig clr st A c A1 c1) (hM : ImgF M age free occ nor rev lam) :
    Calls Tryd.prog 9 #[.agg L.toArray, .agg M.toArray] w fun e w' => Below w.heap.size w w' ∧ e = .returned (.agg (withFree (withAge M (onV age 1 65535)) (rowL occ (decide (st < onV age 1 65535)) free 24)).toArray) := by
  have T := Two.new w L M
  have bz := below_new ((w.alloc (.cells L.toArray 29)).alloc (.cells M.toArray 39)) (.cells #[.int .i64 0, .int .i64 0, .int .i64 0, .int .i64 0, .int .i64 0, .int .i64 0, .int .i64 0, .int .i64 0, .int .i64 0, .int .i64 0, .int .i64 0, .int .i64 0, .int .i64 0, .int .i64 0, .int .i64 0, .int .i64 0, .int .i64 0, .int .i64 0, .int .i64 0, .int .i64 0, .int .i64 0, .int .i64 0, .int .i64 0, .int .i64 0, .int .i64 0, .int .u32 0, .int .u32 0, .int .u32 0, .int .u32 0] 39)
  have T := T.later bz
  have G4 : (((w.alloc (.cells L.toArray 29)).alloc (.cells M.toArray 39)).alloc (.cells #[.int .i64 0, .int .i64 0, .int .i64 0, .int .i64 0, .int .i64 0, .int .i64 0, .int .i64 0, .int .i64 0, .int .i64 0, .int .i64 0, .int .i64 0, .int .i64 0, .int .i64 0, .int .i64 0, .int .i64 0, .int .i64 0, .int .i64 0, .int .i64 0, .int .i64 0, .int .i64 0, .int .i64 0, .int .i64 0, .int .i64 0, .int .i64 0, .int .i64 0, .int .u32 0, .int .u32 0, .int .u32 0, .int .u32 0] 39)).heap[w.heap.size + 1 + 1]? = some (.cells #[.int .i64 0, .int .i64 0, .int .i64 0, .int .i64 0, .int .i64 0, .int .i64 0, .int .i64 0, .int .i64 0, .int .i64 0, .int .i64 0, .int .i64 0, .int .i64 0, .int .i64 0, .int .i64 0, .int .i64 0, .int .i64 0, .int .i64 0, .int .i64 0, .int .i64 0, .int .i64 0, .int .i64 0, .int .i64 0, .int .i64 0, .int .i64 0, .int .i64 0, .int .u32 0, .int .u32 0, .int .u32 0, .int .u32 0] 39 (0, 0)) := new_at (by simp) _
  have szL := lay_size hL.len
  obtain ⟨a, ha⟩ : ∃ a, onV age 1 65535 = a := ⟨_, rfl⟩
  have hM2 := hM.withAge_ a
  obtain ⟨M', hM'⟩ : ∃ M', withFree (withAge M a) (rowL occ (decide (st < a)) free 24) = M' := ⟨_, rfl⟩
  rw [ha, hM']
  have HM := Lib.hid hM'.symm
  have HA := Lib.hid ha
  have hMf := hM2.with_ (f := rowL occ (decide (st < a)) free 24) (rowL_len _ _ _ _)
  rw [hM'] at hMf
  have szM2 := img_size hM2.len
  have szm : (Tryd.prog.info? 39).map (·.size) = some M'.toArray.size := by simpa using img_size hMf.len
  have oneM : M'.toArray.all (·.oneCell') = true := all_oneCell_toArray hMf.one
  have x0 := T.cm hM.age
  clear bz ha hM'
  go_enter Tryd.func9, Tryd.ntmps9
  go_wp2_with fail
  generalize ((w.alloc (.cells L.toArray 29)).alloc (.cells M.toArray 39)).alloc (.cells #[.int .i64 0, .int .i64 0, .int .i64 0, .int .i64 0, .int .i64 0, .int .i64 0, .int .i64 0, .int .i64 0, .int .i64 0, .int .i64 0, .int .i64 0, .int .i64 0, .int .i64 0, .int .i64 0, .int .i64 0, .int .i64 0, .int .i64 0, .int .i64 0, .int .i64 0, .int .i64 0, .int .i64 0, .int .i64 0, .int .i64 0, .int .i64 0, .int .i64 0, .int .u32 0, .int .u32 0, .int .u32 0, .int .u32 0] 39) = W0 at *
  refine (More_c age 1 _ (hT.below T.below)).mono ?_
  rintro e W1 ⟨rfl, b1⟩
  rw [HA.out]
  replace T := T.later b1
  have G4 := below_at b1 G4 (Array.getElem?_eq_some_iff.1 G4).1
  have d0 := T.cm hM.age
  have f0 := free_at T.m 0
  have hm2 := set_at T.m 0 (.int .i64 a)
  have hl2 := set_far (p := ⟨w.heap.size + 1, 0, none⟩) T.l (by simp) (.int .i64 a)
  have hg2 := set_far (p := ⟨w.heap.size + 1, 0, none⟩) G4 (by simp) (.int .i64 a)
  have hb2 := T.below.setCell (p := ⟨w.heap.size + 1, 0, none⟩) (by simp) (.int .i64 a)
  have RL := range_of hl2
  have RM : (W1.setCell ⟨w.heap.size + 1, 0, none⟩ (.int .i64 a)).rangeAt (w.heap.size + 1) 0 (withAge M a) := range_set hm2 (by simp [withAge])
  clear x0 b1 T G4
  go_wp2_with (first
      | refine wpList_load_g (by rfl) 29 (.tmp 2) (by rfl) w.heap.size 0 (by rfl) L _ RL Tryd.underlying29 rfl szL ?_
      | refine wpList_load_g (by rfl) 39 (.tmp 3) (by rfl) (w.heap.size + 1) 0 (by rfl) (withAge M a) _ RM Tryd.underlying39 rfl szM2 ?_)
  refine (rows_g L (withAge M a) M' ns nsig clr st a A A1 c c1 free occ nor rev lam _ HM.out (hT.below hb2) hL hM2).mono ?_
  rintro e W3 ⟨b3, rfl⟩
  have G5 := below_at b3 hg2 (Array.getElem?_eq_some_iff.1 hg2).1
  have k2 : W3.there (w.heap.size + 1 + 1) 0 M'.toArray.size := there_of G5 0 _ (by simp [hMf.len])
  have k3 : (W3.setCells (w.heap.size + 1 + 1) 0 M'.toArray.toList).heap[w.heap.size + 1 + 1]? = some (.cells M'.toArray 39 (0, 0)) := by rw [setCells_at _ _ G5, setL_all (by simp [hMf.len])]
  have k4 : Below w.heap.size w (W3.setCells (w.heap.size + 1 + 1) 0 M'.toArray.toList) := below_setCells (by omega) _ _ (below_step hb2 b3)
  have K34 := Lib.hid (And.intro k3 k4)
  clear k3 k4 G5 hm2 hl2 hg2 RL RM
  go_wp2_with (first
      | (refine wpList_store_mid rfl 39 (.tmp 4) (.tmp 11) (by rfl) (w.heap.size + 1 + 1) 0 M'.toArray (by rfl) (by rfl) k2 szm oneM ?_; generalize hWs : W3.setCells (w.heap.size + 1 + 1) 0 M'.toArray.toList = Ws at *))
  exact bodyPost_ret (res_img (t := 4) rfl rfl K34.out.1 hMf.len) rfl ⟨K34.out.2, rfl⟩
end Go.Proofs.YtlcahkkpbikccaaDoor
