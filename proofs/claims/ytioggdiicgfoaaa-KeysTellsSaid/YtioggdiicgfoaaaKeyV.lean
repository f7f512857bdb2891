/- Keys: the document's Take. Nothing that was there is turned. -/
import Derived.Test.YtioggdiicgfoaaaKeyDoc
import Derived.Deep.RegionHeld3
import Derived.Deep.DrawnRows
import Derived.Deep.CutRange
namespace Go.Proofs.Ytioggdiicgfoaaa
open Go.RowKit Rf Mem KM Bits Bv Str
attribute [local go_sem ↓] run_max2 run_min2
/-- a slice's block lies ahead of s -/
def Loc (s : Nat) (v : Value) : Prop := ∀ g o n c, v = .slice (some ⟨g, o, none⟩) n c → 0 < n → g < s
theorem loc_of {W : World} {sz n : Nat} {v : Value} {cs : List Value} (h : SliceAt W sz v n cs) : Loc W.heap.size v := by
  obtain ⟨A, c, rfl, _, _, _, h4⟩ := h
  intro g o n' c' e hn
  obtain ⟨rfl, rfl, _⟩ := Value.slice.inj e
  rcases h4 with h4 | ⟨b, off, e2, hlt, _⟩
  · omega
  · obtain ⟨rfl, _, _⟩ := Addr.mk.inj (Option.some.inj e2)
    exact hlt
theorem Loc.mono {s t : Nat} {v : Value} (h : Loc s v) (hst : s ≤ t) : Loc t v := fun g o n c e hn => Nat.lt_of_lt_of_le (h g o n c e hn) hst
theorem sl_loc {W W' : World} {s : Nat} {v : Value} {B : List (BitVec 8)} (h : SliceAt W 1 v B.length (u8s B)) (hv : Loc s v) (far : ∀ k, k ≠ s → W'.heap[k]? = W.heap[k]?) : SliceAt W' 1 v B.length (u8s B) := by
  obtain ⟨A, c, rfl, h1, h2, h3, h4⟩ := h
  refine ⟨A, c, rfl, h1, h2, h3, ?_⟩
  rcases Nat.eq_zero_or_pos B.length with h0 | h0
  · exact .inl h0
  rcases h4 with h4 | ⟨b, off, rfl, hlt, hc⟩
  · exact .inl h4
  have hne : b ≠ s := Nat.ne_of_lt (hv _ _ _ _ rfl h0)
  refine .inr ⟨b, off, rfl, ?_, fun i x hx => (World.cell?_of_block (a := ⟨b, off + i, none⟩) (far b hne)).trans (hc i x hx)⟩
  have e := far b hne
  rw [Array.getElem?_eq_getElem hlt] at e
  exact (Array.getElem?_eq_some_iff.1 e).1
/-- what Take carries: the bits in variable gx, the buttons in variable gb -/
structure TV (gx gb : Nat) (w V : World) (L : List Value) (u v : Value) (pl : List (BitVec 8)) (l : List Bool) (q : Btn) : Prop where
  lay : V.heap[w.heap.size]? = some (.cells L.toArray 29 (0, 0))
  res : V.heap[w.heap.size + 1]? = some (.cells (btnV zBtn).toArray 33 (0, 0))
  xv : XV gx w V v pl l
  bb : V.heap[gb]? = some (.cells (btnV q).toArray 33 (0, 0))
  ps : SliceAt V 1 u pl.length (u8s pl)
  hg : w.heap.size + 2 ≤ gx
  hb : gx < gb
  lu : Loc gb u
  lv : Loc gb v
theorem TV.later {gx gb : Nat} {w V V' : World} {L : List Value} {u v : Value} {pl : List (BitVec 8)} {l : List Bool} {q : Btn} (h : TV gx gb w V L u v pl l q) (hb : Below V.heap.size V V') : TV gx gb w V' L u v pl l q :=
  ⟨var_later h.lay hb, var_later h.res hb, h.xv.later hb, var_later h.bb hb, h.ps.later hb, h.hg, h.hb, h.lu, h.lv⟩
theorem TV.setB {gx gb : Nat} {w V : World} {L : List Value} {u v : Value} {pl : List (BitVec 8)} {l : List Bool} {q q' : Btn} (h : TV gx gb w V L u v pl l q) {i : Nat} {x : Value} (hq : (btnV q).toArray.setIfInBounds i x = (btnV q').toArray) : TV gx gb w (V.setCell ⟨gb, i, none⟩ x) L u v pl l q' := by
  have hgg := h.hg
  have hbb := h.hb
  have far : ∀ k, k ≠ gb → (V.setCell ⟨gb, i, none⟩ x).heap[k]? = V.heap[k]? := fun k hk => Below.heap_setCell _ _ _ k hk
  refine ⟨(far _ (by omega)).trans h.lay, (far _ (by omega)).trans h.res, ⟨(far _ (by omega)).trans h.xv.x, sl_loc h.xv.sl h.lv far, h.xv.h, h.xv.b.setCell (by simp only; omega) _⟩, ?_, sl_loc h.ps h.lu far, h.hg, h.hb, h.lu, h.lv⟩
  rw [set_at h.bb i x, hq]
theorem wordL_one (l : List Bool) (k : Nat) : ((wordL (l.drop k) 1).toNat : Int) = ((l.getD k false).toNat : Int) := by
  have : (l.drop k).getD 0 false = l.getD k false := by simp [List.getD, List.getElem?_drop]
  simp only [wordL, wordF, this]
  cases l.getD k false <;> rfl
theorem bool_one (b : Bool) : (((b.toNat : Nat) : Int) == 1) = b := by cases b <;> rfl
set_option maxHeartbeats 4000000 in
set_option maxRecDepth 100000 in
theorem refTake_c (L : List Value) (nsec : Nat) (lens : List Nat) (nsig nfl : Nat) (A : Option Addr) (c : Nat) (A1 : Option Addr) (c1 : Nat) (A3 : Option Addr) (c3 : Nat) (ve : Value) (ns ne nc : Nat) (u : Value) (pl : List (BitVec 8)) (w : World) (hns : min nsig 12 = ns) (hne : min lens.length 12 = ne) (hnc : min nsec 24 = nc)
    (hL : LayN w L nsec lens nsig nfl A c A1 c1 A3 c3 ve) (hs : SliceAt w 1 u pl.length (u8s pl)) (hpl : pl.length ≤ 100) :
    Calls Try.prog 7 #[.agg L.toArray, u] w fun e w' => Below w.heap.size w w' ∧ ∃ r err, e = .returned (.tuple #[.agg (btnV r).toArray, .int .i64 err]) ∧ TakeR pl ns ne nc r err ∧ r.keys.length = 24 := by
  obtain ⟨Ae, ce, rfl, _⟩ := hL.ea
  have szL := lay_size hL.len
  have B0 : Below w.heap.size w ((w.alloc (.cells L.toArray 29)).alloc (.cells zB 33)) := below_step (kbelow_new _ _) (kbelow_new _ _)
  have VL : ((w.alloc (.cells L.toArray 29)).alloc (.cells zB 33)).heap[w.heap.size]? = some (.cells L.toArray 29 (0, 0)) := old_at (new_at rfl _) _
  have VB : ((w.alloc (.cells L.toArray 29)).alloc (.cells zB 33)).heap[w.heap.size + 1]? = some (.cells (btnV zBtn).toArray 33 (0, 0)) := by rw [zBtn_v]; exact new_at (by simp) _
  have l1 : ns ≤ 12 := by omega
  have l2 : ne ≤ 12 := by omega
  have l3 : nc ≤ 24 := by omega
  have q1 : Hid ((ns : Int) = min (nsig : Int) 12) := Lib.hid (m12 hns).symm
  have q2 : Hid ((ne : Int) = min (lens.length : Int) 12) := Lib.hid (m12 hne).symm
  have q3 : Hid ((nc : Int) = min (nsec : Int) 24) := Lib.hid (m24 hnc).symm
  have HLw := Lib.hid hL
  have HNS := Lib.hid hns
  have HNE := Lib.hid hne
  have HNC := Lib.hid hnc
  have HL1 := Lib.hid l1
  have HL2 := Lib.hid l2
  have HL3 := Lib.hid l3
  have HPL := Lib.hid hpl
  have sp := hs.later B0
  have hlu : Loc (w.heap.size + 2) u := (loc_of hs).mono (by omega)
  obtain ⟨Au, cu, rfl, _⟩ := hs.form
  have HN : Hid ((pl.length : Int) * 8 = ((bitsOf pl).length : Int)) := Lib.hid (by rw [bitsOf_length]; omega)
  have HH : Hid (Holds pl (bitsOf pl)) := Lib.hid ⟨by rw [bitsOf_length]; omega, 0, by simp⟩
  have HLB : Hid ((bitsOf pl).length ≤ 900) := Lib.hid (by rw [bitsOf_length]; omega)
  clear hns hne hnc hL l1 l2 l3 hs
  go_enter Try.func7, Try.ntmps7
  go_upto_region 1 with (fail)
  generalize (w.alloc (.cells L.toArray 29)).alloc (.cells zB 33) = V at *
  go_wp2_with fail
  refine (refOf_c _ pl _ V HN.out.symm sp (by omega)).mono ?_
  rintro e V1 ⟨b1, A2, c2, rfl, s2⟩
  have B1 := below_step B0 b1
  have VL1 := var_later VL b1
  have VB1 := var_later VB b1
  have sp1 := sp.later b1
  have hsz1 : w.heap.size + 2 ≤ V1.heap.size := (Array.getElem?_eq_some_iff.1 VB1).1
  have hlv := loc_of s2
  go_upto_region 2 with (fail)
  obtain ⟨gx, hgx⟩ : ∃ gx, V1.heap.size = gx := ⟨_, rfl⟩
  have ba := kbelow_new V1 (.cells #[.slice A2 pl.length c2, .int .i64 ((bitsOf pl).length : Int)] 62)
  have X2 : XV gx w (V1.alloc (.cells #[.slice A2 pl.length c2, .int .i64 ((bitsOf pl).length : Int)] 62)) (.slice A2 pl.length c2) pl (bitsOf pl) := ⟨new_at hgx _, s2.later ba, HH.out, below_step B1 ba⟩
  have sp2 := sp1.later ba
  have VL2 := var_later VL1 ba
  have VB2 := var_later VB1 ba
  have hlu2 : Loc gx (.slice Au pl.length cu) := hlu.mono (by omega)
  rw [hgx] at hlv hsz1 ⊢
  clear ba s2 sp1 VL1 VB1 B1 b1 sp VL VB B0 hgx
  generalize V1.alloc (.cells #[.slice A2 pl.length c2, .int .i64 ((bitsOf pl).length : Int)] 62) = V2 at *
  refine wp_region_held_drew (S := (fun w' => w'.cell? ⟨w.heap.size, 0, none⟩ = some (.slice A nsec c) ∧ w'.cell? ⟨w.heap.size, 1, none⟩ = some (.slice A1 nsig c1) ∧ w'.cell? ⟨w.heap.size, 2, none⟩ = some (.slice Ae lens.length ce))) (by kernel_rfl) ?_ (fun hHeld => ?_)
  · exact ⟨cell_list VL2 HLw.out.sec, cell_list VL2 HLw.out.sig, cell_list VL2 HLw.out.ex⟩
  have bd : Below V2.heap.size V2 V2.drew := (Below.refl _ V2).drew
  replace X2 := X2.later bd
  replace sp2 := sp2.later bd
  replace VL2 := var_later VL2 bd
  replace VB2 := var_later VB2 bd
  clear bd
  generalize V2.drew = V2 at *
  refine wpAnyH_take (i := 0) (v := ?_) rfl (by kernel_rfl) (by kernel_rfl) (by kernel_rfl) (fun _ _ _ h => h) (Or.inl ⟨by rfl, ?_⟩) (by assumption) ?_
  rotate_left
  · intro w hSw
    try dsimp only at hSw
    go_simp
    try with_reducible rfl
  simp only [List.getElem_toArray, List.getElem_cons_succ, List.getElem_cons_zero, Act.put, List.setIfInBounds_toArray, List.set_cons_zero, List.set_cons_succ]
  refine wpAnyH_take (i := 1) (v := ?_) rfl (by kernel_rfl) (by kernel_rfl) (by kernel_rfl) (fun _ _ _ h => h) (Or.inl ⟨by rfl, ?_⟩) (by assumption) ?_
  rotate_left
  · intro w hSw
    try dsimp only at hSw
    go_simp
    try with_reducible rfl
  simp only [List.getElem_toArray, List.getElem_cons_succ, List.getElem_cons_zero, Act.put, List.setIfInBounds_toArray, List.set_cons_zero, List.set_cons_succ]
  refine wpAnyH_take (i := 2) (v := ?_) rfl (by kernel_rfl) (by kernel_rfl) (by kernel_rfl) (fun _ _ _ h => h) (Or.inl ⟨by rfl, ?_⟩) (by assumption) ?_
  rotate_left
  · intro w hSw
    try dsimp only at hSw
    go_simp
    try with_reducible rfl
  simp only [List.getElem_toArray, List.getElem_cons_succ, List.getElem_cons_zero, Act.put, List.setIfInBounds_toArray, List.set_cons_zero, List.set_cons_succ]
  refine wpAnyH_take (i := 4) (v := ?_) rfl (by kernel_rfl) (by kernel_rfl) (by kernel_rfl) (fun _ _ _ h => h) (Or.inl ⟨by rfl, ?_⟩) (by assumption) ?_
  rotate_left
  · intro w hSw
    try dsimp only at hSw
    go_simp
    try with_reducible rfl
  simp only [List.getElem_toArray, List.getElem_cons_succ, List.getElem_cons_zero, Act.put, List.setIfInBounds_toArray, List.set_cons_zero, List.set_cons_succ]
  refine wpAnyH_take (i := 5) (v := ?_) rfl (by kernel_rfl) (by kernel_rfl) (by kernel_rfl) (fun _ _ _ h => h) (Or.inl ⟨by rfl, ?_⟩) (by assumption) ?_
  rotate_left
  · intro w hSw
    try dsimp only at hSw
    go_simp
    try with_reducible rfl
  simp only [List.getElem_toArray, List.getElem_cons_succ, List.getElem_cons_zero, Act.put, List.setIfInBounds_toArray, List.set_cons_zero, List.set_cons_succ]
  refine wpAnyH_take (i := 6) (v := ?_) rfl (by kernel_rfl) (by kernel_rfl) (by kernel_rfl) (fun _ _ _ h => h) (Or.inl ⟨by rfl, ?_⟩) (by assumption) ?_
  rotate_left
  · intro w hSw
    try dsimp only at hSw
    go_simp
    try with_reducible rfl
  simp only [List.getElem_toArray, List.getElem_cons_succ, List.getElem_cons_zero, Act.put, List.setIfInBounds_toArray, List.set_cons_zero, List.set_cons_succ]
  refine wpAnyH_take (i := 8) (v := ?_) rfl (by kernel_rfl) (by kernel_rfl) (by kernel_rfl) (fun _ _ _ h => h) (Or.inl ⟨by rfl, ?_⟩) (by assumption) ?_
  rotate_left
  · intro w hSw
    try dsimp only at hSw
    go_simp
    try with_reducible rfl
  simp only [List.getElem_toArray, List.getElem_cons_succ, List.getElem_cons_zero, Act.put, List.setIfInBounds_toArray, List.set_cons_zero, List.set_cons_succ]
  refine wpAnyH_take (i := 9) (v := ?_) rfl (by kernel_rfl) (by kernel_rfl) (by kernel_rfl) (fun _ _ _ h => h) (Or.inl ⟨by rfl, ?_⟩) (by assumption) ?_
  rotate_left
  · intro w hSw
    try dsimp only at hSw
    go_simp
    try with_reducible rfl
  simp only [List.getElem_toArray, List.getElem_cons_succ, List.getElem_cons_zero, Act.put, List.setIfInBounds_toArray, List.set_cons_zero, List.set_cons_succ]
  refine wpAnyH_take (i := 10) (v := ?_) rfl (by kernel_rfl) (by kernel_rfl) (by kernel_rfl) (fun _ _ _ h => h) (Or.inl ⟨by rfl, ?_⟩) (by assumption) ?_
  rotate_left
  · intro w hSw
    try dsimp only at hSw
    go_simp
    try with_reducible rfl
  simp only [List.getElem_toArray, List.getElem_cons_succ, List.getElem_cons_zero, Act.put, List.setIfInBounds_toArray, List.set_cons_zero, List.set_cons_succ]
  clear hHeld
  refine wpAnyH_ready (rs := [3]) (by kernel_rfl) (by simp) ?_
  refine AllReadyH.cons rfl (fun K hK => ?_) AllReadyH.nil
  refine Node.wp_fn 25 [.tmp 19, .const (.int .i64 12)] _ [.int .i64 nsig, .int .i64 12] (by rfl) (by rfl) (enters Try.func25 (by kernel_rfl) rfl) (few_c _ _ _ _ q1.out) ?_
  rintro e V' ⟨rfl, rfl⟩
  refine ⟨_, rfl, ?_⟩
  try generalize V' = V2 at *
  refine hK.out _ _ ⟨cell_list VL2 HLw.out.sec, cell_list VL2 HLw.out.sig, cell_list VL2 HLw.out.ex⟩ (fun _ => ?_)
  clear hK K
  try simp only [List.getElem_toArray, List.getElem_cons_succ, List.getElem_cons_zero, Act.put, List.setIfInBounds_toArray, List.set_cons_zero, List.set_cons_succ]
  refine wpAnyH_ready (rs := [7]) (by kernel_rfl) (by simp) ?_
  refine AllReadyH.cons rfl (fun K hK => ?_) AllReadyH.nil
  refine Node.wp_fn 25 [.tmp 23, .const (.int .i64 12)] _ [.int .i64 lens.length, .int .i64 12] (by rfl) (by rfl) (enters Try.func25 (by kernel_rfl) rfl) (few_c _ _ _ _ q2.out) ?_
  rintro e V' ⟨rfl, rfl⟩
  refine ⟨_, rfl, ?_⟩
  try generalize V' = V2 at *
  refine hK.out _ _ ⟨cell_list VL2 HLw.out.sec, cell_list VL2 HLw.out.sig, cell_list VL2 HLw.out.ex⟩ (fun _ => ?_)
  clear hK K
  try simp only [List.getElem_toArray, List.getElem_cons_succ, List.getElem_cons_zero, Act.put, List.setIfInBounds_toArray, List.set_cons_zero, List.set_cons_succ]
  refine wpAnyH_ready (rs := [11]) (by kernel_rfl) (by simp) ?_
  refine AllReadyH.cons rfl (fun K hK => ?_) AllReadyH.nil
  refine Node.wp_fn 25 [.tmp 27, .const (.int .i64 24)] _ [.int .i64 nsec, .int .i64 24] (by rfl) (by rfl) (enters Try.func25 (by kernel_rfl) rfl) (few_c _ _ _ _ q3.out) ?_
  rintro e V' ⟨rfl, rfl⟩
  refine ⟨_, rfl, ?_⟩
  try generalize V' = V2 at *
  refine hK.out _ _ ⟨cell_list VL2 HLw.out.sec, cell_list VL2 HLw.out.sig, cell_list VL2 HLw.out.ex⟩ (fun _ => ?_)
  clear hK K
  try simp only [List.getElem_toArray, List.getElem_cons_succ, List.getElem_cons_zero, Act.put, List.setIfInBounds_toArray, List.set_cons_zero, List.set_cons_succ]
  refine wpAnyH_ready (rs := [12]) (by kernel_rfl) (by simp) ?_
  refine AllReadyH.cons rfl (fun K hK => ?_) AllReadyH.nil
  refine Node.wp_set (.int .i64 ns) (.tmp 20) (.inr rfl) (by rfl) ?_
  refine hK.out _ _ ⟨cell_list VL2 HLw.out.sec, cell_list VL2 HLw.out.sig, cell_list VL2 HLw.out.ex⟩ (fun _ => ?_)
  clear hK K
  try simp only [List.getElem_toArray, List.getElem_cons_succ, List.getElem_cons_zero, Act.put, List.setIfInBounds_toArray, List.set_cons_zero, List.set_cons_succ]
  refine wpAnyH_ready (rs := [13]) (by kernel_rfl) (by simp) ?_
  refine AllReadyH.cons rfl (fun K hK => ?_) AllReadyH.nil
  refine Node.wp_set (.int .i64 ne) (.tmp 24) (.inr rfl) (by rfl) ?_
  refine hK.out _ _ ⟨cell_list VL2 HLw.out.sec, cell_list VL2 HLw.out.sig, cell_list VL2 HLw.out.ex⟩ (fun _ => ?_)
  clear hK K
  try simp only [List.getElem_toArray, List.getElem_cons_succ, List.getElem_cons_zero, Act.put, List.setIfInBounds_toArray, List.set_cons_zero, List.set_cons_succ]
  refine wpAnyH_ready (rs := [14]) (by kernel_rfl) (by simp) ?_
  refine AllReadyH.cons rfl (fun K hK => ?_) AllReadyH.nil
  refine Node.wp_set (.int .i64 nc) (.tmp 28) (.inr rfl) (by rfl) ?_
  refine hK.out _ _ ⟨cell_list VL2 HLw.out.sec, cell_list VL2 HLw.out.sig, cell_list VL2 HLw.out.ex⟩ (fun _ => ?_)
  clear hK K
  try simp only [List.getElem_toArray, List.getElem_cons_succ, List.getElem_cons_zero, Act.put, List.setIfInBounds_toArray, List.set_cons_zero, List.set_cons_succ]
  refine wpAnyH_done (by kernel_rfl) ?_ _
  obtain ⟨l, hl⟩ : ∃ l, bitsOf pl = l := ⟨_, rfl⟩
  rw [hl] at X2 HN HH HLB
  have HLQ := Lib.hid hl
  have bz := kbelow_new V2 (.cells zB 33)
  obtain ⟨gb, hgb⟩ : ∃ gb, V2.heap.size = gb := ⟨_, rfl⟩
  have hgl : gx < gb := by rw [← hgb]; exact (Array.getElem?_eq_some_iff.1 X2.x).1
  have T : TV gx gb w (V2.alloc (.cells zB 33)) L (.slice Au pl.length cu) (.slice A2 pl.length c2) pl l zBtn := ⟨var_later VL2 bz, var_later VB2 bz, X2.later bz, by rw [zBtn_v]; exact new_at hgb _, sp2.later bz, hsz1, hgl, hlu2.mono (Nat.le_of_lt hgl), hlv.mono (Nat.le_of_lt hgl)⟩
  clear X2 VL2 VB2 sp2 bz
  go_upto_region 4 with (fail)
  try rw [hgb]
  generalize V2.alloc (.cells zB 33) = V3 at *
  clear hl hgb
  have j1 : (ns : Int) ≤ 12 := by have := HL1.out; omega
  have j2 : (ne : Int) ≤ 12 := by have := HL2.out; omega
  have j3 : (nc : Int) ≤ 24 := by have := HL3.out; omega
  have d0 := cell_at T.xv.x 0
  have d1 := cell_at T.xv.x 1
  go_wp2_with fail
  refine (refrow_c _ pl l 0 ns _ _ _ (((wordL l ns).toNat : Nat) : Int) _ rfl rfl rfl (by rw [List.drop_zero]) T.xv.sl T.xv.h HLB.out (by have := HL1.out; have := HL2.out; omega) (by have := HL1.out; omega)).mono ?_
  rintro e V4 ⟨rfl, b4⟩
  replace T := T.later b4
  have x5 := cell_list T.bb (i := 0) rfl
  have f5 := free_at T.bb 0
  replace T := T.setB (btn_set0 _ (wordL l ns))
  clear d0 d1 b4
  go_upto_region 5 with (fail)
  clear x5 f5
  generalize V4.setCell ⟨gb, 0, none⟩ (.int .u32 (((wordL l ns).toNat : Nat) : Int)) = V3 at *
  have d0 := cell_at T.xv.x 0
  have d1 := cell_at T.xv.x 1
  go_wp2_with fail
  refine (refrow_c _ pl l ns ne _ _ _ (((wordL (l.drop ns) ne).toNat : Nat) : Int) _ rfl rfl rfl rfl T.xv.sl T.xv.h HLB.out (by have := HL1.out; have := HL2.out; omega) (by have := HL2.out; omega)).mono ?_
  rintro e V4 ⟨rfl, b4⟩
  replace T := T.later b4
  have x5 := cell_list T.bb (i := 1) rfl
  have f5 := free_at T.bb 1
  replace T := T.setB (btn_set1 _ (wordL (l.drop ns) ne))
  clear d0 d1 b4
  go_upto_region 6 with (fail)
  clear x5 f5
  generalize V4.setCell ⟨gb, 1, none⟩ (.int .u32 (((wordL (l.drop ns) ne).toNat : Nat) : Int)) = V3 at *
  have d0 := cell_at T.xv.x 0
  have d1 := cell_at T.xv.x 1
  go_wp2_with fail
  refine (refrow_c _ pl l (ns + ne) nc _ _ _ (((wordL (l.drop (ns + ne)) nc).toNat : Nat) : Int) _ rfl (by push_cast; rfl) rfl rfl T.xv.sl T.xv.h HLB.out (by have := HL1.out; have := HL2.out; omega) (by have := HL3.out; omega)).mono ?_
  rintro e V4 ⟨rfl, b4⟩
  replace T := T.later b4
  have x5 := cell_list T.bb (i := 2) rfl
  have f5 := free_at T.bb 2
  replace T := T.setB (btn_set2 _ (wordL (l.drop (ns + ne)) nc))
  clear d0 d1 b4
  go_upto_region 7 with (fail)
  clear x5 f5
  generalize V4.setCell ⟨gb, 2, none⟩ (.int .u32 (((wordL (l.drop (ns + ne)) nc).toNat : Nat) : Int)) = V3 at *
  have HB3 : Hid (ns ≤ 12 ∧ ne ≤ 12 ∧ nc ≤ 24) := Lib.hid ⟨HL1.out, HL2.out, HL3.out⟩
  have d0 := cell_at T.xv.x 0
  have d1 := cell_at T.xv.x 1
  obtain ⟨b0, hb0⟩ : ∃ b, l.getD (ns + ne + nc) false = b := ⟨_, rfl⟩
  have HBq0 := Lib.hid hb0
  clear hb0
  have g1 := bool_one b0
  go_wp2_with fail
  refine (refrow_c _ pl l (ns + ne + nc) 1 _ _ _ ((b0.toNat : Nat) : Int) _ rfl (by push_cast; rfl) rfl (by rw [wordL_one, HBq0.out]) T.xv.sl T.xv.h HLB.out (by obtain ⟨_, _, _⟩ := HB3.out; omega) (by omega)).mono ?_
  rintro e V4 ⟨rfl, b4⟩
  replace T := T.later b4
  have x5 := cell_list T.bb (i := 3) rfl
  have f5 := free_at T.bb 3
  replace T := T.setB (btn_set3 _ b0)
  clear d0 d1 b4
  go_upto_region 9 with (fail)
  clear x5 f5 g1
  generalize V4.setCell ⟨gb, 3, none⟩ (.bool b0) = V3 at *
  have d0 := cell_at T.xv.x 0
  have d1 := cell_at T.xv.x 1
  obtain ⟨b1, hb1⟩ : ∃ b, l.getD (ns + ne + nc + 1) false = b := ⟨_, rfl⟩
  have HBq1 := Lib.hid hb1
  clear hb1
  have g1 := bool_one b1
  go_wp2_with fail
  refine (refrow_c _ pl l (ns + ne + nc + 1) 1 _ _ _ ((b1.toNat : Nat) : Int) _ rfl (by push_cast; rfl) rfl (by rw [wordL_one, HBq1.out]) T.xv.sl T.xv.h HLB.out (by obtain ⟨_, _, _⟩ := HB3.out; omega) (by omega)).mono ?_
  rintro e V4 ⟨rfl, b4⟩
  replace T := T.later b4
  have x5 := cell_list T.bb (i := 4) rfl
  have f5 := free_at T.bb 4
  replace T := T.setB (btn_set4 _ b1)
  clear d0 d1 b4
  go_upto_region 10 with (fail)
  clear x5 f5 g1
  generalize V4.setCell ⟨gb, 4, none⟩ (.bool b1) = V3 at *
  have T0 : TV gx gb w V3 L (.slice Au pl.length cu) (.slice A2 pl.length c2) pl l (rdS l ns ne nc 0) := by rw [rdS_zero, HBq0.out, HBq1.out]; exact T
  clear T
  go_wp2_with fail
  go_loopw [12] (fun i wr => ∃ j : Nat, j ≤ nc ∧ i = .int .i64 j ∧ TV gx gb w wr L (.slice Au pl.length cu) (.slice A2 pl.length c2) pl l (rdS l ns ne nc j)) (fun i _ => nc - (intOf i).toNat)
  case atStart => exact ⟨0, Nat.zero_le _, rfl, T0⟩
  case round =>
    obtain ⟨j, hj, rfl, T⟩ := hrel
    clear T0
    by_cases hlt : j < nc
    · have i1 : (j : Int) < (nc : Int) := by omega
      have i2 : (j : Int) < 24 := by omega
      have hj24 : j < 24 := by omega
      have d0 := cell_at T.xv.x 0
      have d1 := cell_at T.xv.x 1
      obtain ⟨r3, hr3⟩ : ∃ r3 : Int, r3 = ((key2 l (ns + ne + nc + 2 + 2 * j) : Nat) : Int) := ⟨_, rfl⟩
      obtain ⟨z, hz⟩ : ∃ z : BitVec 8, z = keyS l (ns + ne + nc + 2 + 2 * j) := ⟨_, rfl⟩
      have hr4 : r3 = (z.toNat : Int) := by rw [hr3, hz, keyS_nat]
      have hr5 : 0 ≤ r3 ∧ r3 ≤ 3 := by have := key2_lt l (ns + ne + nc + 2 + 2 * j); omega
      have hrw : IntKind.u8.wrap r3 = r3 := Bv.wrap_small .u8 rfl hr5.1 (show r3 < (2 : Int) ^ 8 by omega)
      have HR3 := Lib.hid hr3
      have HZ := Lib.hid hz
      have HR4 := Lib.hid hr4
      clear hr3 hz hr4
      go_wp2_with fail
      refine (refTake2 _ pl l _ _ r3 (ns + ne + nc + 2 + 2 * j) _ rfl (by push_cast; rfl) HR3.out T.xv.sl T.xv.h (by have := HLB.out; omega) (by omega)).mono ?_
      rintro e W5 ⟨b5, er, rfl⟩
      have T5 := T.later b5
      have x5 := cell_list T5.bb (btnV_key (b := rdS l ns ne nc j) (i := j) (by rw [rdS_len]; exact hj24))
      have f5 := free_at T5.bb (5 + j)
      have T6 := T5.setB (btn_setk _ j z)
      rw [HZ.out, rdS_succ l ns ne nc j hj24, ← HZ.out, ← HR4.out] at T6
      have HT6 := Lib.hid T6
      clear T6 T5 T d0 d1 b5
      generalize ((rdS l ns ne nc j).keys.getD j 0#8).toNat = y at x5
      have hm : r3 % 256 = r3 := by omega
      go_wp2
      go_roundw
      case rel => exact ⟨j + 1, by omega, by go_num, HT6.out⟩
      case measure => simp [intOf]; omega
    · obtain rfl : j = nc := by omega
      have hql : (rdS l ns ne j j).keys.length = 24 := rdS_len _ _ _ _ _
      have HFULL : Hid (pl.length = sizeK ns ne j → rdS l ns ne j j = rdB (bitsOf pl) ns ne j) := Lib.hid (fun h => by
        rw [HLQ.out]
        refine rdS_full _ _ _ _ ?_
        rw [← HLQ.out, bitsOf_length, h]; unfold sizeK; omega)
      obtain ⟨q, hq⟩ : ∃ q, rdS l ns ne j j = q := ⟨_, rfl⟩
      rw [hq] at T hql HFULL
      have szL := szL
      have szQ := btn_size hql
      have cvl : ∀ W : World, SliceAt W 1 (.slice Au pl.length cu) pl.length (u8s pl) → (convert 36 9 (.slice Au pl.length cu)).run Try.prog W = .ok (.string (strOf pl)) W := fun W h => conv_str (P := Try.prog) (dst := 9) h Try.underlying36 Try.underlying5 Try.underlying9
      clear hq
      go_upto_region 15 with (fail)
      refine wp_region_held_drew (S := (fun w' => w'.rangeAt w.heap.size 0 L ∧ w'.rangeAt gb 0 (btnV q) ∧ (convert 36 9 (.slice Au pl.length cu)).run Try.prog w' = .ok (.string (strOf pl)) w')) (by kernel_rfl) ?_ (fun hHeld => ?_)
      · have T' := T.later (Below.refl _ wr).drew
        exact ⟨range_of T.lay, range_of T.bb, cvl _ T'.ps⟩
      replace T := T.later (Below.refl _ wr).drew
      generalize wr.drew = V at *
      refine wpAnyH_take (i := 0) (v := .agg (L : List Value).toArray) rfl (by kernel_rfl) (by kernel_rfl) (by kernel_rfl) (fun _ _ _ h => h) (yieldsIf_load_mid rfl 29 (.tmp 2) rfl (w.heap.size) 0 rfl L _ (fun w' h => h.1) (by first | exact Try.underlying29) rfl (by first | assumption | (simp only [*]; kernel_rfl))) (by assumption) ?_
      simp only [List.getElem_toArray, List.getElem_cons_succ, List.getElem_cons_zero, Act.put, List.setIfInBounds_toArray, List.set_cons_zero, List.set_cons_succ]
      refine wpAnyH_take (i := 1) (v := .agg ((btnV q) : List Value).toArray) rfl (by kernel_rfl) (by kernel_rfl) (by kernel_rfl) (fun _ _ _ h => h) (yieldsIf_load_mid rfl 33 (.tmp 10) rfl (gb) 0 rfl (btnV q) _ (fun w' h => h.2.1) (by first | exact Try.underlying33) rfl (by first | assumption | (simp only [*]; kernel_rfl))) (by assumption) ?_
      simp only [List.getElem_toArray, List.getElem_cons_succ, List.getElem_cons_zero, Act.put, List.setIfInBounds_toArray, List.set_cons_zero, List.set_cons_succ]
      refine wpAnyH_take (i := 4) (v := ?_) rfl (by kernel_rfl) (by kernel_rfl) (by kernel_rfl) (fun _ _ _ h => h) (Or.inl ⟨by rfl, ?_⟩) (by assumption) ?_
      rotate_left
      · intro w hSw
        try dsimp only at hSw
        go_simp
        try with_reducible rfl
      simp only [List.getElem_toArray, List.getElem_cons_succ, List.getElem_cons_zero, Act.put, List.setIfInBounds_toArray, List.set_cons_zero, List.set_cons_succ]
      refine wpAnyH_take (i := 5) (v := ?_) rfl (by kernel_rfl) (by kernel_rfl) (by kernel_rfl) (fun _ _ _ h => h) (Or.inl ⟨by rfl, ?_⟩) (by assumption) ?_
      rotate_left
      · intro w hSw
        try dsimp only at hSw
        go_simp
        try with_reducible rfl
      simp only [List.getElem_toArray, List.getElem_cons_succ, List.getElem_cons_zero, Act.put, List.setIfInBounds_toArray, List.set_cons_zero, List.set_cons_succ]
      clear hHeld
      refine wpAnyH_ready (rs := [2]) (by kernel_rfl) (by simp) ?_
      refine AllReadyH.cons rfl (fun K hK => ?_) AllReadyH.nil
      refine Node.wp_fn 11 [.tmp 81, .tmp 82] _ [.agg L.toArray, .agg (btnV q).toArray] (by rfl) (by rfl) (enters Try.func11 (by kernel_rfl) rfl) (refPut_c L nsec lens nsig nfl A c A1 c1 A3 c3 _ ns ne j q V HNS.out HNE.out HNC.out hql (HLw.out.later T.xv.b)) ?_
      rintro e V' ⟨bF, A5, c5, B, rfl, s5, h5⟩
      refine ⟨_, rfl, ?_⟩
      have T5 := T.later bF
      have cvB := conv_str (P := Try.prog) (dst := 9) s5 Try.underlying36 Try.underlying5 Try.underlying9
      clear T
      refine hK.out _ _ ⟨range_of T5.lay, range_of T5.bb, cvl _ T5.ps⟩ (fun _ => ?_)
      clear hK K
      try simp only [List.getElem_toArray, List.getElem_cons_succ, List.getElem_cons_zero, Act.put, List.setIfInBounds_toArray, List.set_cons_zero, List.set_cons_succ]
      have hst := str_beq B pl
      refine wpAnyH_ready (rs := [3]) (by kernel_rfl) (by simp) ?_
      refine AllReadyH.cons rfl (fun K hK => ?_) AllReadyH.nil
      go_simp
      refine hK.out _ _ ⟨range_of T5.lay, range_of T5.bb, cvl _ T5.ps⟩ (fun _ => ?_)
      clear hK K
      try simp only [List.getElem_toArray, List.getElem_cons_succ, List.getElem_cons_zero, Act.put, List.setIfInBounds_toArray, List.set_cons_zero, List.set_cons_succ]
      have szQ2 : (Try.prog.info? 33).map (·.size) = some (btnV q).toArray.size := by simpa using szQ
      by_cases heq : B = pl
      · rw [decide_eq_true heq] at hst
        have HEQ := Lib.hid heq
        clear heq
        refine wpAnyH_ready (rs := [6]) (by kernel_rfl) (by simp) ?_
        refine AllReadyH.cons rfl (fun K hK => ?_) AllReadyH.nil
        go_simp
        refine hK.out _ _ ⟨range_of T5.lay, range_of T5.bb, cvl _ T5.ps⟩ (fun _ => ?_)
        clear hK K
        try simp only [List.getElem_toArray, List.getElem_cons_succ, List.getElem_cons_zero, Act.put, List.setIfInBounds_toArray, List.set_cons_zero, List.set_cons_succ]
        refine wpAnyH_done (by kernel_rfl) ?_ _
        have RB := range_of T5.bb
        obtain ⟨V9, hW, FB, bF9, far, ths⟩ := fill_new (btnV q) T5.res (by rw [btnV_len hql]; rfl) T5.xv.b (Nat.le_succ _)
        clear hst cvl cvB bF T5 s5
        go_wp2_with (first
          | refine wpList_load_g (by rfl) 33 (.tmp 10) (by rfl) gb 0 (by rfl) (btnV q) _ RB Try.underlying33 rfl szQ ?_
          | (refine wpList_store_mid rfl 33 (.tmp 4) (.tmp 89) (by rfl) (w.heap.size + 1) 0 (btnV q).toArray (by rfl) (by rfl) ths szQ2 (all_one (btnV_one _)) ?_; rw [hW])
          | fail)
        refine bodyPost_ret (res_mid2 (t := 4) (u := 5) (M := btnV q) Try.underlying33 rfl rfl szQ rfl FB) rfl ⟨bF9, q, 0, rfl, .inr ⟨?_, .inl ⟨?_, ?_, rfl⟩⟩, hql⟩
        · rw [← HEQ.out]; exact holds_size h5
        · rw [← HFULL.out (by rw [← HEQ.out]; exact holds_size h5)]; rw [← HEQ.out]; exact h5
        · exact HFULL.out (by rw [← HEQ.out]; exact holds_size h5)
      · rw [decide_eq_false heq] at hst
        have HEQ := Lib.hid heq
        clear heq
        refine wpAnyH_ready (rs := [6]) (by kernel_rfl) (by simp) ?_
        refine AllReadyH.cons rfl (fun K hK => ?_) AllReadyH.nil
        go_simp
        refine hK.out _ _ ⟨range_of T5.lay, range_of T5.bb, cvl _ T5.ps⟩ (fun _ => ?_)
        clear hK K
        try simp only [List.getElem_toArray, List.getElem_cons_succ, List.getElem_cons_zero, Act.put, List.setIfInBounds_toArray, List.set_cons_zero, List.set_cons_succ]
        refine wpAnyH_done (by kernel_rfl) ?_ _
        have szB0 := btn_size zBtn_len
        have szB2 : (Try.prog.info? 33).map (·.size) = some (btnV zBtn).toArray.size := by kernel_rfl
        have hbz := fun W => build_zero W
        obtain ⟨V9, hW, FB, bF9, far, ths⟩ := fill_new (btnV zBtn) T5.res rfl T5.xv.b (Nat.le_succ _)
        clear hst cvl cvB bF T5 s5
        go_wp2_with (first
          | refine wpList_build0 rfl 33 (by rfl) _ (hbz _) ?_
          | (refine wpList_store_mid rfl 33 (.tmp 4) (.tmp 88) (by rfl) (w.heap.size + 1) 0 (btnV zBtn).toArray (by rfl) (by rfl) ths szB2 (all_one (btnV_one _)) ?_; rw [hW])
          | fail)
        refine bodyPost_ret (res_mid2 (t := 4) (u := 5) (M := btnV zBtn) Try.underlying33 rfl rfl szB0 rfl FB) rfl ⟨bF9, zBtn, 41, rfl, ?_, zBtn_len⟩
        by_cases hsz : pl.length = sizeK ns ne j
        · refine .inr ⟨hsz, .inr ⟨fun h => HEQ.out (holds_unique h5 (by rw [HFULL.out hsz]; exact h)), rfl, rfl⟩⟩
        · exact .inl ⟨hsz, rfl, rfl⟩
end Go.Proofs.Ytioggdiicgfoaaa
