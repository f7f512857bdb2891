/- Keys: the law's wakes. Nothing that was there is turned. -/
import Derived.Test.YtioggdiicgfoaaaKeyW
import Derived.Test.YtioggdiicgfoaaaKeyG
import Derived.Deep.RegionHeld3
namespace Go.Proofs.Ytioggdiicgfoaaa
open Go.RowKit Rf Mem KM Bits Bv
attribute [local go_sem ↓] run_max2 run_min2
attribute [local go_sem] Oper.semAt_some
def down0 : Btn := ⟨2#32, 0#32, 0#32, true, false, List.replicate 24 0#8⟩
def downB : Btn := { down0 with keys := down0.keys.set 1 2#8 }
theorem down0_len : down0.keys.length = 24 := rfl
theorem downB_len : downB.keys.length = 24 := rfl
theorem deadB_len : deadB.keys.length = 24 := rfl
def wP : List Pr := [(1, 0, 0), (3, 1, 0), (6, 1, 1)]
def wB : List (BitVec 8) := [0x42#8, 0x20#8]
theorem press_w1 : pressL downB downB zBtn 2 1 3 = wP := by decide
theorem press_w2 : pressL downB downB downB 2 1 3 = [] := by decide
theorem press_w3 : pressL downB deadB deadB 2 1 3 = [] := by decide
theorem holds_w : Holds wB (payBits downB 2 1 3) := ⟨by decide, 2, by decide⟩
theorem read_w : rdB (bitsOf wB) 2 1 3 = downB := by decide
theorem build_down0 (w : World) : (Instr.build 33 #[(0, .int .u32 2), (3, .bool true)]).run Try.prog w = .ok (.agg (btnV down0).toArray) w := run_build w _ _ _ (by kernel_rfl)
/-- what wakes knows -/
structure WK (w V : World) (L : List Value) (gL gD gm gn : Nat) (A : Option Addr) (c : Nat) (A1 : Option Addr) (c1 : Nat) (A3 : Option Addr) (c3 : Nat) (ve vp : Value) : Prop where
  bel : Below w.heap.size w V
  l : V.heap[gL]? = some (.cells L.toArray 29 (0, 0))
  d : V.heap[gD]? = some (.cells (btnV downB).toArray 33 (0, 0))
  m : V.heap[gm]? = some (.cells (memV downB downB).toArray 35 (0, 0))
  n : V.heap[gn]? = some (.cells (memV downB downB).toArray 35 (0, 0))
  lay : LayN V L 3 [0] 2 0 A c A1 c1 A3 c3 ve
  p : SliceAt V 3 vp 3 (prs wP)
theorem WK.later {w V V' : World} {L : List Value} {gL gD gm gn : Nat} {A : Option Addr} {c : Nat} {A1 : Option Addr} {c1 : Nat} {A3 : Option Addr} {c3 : Nat} {ve vp : Value} (h : WK w V L gL gD gm gn A c A1 c1 A3 c3 ve vp) (b : Below V.heap.size V V') : WK w V' L gL gD gm gn A c A1 c1 A3 c3 ve vp :=
  ⟨below_step h.bel b, var_later h.l b, var_later h.d b, var_later h.m b, var_later h.n b, h.lay.later b, h.p.later b⟩
abbrev zL : Array Value := #[.slice none 0 0, .slice none 0 0, .slice none 0 0, .slice none 0 0, .int .i64 0, .int .i64 0, .int .i64 0, .int .i64 0, .int .i64 0, .int .i64 0, .int .i64 0]
theorem Presses_w (L : List Value) (A : Option Addr) (c : Nat) (A1 : Option Addr) (c1 : Nat) (A3 : Option Addr) (c3 : Nat) (ve : Value) (x y b : Btn) (l : List Pr) (w : World) (hx : x.keys.length = 24) (hy : y.keys.length = 24) (hb : b.keys.length = 24) (hl : pressL b x y 2 1 3 = l) (hL : LayN w L 3 [0] 2 0 A c A1 c1 A3 c3 ve) :
    Calls Try.prog 8 #[.agg L.toArray, .agg (memV x y).toArray, .agg (btnV b).toArray] w fun e w' => Below w.heap.size w w' ∧ ∃ A' c', e = .returned (.tuple #[.slice A' l.length c', .agg (memV b x).toArray]) ∧ SliceAt w' 3 (.slice A' l.length c') l.length (prs l) := by
  subst hl
  refine (Presses_of L 3 [0] 2 0 A c A1 c1 A3 c3 ve 2 1 3 x y b w rfl rfl rfl hx hy hb hL (fun g => presses1 g x y b 2 1 3 (by omega) (by omega) (by omega) hx hy hb)).mono ?_
  rintro e w' ⟨hB, v', rfl, ho⟩
  have h := sliceAt_of_own ho
  obtain ⟨A', c', rfl, _, _⟩ := h.form
  exact ⟨hB, A', c', rfl, h⟩
set_option maxHeartbeats 8000000 in
set_option maxRecDepth 100000 in
theorem wakes_c (w : World) : Calls Try.prog 5 #[] w fun e w' => e = .returned (.bool true) ∧ Below w.heap.size w w' := by
  have szB := btn_size downB_len
  have szZ := btn_size zBtn_len
  have szM := mem_size downB_len downB_len
  go_enter Try.func5, Try.ntmps5
  go_wp2_with fail
  refine (rows_c _).mono ?_
  rintro e V ⟨B, L, A, c, A1, c1, A3, c3, ve, rfl, hL, one⟩
  have szL := lay_size hL.len
  obtain ⟨V1, hW, VL, b1, ths⟩ := newv (V := V) L zL 29 (by rw [hL.len]; rfl)
  go_upto_region 2 with (first | (refine wpList_store_mid rfl 29 (.tmp 1) (.tmp 15) (by rfl) V.heap.size 0 L.toArray (by rfl) (by rfl) ths (by simpa using szL) (all_one one) ?_; rw [hW]) | fail)
  replace B := below_step B b1
  replace hL := hL.later b1
  have HL1 := Lib.hid hL
  have HB1 := Lib.hid B
  clear hW ths b1 one
  generalize V.heap.size = gL at *
  have G1 := old_at (new_at (w := V1) rfl (.cells zB 33)) (.cells zB 33)
  have G2 : ((V1.alloc (.cells zB 33)).alloc (.cells zB 33)).heap[V1.heap.size + 1]? = some (.cells zB 33 (0, 0)) := new_at (by simp) _
  have b2 : Below V1.heap.size V1 ((V1.alloc (.cells zB 33)).alloc (.cells zB 33)) := below_step (kbelow_new _ _) (kbelow_new _ _)
  obtain ⟨V2, hW2, VU, b3, far2, th2⟩ := fill_new (btnV zBtn) G1 (by rfl) b2 (Nat.le_refl _)
  have G3 := (far2 _ (by omega)).trans G2
  obtain ⟨V3, hW3, VD, b4, far3, th3⟩ := fill_new (btnV down0) G3 (by rfl) b3 (by omega)
  replace VU := (far3 _ (by omega)).trans VU
  have hb0 := build_zero V1
  have hb1 := build_down0 V1
  have sz1 : (Try.prog.info? 33).map (·.size) = some (btnV zBtn).toArray.size := by kernel_rfl
  have sz2 : (Try.prog.info? 33).map (·.size) = some (btnV down0).toArray.size := by kernel_rfl
  go_upto_region 3 with (first
    | refine wpList_build0 rfl 33 (by rfl) _ hb0 ?_
    | refine wpList_buildc2 rfl 33 0 3 _ _ (by rfl) _ hb1 ?_
    | (refine wpList_store_mid rfl 33 (.tmp 2) (.tmp 16) (by rfl) V1.heap.size 0 (btnV zBtn).toArray (by rfl) (by rfl) th2 sz1 (all_one (btnV_one _)) ?_; rw [hW2])
    | (refine wpList_store_mid rfl 33 (.tmp 3) (.tmp 17) (by rfl) (V1.heap.size + 1) 0 (btnV down0).toArray (by rfl) (by rfl) th3 sz2 (all_one (btnV_one _)) ?_; rw [hW3])
    | fail)
  replace B := below_step B b4
  replace hL := hL.later b4
  replace VL := var_later VL b4
  have n1 := (Array.getElem?_eq_some_iff.1 VL).1
  clear G1 G2 b2 hW2 b3 far2 th2 G3 hW3 far3 th3 hb0 hb1 sz1 sz2
  have gLD : gL ≠ V1.heap.size + 1 := by rintro rfl; rw [VL] at VD; cases VD
  have x0 := cell_list VD (i := 5 + 1) rfl
  have f0 := free_at VD (5 + 1)
  have VD2 : (V3.setCell ⟨V1.heap.size + 1, 6, none⟩ (.int .u8 2)).heap[V1.heap.size + 1]? = some (.cells (btnV downB).toArray 33 (0, 0)) := by rw [set_at VD 6]; rfl
  have VU2 := set_far (p := ⟨V1.heap.size + 1, 6, none⟩) VU (by simp only; omega) (.int .u8 2)
  have VL2 := set_far (p := ⟨V1.heap.size + 1, 6, none⟩) VL gLD (.int .u8 2)
  have bS : Below V1.heap.size V1 (V3.setCell ⟨V1.heap.size + 1, 6, none⟩ (.int .u8 2)) := b4.setCell (by simp only; omega) _
  go_upto_region 4 with (fail)
  replace hL := HL1.out.later bS
  replace B := below_step HB1.out bS
  clear VD VU VL b4 x0 f0 bS
  generalize V3.setCell ⟨V1.heap.size + 1, 6, none⟩ (.int .u8 2) = V4 at *
  generalize V1.heap.size = gU at *
  have RL := range_of VL2
  have RD := range_of VD2
  have RU := range_of VU2
  have hbm := build_mem (btnV downB) (btnV zBtn) rfl rfl V4
  go_wp2_with (first
    | refine wpList_load_g (by rfl) 29 (.tmp 1) (by rfl) gL 0 (by rfl) L _ RL Try.underlying29 rfl szL ?_
    | refine wpList_load_g (by rfl) 33 (.tmp 3) (by rfl) (gU + 1) 0 (by rfl) (btnV downB) _ RD Try.underlying33 rfl szB ?_
    | refine wpList_load_g (by rfl) 33 (.tmp 2) (by rfl) gU 0 (by rfl) (btnV zBtn) _ RU Try.underlying33 rfl szZ ?_
    | refine wpList_build2 rfl 35 (.tmp 22) (.tmp 23) (by rfl) _ _ (.agg (memV downB zBtn).toArray) (by rfl) (by rfl) hbm ?_
    | fail)
  refine (Presses_w L A c A1 c1 A3 c3 ve downB zBtn downB wP _ downB_len zBtn_len downB_len press_w1 hL).mono ?_
  rintro e V5 ⟨b5, Ap, cp, rfl, hp⟩
  replace hL := hL.later b5
  replace B := below_step B b5
  replace VL2 := var_later VL2 b5
  replace VD2 := var_later VD2 b5
  clear RL RD RU hbm VU2 b5
  obtain ⟨V6, hW, VM, b6, ths⟩ := newv (V := V5) (memV downB downB) zMem 35 (by rfl)
  have szM2 : (Try.prog.info? 35).map (·.size) = some (memV downB downB).toArray.size := by simpa using szM
  go_upto_region 5 with (first | (refine wpList_store_mid rfl 35 (.tmp 5) (.tmp 28) (by rfl) V5.heap.size 0 (memV downB downB).toArray (by rfl) (by rfl) ths szM2 (all_one (memV_one _ _)) ?_; rw [hW]) | fail)
  replace hL := hL.later b6
  replace B := below_step B b6
  replace VL2 := var_later VL2 b6
  replace VD2 := var_later VD2 b6
  replace hp := hp.later b6
  clear hW b6 ths
  generalize V5.heap.size = gm at *
  have RL := range_of VL2
  have RD := range_of VD2
  have RM := range_of VM
  go_wp2_with (first
    | refine wpList_load_g (by rfl) 29 (.tmp 1) (by rfl) gL 0 (by rfl) L _ RL Try.underlying29 rfl szL ?_
    | refine wpList_load_g (by rfl) 33 (.tmp 3) (by rfl) (gU + 1) 0 (by rfl) (btnV downB) _ RD Try.underlying33 rfl szB ?_
    | refine wpList_load_g (by rfl) 35 (.tmp 5) (by rfl) gm 0 (by rfl) (memV downB downB) _ RM Try.underlying35 rfl szM ?_
    | fail)
  refine (Presses_w L A c A1 c1 A3 c3 ve downB downB downB [] _ downB_len downB_len downB_len press_w2 hL).mono ?_
  rintro e V7 ⟨b7, Aq, cq, rfl, hq⟩
  replace hL := hL.later b7
  replace B := below_step B b7
  replace VL2 := var_later VL2 b7
  replace VD2 := var_later VD2 b7
  replace VM := var_later VM b7
  replace hp := hp.later b7
  clear RL RD RM hq b7
  obtain ⟨V8, hW, VN, b8, ths⟩ := newv (V := V7) (memV downB downB) zMem 35 (by rfl)
  go_upto_region 6 with (first | (refine wpList_store_mid rfl 35 (.tmp 7) (.tmp 35) (by rfl) V7.heap.size 0 (memV downB downB).toArray (by rfl) (by rfl) ths szM2 (all_one (memV_one _ _)) ?_; rw [hW]) | fail)
  have H : WK w V8 L gL (gU + 1) gm V7.heap.size A c A1 c1 A3 c3 ve (.slice Ap 3 cp) := ⟨below_step B b8, var_later VL2 b8, var_later VD2 b8, var_later VM b8, VN, hL.later b8, hp.later b8⟩
  clear hW b8 ths VL2 VD2 VM VN hL hp B
  generalize V7.heap.size = gn at *
  refine Code.wp_mono (Q := nq (fun a W => ∃ u15 u16 u17 u18 u19 u20 u21 u22 u23 u24 u25 u26 u27 u28 u29 u30 u31 u32 u33 u34 u35 u36 u37 u38 u39 u40 u41 u42 : Value, ∃ (Ar : Option Addr) (cr gr : Nat), a = { tmps := (([.bool false, .pointer (some ⟨gL, 0, none⟩), .pointer (some ⟨gU, 0, none⟩), .pointer (some ⟨gU + 1, 0, none⟩), .slice Ap 3 cp, .pointer (some ⟨gm, 0, none⟩), .slice Aq 0 cq, .pointer (some ⟨gn, 0, none⟩), .slice Ar 0 cr, .pointer (some ⟨gr, 0, none⟩), undef, undef, undef, undef, undef, u15, u16, u17, u18, u19, u20, u21, u22, u23, u24, u25, u26, u27, u28, u29, u30, u31, u32, u33, u34, u35, u36, u37, u38, u39, u40, u41, u42, undef, undef, undef, undef, undef, undef, undef] ++ ([undef, undef, undef, undef, undef, undef, undef, undef, undef, undef, undef, undef, undef, undef, undef, undef, undef, undef, undef, undef, undef, undef, undef, undef, undef, undef, undef, undef, undef, undef, undef, undef, undef, undef, undef, undef, undef, undef, undef, undef, undef, undef, undef, undef, undef, undef, undef, undef, undef, undef] ++ ([undef, undef, undef, undef, undef, undef, undef, undef, undef, undef, undef, undef, undef, undef, undef, undef, undef, undef, undef, undef, undef, undef, undef, undef, undef])) : List Value)).toArray, defers := [] } ∧
      WK w W L gL (gU + 1) gm gn A c A1 c1 A3 c3 ve (.slice Ap 3 cp))) (fun e a W9 hR => ?_) ?_
  rotate_left
  · skip
    refine wp_region_held_drew (S := (fun w' => w'.rangeAt gL 0 L ∧ w'.rangeAt (gU + 1) 0 (btnV downB))) (by kernel_rfl) ?_ (fun hHeld => ?_)
    · exact ⟨range_of H.l, range_of H.d⟩
    have Bb : Below V8.heap.size V8 V8.drew := (Below.refl _ V8).drew
    generalize V8.drew = V at *
    refine wpAnyH_take (i := 0) (v := .agg (L : List Value).toArray) rfl (by kernel_rfl) (by kernel_rfl) (by kernel_rfl) (fun _ _ _ h => h) (yieldsIf_load_mid rfl 29 (.tmp 1) rfl (gL) 0 rfl L _ (fun w' h => h.1) (by first | exact Try.underlying29) rfl (by first | assumption | (simp only [*]; kernel_rfl))) (by assumption) ?_
    simp only [List.getElem_toArray, List.getElem_cons_succ, List.getElem_cons_zero, Act.put, List.setIfInBounds_toArray, List.set_cons_zero, List.set_cons_succ]
    refine wpAnyH_take (i := 2) (v := .agg ((btnV downB) : List Value).toArray) rfl (by kernel_rfl) (by kernel_rfl) (by kernel_rfl) (fun _ _ _ h => h) (yieldsIf_load_mid rfl 33 (.tmp 3) rfl (gU + 1) 0 rfl (btnV downB) _ (fun w' h => h.2) (by first | exact Try.underlying33) rfl (by first | assumption | (simp only [*]; kernel_rfl))) (by assumption) ?_
    simp only [List.getElem_toArray, List.getElem_cons_succ, List.getElem_cons_zero, Act.put, List.setIfInBounds_toArray, List.set_cons_zero, List.set_cons_succ]
    clear hHeld
    refine wpAnyH_ready (rs := [1, 7]) (by kernel_rfl) (by simp) ?_
    refine AllReadyH.cons rfl (fun K hK => ?_) (AllReadyH.cons rfl (fun K hK => ?_) AllReadyH.nil)
    · skip
      go_simp
      refine (Dead_c _).mono ?_
      rintro e V ⟨rfl, b⟩
      replace Bb := below_step Bb b
      try replace GZ := var_later GZ b
      clear b
      refine hK.out _ _ ⟨range_of (H.later Bb).l, range_of (H.later Bb).d⟩ (fun _ => ?_)
      clear hK K
      try simp only [List.getElem_toArray, List.getElem_cons_succ, List.getElem_cons_zero, Act.put, List.setIfInBounds_toArray, List.set_cons_zero, List.set_cons_succ]
      refine wpAnyH_ready (rs := [3, 7]) (by kernel_rfl) (by simp) ?_
      refine AllReadyH.cons rfl (fun K hK => ?_) (AllReadyH.cons rfl (fun K hK => ?_) AllReadyH.nil)
      · skip
        go_simp
        refine (Presses_w L A c A1 c1 A3 c3 ve deadB deadB downB [] _ deadB_len deadB_len downB_len press_w3 (H.later Bb).lay).mono ?_
        rintro e V ⟨b, Ar, cr, rfl, _⟩
        replace Bb := below_step Bb b
        try replace GZ := var_later GZ b
        clear b
        refine hK.out _ _ ⟨range_of (H.later Bb).l, range_of (H.later Bb).d⟩ (fun _ => ?_)
        clear hK K
        try simp only [List.getElem_toArray, List.getElem_cons_succ, List.getElem_cons_zero, Act.put, List.setIfInBounds_toArray, List.set_cons_zero, List.set_cons_succ]
        have hHeld : V.rangeAt gL 0 L ∧ V.rangeAt (gU + 1) 0 (btnV downB) := ⟨range_of (H.later Bb).l, range_of (H.later Bb).d⟩
        refine wpAnyH_take (i := 4) (v := ?_) rfl (by kernel_rfl) (by kernel_rfl) (by kernel_rfl) (fun _ _ _ h => h) (Or.inl ⟨by rfl, ?_⟩) (by assumption) ?_
        rotate_left
        · intro w hSw
          try dsimp only at hSw
          go_simp
          try with_reducible rfl
        simp only [List.getElem_toArray, List.getElem_cons_succ, List.getElem_cons_zero, Act.put, List.setIfInBounds_toArray, List.set_cons_zero, List.set_cons_succ]
        refine wpAnyH_take (i := 5) (v := ?_) rfl (by kernel_rfl) (by kernel_rfl) (by kernel_rfl) (fun _ _ _ h => h) (Or.inl ⟨by rfl, ?_⟩) (by assumption) ?_
        rotate_left
        · intro w hSw
          try dsimp only at hSw
          go_simp
          try with_reducible rfl
        simp only [List.getElem_toArray, List.getElem_cons_succ, List.getElem_cons_zero, Act.put, List.setIfInBounds_toArray, List.set_cons_zero, List.set_cons_succ]
        refine wpAnyH_take (i := 6) (v := ?_) rfl (by kernel_rfl) (by kernel_rfl) (by kernel_rfl) (fun _ _ _ h => h) (Or.inl ⟨by rfl, ?_⟩) (by assumption) ?_
        rotate_left
        · intro w hSw
          try dsimp only at hSw
          go_simp
          try with_reducible rfl
        simp only [List.getElem_toArray, List.getElem_cons_succ, List.getElem_cons_zero, Act.put, List.setIfInBounds_toArray, List.set_cons_zero, List.set_cons_succ]
        clear hHeld
        refine wpAnyH_ready (rs := [7]) (by kernel_rfl) (by simp) ?_
        refine AllReadyH.cons rfl (fun K hK => ?_) AllReadyH.nil
        have GZ := new_at (w := V) rfl (.cells zMem 35)
        have b := kbelow_new V (.cells zMem 35)
        have hgr : V8.heap.size ≤ V.heap.size := Bb.size
        go_simp
        replace Bb := below_step Bb b
        clear b
        generalize V.heap.size = gr at *
        generalize V.alloc (.cells zMem 35) = V at *
        refine hK.out _ _ ⟨range_of (H.later Bb).l, range_of (H.later Bb).d⟩ (fun _ => ?_)
        clear hK K
        try simp only [List.getElem_toArray, List.getElem_cons_succ, List.getElem_cons_zero, Act.put, List.setIfInBounds_toArray, List.set_cons_zero, List.set_cons_succ]
        refine wpAnyH_ready (rs := [8]) (by kernel_rfl) (by simp) ?_
        refine AllReadyH.cons rfl (fun K hK => ?_) AllReadyH.nil
        go_simp
        refine hK.out _ _ ⟨range_of (H.later Bb).l, range_of (H.later Bb).d⟩ (fun _ => ?_)
        clear hK K
        try simp only [List.getElem_toArray, List.getElem_cons_succ, List.getElem_cons_zero, Act.put, List.setIfInBounds_toArray, List.set_cons_zero, List.set_cons_succ]
        refine wpAnyH_ready (rs := [9]) (by kernel_rfl) (by simp) ?_
        refine AllReadyH.cons rfl (fun K hK => ?_) AllReadyH.nil
        obtain ⟨V', hW, F, b, far, ths⟩ := fill_new (memV downB deadB) GZ (by rfl) Bb hgr
        refine wp_store_mid 35 (.tmp 9) (.tmp 42) (by rfl) gr 0 (memV downB deadB).toArray (by rfl) (by rfl) ths (by kernel_rfl) (all_one (memV_one _ _)) ?_
        rw [hW]
        clear hW ths far F Bb GZ
        have Bb := b
        clear b
        refine hK.out _ _ ⟨range_of (H.later Bb).l, range_of (H.later Bb).d⟩ (fun _ => ?_)
        clear hK K
        try simp only [List.getElem_toArray, List.getElem_cons_succ, List.getElem_cons_zero, Act.put, List.setIfInBounds_toArray, List.set_cons_zero, List.set_cons_succ]
        refine wpAnyH_done (by kernel_rfl) ?_ _
        exact ⟨_, _, _, _, _, _, _, _, _, _, _, _, _, _, _, _, _, _, _, _, _, _, _, _, _, _, _, _, _, _, _, rfl, H.later Bb⟩
      · skip
        have GZ := new_at (w := V) rfl (.cells zMem 35)
        have b := kbelow_new V (.cells zMem 35)
        have hgr : V8.heap.size ≤ V.heap.size := Bb.size
        go_simp
        replace Bb := below_step Bb b
        clear b
        generalize V.heap.size = gr at *
        generalize V.alloc (.cells zMem 35) = V at *
        refine hK.out _ _ ⟨range_of (H.later Bb).l, range_of (H.later Bb).d⟩ (fun _ => ?_)
        clear hK K
        try simp only [List.getElem_toArray, List.getElem_cons_succ, List.getElem_cons_zero, Act.put, List.setIfInBounds_toArray, List.set_cons_zero, List.set_cons_succ]
        refine wpAnyH_ready (rs := [3]) (by kernel_rfl) (by simp) ?_
        refine AllReadyH.cons rfl (fun K hK => ?_) AllReadyH.nil
        go_simp
        refine (Presses_w L A c A1 c1 A3 c3 ve deadB deadB downB [] _ deadB_len deadB_len downB_len press_w3 (H.later Bb).lay).mono ?_
        rintro e V ⟨b, Ar, cr, rfl, _⟩
        replace Bb := below_step Bb b
        try replace GZ := var_later GZ b
        clear b
        refine hK.out _ _ ⟨range_of (H.later Bb).l, range_of (H.later Bb).d⟩ (fun _ => ?_)
        clear hK K
        try simp only [List.getElem_toArray, List.getElem_cons_succ, List.getElem_cons_zero, Act.put, List.setIfInBounds_toArray, List.set_cons_zero, List.set_cons_succ]
        have hHeld : V.rangeAt gL 0 L ∧ V.rangeAt (gU + 1) 0 (btnV downB) := ⟨range_of (H.later Bb).l, range_of (H.later Bb).d⟩
        refine wpAnyH_take (i := 4) (v := ?_) rfl (by kernel_rfl) (by kernel_rfl) (by kernel_rfl) (fun _ _ _ h => h) (Or.inl ⟨by rfl, ?_⟩) (by assumption) ?_
        rotate_left
        · intro w hSw
          try dsimp only at hSw
          go_simp
          try with_reducible rfl
        simp only [List.getElem_toArray, List.getElem_cons_succ, List.getElem_cons_zero, Act.put, List.setIfInBounds_toArray, List.set_cons_zero, List.set_cons_succ]
        refine wpAnyH_take (i := 5) (v := ?_) rfl (by kernel_rfl) (by kernel_rfl) (by kernel_rfl) (fun _ _ _ h => h) (Or.inl ⟨by rfl, ?_⟩) (by assumption) ?_
        rotate_left
        · intro w hSw
          try dsimp only at hSw
          go_simp
          try with_reducible rfl
        simp only [List.getElem_toArray, List.getElem_cons_succ, List.getElem_cons_zero, Act.put, List.setIfInBounds_toArray, List.set_cons_zero, List.set_cons_succ]
        refine wpAnyH_take (i := 6) (v := ?_) rfl (by kernel_rfl) (by kernel_rfl) (by kernel_rfl) (fun _ _ _ h => h) (Or.inl ⟨by rfl, ?_⟩) (by assumption) ?_
        rotate_left
        · intro w hSw
          try dsimp only at hSw
          go_simp
          try with_reducible rfl
        simp only [List.getElem_toArray, List.getElem_cons_succ, List.getElem_cons_zero, Act.put, List.setIfInBounds_toArray, List.set_cons_zero, List.set_cons_succ]
        clear hHeld
        refine wpAnyH_ready (rs := [8]) (by kernel_rfl) (by simp) ?_
        refine AllReadyH.cons rfl (fun K hK => ?_) AllReadyH.nil
        go_simp
        refine hK.out _ _ ⟨range_of (H.later Bb).l, range_of (H.later Bb).d⟩ (fun _ => ?_)
        clear hK K
        try simp only [List.getElem_toArray, List.getElem_cons_succ, List.getElem_cons_zero, Act.put, List.setIfInBounds_toArray, List.set_cons_zero, List.set_cons_succ]
        refine wpAnyH_ready (rs := [9]) (by kernel_rfl) (by simp) ?_
        refine AllReadyH.cons rfl (fun K hK => ?_) AllReadyH.nil
        obtain ⟨V', hW, F, b, far, ths⟩ := fill_new (memV downB deadB) GZ (by rfl) Bb hgr
        refine wp_store_mid 35 (.tmp 9) (.tmp 42) (by rfl) gr 0 (memV downB deadB).toArray (by rfl) (by rfl) ths (by kernel_rfl) (all_one (memV_one _ _)) ?_
        rw [hW]
        clear hW ths far F Bb GZ
        have Bb := b
        clear b
        refine hK.out _ _ ⟨range_of (H.later Bb).l, range_of (H.later Bb).d⟩ (fun _ => ?_)
        clear hK K
        try simp only [List.getElem_toArray, List.getElem_cons_succ, List.getElem_cons_zero, Act.put, List.setIfInBounds_toArray, List.set_cons_zero, List.set_cons_succ]
        refine wpAnyH_done (by kernel_rfl) ?_ _
        exact ⟨_, _, _, _, _, _, _, _, _, _, _, _, _, _, _, _, _, _, _, _, _, _, _, _, _, _, _, _, _, _, _, rfl, H.later Bb⟩
    · skip
      have GZ := new_at (w := V) rfl (.cells zMem 35)
      have b := kbelow_new V (.cells zMem 35)
      have hgr : V8.heap.size ≤ V.heap.size := Bb.size
      go_simp
      replace Bb := below_step Bb b
      clear b
      generalize V.heap.size = gr at *
      generalize V.alloc (.cells zMem 35) = V at *
      refine hK.out _ _ ⟨range_of (H.later Bb).l, range_of (H.later Bb).d⟩ (fun _ => ?_)
      clear hK K
      try simp only [List.getElem_toArray, List.getElem_cons_succ, List.getElem_cons_zero, Act.put, List.setIfInBounds_toArray, List.set_cons_zero, List.set_cons_succ]
      refine wpAnyH_ready (rs := [1]) (by kernel_rfl) (by simp) ?_
      refine AllReadyH.cons rfl (fun K hK => ?_) AllReadyH.nil
      go_simp
      refine (Dead_c _).mono ?_
      rintro e V ⟨rfl, b⟩
      replace Bb := below_step Bb b
      try replace GZ := var_later GZ b
      clear b
      refine hK.out _ _ ⟨range_of (H.later Bb).l, range_of (H.later Bb).d⟩ (fun _ => ?_)
      clear hK K
      try simp only [List.getElem_toArray, List.getElem_cons_succ, List.getElem_cons_zero, Act.put, List.setIfInBounds_toArray, List.set_cons_zero, List.set_cons_succ]
      refine wpAnyH_ready (rs := [3]) (by kernel_rfl) (by simp) ?_
      refine AllReadyH.cons rfl (fun K hK => ?_) AllReadyH.nil
      go_simp
      refine (Presses_w L A c A1 c1 A3 c3 ve deadB deadB downB [] _ deadB_len deadB_len downB_len press_w3 (H.later Bb).lay).mono ?_
      rintro e V ⟨b, Ar, cr, rfl, _⟩
      replace Bb := below_step Bb b
      try replace GZ := var_later GZ b
      clear b
      refine hK.out _ _ ⟨range_of (H.later Bb).l, range_of (H.later Bb).d⟩ (fun _ => ?_)
      clear hK K
      try simp only [List.getElem_toArray, List.getElem_cons_succ, List.getElem_cons_zero, Act.put, List.setIfInBounds_toArray, List.set_cons_zero, List.set_cons_succ]
      have hHeld : V.rangeAt gL 0 L ∧ V.rangeAt (gU + 1) 0 (btnV downB) := ⟨range_of (H.later Bb).l, range_of (H.later Bb).d⟩
      refine wpAnyH_take (i := 4) (v := ?_) rfl (by kernel_rfl) (by kernel_rfl) (by kernel_rfl) (fun _ _ _ h => h) (Or.inl ⟨by rfl, ?_⟩) (by assumption) ?_
      rotate_left
      · intro w hSw
        try dsimp only at hSw
        go_simp
        try with_reducible rfl
      simp only [List.getElem_toArray, List.getElem_cons_succ, List.getElem_cons_zero, Act.put, List.setIfInBounds_toArray, List.set_cons_zero, List.set_cons_succ]
      refine wpAnyH_take (i := 5) (v := ?_) rfl (by kernel_rfl) (by kernel_rfl) (by kernel_rfl) (fun _ _ _ h => h) (Or.inl ⟨by rfl, ?_⟩) (by assumption) ?_
      rotate_left
      · intro w hSw
        try dsimp only at hSw
        go_simp
        try with_reducible rfl
      simp only [List.getElem_toArray, List.getElem_cons_succ, List.getElem_cons_zero, Act.put, List.setIfInBounds_toArray, List.set_cons_zero, List.set_cons_succ]
      refine wpAnyH_take (i := 6) (v := ?_) rfl (by kernel_rfl) (by kernel_rfl) (by kernel_rfl) (fun _ _ _ h => h) (Or.inl ⟨by rfl, ?_⟩) (by assumption) ?_
      rotate_left
      · intro w hSw
        try dsimp only at hSw
        go_simp
        try with_reducible rfl
      simp only [List.getElem_toArray, List.getElem_cons_succ, List.getElem_cons_zero, Act.put, List.setIfInBounds_toArray, List.set_cons_zero, List.set_cons_succ]
      clear hHeld
      refine wpAnyH_ready (rs := [8]) (by kernel_rfl) (by simp) ?_
      refine AllReadyH.cons rfl (fun K hK => ?_) AllReadyH.nil
      go_simp
      refine hK.out _ _ ⟨range_of (H.later Bb).l, range_of (H.later Bb).d⟩ (fun _ => ?_)
      clear hK K
      try simp only [List.getElem_toArray, List.getElem_cons_succ, List.getElem_cons_zero, Act.put, List.setIfInBounds_toArray, List.set_cons_zero, List.set_cons_succ]
      refine wpAnyH_ready (rs := [9]) (by kernel_rfl) (by simp) ?_
      refine AllReadyH.cons rfl (fun K hK => ?_) AllReadyH.nil
      obtain ⟨V', hW, F, b, far, ths⟩ := fill_new (memV downB deadB) GZ (by rfl) Bb hgr
      refine wp_store_mid 35 (.tmp 9) (.tmp 42) (by rfl) gr 0 (memV downB deadB).toArray (by rfl) (by rfl) ths (by kernel_rfl) (all_one (memV_one _ _)) ?_
      rw [hW]
      clear hW ths far F Bb GZ
      have Bb := b
      clear b
      refine hK.out _ _ ⟨range_of (H.later Bb).l, range_of (H.later Bb).d⟩ (fun _ => ?_)
      clear hK K
      try simp only [List.getElem_toArray, List.getElem_cons_succ, List.getElem_cons_zero, Act.put, List.setIfInBounds_toArray, List.set_cons_zero, List.set_cons_succ]
      refine wpAnyH_done (by kernel_rfl) ?_ _
      exact ⟨_, _, _, _, _, _, _, _, _, _, _, _, _, _, _, _, _, _, _, _, _, _, _, _, _, _, _, _, _, _, _, rfl, H.later Bb⟩
  cases e <;> try exact hR.elim
  obtain ⟨u15, u16, u17, u18, u19, u20, u21, u22, u23, u24, u25, u26, u27, u28, u29, u30, u31, u32, u33, u34, u35, u36, u37, u38, u39, u40, u41, u42, Ar, cr, gr, rfl, H9⟩ := hR
  clear H
  simp only [List.cons_append, List.nil_append]
  have RL := range_of H9.l
  have RD := range_of H9.d
  go_wp2_with (first
    | refine wpList_load_g (by rfl) 29 (.tmp 1) (by rfl) gL 0 (by rfl) L _ RL Try.underlying29 rfl szL ?_
    | refine wpList_load_g (by rfl) 33 (.tmp 3) (by rfl) (gU + 1) 0 (by rfl) (btnV downB) _ RD Try.underlying33 rfl szB ?_
    | fail)
  refine (Put_c L 3 [0] 2 0 A c A1 c1 A3 c3 ve 2 1 3 downB _ rfl rfl rfl downB_len H9.lay).mono ?_
  rintro e V10 ⟨b10, Ab, cb, B', rfl, ob, hB', hszB⟩
  obtain rfl := holds_unique hB' holds_w
  clear hB' RL RD hszB
  have H10 := H9.later b10
  have hb := sliceAt_of_own ob
  clear ob H9
  have RL := range_of H10.l
  go_wp2_with (first
    | refine wpList_load_g (by rfl) 29 (.tmp 1) (by rfl) gL 0 (by rfl) L _ RL Try.underlying29 rfl szL ?_
    | fail)
  refine (Take_c L 3 [0] 2 0 A c A1 c1 A3 c3 ve 2 1 3 (.slice Ab wB.length cb) wB _ rfl rfl rfl H10.lay hb).mono ?_
  rintro e V11 ⟨b11, r, err, rfl, hT, _⟩
  have hre : r = downB ∧ err = 0 := by
    rcases hT with ⟨h, _⟩ | ⟨_, ⟨_, h2, h3⟩ | ⟨h, _⟩⟩
    · exact absurd rfl h
    · exact ⟨h2.trans read_w, h3⟩
    · rw [read_w] at h; exact absurd holds_w h
  obtain ⟨rfl, rfl⟩ := hre
  clear hT RL
  have H11 := H10.later b11
  replace hb := hb.later b11
  clear H10 b10 b11
  obtain ⟨V12, hW, VX, b12, ths⟩ := newv (V := V11) (btnV downB) zB 33 (by rfl)
  have szB2 : (Try.prog.info? 33).map (·.size) = some (btnV downB).toArray.size := by simpa using szB
  go_upto_region 9 with (first | (refine wpList_store_mid rfl 33 (.tmp 11) (.tmp 50) (by rfl) V11.heap.size 0 (btnV downB).toArray (by rfl) (by rfl) ths szB2 (all_one (btnV_one _)) ?_; rw [hW]) | fail)
  have H12 := H11.later b12
  replace hb := hb.later b12
  clear hW ths b12 H11
  generalize V11.heap.size = gx at *
  refine Code.wp_mono (Q := nq (fun a W => ∃ u15 u16 u17 u18 u19 u20 u21 u22 u23 u24 u25 u26 u27 u28 u29 u30 u31 u32 u33 u34 u35 u36 u37 u38 u39 u40 u41 u42 u43 u44 u45 u46 u47 u48 u49 u50 u51 u52 u53 u54 u55 u56 u57 u58 u59 u60 u61 : Value, ∃ (gz : Nat), a = { tmps := (([.bool false, .pointer (some ⟨gL, 0, none⟩), .pointer (some ⟨gU, 0, none⟩), .pointer (some ⟨gU + 1, 0, none⟩), .slice Ap 3 cp, .pointer (some ⟨gm, 0, none⟩), .slice Aq 0 cq, .pointer (some ⟨gn, 0, none⟩), .slice Ar 0 cr, .pointer (some ⟨gr, 0, none⟩), .slice Ab 2 cb, .pointer (some ⟨gx, 0, none⟩), .int .i64 0, .pointer (some ⟨gz, 0, none⟩), .int .i64 41, u15, u16, u17, u18, u19, u20, u21, u22, u23, u24, u25, u26, u27, u28, u29, u30, u31, u32, u33, u34, u35, u36, u37, u38, u39, u40, u41, u42, u43, u44, u45, u46, u47, u48, u49] ++ ([u50, u51, u52, u53, u54, u55, u56, u57, u58, u59, u60, u61, undef, undef, undef, undef, undef, undef, undef, undef, undef, undef, undef, undef, undef, undef, undef, undef, undef, undef, undef, undef, undef, undef, undef, undef, undef, undef, undef, undef, undef, undef, undef, undef, undef, undef, undef, undef, undef, undef] ++ ([undef, undef, undef, undef, undef, undef, undef, undef, undef, undef, undef, undef, undef, undef, undef, undef, undef, undef, undef, undef, undef, undef, undef, undef, undef])) : List Value)).toArray, defers := [] } ∧
      Below V12.heap.size V12 W)) (fun e a W13 hR => ?_) ?_
  rotate_left
  · skip
    obtain ⟨i0, hi, hz0, hz1, hz2⟩ := info_parts info_u8
    have hb2 : SliceAt V12 1 (.slice Ab 2 cb) 2 (u8s wB) := hb
    refine Node.region_key (fun w' => w'.rangeAt gL 0 L) 2 #[true, true, true, true, true, true, true, true, true, true, true, false, false] (fun a W => ∃ (ga g4 : Nat) (Aa : Option Addr) (ca : Nat) (A5 : Option Addr) (c5 : Nat) (gz : Nat), a = { tmps := (([.bool false, .pointer (some ⟨gL, 0, none⟩), .pointer (some ⟨gU, 0, none⟩), .pointer (some ⟨gU + 1, 0, none⟩), .slice Ap 3 cp, .pointer (some ⟨gm, 0, none⟩), .slice Aq 0 cq, .pointer (some ⟨gn, 0, none⟩), .slice Ar 0 cr, .pointer (some ⟨gr, 0, none⟩), .slice Ab 2 cb, .pointer (some ⟨gx, 0, none⟩), .int .i64 0, .pointer (some ⟨gz, 0, none⟩), undef, u15, u16, u17, u18, u19, u20, u21, u22, u23, u24, u25, u26, u27, u28, u29, u30, u31, u32, u33, u34, u35, u36, u37, u38, u39, u40, u41, u42, .agg L.toArray, .agg (btnV downB).toArray, .slice Ab 2 cb, .tuple #[.agg (btnV downB).toArray, .int .i64 0], .agg L.toArray, .slice Ab 2 cb, .tuple #[.agg (btnV downB).toArray, .int .i64 0]] ++ ([.agg (btnV downB).toArray, .int .i64 0, .tuple #[.agg (btnV zBtn).toArray, .int .i64 41], .agg L.toArray, .slice (some ⟨ga, 0, none⟩) 0 0, .slice Ab 2 cb, .slice Aa 2 ca, .slice (some ⟨g4, 0, none⟩) 1 1, .slice A5 3 c5, .tuple #[.agg (btnV zBtn).toArray, .int .i64 41], .agg (btnV zBtn).toArray, .int .i64 41, undef, undef, undef, undef, undef, undef, undef, undef, undef, undef, undef, undef, undef, undef, undef, undef, undef, undef, undef, undef, undef, undef, undef, undef, undef, undef, undef, undef, undef, undef, undef, undef, undef, undef, undef, undef, undef, undef] ++ ([undef, undef, undef, undef, undef, undef, undef, undef, undef, undef, undef, undef, undef, undef, undef, undef, undef, undef, undef, undef, undef, undef, undef, undef, undef])) : List Value)).toArray, defers := [] } ∧ Below V12.heap.size V12 W ∧ V12.heap.size ≤ gz ∧ W.heap[gz]? = some (.cells zB 33 (0, 0))) ?_ (fun kC => ?_)
    · rintro a V hS ⟨ga, g4, Aa, ca, A5, c5, gz, rfl, Bb, hgz, GZ⟩
      try simp only [List.cons_append, List.nil_append]
      refine wpAnyH_ready (rs := [11]) (by kernel_rfl) (by simp) ?_
      refine AllReadyH.cons rfl (fun K hK => ?_) AllReadyH.nil
      obtain ⟨V', hW, F, b, far, ths⟩ := fill_new (btnV zBtn) GZ (by rfl) Bb hgz
      refine wp_store_mid 33 (.tmp 13) (.tmp 60) (by rfl) gz 0 (btnV zBtn).toArray (by rfl) (by rfl) ths (by kernel_rfl) (all_one (btnV_one _)) ?_
      rw [hW]
      clear hW ths far F Bb GZ
      have Bb := b
      clear b
      generalize V' = V at *
      refine hK.out _ _ (range_of (H12.later Bb).l) (fun _ => ?_)
      clear hK K
      try simp only [List.getElem_toArray, List.getElem_cons_succ, List.getElem_cons_zero, Act.put, List.setIfInBounds_toArray, List.set_cons_zero, List.set_cons_succ]
      refine wpAnyH_ready (rs := [12]) (by kernel_rfl) (by simp) ?_
      refine AllReadyH.cons rfl (fun K hK => ?_) AllReadyH.nil
      refine Node.wp_set (.int .i64 41) (.tmp 61) (.inr rfl) (by rfl) ?_
      refine hK.out _ _ (range_of (H12.later Bb).l) (fun _ => ?_)
      clear hK K
      try simp only [List.getElem_toArray, List.getElem_cons_succ, List.getElem_cons_zero, Act.put, List.setIfInBounds_toArray, List.set_cons_zero, List.set_cons_succ]
      refine wpAnyH_done (by kernel_rfl) ?_ _
      exact ⟨_, _, _, _, _, _, _, _, _, _, _, _, _, _, _, _, _, _, _, _, _, _, _, _, _, _, _, _, _, _, _, _, _, _, _, _, _, _, _, _, _, _, _, _, _, _, _, _, rfl, Bb⟩
    refine Node.region_key (fun w' => w'.rangeAt gL 0 L) 6 #[true, true, true, true, true, true, false, false, false, false, true, false, false] (fun a W => ∃ (ga g4 : Nat) (Aa : Option Addr) (ca : Nat) (A5 : Option Addr) (c5 : Nat) (gz : Nat), a = { tmps := (([.bool false, .pointer (some ⟨gL, 0, none⟩), .pointer (some ⟨gU, 0, none⟩), .pointer (some ⟨gU + 1, 0, none⟩), .slice Ap 3 cp, .pointer (some ⟨gm, 0, none⟩), .slice Aq 0 cq, .pointer (some ⟨gn, 0, none⟩), .slice Ar 0 cr, .pointer (some ⟨gr, 0, none⟩), .slice Ab 2 cb, .pointer (some ⟨gx, 0, none⟩), .int .i64 0, .pointer (some ⟨gz, 0, none⟩), undef, u15, u16, u17, u18, u19, u20, u21, u22, u23, u24, u25, u26, u27, u28, u29, u30, u31, u32, u33, u34, u35, u36, u37, u38, u39, u40, u41, u42, .agg L.toArray, .agg (btnV downB).toArray, .slice Ab 2 cb, .tuple #[.agg (btnV downB).toArray, .int .i64 0], .agg L.toArray, .slice Ab 2 cb, .tuple #[.agg (btnV downB).toArray, .int .i64 0]] ++ ([.agg (btnV downB).toArray, .int .i64 0, undef, .agg L.toArray, .slice (some ⟨ga, 0, none⟩) 0 0, .slice Ab 2 cb, .slice Aa 2 ca, .slice (some ⟨g4, 0, none⟩) 1 1, .slice A5 3 c5, undef, undef, undef, undef, undef, undef, undef, undef, undef, undef, undef, undef, undef, undef, undef, undef, undef, undef, undef, undef, undef, undef, undef, undef, undef, undef, undef, undef, undef, undef, undef, undef, undef, undef, undef, undef, undef, undef, undef, undef, undef] ++ ([undef, undef, undef, undef, undef, undef, undef, undef, undef, undef, undef, undef, undef, undef, undef, undef, undef, undef, undef, undef, undef, undef, undef, undef, undef])) : List Value)).toArray, defers := [] } ∧ Below V12.heap.size V12 W ∧ SliceAt W 1 (.slice A5 3 c5) 3 (u8s (wB ++ [0#8])) ∧ V12.heap.size ≤ gz ∧ W.heap[gz]? = some (.cells zB 33 (0, 0))) ?_ (fun kB => ?_)
    · rintro a V hS ⟨ga, g4, Aa, ca, A5, c5, gz, rfl, Bb, O5, hgz, GZ⟩
      try simp only [List.cons_append, List.nil_append]
      refine wpAnyH_ready (rs := [6]) (by kernel_rfl) (by simp) ?_
      refine AllReadyH.cons rfl (fun K hK => ?_) AllReadyH.nil
      refine Node.wp_fn 6 [.tmp 53, .tmp 58] _ [.agg L.toArray, .slice A5 3 c5] (by rfl) (by rfl) (enters Try.func6 (by kernel_rfl) rfl) (Take_c L 3 [0] 2 0 A c A1 c1 A3 c3 ve 2 1 3 (.slice A5 3 c5) (wB ++ [0#8]) _ rfl rfl rfl (H12.later Bb).lay O5) ?_
      rintro e V ⟨b, r, err, rfl, hT, _⟩
      have hre : r = zBtn ∧ err = 41 := by
        rcases hT with ⟨_, h2, h3⟩ | ⟨h, _⟩
        · exact ⟨h2, h3⟩
        · exact absurd h (by decide)
      obtain ⟨rfl, rfl⟩ := hre
      refine ⟨_, rfl, ?_⟩
      replace Bb := below_step Bb b
      try replace GZ := var_later GZ b
      clear b hT O5
      refine hK.out _ _ (range_of (H12.later Bb).l) (fun _ => ?_)
      clear hK K
      try simp only [List.getElem_toArray, List.getElem_cons_succ, List.getElem_cons_zero, Act.put, List.setIfInBounds_toArray, List.set_cons_zero, List.set_cons_succ]
      have hHeld : V.rangeAt gL 0 L := range_of (H12.later Bb).l
      refine wpAnyH_take (i := 7) (v := ?_) rfl (by kernel_rfl) (by kernel_rfl) (by kernel_rfl) (fun _ _ _ h => h) (Or.inl ⟨by rfl, ?_⟩) (by assumption) ?_
      rotate_left
      · intro w hSw
        try dsimp only at hSw
        go_simp
        try with_reducible rfl
      simp only [List.getElem_toArray, List.getElem_cons_succ, List.getElem_cons_zero, Act.put, List.setIfInBounds_toArray, List.set_cons_zero, List.set_cons_succ]
      refine wpAnyH_take (i := 8) (v := ?_) rfl (by kernel_rfl) (by kernel_rfl) (by kernel_rfl) (fun _ _ _ h => h) (Or.inl ⟨by rfl, ?_⟩) (by assumption) ?_
      rotate_left
      · intro w hSw
        try dsimp only at hSw
        go_simp
        try with_reducible rfl
      simp only [List.getElem_toArray, List.getElem_cons_succ, List.getElem_cons_zero, Act.put, List.setIfInBounds_toArray, List.set_cons_zero, List.set_cons_succ]
      refine wpAnyH_take (i := 9) (v := ?_) rfl (by kernel_rfl) (by kernel_rfl) (by kernel_rfl) (fun _ _ _ h => h) (Or.inl ⟨by rfl, ?_⟩) (by assumption) ?_
      rotate_left
      · intro w hSw
        try dsimp only at hSw
        go_simp
        try with_reducible rfl
      simp only [List.getElem_toArray, List.getElem_cons_succ, List.getElem_cons_zero, Act.put, List.setIfInBounds_toArray, List.set_cons_zero, List.set_cons_succ]
      clear hHeld
      exact kC _ _ (range_of (H12.later Bb).l) ⟨_, _, _, _, _, _, _, rfl, Bb, hgz, GZ⟩
    refine Node.region_key (fun w' => w'.rangeAt gL 0 L) 7 #[true, true, true, true, true, true, false, false, false, false, false, false, false] (fun a W => ∃ (ga g4 : Nat) (Aa : Option Addr) (ca : Nat) (A5 : Option Addr) (c5 : Nat), a = { tmps := (([.bool false, .pointer (some ⟨gL, 0, none⟩), .pointer (some ⟨gU, 0, none⟩), .pointer (some ⟨gU + 1, 0, none⟩), .slice Ap 3 cp, .pointer (some ⟨gm, 0, none⟩), .slice Aq 0 cq, .pointer (some ⟨gn, 0, none⟩), .slice Ar 0 cr, .pointer (some ⟨gr, 0, none⟩), .slice Ab 2 cb, .pointer (some ⟨gx, 0, none⟩), .int .i64 0, undef, undef, u15, u16, u17, u18, u19, u20, u21, u22, u23, u24, u25, u26, u27, u28, u29, u30, u31, u32, u33, u34, u35, u36, u37, u38, u39, u40, u41, u42, .agg L.toArray, .agg (btnV downB).toArray, .slice Ab 2 cb, .tuple #[.agg (btnV downB).toArray, .int .i64 0], .agg L.toArray, .slice Ab 2 cb, .tuple #[.agg (btnV downB).toArray, .int .i64 0]] ++ ([.agg (btnV downB).toArray, .int .i64 0, undef, .agg L.toArray, .slice (some ⟨ga, 0, none⟩) 0 0, .slice Ab 2 cb, .slice Aa 2 ca, .slice (some ⟨g4, 0, none⟩) 1 1, .slice A5 3 c5, undef, undef, undef, undef, undef, undef, undef, undef, undef, undef, undef, undef, undef, undef, undef, undef, undef, undef, undef, undef, undef, undef, undef, undef, undef, undef, undef, undef, undef, undef, undef, undef, undef, undef, undef, undef, undef, undef, undef, undef, undef] ++ ([undef, undef, undef, undef, undef, undef, undef, undef, undef, undef, undef, undef, undef, undef, undef, undef, undef, undef, undef, undef, undef, undef, undef, undef, undef])) : List Value)).toArray, defers := [] } ∧ Below V12.heap.size V12 W ∧ SliceAt W 1 (.slice A5 3 c5) 3 (u8s (wB ++ [0#8]))) ?_ (fun kA => ?_)
    · rintro a V hS ⟨ga, g4, Aa, ca, A5, c5, rfl, Bb, O5⟩
      try simp only [List.cons_append, List.nil_append]
      refine wpAnyH_ready (rs := [6, 10]) (by kernel_rfl) (by simp) ?_
      refine AllReadyH.cons rfl (fun K hK => ?_) (AllReadyH.cons rfl (fun K hK => ?_) AllReadyH.nil)
      · skip
        refine Node.wp_fn 6 [.tmp 53, .tmp 58] _ [.agg L.toArray, .slice A5 3 c5] (by rfl) (by rfl) (enters Try.func6 (by kernel_rfl) rfl) (Take_c L 3 [0] 2 0 A c A1 c1 A3 c3 ve 2 1 3 (.slice A5 3 c5) (wB ++ [0#8]) _ rfl rfl rfl (H12.later Bb).lay O5) ?_
        rintro e V ⟨b, r, err, rfl, hT, _⟩
        have hre : r = zBtn ∧ err = 41 := by
          rcases hT with ⟨_, h2, h3⟩ | ⟨h, _⟩
          · exact ⟨h2, h3⟩
          · exact absurd h (by decide)
        obtain ⟨rfl, rfl⟩ := hre
        refine ⟨_, rfl, ?_⟩
        replace Bb := below_step Bb b
        try replace GZ := var_later GZ b
        clear b hT O5
        refine hK.out _ _ (range_of (H12.later Bb).l) (fun _ => ?_)
        clear hK K
        try simp only [List.getElem_toArray, List.getElem_cons_succ, List.getElem_cons_zero, Act.put, List.setIfInBounds_toArray, List.set_cons_zero, List.set_cons_succ]
        have hHeld : V.rangeAt gL 0 L := range_of (H12.later Bb).l
        refine wpAnyH_take (i := 7) (v := ?_) rfl (by kernel_rfl) (by kernel_rfl) (by kernel_rfl) (fun _ _ _ h => h) (Or.inl ⟨by rfl, ?_⟩) (by assumption) ?_
        rotate_left
        · intro w hSw
          try dsimp only at hSw
          go_simp
          try with_reducible rfl
        simp only [List.getElem_toArray, List.getElem_cons_succ, List.getElem_cons_zero, Act.put, List.setIfInBounds_toArray, List.set_cons_zero, List.set_cons_succ]
        refine wpAnyH_take (i := 8) (v := ?_) rfl (by kernel_rfl) (by kernel_rfl) (by kernel_rfl) (fun _ _ _ h => h) (Or.inl ⟨by rfl, ?_⟩) (by assumption) ?_
        rotate_left
        · intro w hSw
          try dsimp only at hSw
          go_simp
          try with_reducible rfl
        simp only [List.getElem_toArray, List.getElem_cons_succ, List.getElem_cons_zero, Act.put, List.setIfInBounds_toArray, List.set_cons_zero, List.set_cons_succ]
        refine wpAnyH_take (i := 9) (v := ?_) rfl (by kernel_rfl) (by kernel_rfl) (by kernel_rfl) (fun _ _ _ h => h) (Or.inl ⟨by rfl, ?_⟩) (by assumption) ?_
        rotate_left
        · intro w hSw
          try dsimp only at hSw
          go_simp
          try with_reducible rfl
        simp only [List.getElem_toArray, List.getElem_cons_succ, List.getElem_cons_zero, Act.put, List.setIfInBounds_toArray, List.set_cons_zero, List.set_cons_succ]
        clear hHeld
        refine wpAnyH_ready (rs := [10]) (by kernel_rfl) (by simp) ?_
        refine AllReadyH.cons rfl (fun K hK => ?_) AllReadyH.nil
        have GZ := new_at (w := V) rfl (.cells zB 33)
        have b := kbelow_new V (.cells zB 33)
        have hgz : V12.heap.size ≤ V.heap.size := Bb.size
        refine Node.wp_new 33 (.agg zB) zB (by kernel_rfl) rfl (by rfl) ?_
        replace Bb := below_step Bb b
        try replace O1 := own_bel O1 b
        try replace G4 := var_later G4 b
        try replace O5 := O5.later b
        clear b
        generalize V.heap.size = gz at *
        generalize V.alloc (.cells zB 33) = V at *
        refine hK.out _ _ (range_of (H12.later Bb).l) (fun _ => ?_)
        clear hK K
        try simp only [List.getElem_toArray, List.getElem_cons_succ, List.getElem_cons_zero, Act.put, List.setIfInBounds_toArray, List.set_cons_zero, List.set_cons_succ]
        exact kC _ _ (range_of (H12.later Bb).l) ⟨_, _, _, _, _, _, _, rfl, Bb, hgz, GZ⟩
      · skip
        have GZ := new_at (w := V) rfl (.cells zB 33)
        have b := kbelow_new V (.cells zB 33)
        have hgz : V12.heap.size ≤ V.heap.size := Bb.size
        refine Node.wp_new 33 (.agg zB) zB (by kernel_rfl) rfl (by rfl) ?_
        replace Bb := below_step Bb b
        try replace O1 := own_bel O1 b
        try replace G4 := var_later G4 b
        try replace O5 := O5.later b
        clear b
        generalize V.heap.size = gz at *
        generalize V.alloc (.cells zB 33) = V at *
        refine hK.out _ _ (range_of (H12.later Bb).l) (fun _ => ?_)
        clear hK K
        try simp only [List.getElem_toArray, List.getElem_cons_succ, List.getElem_cons_zero, Act.put, List.setIfInBounds_toArray, List.set_cons_zero, List.set_cons_succ]
        exact kB _ _ (range_of (H12.later Bb).l) ⟨_, _, _, _, _, _, _, rfl, Bb, O5, hgz, GZ⟩
    refine wp_region_held_drew (S := (fun w' => w'.rangeAt gL 0 L)) (by kernel_rfl) ?_ (fun hHeld => ?_)
    · exact range_of H12.l
    have Bb : Below V12.heap.size V12 V12.drew := (Below.refl _ V12).drew
    generalize V12.drew = V at *
    refine wpAnyH_take (i := 0) (v := .agg (L : List Value).toArray) rfl (by kernel_rfl) (by kernel_rfl) (by kernel_rfl) (fun _ _ _ h => h) (yieldsIf_load_mid rfl 29 (.tmp 1) rfl (gL) 0 rfl L _ (fun w' h => h) (by first | exact Try.underlying29) rfl (by first | assumption | (simp only [*]; kernel_rfl))) (by assumption) ?_
    simp only [List.getElem_toArray, List.getElem_cons_succ, List.getElem_cons_zero, Act.put, List.setIfInBounds_toArray, List.set_cons_zero, List.set_cons_succ]
    refine wpAnyH_take (i := 2) (v := ?_) rfl (by kernel_rfl) (by kernel_rfl) (by kernel_rfl) (fun _ _ _ h => h) (Or.inl ⟨by rfl, ?_⟩) (by assumption) ?_
    rotate_left
    · intro w hSw
      try dsimp only at hSw
      go_simp
      try with_reducible rfl
    simp only [List.getElem_toArray, List.getElem_cons_succ, List.getElem_cons_zero, Act.put, List.setIfInBounds_toArray, List.set_cons_zero, List.set_cons_succ]
    clear hHeld
    refine wpAnyH_ready (rs := [1, 4, 10]) (by kernel_rfl) (by simp) ?_
    refine AllReadyH.cons rfl (fun K hK => ?_) (AllReadyH.cons rfl (fun K hK => ?_) (AllReadyH.cons rfl (fun K hK => ?_) AllReadyH.nil))
    · skip
      have O1 := own_empty V 5 1
      have b := kbelow_new V (.cells #[] 5)
      have hga : V12.heap.size ≤ V.heap.size := Bb.size
      try have hne : g4 ≠ V.heap.size := by have := (Array.getElem?_eq_some_iff.1 G4).1; omega
      refine Node.wp_bs 36 0 [] [] _ (by rfl) (by rfl) (run_bs0 V) ?_
      replace Bb := below_step Bb b
      try replace G4 := var_later G4 b
      try replace GZ := var_later GZ b
      clear b
      generalize V.heap.size = ga at *
      generalize V.alloc (.cells #[] 5) = V at *
      refine hK.out _ _ (range_of (H12.later Bb).l) (fun _ => ?_)
      clear hK K
      try simp only [List.getElem_toArray, List.getElem_cons_succ, List.getElem_cons_zero, Act.put, List.setIfInBounds_toArray, List.set_cons_zero, List.set_cons_succ]
      refine wpAnyH_ready (rs := [3, 4, 10]) (by kernel_rfl) (by simp) ?_
      refine AllReadyH.cons rfl (fun K hK => ?_) (AllReadyH.cons rfl (fun K hK => ?_) (AllReadyH.cons rfl (fun K hK => ?_) AllReadyH.nil))
      · skip
        have hgaV := (own_base O1 rfl).2
        refine wp_app (.tmp 54) (.tmp 55) _ (by rfl) ga 5 i0 _ 1 1 Try.underlying36 hi hz0 hz1 hz2 rfl (by omega) (.slice (some ⟨ga, 0, none⟩) 0 0) 0 [] (by rfl) O1 (.slice Ab 2 cb) 2 (u8s wB) (by rfl) (hb2.later Bb) (u8s_one wB) (by decide) (by decide) (Nat.le_of_lt hgaV) ?_
        intro v1 V' ho1 hg1 hw1
        simp only [Nat.zero_add, List.nil_append] at ho1
        obtain ⟨Aa, ca, rfl, _, _⟩ := (sliceAt_of_own ho1).form
        have b := below_own Bb hg1 Bb.size (fun g hg => by cases hg; exact hga)
        try replace G4 := (hg1.block g4 (Array.getElem?_eq_some_iff.1 G4).1 (fun e => hne (Option.some.inj e))).trans G4
        try replace GZ := (hg1.block gz (Array.getElem?_eq_some_iff.1 GZ).1 (fun e => by obtain ⟨cur, hc⟩ := own_type O1 e.symm; rw [GZ] at hc; cases hc)).trans GZ
        clear hgaV hg1 hw1 Bb O1
        have O1 := ho1
        have Bb := b
        clear b ho1
        generalize V' = V at *
        refine hK.out _ _ (range_of (H12.later Bb).l) (fun _ => ?_)
        clear hK K
        try simp only [List.getElem_toArray, List.getElem_cons_succ, List.getElem_cons_zero, Act.put, List.setIfInBounds_toArray, List.set_cons_zero, List.set_cons_succ]
        refine wpAnyH_ready (rs := [4, 10]) (by kernel_rfl) (by simp) ?_
        refine AllReadyH.cons rfl (fun K hK => ?_) (AllReadyH.cons rfl (fun K hK => ?_) AllReadyH.nil)
        · skip
          have G4 := new_at (w := V) rfl (.cells ([.int .u8 0] : List Value).toArray 5)
          have b := kbelow_new V (.cells ([.int .u8 0] : List Value).toArray 5)
          try have hne : V.heap.size ≠ ga := by have h : ga < V.heap.size := (own_base O1 rfl).2; omega
          refine Node.wp_bs 36 1 [(0, .const (.int .u8 0))] [(0, .int .u8 0)] _ (by rfl) (by rfl) (run_bs1 V) ?_
          replace Bb := below_step Bb b
          try replace O1 := own_bel O1 b
          try replace GZ := var_later GZ b
          clear b
          generalize V.heap.size = g4 at *
          generalize V.alloc (.cells ([.int .u8 0] : List Value).toArray 5) = V at *
          refine hK.out _ _ (range_of (H12.later Bb).l) (fun _ => ?_)
          clear hK K
          try simp only [List.getElem_toArray, List.getElem_cons_succ, List.getElem_cons_zero, Act.put, List.setIfInBounds_toArray, List.set_cons_zero, List.set_cons_succ]
          refine wpAnyH_ready (rs := [5, 10]) (by kernel_rfl) (by simp) ?_
          refine AllReadyH.cons rfl (fun K hK => ?_) (AllReadyH.cons rfl (fun K hK => ?_) AllReadyH.nil)
          · skip
            refine wp_app (.tmp 56) (.tmp 57) _ (by rfl) V12.heap.size 5 i0 _ 1 1 Try.underlying36 hi hz0 hz1 hz2 rfl (by omega) (.slice Aa 2 ca) 2 (u8s wB) (by rfl) (own_mono O1 hga) (.slice (some ⟨g4, 0, none⟩) 1 1) 1 [.int .u8 0] (by rfl) (sliceAt_blk G4 rfl (by decide)) (by simp [Value.oneCell']) (by decide) (by decide) Bb.size ?_
            intro v1 V' ho1 hg1 hw1
            obtain ⟨A5, c5, rfl, _, _⟩ := (sliceAt_of_own ho1).form
            have b := below_own Bb hg1 Bb.size (fun g hg => Nat.le_trans hga (own_base O1 hg).1)
            try replace GZ := (hg1.block gz (Array.getElem?_eq_some_iff.1 GZ).1 (fun e => by obtain ⟨cur, hc⟩ := own_type O1 e.symm; rw [GZ] at hc; cases hc)).trans GZ
            clear hg1 hw1 Bb O1 G4
            have O5 : SliceAt V' 1 (.slice A5 3 c5) 3 (u8s (wB ++ [0#8])) := sliceAt_of_own ho1
            have Bb := b
            clear b ho1
            generalize V' = V at *
            refine hK.out _ _ (range_of (H12.later Bb).l) (fun _ => ?_)
            clear hK K
            try simp only [List.getElem_toArray, List.getElem_cons_succ, List.getElem_cons_zero, Act.put, List.setIfInBounds_toArray, List.set_cons_zero, List.set_cons_succ]
            exact kA _ _ (range_of (H12.later Bb).l) ⟨_, _, _, _, _, _, rfl, Bb, O5⟩
          · skip
            have GZ := new_at (w := V) rfl (.cells zB 33)
            have b := kbelow_new V (.cells zB 33)
            have hgz : V12.heap.size ≤ V.heap.size := Bb.size
            refine Node.wp_new 33 (.agg zB) zB (by kernel_rfl) rfl (by rfl) ?_
            replace Bb := below_step Bb b
            try replace O1 := own_bel O1 b
            try replace G4 := var_later G4 b
            try replace O5 := O5.later b
            clear b
            generalize V.heap.size = gz at *
            generalize V.alloc (.cells zB 33) = V at *
            refine hK.out _ _ (range_of (H12.later Bb).l) (fun _ => ?_)
            clear hK K
            try simp only [List.getElem_toArray, List.getElem_cons_succ, List.getElem_cons_zero, Act.put, List.setIfInBounds_toArray, List.set_cons_zero, List.set_cons_succ]
            refine wpAnyH_ready (rs := [5]) (by kernel_rfl) (by simp) ?_
            refine AllReadyH.cons rfl (fun K hK => ?_) AllReadyH.nil
            refine wp_app (.tmp 56) (.tmp 57) _ (by rfl) V12.heap.size 5 i0 _ 1 1 Try.underlying36 hi hz0 hz1 hz2 rfl (by omega) (.slice Aa 2 ca) 2 (u8s wB) (by rfl) (own_mono O1 hga) (.slice (some ⟨g4, 0, none⟩) 1 1) 1 [.int .u8 0] (by rfl) (sliceAt_blk G4 rfl (by decide)) (by simp [Value.oneCell']) (by decide) (by decide) Bb.size ?_
            intro v1 V' ho1 hg1 hw1
            obtain ⟨A5, c5, rfl, _, _⟩ := (sliceAt_of_own ho1).form
            have b := below_own Bb hg1 Bb.size (fun g hg => Nat.le_trans hga (own_base O1 hg).1)
            try replace GZ := (hg1.block gz (Array.getElem?_eq_some_iff.1 GZ).1 (fun e => by obtain ⟨cur, hc⟩ := own_type O1 e.symm; rw [GZ] at hc; cases hc)).trans GZ
            clear hg1 hw1 Bb O1 G4
            have O5 : SliceAt V' 1 (.slice A5 3 c5) 3 (u8s (wB ++ [0#8])) := sliceAt_of_own ho1
            have Bb := b
            clear b ho1
            generalize V' = V at *
            refine hK.out _ _ (range_of (H12.later Bb).l) (fun _ => ?_)
            clear hK K
            try simp only [List.getElem_toArray, List.getElem_cons_succ, List.getElem_cons_zero, Act.put, List.setIfInBounds_toArray, List.set_cons_zero, List.set_cons_succ]
            exact kB _ _ (range_of (H12.later Bb).l) ⟨_, _, _, _, _, _, _, rfl, Bb, O5, hgz, GZ⟩
        · skip
          have GZ := new_at (w := V) rfl (.cells zB 33)
          have b := kbelow_new V (.cells zB 33)
          have hgz : V12.heap.size ≤ V.heap.size := Bb.size
          refine Node.wp_new 33 (.agg zB) zB (by kernel_rfl) rfl (by rfl) ?_
          replace Bb := below_step Bb b
          try replace O1 := own_bel O1 b
          try replace G4 := var_later G4 b
          try replace O5 := O5.later b
          clear b
          generalize V.heap.size = gz at *
          generalize V.alloc (.cells zB 33) = V at *
          refine hK.out _ _ (range_of (H12.later Bb).l) (fun _ => ?_)
          clear hK K
          try simp only [List.getElem_toArray, List.getElem_cons_succ, List.getElem_cons_zero, Act.put, List.setIfInBounds_toArray, List.set_cons_zero, List.set_cons_succ]
          refine wpAnyH_ready (rs := [4]) (by kernel_rfl) (by simp) ?_
          refine AllReadyH.cons rfl (fun K hK => ?_) AllReadyH.nil
          have G4 := new_at (w := V) rfl (.cells ([.int .u8 0] : List Value).toArray 5)
          have b := kbelow_new V (.cells ([.int .u8 0] : List Value).toArray 5)
          try have hne : V.heap.size ≠ ga := by have h : ga < V.heap.size := (own_base O1 rfl).2; omega
          refine Node.wp_bs 36 1 [(0, .const (.int .u8 0))] [(0, .int .u8 0)] _ (by rfl) (by rfl) (run_bs1 V) ?_
          replace Bb := below_step Bb b
          try replace O1 := own_bel O1 b
          try replace GZ := var_later GZ b
          clear b
          generalize V.heap.size = g4 at *
          generalize V.alloc (.cells ([.int .u8 0] : List Value).toArray 5) = V at *
          refine hK.out _ _ (range_of (H12.later Bb).l) (fun _ => ?_)
          clear hK K
          try simp only [List.getElem_toArray, List.getElem_cons_succ, List.getElem_cons_zero, Act.put, List.setIfInBounds_toArray, List.set_cons_zero, List.set_cons_succ]
          refine wpAnyH_ready (rs := [5]) (by kernel_rfl) (by simp) ?_
          refine AllReadyH.cons rfl (fun K hK => ?_) AllReadyH.nil
          refine wp_app (.tmp 56) (.tmp 57) _ (by rfl) V12.heap.size 5 i0 _ 1 1 Try.underlying36 hi hz0 hz1 hz2 rfl (by omega) (.slice Aa 2 ca) 2 (u8s wB) (by rfl) (own_mono O1 hga) (.slice (some ⟨g4, 0, none⟩) 1 1) 1 [.int .u8 0] (by rfl) (sliceAt_blk G4 rfl (by decide)) (by simp [Value.oneCell']) (by decide) (by decide) Bb.size ?_
          intro v1 V' ho1 hg1 hw1
          obtain ⟨A5, c5, rfl, _, _⟩ := (sliceAt_of_own ho1).form
          have b := below_own Bb hg1 Bb.size (fun g hg => Nat.le_trans hga (own_base O1 hg).1)
          try replace GZ := (hg1.block gz (Array.getElem?_eq_some_iff.1 GZ).1 (fun e => by obtain ⟨cur, hc⟩ := own_type O1 e.symm; rw [GZ] at hc; cases hc)).trans GZ
          clear hg1 hw1 Bb O1 G4
          have O5 : SliceAt V' 1 (.slice A5 3 c5) 3 (u8s (wB ++ [0#8])) := sliceAt_of_own ho1
          have Bb := b
          clear b ho1
          generalize V' = V at *
          refine hK.out _ _ (range_of (H12.later Bb).l) (fun _ => ?_)
          clear hK K
          try simp only [List.getElem_toArray, List.getElem_cons_succ, List.getElem_cons_zero, Act.put, List.setIfInBounds_toArray, List.set_cons_zero, List.set_cons_succ]
          exact kB _ _ (range_of (H12.later Bb).l) ⟨_, _, _, _, _, _, _, rfl, Bb, O5, hgz, GZ⟩
      · skip
        have G4 := new_at (w := V) rfl (.cells ([.int .u8 0] : List Value).toArray 5)
        have b := kbelow_new V (.cells ([.int .u8 0] : List Value).toArray 5)
        try have hne : V.heap.size ≠ ga := by have h : ga < V.heap.size := (own_base O1 rfl).2; omega
        refine Node.wp_bs 36 1 [(0, .const (.int .u8 0))] [(0, .int .u8 0)] _ (by rfl) (by rfl) (run_bs1 V) ?_
        replace Bb := below_step Bb b
        try replace O1 := own_bel O1 b
        try replace GZ := var_later GZ b
        clear b
        generalize V.heap.size = g4 at *
        generalize V.alloc (.cells ([.int .u8 0] : List Value).toArray 5) = V at *
        refine hK.out _ _ (range_of (H12.later Bb).l) (fun _ => ?_)
        clear hK K
        try simp only [List.getElem_toArray, List.getElem_cons_succ, List.getElem_cons_zero, Act.put, List.setIfInBounds_toArray, List.set_cons_zero, List.set_cons_succ]
        refine wpAnyH_ready (rs := [3, 10]) (by kernel_rfl) (by simp) ?_
        refine AllReadyH.cons rfl (fun K hK => ?_) (AllReadyH.cons rfl (fun K hK => ?_) AllReadyH.nil)
        · skip
          have hgaV := (own_base O1 rfl).2
          refine wp_app (.tmp 54) (.tmp 55) _ (by rfl) ga 5 i0 _ 1 1 Try.underlying36 hi hz0 hz1 hz2 rfl (by omega) (.slice (some ⟨ga, 0, none⟩) 0 0) 0 [] (by rfl) O1 (.slice Ab 2 cb) 2 (u8s wB) (by rfl) (hb2.later Bb) (u8s_one wB) (by decide) (by decide) (Nat.le_of_lt hgaV) ?_
          intro v1 V' ho1 hg1 hw1
          simp only [Nat.zero_add, List.nil_append] at ho1
          obtain ⟨Aa, ca, rfl, _, _⟩ := (sliceAt_of_own ho1).form
          have b := below_own Bb hg1 Bb.size (fun g hg => by cases hg; exact hga)
          try replace G4 := (hg1.block g4 (Array.getElem?_eq_some_iff.1 G4).1 (fun e => hne (Option.some.inj e))).trans G4
          try replace GZ := (hg1.block gz (Array.getElem?_eq_some_iff.1 GZ).1 (fun e => by obtain ⟨cur, hc⟩ := own_type O1 e.symm; rw [GZ] at hc; cases hc)).trans GZ
          clear hgaV hg1 hw1 Bb O1
          have O1 := ho1
          have Bb := b
          clear b ho1
          generalize V' = V at *
          refine hK.out _ _ (range_of (H12.later Bb).l) (fun _ => ?_)
          clear hK K
          try simp only [List.getElem_toArray, List.getElem_cons_succ, List.getElem_cons_zero, Act.put, List.setIfInBounds_toArray, List.set_cons_zero, List.set_cons_succ]
          refine wpAnyH_ready (rs := [5, 10]) (by kernel_rfl) (by simp) ?_
          refine AllReadyH.cons rfl (fun K hK => ?_) (AllReadyH.cons rfl (fun K hK => ?_) AllReadyH.nil)
          · skip
            refine wp_app (.tmp 56) (.tmp 57) _ (by rfl) V12.heap.size 5 i0 _ 1 1 Try.underlying36 hi hz0 hz1 hz2 rfl (by omega) (.slice Aa 2 ca) 2 (u8s wB) (by rfl) (own_mono O1 hga) (.slice (some ⟨g4, 0, none⟩) 1 1) 1 [.int .u8 0] (by rfl) (sliceAt_blk G4 rfl (by decide)) (by simp [Value.oneCell']) (by decide) (by decide) Bb.size ?_
            intro v1 V' ho1 hg1 hw1
            obtain ⟨A5, c5, rfl, _, _⟩ := (sliceAt_of_own ho1).form
            have b := below_own Bb hg1 Bb.size (fun g hg => Nat.le_trans hga (own_base O1 hg).1)
            try replace GZ := (hg1.block gz (Array.getElem?_eq_some_iff.1 GZ).1 (fun e => by obtain ⟨cur, hc⟩ := own_type O1 e.symm; rw [GZ] at hc; cases hc)).trans GZ
            clear hg1 hw1 Bb O1 G4
            have O5 : SliceAt V' 1 (.slice A5 3 c5) 3 (u8s (wB ++ [0#8])) := sliceAt_of_own ho1
            have Bb := b
            clear b ho1
            generalize V' = V at *
            refine hK.out _ _ (range_of (H12.later Bb).l) (fun _ => ?_)
            clear hK K
            try simp only [List.getElem_toArray, List.getElem_cons_succ, List.getElem_cons_zero, Act.put, List.setIfInBounds_toArray, List.set_cons_zero, List.set_cons_succ]
            exact kA _ _ (range_of (H12.later Bb).l) ⟨_, _, _, _, _, _, rfl, Bb, O5⟩
          · skip
            have GZ := new_at (w := V) rfl (.cells zB 33)
            have b := kbelow_new V (.cells zB 33)
            have hgz : V12.heap.size ≤ V.heap.size := Bb.size
            refine Node.wp_new 33 (.agg zB) zB (by kernel_rfl) rfl (by rfl) ?_
            replace Bb := below_step Bb b
            try replace O1 := own_bel O1 b
            try replace G4 := var_later G4 b
            try replace O5 := O5.later b
            clear b
            generalize V.heap.size = gz at *
            generalize V.alloc (.cells zB 33) = V at *
            refine hK.out _ _ (range_of (H12.later Bb).l) (fun _ => ?_)
            clear hK K
            try simp only [List.getElem_toArray, List.getElem_cons_succ, List.getElem_cons_zero, Act.put, List.setIfInBounds_toArray, List.set_cons_zero, List.set_cons_succ]
            refine wpAnyH_ready (rs := [5]) (by kernel_rfl) (by simp) ?_
            refine AllReadyH.cons rfl (fun K hK => ?_) AllReadyH.nil
            refine wp_app (.tmp 56) (.tmp 57) _ (by rfl) V12.heap.size 5 i0 _ 1 1 Try.underlying36 hi hz0 hz1 hz2 rfl (by omega) (.slice Aa 2 ca) 2 (u8s wB) (by rfl) (own_mono O1 hga) (.slice (some ⟨g4, 0, none⟩) 1 1) 1 [.int .u8 0] (by rfl) (sliceAt_blk G4 rfl (by decide)) (by simp [Value.oneCell']) (by decide) (by decide) Bb.size ?_
            intro v1 V' ho1 hg1 hw1
            obtain ⟨A5, c5, rfl, _, _⟩ := (sliceAt_of_own ho1).form
            have b := below_own Bb hg1 Bb.size (fun g hg => Nat.le_trans hga (own_base O1 hg).1)
            try replace GZ := (hg1.block gz (Array.getElem?_eq_some_iff.1 GZ).1 (fun e => by obtain ⟨cur, hc⟩ := own_type O1 e.symm; rw [GZ] at hc; cases hc)).trans GZ
            clear hg1 hw1 Bb O1 G4
            have O5 : SliceAt V' 1 (.slice A5 3 c5) 3 (u8s (wB ++ [0#8])) := sliceAt_of_own ho1
            have Bb := b
            clear b ho1
            generalize V' = V at *
            refine hK.out _ _ (range_of (H12.later Bb).l) (fun _ => ?_)
            clear hK K
            try simp only [List.getElem_toArray, List.getElem_cons_succ, List.getElem_cons_zero, Act.put, List.setIfInBounds_toArray, List.set_cons_zero, List.set_cons_succ]
            exact kB _ _ (range_of (H12.later Bb).l) ⟨_, _, _, _, _, _, _, rfl, Bb, O5, hgz, GZ⟩
        · skip
          have GZ := new_at (w := V) rfl (.cells zB 33)
          have b := kbelow_new V (.cells zB 33)
          have hgz : V12.heap.size ≤ V.heap.size := Bb.size
          refine Node.wp_new 33 (.agg zB) zB (by kernel_rfl) rfl (by rfl) ?_
          replace Bb := below_step Bb b
          try replace O1 := own_bel O1 b
          try replace G4 := var_later G4 b
          try replace O5 := O5.later b
          clear b
          generalize V.heap.size = gz at *
          generalize V.alloc (.cells zB 33) = V at *
          refine hK.out _ _ (range_of (H12.later Bb).l) (fun _ => ?_)
          clear hK K
          try simp only [List.getElem_toArray, List.getElem_cons_succ, List.getElem_cons_zero, Act.put, List.setIfInBounds_toArray, List.set_cons_zero, List.set_cons_succ]
          refine wpAnyH_ready (rs := [3]) (by kernel_rfl) (by simp) ?_
          refine AllReadyH.cons rfl (fun K hK => ?_) AllReadyH.nil
          have hgaV := (own_base O1 rfl).2
          refine wp_app (.tmp 54) (.tmp 55) _ (by rfl) ga 5 i0 _ 1 1 Try.underlying36 hi hz0 hz1 hz2 rfl (by omega) (.slice (some ⟨ga, 0, none⟩) 0 0) 0 [] (by rfl) O1 (.slice Ab 2 cb) 2 (u8s wB) (by rfl) (hb2.later Bb) (u8s_one wB) (by decide) (by decide) (Nat.le_of_lt hgaV) ?_
          intro v1 V' ho1 hg1 hw1
          simp only [Nat.zero_add, List.nil_append] at ho1
          obtain ⟨Aa, ca, rfl, _, _⟩ := (sliceAt_of_own ho1).form
          have b := below_own Bb hg1 Bb.size (fun g hg => by cases hg; exact hga)
          try replace G4 := (hg1.block g4 (Array.getElem?_eq_some_iff.1 G4).1 (fun e => hne (Option.some.inj e))).trans G4
          try replace GZ := (hg1.block gz (Array.getElem?_eq_some_iff.1 GZ).1 (fun e => by obtain ⟨cur, hc⟩ := own_type O1 e.symm; rw [GZ] at hc; cases hc)).trans GZ
          clear hgaV hg1 hw1 Bb O1
          have O1 := ho1
          have Bb := b
          clear b ho1
          generalize V' = V at *
          refine hK.out _ _ (range_of (H12.later Bb).l) (fun _ => ?_)
          clear hK K
          try simp only [List.getElem_toArray, List.getElem_cons_succ, List.getElem_cons_zero, Act.put, List.setIfInBounds_toArray, List.set_cons_zero, List.set_cons_succ]
          refine wpAnyH_ready (rs := [5]) (by kernel_rfl) (by simp) ?_
          refine AllReadyH.cons rfl (fun K hK => ?_) AllReadyH.nil
          refine wp_app (.tmp 56) (.tmp 57) _ (by rfl) V12.heap.size 5 i0 _ 1 1 Try.underlying36 hi hz0 hz1 hz2 rfl (by omega) (.slice Aa 2 ca) 2 (u8s wB) (by rfl) (own_mono O1 hga) (.slice (some ⟨g4, 0, none⟩) 1 1) 1 [.int .u8 0] (by rfl) (sliceAt_blk G4 rfl (by decide)) (by simp [Value.oneCell']) (by decide) (by decide) Bb.size ?_
          intro v1 V' ho1 hg1 hw1
          obtain ⟨A5, c5, rfl, _, _⟩ := (sliceAt_of_own ho1).form
          have b := below_own Bb hg1 Bb.size (fun g hg => Nat.le_trans hga (own_base O1 hg).1)
          try replace GZ := (hg1.block gz (Array.getElem?_eq_some_iff.1 GZ).1 (fun e => by obtain ⟨cur, hc⟩ := own_type O1 e.symm; rw [GZ] at hc; cases hc)).trans GZ
          clear hg1 hw1 Bb O1 G4
          have O5 : SliceAt V' 1 (.slice A5 3 c5) 3 (u8s (wB ++ [0#8])) := sliceAt_of_own ho1
          have Bb := b
          clear b ho1
          generalize V' = V at *
          refine hK.out _ _ (range_of (H12.later Bb).l) (fun _ => ?_)
          clear hK K
          try simp only [List.getElem_toArray, List.getElem_cons_succ, List.getElem_cons_zero, Act.put, List.setIfInBounds_toArray, List.set_cons_zero, List.set_cons_succ]
          exact kB _ _ (range_of (H12.later Bb).l) ⟨_, _, _, _, _, _, _, rfl, Bb, O5, hgz, GZ⟩
      · skip
        have GZ := new_at (w := V) rfl (.cells zB 33)
        have b := kbelow_new V (.cells zB 33)
        have hgz : V12.heap.size ≤ V.heap.size := Bb.size
        refine Node.wp_new 33 (.agg zB) zB (by kernel_rfl) rfl (by rfl) ?_
        replace Bb := below_step Bb b
        try replace O1 := own_bel O1 b
        try replace G4 := var_later G4 b
        try replace O5 := O5.later b
        clear b
        generalize V.heap.size = gz at *
        generalize V.alloc (.cells zB 33) = V at *
        refine hK.out _ _ (range_of (H12.later Bb).l) (fun _ => ?_)
        clear hK K
        try simp only [List.getElem_toArray, List.getElem_cons_succ, List.getElem_cons_zero, Act.put, List.setIfInBounds_toArray, List.set_cons_zero, List.set_cons_succ]
        refine wpAnyH_ready (rs := [3, 4]) (by kernel_rfl) (by simp) ?_
        refine AllReadyH.cons rfl (fun K hK => ?_) (AllReadyH.cons rfl (fun K hK => ?_) AllReadyH.nil)
        · skip
          have hgaV := (own_base O1 rfl).2
          refine wp_app (.tmp 54) (.tmp 55) _ (by rfl) ga 5 i0 _ 1 1 Try.underlying36 hi hz0 hz1 hz2 rfl (by omega) (.slice (some ⟨ga, 0, none⟩) 0 0) 0 [] (by rfl) O1 (.slice Ab 2 cb) 2 (u8s wB) (by rfl) (hb2.later Bb) (u8s_one wB) (by decide) (by decide) (Nat.le_of_lt hgaV) ?_
          intro v1 V' ho1 hg1 hw1
          simp only [Nat.zero_add, List.nil_append] at ho1
          obtain ⟨Aa, ca, rfl, _, _⟩ := (sliceAt_of_own ho1).form
          have b := below_own Bb hg1 Bb.size (fun g hg => by cases hg; exact hga)
          try replace G4 := (hg1.block g4 (Array.getElem?_eq_some_iff.1 G4).1 (fun e => hne (Option.some.inj e))).trans G4
          try replace GZ := (hg1.block gz (Array.getElem?_eq_some_iff.1 GZ).1 (fun e => by obtain ⟨cur, hc⟩ := own_type O1 e.symm; rw [GZ] at hc; cases hc)).trans GZ
          clear hgaV hg1 hw1 Bb O1
          have O1 := ho1
          have Bb := b
          clear b ho1
          generalize V' = V at *
          refine hK.out _ _ (range_of (H12.later Bb).l) (fun _ => ?_)
          clear hK K
          try simp only [List.getElem_toArray, List.getElem_cons_succ, List.getElem_cons_zero, Act.put, List.setIfInBounds_toArray, List.set_cons_zero, List.set_cons_succ]
          refine wpAnyH_ready (rs := [4]) (by kernel_rfl) (by simp) ?_
          refine AllReadyH.cons rfl (fun K hK => ?_) AllReadyH.nil
          have G4 := new_at (w := V) rfl (.cells ([.int .u8 0] : List Value).toArray 5)
          have b := kbelow_new V (.cells ([.int .u8 0] : List Value).toArray 5)
          try have hne : V.heap.size ≠ ga := by have h : ga < V.heap.size := (own_base O1 rfl).2; omega
          refine Node.wp_bs 36 1 [(0, .const (.int .u8 0))] [(0, .int .u8 0)] _ (by rfl) (by rfl) (run_bs1 V) ?_
          replace Bb := below_step Bb b
          try replace O1 := own_bel O1 b
          try replace GZ := var_later GZ b
          clear b
          generalize V.heap.size = g4 at *
          generalize V.alloc (.cells ([.int .u8 0] : List Value).toArray 5) = V at *
          refine hK.out _ _ (range_of (H12.later Bb).l) (fun _ => ?_)
          clear hK K
          try simp only [List.getElem_toArray, List.getElem_cons_succ, List.getElem_cons_zero, Act.put, List.setIfInBounds_toArray, List.set_cons_zero, List.set_cons_succ]
          refine wpAnyH_ready (rs := [5]) (by kernel_rfl) (by simp) ?_
          refine AllReadyH.cons rfl (fun K hK => ?_) AllReadyH.nil
          refine wp_app (.tmp 56) (.tmp 57) _ (by rfl) V12.heap.size 5 i0 _ 1 1 Try.underlying36 hi hz0 hz1 hz2 rfl (by omega) (.slice Aa 2 ca) 2 (u8s wB) (by rfl) (own_mono O1 hga) (.slice (some ⟨g4, 0, none⟩) 1 1) 1 [.int .u8 0] (by rfl) (sliceAt_blk G4 rfl (by decide)) (by simp [Value.oneCell']) (by decide) (by decide) Bb.size ?_
          intro v1 V' ho1 hg1 hw1
          obtain ⟨A5, c5, rfl, _, _⟩ := (sliceAt_of_own ho1).form
          have b := below_own Bb hg1 Bb.size (fun g hg => Nat.le_trans hga (own_base O1 hg).1)
          try replace GZ := (hg1.block gz (Array.getElem?_eq_some_iff.1 GZ).1 (fun e => by obtain ⟨cur, hc⟩ := own_type O1 e.symm; rw [GZ] at hc; cases hc)).trans GZ
          clear hg1 hw1 Bb O1 G4
          have O5 : SliceAt V' 1 (.slice A5 3 c5) 3 (u8s (wB ++ [0#8])) := sliceAt_of_own ho1
          have Bb := b
          clear b ho1
          generalize V' = V at *
          refine hK.out _ _ (range_of (H12.later Bb).l) (fun _ => ?_)
          clear hK K
          try simp only [List.getElem_toArray, List.getElem_cons_succ, List.getElem_cons_zero, Act.put, List.setIfInBounds_toArray, List.set_cons_zero, List.set_cons_succ]
          exact kB _ _ (range_of (H12.later Bb).l) ⟨_, _, _, _, _, _, _, rfl, Bb, O5, hgz, GZ⟩
        · skip
          have G4 := new_at (w := V) rfl (.cells ([.int .u8 0] : List Value).toArray 5)
          have b := kbelow_new V (.cells ([.int .u8 0] : List Value).toArray 5)
          try have hne : V.heap.size ≠ ga := by have h : ga < V.heap.size := (own_base O1 rfl).2; omega
          refine Node.wp_bs 36 1 [(0, .const (.int .u8 0))] [(0, .int .u8 0)] _ (by rfl) (by rfl) (run_bs1 V) ?_
          replace Bb := below_step Bb b
          try replace O1 := own_bel O1 b
          try replace GZ := var_later GZ b
          clear b
          generalize V.heap.size = g4 at *
          generalize V.alloc (.cells ([.int .u8 0] : List Value).toArray 5) = V at *
          refine hK.out _ _ (range_of (H12.later Bb).l) (fun _ => ?_)
          clear hK K
          try simp only [List.getElem_toArray, List.getElem_cons_succ, List.getElem_cons_zero, Act.put, List.setIfInBounds_toArray, List.set_cons_zero, List.set_cons_succ]
          refine wpAnyH_ready (rs := [3]) (by kernel_rfl) (by simp) ?_
          refine AllReadyH.cons rfl (fun K hK => ?_) AllReadyH.nil
          have hgaV := (own_base O1 rfl).2
          refine wp_app (.tmp 54) (.tmp 55) _ (by rfl) ga 5 i0 _ 1 1 Try.underlying36 hi hz0 hz1 hz2 rfl (by omega) (.slice (some ⟨ga, 0, none⟩) 0 0) 0 [] (by rfl) O1 (.slice Ab 2 cb) 2 (u8s wB) (by rfl) (hb2.later Bb) (u8s_one wB) (by decide) (by decide) (Nat.le_of_lt hgaV) ?_
          intro v1 V' ho1 hg1 hw1
          simp only [Nat.zero_add, List.nil_append] at ho1
          obtain ⟨Aa, ca, rfl, _, _⟩ := (sliceAt_of_own ho1).form
          have b := below_own Bb hg1 Bb.size (fun g hg => by cases hg; exact hga)
          try replace G4 := (hg1.block g4 (Array.getElem?_eq_some_iff.1 G4).1 (fun e => hne (Option.some.inj e))).trans G4
          try replace GZ := (hg1.block gz (Array.getElem?_eq_some_iff.1 GZ).1 (fun e => by obtain ⟨cur, hc⟩ := own_type O1 e.symm; rw [GZ] at hc; cases hc)).trans GZ
          clear hgaV hg1 hw1 Bb O1
          have O1 := ho1
          have Bb := b
          clear b ho1
          generalize V' = V at *
          refine hK.out _ _ (range_of (H12.later Bb).l) (fun _ => ?_)
          clear hK K
          try simp only [List.getElem_toArray, List.getElem_cons_succ, List.getElem_cons_zero, Act.put, List.setIfInBounds_toArray, List.set_cons_zero, List.set_cons_succ]
          refine wpAnyH_ready (rs := [5]) (by kernel_rfl) (by simp) ?_
          refine AllReadyH.cons rfl (fun K hK => ?_) AllReadyH.nil
          refine wp_app (.tmp 56) (.tmp 57) _ (by rfl) V12.heap.size 5 i0 _ 1 1 Try.underlying36 hi hz0 hz1 hz2 rfl (by omega) (.slice Aa 2 ca) 2 (u8s wB) (by rfl) (own_mono O1 hga) (.slice (some ⟨g4, 0, none⟩) 1 1) 1 [.int .u8 0] (by rfl) (sliceAt_blk G4 rfl (by decide)) (by simp [Value.oneCell']) (by decide) (by decide) Bb.size ?_
          intro v1 V' ho1 hg1 hw1
          obtain ⟨A5, c5, rfl, _, _⟩ := (sliceAt_of_own ho1).form
          have b := below_own Bb hg1 Bb.size (fun g hg => Nat.le_trans hga (own_base O1 hg).1)
          try replace GZ := (hg1.block gz (Array.getElem?_eq_some_iff.1 GZ).1 (fun e => by obtain ⟨cur, hc⟩ := own_type O1 e.symm; rw [GZ] at hc; cases hc)).trans GZ
          clear hg1 hw1 Bb O1 G4
          have O5 : SliceAt V' 1 (.slice A5 3 c5) 3 (u8s (wB ++ [0#8])) := sliceAt_of_own ho1
          have Bb := b
          clear b ho1
          generalize V' = V at *
          refine hK.out _ _ (range_of (H12.later Bb).l) (fun _ => ?_)
          clear hK K
          try simp only [List.getElem_toArray, List.getElem_cons_succ, List.getElem_cons_zero, Act.put, List.setIfInBounds_toArray, List.set_cons_zero, List.set_cons_succ]
          exact kB _ _ (range_of (H12.later Bb).l) ⟨_, _, _, _, _, _, _, rfl, Bb, O5, hgz, GZ⟩
    · skip
      have G4 := new_at (w := V) rfl (.cells ([.int .u8 0] : List Value).toArray 5)
      have b := kbelow_new V (.cells ([.int .u8 0] : List Value).toArray 5)
      try have hne : V.heap.size ≠ ga := by have h : ga < V.heap.size := (own_base O1 rfl).2; omega
      refine Node.wp_bs 36 1 [(0, .const (.int .u8 0))] [(0, .int .u8 0)] _ (by rfl) (by rfl) (run_bs1 V) ?_
      replace Bb := below_step Bb b
      try replace O1 := own_bel O1 b
      try replace GZ := var_later GZ b
      clear b
      generalize V.heap.size = g4 at *
      generalize V.alloc (.cells ([.int .u8 0] : List Value).toArray 5) = V at *
      refine hK.out _ _ (range_of (H12.later Bb).l) (fun _ => ?_)
      clear hK K
      try simp only [List.getElem_toArray, List.getElem_cons_succ, List.getElem_cons_zero, Act.put, List.setIfInBounds_toArray, List.set_cons_zero, List.set_cons_succ]
      refine wpAnyH_ready (rs := [1, 10]) (by kernel_rfl) (by simp) ?_
      refine AllReadyH.cons rfl (fun K hK => ?_) (AllReadyH.cons rfl (fun K hK => ?_) AllReadyH.nil)
      · skip
        have O1 := own_empty V 5 1
        have b := kbelow_new V (.cells #[] 5)
        have hga : V12.heap.size ≤ V.heap.size := Bb.size
        try have hne : g4 ≠ V.heap.size := by have := (Array.getElem?_eq_some_iff.1 G4).1; omega
        refine Node.wp_bs 36 0 [] [] _ (by rfl) (by rfl) (run_bs0 V) ?_
        replace Bb := below_step Bb b
        try replace G4 := var_later G4 b
        try replace GZ := var_later GZ b
        clear b
        generalize V.heap.size = ga at *
        generalize V.alloc (.cells #[] 5) = V at *
        refine hK.out _ _ (range_of (H12.later Bb).l) (fun _ => ?_)
        clear hK K
        try simp only [List.getElem_toArray, List.getElem_cons_succ, List.getElem_cons_zero, Act.put, List.setIfInBounds_toArray, List.set_cons_zero, List.set_cons_succ]
        refine wpAnyH_ready (rs := [3, 10]) (by kernel_rfl) (by simp) ?_
        refine AllReadyH.cons rfl (fun K hK => ?_) (AllReadyH.cons rfl (fun K hK => ?_) AllReadyH.nil)
        · skip
          have hgaV := (own_base O1 rfl).2
          refine wp_app (.tmp 54) (.tmp 55) _ (by rfl) ga 5 i0 _ 1 1 Try.underlying36 hi hz0 hz1 hz2 rfl (by omega) (.slice (some ⟨ga, 0, none⟩) 0 0) 0 [] (by rfl) O1 (.slice Ab 2 cb) 2 (u8s wB) (by rfl) (hb2.later Bb) (u8s_one wB) (by decide) (by decide) (Nat.le_of_lt hgaV) ?_
          intro v1 V' ho1 hg1 hw1
          simp only [Nat.zero_add, List.nil_append] at ho1
          obtain ⟨Aa, ca, rfl, _, _⟩ := (sliceAt_of_own ho1).form
          have b := below_own Bb hg1 Bb.size (fun g hg => by cases hg; exact hga)
          try replace G4 := (hg1.block g4 (Array.getElem?_eq_some_iff.1 G4).1 (fun e => hne (Option.some.inj e))).trans G4
          try replace GZ := (hg1.block gz (Array.getElem?_eq_some_iff.1 GZ).1 (fun e => by obtain ⟨cur, hc⟩ := own_type O1 e.symm; rw [GZ] at hc; cases hc)).trans GZ
          clear hgaV hg1 hw1 Bb O1
          have O1 := ho1
          have Bb := b
          clear b ho1
          generalize V' = V at *
          refine hK.out _ _ (range_of (H12.later Bb).l) (fun _ => ?_)
          clear hK K
          try simp only [List.getElem_toArray, List.getElem_cons_succ, List.getElem_cons_zero, Act.put, List.setIfInBounds_toArray, List.set_cons_zero, List.set_cons_succ]
          refine wpAnyH_ready (rs := [5, 10]) (by kernel_rfl) (by simp) ?_
          refine AllReadyH.cons rfl (fun K hK => ?_) (AllReadyH.cons rfl (fun K hK => ?_) AllReadyH.nil)
          · skip
            refine wp_app (.tmp 56) (.tmp 57) _ (by rfl) V12.heap.size 5 i0 _ 1 1 Try.underlying36 hi hz0 hz1 hz2 rfl (by omega) (.slice Aa 2 ca) 2 (u8s wB) (by rfl) (own_mono O1 hga) (.slice (some ⟨g4, 0, none⟩) 1 1) 1 [.int .u8 0] (by rfl) (sliceAt_blk G4 rfl (by decide)) (by simp [Value.oneCell']) (by decide) (by decide) Bb.size ?_
            intro v1 V' ho1 hg1 hw1
            obtain ⟨A5, c5, rfl, _, _⟩ := (sliceAt_of_own ho1).form
            have b := below_own Bb hg1 Bb.size (fun g hg => Nat.le_trans hga (own_base O1 hg).1)
            try replace GZ := (hg1.block gz (Array.getElem?_eq_some_iff.1 GZ).1 (fun e => by obtain ⟨cur, hc⟩ := own_type O1 e.symm; rw [GZ] at hc; cases hc)).trans GZ
            clear hg1 hw1 Bb O1 G4
            have O5 : SliceAt V' 1 (.slice A5 3 c5) 3 (u8s (wB ++ [0#8])) := sliceAt_of_own ho1
            have Bb := b
            clear b ho1
            generalize V' = V at *
            refine hK.out _ _ (range_of (H12.later Bb).l) (fun _ => ?_)
            clear hK K
            try simp only [List.getElem_toArray, List.getElem_cons_succ, List.getElem_cons_zero, Act.put, List.setIfInBounds_toArray, List.set_cons_zero, List.set_cons_succ]
            exact kA _ _ (range_of (H12.later Bb).l) ⟨_, _, _, _, _, _, rfl, Bb, O5⟩
          · skip
            have GZ := new_at (w := V) rfl (.cells zB 33)
            have b := kbelow_new V (.cells zB 33)
            have hgz : V12.heap.size ≤ V.heap.size := Bb.size
            refine Node.wp_new 33 (.agg zB) zB (by kernel_rfl) rfl (by rfl) ?_
            replace Bb := below_step Bb b
            try replace O1 := own_bel O1 b
            try replace G4 := var_later G4 b
            try replace O5 := O5.later b
            clear b
            generalize V.heap.size = gz at *
            generalize V.alloc (.cells zB 33) = V at *
            refine hK.out _ _ (range_of (H12.later Bb).l) (fun _ => ?_)
            clear hK K
            try simp only [List.getElem_toArray, List.getElem_cons_succ, List.getElem_cons_zero, Act.put, List.setIfInBounds_toArray, List.set_cons_zero, List.set_cons_succ]
            refine wpAnyH_ready (rs := [5]) (by kernel_rfl) (by simp) ?_
            refine AllReadyH.cons rfl (fun K hK => ?_) AllReadyH.nil
            refine wp_app (.tmp 56) (.tmp 57) _ (by rfl) V12.heap.size 5 i0 _ 1 1 Try.underlying36 hi hz0 hz1 hz2 rfl (by omega) (.slice Aa 2 ca) 2 (u8s wB) (by rfl) (own_mono O1 hga) (.slice (some ⟨g4, 0, none⟩) 1 1) 1 [.int .u8 0] (by rfl) (sliceAt_blk G4 rfl (by decide)) (by simp [Value.oneCell']) (by decide) (by decide) Bb.size ?_
            intro v1 V' ho1 hg1 hw1
            obtain ⟨A5, c5, rfl, _, _⟩ := (sliceAt_of_own ho1).form
            have b := below_own Bb hg1 Bb.size (fun g hg => Nat.le_trans hga (own_base O1 hg).1)
            try replace GZ := (hg1.block gz (Array.getElem?_eq_some_iff.1 GZ).1 (fun e => by obtain ⟨cur, hc⟩ := own_type O1 e.symm; rw [GZ] at hc; cases hc)).trans GZ
            clear hg1 hw1 Bb O1 G4
            have O5 : SliceAt V' 1 (.slice A5 3 c5) 3 (u8s (wB ++ [0#8])) := sliceAt_of_own ho1
            have Bb := b
            clear b ho1
            generalize V' = V at *
            refine hK.out _ _ (range_of (H12.later Bb).l) (fun _ => ?_)
            clear hK K
            try simp only [List.getElem_toArray, List.getElem_cons_succ, List.getElem_cons_zero, Act.put, List.setIfInBounds_toArray, List.set_cons_zero, List.set_cons_succ]
            exact kB _ _ (range_of (H12.later Bb).l) ⟨_, _, _, _, _, _, _, rfl, Bb, O5, hgz, GZ⟩
        · skip
          have GZ := new_at (w := V) rfl (.cells zB 33)
          have b := kbelow_new V (.cells zB 33)
          have hgz : V12.heap.size ≤ V.heap.size := Bb.size
          refine Node.wp_new 33 (.agg zB) zB (by kernel_rfl) rfl (by rfl) ?_
          replace Bb := below_step Bb b
          try replace O1 := own_bel O1 b
          try replace G4 := var_later G4 b
          try replace O5 := O5.later b
          clear b
          generalize V.heap.size = gz at *
          generalize V.alloc (.cells zB 33) = V at *
          refine hK.out _ _ (range_of (H12.later Bb).l) (fun _ => ?_)
          clear hK K
          try simp only [List.getElem_toArray, List.getElem_cons_succ, List.getElem_cons_zero, Act.put, List.setIfInBounds_toArray, List.set_cons_zero, List.set_cons_succ]
          refine wpAnyH_ready (rs := [3]) (by kernel_rfl) (by simp) ?_
          refine AllReadyH.cons rfl (fun K hK => ?_) AllReadyH.nil
          have hgaV := (own_base O1 rfl).2
          refine wp_app (.tmp 54) (.tmp 55) _ (by rfl) ga 5 i0 _ 1 1 Try.underlying36 hi hz0 hz1 hz2 rfl (by omega) (.slice (some ⟨ga, 0, none⟩) 0 0) 0 [] (by rfl) O1 (.slice Ab 2 cb) 2 (u8s wB) (by rfl) (hb2.later Bb) (u8s_one wB) (by decide) (by decide) (Nat.le_of_lt hgaV) ?_
          intro v1 V' ho1 hg1 hw1
          simp only [Nat.zero_add, List.nil_append] at ho1
          obtain ⟨Aa, ca, rfl, _, _⟩ := (sliceAt_of_own ho1).form
          have b := below_own Bb hg1 Bb.size (fun g hg => by cases hg; exact hga)
          try replace G4 := (hg1.block g4 (Array.getElem?_eq_some_iff.1 G4).1 (fun e => hne (Option.some.inj e))).trans G4
          try replace GZ := (hg1.block gz (Array.getElem?_eq_some_iff.1 GZ).1 (fun e => by obtain ⟨cur, hc⟩ := own_type O1 e.symm; rw [GZ] at hc; cases hc)).trans GZ
          clear hgaV hg1 hw1 Bb O1
          have O1 := ho1
          have Bb := b
          clear b ho1
          generalize V' = V at *
          refine hK.out _ _ (range_of (H12.later Bb).l) (fun _ => ?_)
          clear hK K
          try simp only [List.getElem_toArray, List.getElem_cons_succ, List.getElem_cons_zero, Act.put, List.setIfInBounds_toArray, List.set_cons_zero, List.set_cons_succ]
          refine wpAnyH_ready (rs := [5]) (by kernel_rfl) (by simp) ?_
          refine AllReadyH.cons rfl (fun K hK => ?_) AllReadyH.nil
          refine wp_app (.tmp 56) (.tmp 57) _ (by rfl) V12.heap.size 5 i0 _ 1 1 Try.underlying36 hi hz0 hz1 hz2 rfl (by omega) (.slice Aa 2 ca) 2 (u8s wB) (by rfl) (own_mono O1 hga) (.slice (some ⟨g4, 0, none⟩) 1 1) 1 [.int .u8 0] (by rfl) (sliceAt_blk G4 rfl (by decide)) (by simp [Value.oneCell']) (by decide) (by decide) Bb.size ?_
          intro v1 V' ho1 hg1 hw1
          obtain ⟨A5, c5, rfl, _, _⟩ := (sliceAt_of_own ho1).form
          have b := below_own Bb hg1 Bb.size (fun g hg => Nat.le_trans hga (own_base O1 hg).1)
          try replace GZ := (hg1.block gz (Array.getElem?_eq_some_iff.1 GZ).1 (fun e => by obtain ⟨cur, hc⟩ := own_type O1 e.symm; rw [GZ] at hc; cases hc)).trans GZ
          clear hg1 hw1 Bb O1 G4
          have O5 : SliceAt V' 1 (.slice A5 3 c5) 3 (u8s (wB ++ [0#8])) := sliceAt_of_own ho1
          have Bb := b
          clear b ho1
          generalize V' = V at *
          refine hK.out _ _ (range_of (H12.later Bb).l) (fun _ => ?_)
          clear hK K
          try simp only [List.getElem_toArray, List.getElem_cons_succ, List.getElem_cons_zero, Act.put, List.setIfInBounds_toArray, List.set_cons_zero, List.set_cons_succ]
          exact kB _ _ (range_of (H12.later Bb).l) ⟨_, _, _, _, _, _, _, rfl, Bb, O5, hgz, GZ⟩
      · skip
        have GZ := new_at (w := V) rfl (.cells zB 33)
        have b := kbelow_new V (.cells zB 33)
        have hgz : V12.heap.size ≤ V.heap.size := Bb.size
        refine Node.wp_new 33 (.agg zB) zB (by kernel_rfl) rfl (by rfl) ?_
        replace Bb := below_step Bb b
        try replace O1 := own_bel O1 b
        try replace G4 := var_later G4 b
        try replace O5 := O5.later b
        clear b
        generalize V.heap.size = gz at *
        generalize V.alloc (.cells zB 33) = V at *
        refine hK.out _ _ (range_of (H12.later Bb).l) (fun _ => ?_)
        clear hK K
        try simp only [List.getElem_toArray, List.getElem_cons_succ, List.getElem_cons_zero, Act.put, List.setIfInBounds_toArray, List.set_cons_zero, List.set_cons_succ]
        refine wpAnyH_ready (rs := [1]) (by kernel_rfl) (by simp) ?_
        refine AllReadyH.cons rfl (fun K hK => ?_) AllReadyH.nil
        have O1 := own_empty V 5 1
        have b := kbelow_new V (.cells #[] 5)
        have hga : V12.heap.size ≤ V.heap.size := Bb.size
        try have hne : g4 ≠ V.heap.size := by have := (Array.getElem?_eq_some_iff.1 G4).1; omega
        refine Node.wp_bs 36 0 [] [] _ (by rfl) (by rfl) (run_bs0 V) ?_
        replace Bb := below_step Bb b
        try replace G4 := var_later G4 b
        try replace GZ := var_later GZ b
        clear b
        generalize V.heap.size = ga at *
        generalize V.alloc (.cells #[] 5) = V at *
        refine hK.out _ _ (range_of (H12.later Bb).l) (fun _ => ?_)
        clear hK K
        try simp only [List.getElem_toArray, List.getElem_cons_succ, List.getElem_cons_zero, Act.put, List.setIfInBounds_toArray, List.set_cons_zero, List.set_cons_succ]
        refine wpAnyH_ready (rs := [3]) (by kernel_rfl) (by simp) ?_
        refine AllReadyH.cons rfl (fun K hK => ?_) AllReadyH.nil
        have hgaV := (own_base O1 rfl).2
        refine wp_app (.tmp 54) (.tmp 55) _ (by rfl) ga 5 i0 _ 1 1 Try.underlying36 hi hz0 hz1 hz2 rfl (by omega) (.slice (some ⟨ga, 0, none⟩) 0 0) 0 [] (by rfl) O1 (.slice Ab 2 cb) 2 (u8s wB) (by rfl) (hb2.later Bb) (u8s_one wB) (by decide) (by decide) (Nat.le_of_lt hgaV) ?_
        intro v1 V' ho1 hg1 hw1
        simp only [Nat.zero_add, List.nil_append] at ho1
        obtain ⟨Aa, ca, rfl, _, _⟩ := (sliceAt_of_own ho1).form
        have b := below_own Bb hg1 Bb.size (fun g hg => by cases hg; exact hga)
        try replace G4 := (hg1.block g4 (Array.getElem?_eq_some_iff.1 G4).1 (fun e => hne (Option.some.inj e))).trans G4
        try replace GZ := (hg1.block gz (Array.getElem?_eq_some_iff.1 GZ).1 (fun e => by obtain ⟨cur, hc⟩ := own_type O1 e.symm; rw [GZ] at hc; cases hc)).trans GZ
        clear hgaV hg1 hw1 Bb O1
        have O1 := ho1
        have Bb := b
        clear b ho1
        generalize V' = V at *
        refine hK.out _ _ (range_of (H12.later Bb).l) (fun _ => ?_)
        clear hK K
        try simp only [List.getElem_toArray, List.getElem_cons_succ, List.getElem_cons_zero, Act.put, List.setIfInBounds_toArray, List.set_cons_zero, List.set_cons_succ]
        refine wpAnyH_ready (rs := [5]) (by kernel_rfl) (by simp) ?_
        refine AllReadyH.cons rfl (fun K hK => ?_) AllReadyH.nil
        refine wp_app (.tmp 56) (.tmp 57) _ (by rfl) V12.heap.size 5 i0 _ 1 1 Try.underlying36 hi hz0 hz1 hz2 rfl (by omega) (.slice Aa 2 ca) 2 (u8s wB) (by rfl) (own_mono O1 hga) (.slice (some ⟨g4, 0, none⟩) 1 1) 1 [.int .u8 0] (by rfl) (sliceAt_blk G4 rfl (by decide)) (by simp [Value.oneCell']) (by decide) (by decide) Bb.size ?_
        intro v1 V' ho1 hg1 hw1
        obtain ⟨A5, c5, rfl, _, _⟩ := (sliceAt_of_own ho1).form
        have b := below_own Bb hg1 Bb.size (fun g hg => Nat.le_trans hga (own_base O1 hg).1)
        try replace GZ := (hg1.block gz (Array.getElem?_eq_some_iff.1 GZ).1 (fun e => by obtain ⟨cur, hc⟩ := own_type O1 e.symm; rw [GZ] at hc; cases hc)).trans GZ
        clear hg1 hw1 Bb O1 G4
        have O5 : SliceAt V' 1 (.slice A5 3 c5) 3 (u8s (wB ++ [0#8])) := sliceAt_of_own ho1
        have Bb := b
        clear b ho1
        generalize V' = V at *
        refine hK.out _ _ (range_of (H12.later Bb).l) (fun _ => ?_)
        clear hK K
        try simp only [List.getElem_toArray, List.getElem_cons_succ, List.getElem_cons_zero, Act.put, List.setIfInBounds_toArray, List.set_cons_zero, List.set_cons_succ]
        exact kB _ _ (range_of (H12.later Bb).l) ⟨_, _, _, _, _, _, _, rfl, Bb, O5, hgz, GZ⟩
    · skip
      have GZ := new_at (w := V) rfl (.cells zB 33)
      have b := kbelow_new V (.cells zB 33)
      have hgz : V12.heap.size ≤ V.heap.size := Bb.size
      refine Node.wp_new 33 (.agg zB) zB (by kernel_rfl) rfl (by rfl) ?_
      replace Bb := below_step Bb b
      try replace O1 := own_bel O1 b
      try replace G4 := var_later G4 b
      try replace O5 := O5.later b
      clear b
      generalize V.heap.size = gz at *
      generalize V.alloc (.cells zB 33) = V at *
      refine hK.out _ _ (range_of (H12.later Bb).l) (fun _ => ?_)
      clear hK K
      try simp only [List.getElem_toArray, List.getElem_cons_succ, List.getElem_cons_zero, Act.put, List.setIfInBounds_toArray, List.set_cons_zero, List.set_cons_succ]
      refine wpAnyH_ready (rs := [1, 4]) (by kernel_rfl) (by simp) ?_
      refine AllReadyH.cons rfl (fun K hK => ?_) (AllReadyH.cons rfl (fun K hK => ?_) AllReadyH.nil)
      · skip
        have O1 := own_empty V 5 1
        have b := kbelow_new V (.cells #[] 5)
        have hga : V12.heap.size ≤ V.heap.size := Bb.size
        try have hne : g4 ≠ V.heap.size := by have := (Array.getElem?_eq_some_iff.1 G4).1; omega
        refine Node.wp_bs 36 0 [] [] _ (by rfl) (by rfl) (run_bs0 V) ?_
        replace Bb := below_step Bb b
        try replace G4 := var_later G4 b
        try replace GZ := var_later GZ b
        clear b
        generalize V.heap.size = ga at *
        generalize V.alloc (.cells #[] 5) = V at *
        refine hK.out _ _ (range_of (H12.later Bb).l) (fun _ => ?_)
        clear hK K
        try simp only [List.getElem_toArray, List.getElem_cons_succ, List.getElem_cons_zero, Act.put, List.setIfInBounds_toArray, List.set_cons_zero, List.set_cons_succ]
        refine wpAnyH_ready (rs := [3, 4]) (by kernel_rfl) (by simp) ?_
        refine AllReadyH.cons rfl (fun K hK => ?_) (AllReadyH.cons rfl (fun K hK => ?_) AllReadyH.nil)
        · skip
          have hgaV := (own_base O1 rfl).2
          refine wp_app (.tmp 54) (.tmp 55) _ (by rfl) ga 5 i0 _ 1 1 Try.underlying36 hi hz0 hz1 hz2 rfl (by omega) (.slice (some ⟨ga, 0, none⟩) 0 0) 0 [] (by rfl) O1 (.slice Ab 2 cb) 2 (u8s wB) (by rfl) (hb2.later Bb) (u8s_one wB) (by decide) (by decide) (Nat.le_of_lt hgaV) ?_
          intro v1 V' ho1 hg1 hw1
          simp only [Nat.zero_add, List.nil_append] at ho1
          obtain ⟨Aa, ca, rfl, _, _⟩ := (sliceAt_of_own ho1).form
          have b := below_own Bb hg1 Bb.size (fun g hg => by cases hg; exact hga)
          try replace G4 := (hg1.block g4 (Array.getElem?_eq_some_iff.1 G4).1 (fun e => hne (Option.some.inj e))).trans G4
          try replace GZ := (hg1.block gz (Array.getElem?_eq_some_iff.1 GZ).1 (fun e => by obtain ⟨cur, hc⟩ := own_type O1 e.symm; rw [GZ] at hc; cases hc)).trans GZ
          clear hgaV hg1 hw1 Bb O1
          have O1 := ho1
          have Bb := b
          clear b ho1
          generalize V' = V at *
          refine hK.out _ _ (range_of (H12.later Bb).l) (fun _ => ?_)
          clear hK K
          try simp only [List.getElem_toArray, List.getElem_cons_succ, List.getElem_cons_zero, Act.put, List.setIfInBounds_toArray, List.set_cons_zero, List.set_cons_succ]
          refine wpAnyH_ready (rs := [4]) (by kernel_rfl) (by simp) ?_
          refine AllReadyH.cons rfl (fun K hK => ?_) AllReadyH.nil
          have G4 := new_at (w := V) rfl (.cells ([.int .u8 0] : List Value).toArray 5)
          have b := kbelow_new V (.cells ([.int .u8 0] : List Value).toArray 5)
          try have hne : V.heap.size ≠ ga := by have h : ga < V.heap.size := (own_base O1 rfl).2; omega
          refine Node.wp_bs 36 1 [(0, .const (.int .u8 0))] [(0, .int .u8 0)] _ (by rfl) (by rfl) (run_bs1 V) ?_
          replace Bb := below_step Bb b
          try replace O1 := own_bel O1 b
          try replace GZ := var_later GZ b
          clear b
          generalize V.heap.size = g4 at *
          generalize V.alloc (.cells ([.int .u8 0] : List Value).toArray 5) = V at *
          refine hK.out _ _ (range_of (H12.later Bb).l) (fun _ => ?_)
          clear hK K
          try simp only [List.getElem_toArray, List.getElem_cons_succ, List.getElem_cons_zero, Act.put, List.setIfInBounds_toArray, List.set_cons_zero, List.set_cons_succ]
          refine wpAnyH_ready (rs := [5]) (by kernel_rfl) (by simp) ?_
          refine AllReadyH.cons rfl (fun K hK => ?_) AllReadyH.nil
          refine wp_app (.tmp 56) (.tmp 57) _ (by rfl) V12.heap.size 5 i0 _ 1 1 Try.underlying36 hi hz0 hz1 hz2 rfl (by omega) (.slice Aa 2 ca) 2 (u8s wB) (by rfl) (own_mono O1 hga) (.slice (some ⟨g4, 0, none⟩) 1 1) 1 [.int .u8 0] (by rfl) (sliceAt_blk G4 rfl (by decide)) (by simp [Value.oneCell']) (by decide) (by decide) Bb.size ?_
          intro v1 V' ho1 hg1 hw1
          obtain ⟨A5, c5, rfl, _, _⟩ := (sliceAt_of_own ho1).form
          have b := below_own Bb hg1 Bb.size (fun g hg => Nat.le_trans hga (own_base O1 hg).1)
          try replace GZ := (hg1.block gz (Array.getElem?_eq_some_iff.1 GZ).1 (fun e => by obtain ⟨cur, hc⟩ := own_type O1 e.symm; rw [GZ] at hc; cases hc)).trans GZ
          clear hg1 hw1 Bb O1 G4
          have O5 : SliceAt V' 1 (.slice A5 3 c5) 3 (u8s (wB ++ [0#8])) := sliceAt_of_own ho1
          have Bb := b
          clear b ho1
          generalize V' = V at *
          refine hK.out _ _ (range_of (H12.later Bb).l) (fun _ => ?_)
          clear hK K
          try simp only [List.getElem_toArray, List.getElem_cons_succ, List.getElem_cons_zero, Act.put, List.setIfInBounds_toArray, List.set_cons_zero, List.set_cons_succ]
          exact kB _ _ (range_of (H12.later Bb).l) ⟨_, _, _, _, _, _, _, rfl, Bb, O5, hgz, GZ⟩
        · skip
          have G4 := new_at (w := V) rfl (.cells ([.int .u8 0] : List Value).toArray 5)
          have b := kbelow_new V (.cells ([.int .u8 0] : List Value).toArray 5)
          try have hne : V.heap.size ≠ ga := by have h : ga < V.heap.size := (own_base O1 rfl).2; omega
          refine Node.wp_bs 36 1 [(0, .const (.int .u8 0))] [(0, .int .u8 0)] _ (by rfl) (by rfl) (run_bs1 V) ?_
          replace Bb := below_step Bb b
          try replace O1 := own_bel O1 b
          try replace GZ := var_later GZ b
          clear b
          generalize V.heap.size = g4 at *
          generalize V.alloc (.cells ([.int .u8 0] : List Value).toArray 5) = V at *
          refine hK.out _ _ (range_of (H12.later Bb).l) (fun _ => ?_)
          clear hK K
          try simp only [List.getElem_toArray, List.getElem_cons_succ, List.getElem_cons_zero, Act.put, List.setIfInBounds_toArray, List.set_cons_zero, List.set_cons_succ]
          refine wpAnyH_ready (rs := [3]) (by kernel_rfl) (by simp) ?_
          refine AllReadyH.cons rfl (fun K hK => ?_) AllReadyH.nil
          have hgaV := (own_base O1 rfl).2
          refine wp_app (.tmp 54) (.tmp 55) _ (by rfl) ga 5 i0 _ 1 1 Try.underlying36 hi hz0 hz1 hz2 rfl (by omega) (.slice (some ⟨ga, 0, none⟩) 0 0) 0 [] (by rfl) O1 (.slice Ab 2 cb) 2 (u8s wB) (by rfl) (hb2.later Bb) (u8s_one wB) (by decide) (by decide) (Nat.le_of_lt hgaV) ?_
          intro v1 V' ho1 hg1 hw1
          simp only [Nat.zero_add, List.nil_append] at ho1
          obtain ⟨Aa, ca, rfl, _, _⟩ := (sliceAt_of_own ho1).form
          have b := below_own Bb hg1 Bb.size (fun g hg => by cases hg; exact hga)
          try replace G4 := (hg1.block g4 (Array.getElem?_eq_some_iff.1 G4).1 (fun e => hne (Option.some.inj e))).trans G4
          try replace GZ := (hg1.block gz (Array.getElem?_eq_some_iff.1 GZ).1 (fun e => by obtain ⟨cur, hc⟩ := own_type O1 e.symm; rw [GZ] at hc; cases hc)).trans GZ
          clear hgaV hg1 hw1 Bb O1
          have O1 := ho1
          have Bb := b
          clear b ho1
          generalize V' = V at *
          refine hK.out _ _ (range_of (H12.later Bb).l) (fun _ => ?_)
          clear hK K
          try simp only [List.getElem_toArray, List.getElem_cons_succ, List.getElem_cons_zero, Act.put, List.setIfInBounds_toArray, List.set_cons_zero, List.set_cons_succ]
          refine wpAnyH_ready (rs := [5]) (by kernel_rfl) (by simp) ?_
          refine AllReadyH.cons rfl (fun K hK => ?_) AllReadyH.nil
          refine wp_app (.tmp 56) (.tmp 57) _ (by rfl) V12.heap.size 5 i0 _ 1 1 Try.underlying36 hi hz0 hz1 hz2 rfl (by omega) (.slice Aa 2 ca) 2 (u8s wB) (by rfl) (own_mono O1 hga) (.slice (some ⟨g4, 0, none⟩) 1 1) 1 [.int .u8 0] (by rfl) (sliceAt_blk G4 rfl (by decide)) (by simp [Value.oneCell']) (by decide) (by decide) Bb.size ?_
          intro v1 V' ho1 hg1 hw1
          obtain ⟨A5, c5, rfl, _, _⟩ := (sliceAt_of_own ho1).form
          have b := below_own Bb hg1 Bb.size (fun g hg => Nat.le_trans hga (own_base O1 hg).1)
          try replace GZ := (hg1.block gz (Array.getElem?_eq_some_iff.1 GZ).1 (fun e => by obtain ⟨cur, hc⟩ := own_type O1 e.symm; rw [GZ] at hc; cases hc)).trans GZ
          clear hg1 hw1 Bb O1 G4
          have O5 : SliceAt V' 1 (.slice A5 3 c5) 3 (u8s (wB ++ [0#8])) := sliceAt_of_own ho1
          have Bb := b
          clear b ho1
          generalize V' = V at *
          refine hK.out _ _ (range_of (H12.later Bb).l) (fun _ => ?_)
          clear hK K
          try simp only [List.getElem_toArray, List.getElem_cons_succ, List.getElem_cons_zero, Act.put, List.setIfInBounds_toArray, List.set_cons_zero, List.set_cons_succ]
          exact kB _ _ (range_of (H12.later Bb).l) ⟨_, _, _, _, _, _, _, rfl, Bb, O5, hgz, GZ⟩
      · skip
        have G4 := new_at (w := V) rfl (.cells ([.int .u8 0] : List Value).toArray 5)
        have b := kbelow_new V (.cells ([.int .u8 0] : List Value).toArray 5)
        try have hne : V.heap.size ≠ ga := by have h : ga < V.heap.size := (own_base O1 rfl).2; omega
        refine Node.wp_bs 36 1 [(0, .const (.int .u8 0))] [(0, .int .u8 0)] _ (by rfl) (by rfl) (run_bs1 V) ?_
        replace Bb := below_step Bb b
        try replace O1 := own_bel O1 b
        try replace GZ := var_later GZ b
        clear b
        generalize V.heap.size = g4 at *
        generalize V.alloc (.cells ([.int .u8 0] : List Value).toArray 5) = V at *
        refine hK.out _ _ (range_of (H12.later Bb).l) (fun _ => ?_)
        clear hK K
        try simp only [List.getElem_toArray, List.getElem_cons_succ, List.getElem_cons_zero, Act.put, List.setIfInBounds_toArray, List.set_cons_zero, List.set_cons_succ]
        refine wpAnyH_ready (rs := [1]) (by kernel_rfl) (by simp) ?_
        refine AllReadyH.cons rfl (fun K hK => ?_) AllReadyH.nil
        have O1 := own_empty V 5 1
        have b := kbelow_new V (.cells #[] 5)
        have hga : V12.heap.size ≤ V.heap.size := Bb.size
        try have hne : g4 ≠ V.heap.size := by have := (Array.getElem?_eq_some_iff.1 G4).1; omega
        refine Node.wp_bs 36 0 [] [] _ (by rfl) (by rfl) (run_bs0 V) ?_
        replace Bb := below_step Bb b
        try replace G4 := var_later G4 b
        try replace GZ := var_later GZ b
        clear b
        generalize V.heap.size = ga at *
        generalize V.alloc (.cells #[] 5) = V at *
        refine hK.out _ _ (range_of (H12.later Bb).l) (fun _ => ?_)
        clear hK K
        try simp only [List.getElem_toArray, List.getElem_cons_succ, List.getElem_cons_zero, Act.put, List.setIfInBounds_toArray, List.set_cons_zero, List.set_cons_succ]
        refine wpAnyH_ready (rs := [3]) (by kernel_rfl) (by simp) ?_
        refine AllReadyH.cons rfl (fun K hK => ?_) AllReadyH.nil
        have hgaV := (own_base O1 rfl).2
        refine wp_app (.tmp 54) (.tmp 55) _ (by rfl) ga 5 i0 _ 1 1 Try.underlying36 hi hz0 hz1 hz2 rfl (by omega) (.slice (some ⟨ga, 0, none⟩) 0 0) 0 [] (by rfl) O1 (.slice Ab 2 cb) 2 (u8s wB) (by rfl) (hb2.later Bb) (u8s_one wB) (by decide) (by decide) (Nat.le_of_lt hgaV) ?_
        intro v1 V' ho1 hg1 hw1
        simp only [Nat.zero_add, List.nil_append] at ho1
        obtain ⟨Aa, ca, rfl, _, _⟩ := (sliceAt_of_own ho1).form
        have b := below_own Bb hg1 Bb.size (fun g hg => by cases hg; exact hga)
        try replace G4 := (hg1.block g4 (Array.getElem?_eq_some_iff.1 G4).1 (fun e => hne (Option.some.inj e))).trans G4
        try replace GZ := (hg1.block gz (Array.getElem?_eq_some_iff.1 GZ).1 (fun e => by obtain ⟨cur, hc⟩ := own_type O1 e.symm; rw [GZ] at hc; cases hc)).trans GZ
        clear hgaV hg1 hw1 Bb O1
        have O1 := ho1
        have Bb := b
        clear b ho1
        generalize V' = V at *
        refine hK.out _ _ (range_of (H12.later Bb).l) (fun _ => ?_)
        clear hK K
        try simp only [List.getElem_toArray, List.getElem_cons_succ, List.getElem_cons_zero, Act.put, List.setIfInBounds_toArray, List.set_cons_zero, List.set_cons_succ]
        refine wpAnyH_ready (rs := [5]) (by kernel_rfl) (by simp) ?_
        refine AllReadyH.cons rfl (fun K hK => ?_) AllReadyH.nil
        refine wp_app (.tmp 56) (.tmp 57) _ (by rfl) V12.heap.size 5 i0 _ 1 1 Try.underlying36 hi hz0 hz1 hz2 rfl (by omega) (.slice Aa 2 ca) 2 (u8s wB) (by rfl) (own_mono O1 hga) (.slice (some ⟨g4, 0, none⟩) 1 1) 1 [.int .u8 0] (by rfl) (sliceAt_blk G4 rfl (by decide)) (by simp [Value.oneCell']) (by decide) (by decide) Bb.size ?_
        intro v1 V' ho1 hg1 hw1
        obtain ⟨A5, c5, rfl, _, _⟩ := (sliceAt_of_own ho1).form
        have b := below_own Bb hg1 Bb.size (fun g hg => Nat.le_trans hga (own_base O1 hg).1)
        try replace GZ := (hg1.block gz (Array.getElem?_eq_some_iff.1 GZ).1 (fun e => by obtain ⟨cur, hc⟩ := own_type O1 e.symm; rw [GZ] at hc; cases hc)).trans GZ
        clear hg1 hw1 Bb O1 G4
        have O5 : SliceAt V' 1 (.slice A5 3 c5) 3 (u8s (wB ++ [0#8])) := sliceAt_of_own ho1
        have Bb := b
        clear b ho1
        generalize V' = V at *
        refine hK.out _ _ (range_of (H12.later Bb).l) (fun _ => ?_)
        clear hK K
        try simp only [List.getElem_toArray, List.getElem_cons_succ, List.getElem_cons_zero, Act.put, List.setIfInBounds_toArray, List.set_cons_zero, List.set_cons_succ]
        exact kB _ _ (range_of (H12.later Bb).l) ⟨_, _, _, _, _, _, _, rfl, Bb, O5, hgz, GZ⟩
  cases e <;> try exact hR.elim
  obtain ⟨u15, u16, u17, u18, u19, u20, u21, u22, u23, u24, u25, u26, u27, u28, u29, u30, u31, u32, u33, u34, u35, u36, u37, u38, u39, u40, u41, u42, u43, u44, u45, u46, u47, u48, u49, u50, u51, u52, u53, u54, u55, u56, u57, u58, u59, u60, u61, gz, rfl, B13⟩ := hR
  simp only [List.cons_append, List.nil_append]
  have H13 := H12.later B13
  replace hb := hb.later B13
  replace VX := var_later VX B13
  clear H12 B13
  have RL := range_of H13.l
  have RD := range_of H13.d
  have RM := range_of H13.m
  have RN := range_of H13.n
  have RX := range_of VX
  have hbm := build_mem (btnV downB) (btnV downB) rfl rfl
  have heM : ∀ W : World, (Op.equalIn 10000 35 (.agg (memV downB downB).toArray) (.agg (memV downB downB).toArray)).run Try.prog W = .ok true W := fun W => by rw [eq_mem downB downB downB downB rfl rfl rfl rfl W]; rfl
  have heB : ∀ W : World, (Op.equalIn 10000 33 (.agg (btnV downB).toArray) (.agg (btnV downB).toArray)).run Try.prog W = .ok true W := fun W => by rw [eq_btn downB downB rfl rfl W]; rfl
  obtain ⟨bb, ob, cb', hvb, _, _, hbl, hcb⟩ := hb.pos (by decide)
  obtain ⟨rfl, _, rfl⟩ := Value.slice.inj hvb
  have y0 := hcb 0 (.int .u8 66) rfl
  have y1 := hcb 1 (.int .u8 32) rfl
  clear hcb hvb hb
  go_wp2_with fail
  have b14 := kbelow_new W13 (.cells ([.int .u8 1, .int .i64 0, .int .i64 0, .int .u8 3, .int .i64 1, .int .i64 0, .int .u8 6, .int .i64 1, .int .i64 1] : List Value).toArray 57)
  have hs2 : SliceAt (W13.alloc (.cells ([.int .u8 1, .int .i64 0, .int .i64 0, .int .u8 3, .int .i64 1, .int .i64 0, .int .u8 6, .int .i64 1, .int .i64 1] : List Value).toArray 57)) 3 (.slice (some ⟨W13.heap.size, 0, none⟩) wP.length 3) wP.length (prs wP) :=
    ⟨_, _, rfl, by decide, by decide, rfl, .inr ⟨_, _, rfl, (Array.getElem?_eq_some_iff.1 (new_at rfl _)).1, fun i u hu => by rw [Nat.zero_add]; exact cell_list (new_at rfl _) hu⟩⟩
  refine (Rows_c (.slice Ap 3 cp) _ wP wP true _ (by decide) (H13.p.later b14) hs2).mono ?_
  rintro e W15 ⟨rfl, b15⟩
  have b16 := below_step b14 b15
  have H16 := H13.later b16
  replace VX := var_later VX b16
  have hlt16 := b16.block bb hbl
  replace y0 : W15.cell? ⟨bb, ob + 0, none⟩ = some (.int .u8 66) := (World.cell?_of_block (a := ⟨bb, ob + 0, none⟩) hlt16).trans y0
  replace y1 : W15.cell? ⟨bb, ob + 1, none⟩ = some (.int .u8 32) := (World.cell?_of_block (a := ⟨bb, ob + 1, none⟩) hlt16).trans y1
  rw [Nat.add_zero] at y0
  clear H13 RL RD RM RN RX hs2 b14 b15 b16 hlt16
  have RL := range_of H16.l
  have RD := range_of H16.d
  have RM := range_of H16.m
  have RN := range_of H16.n
  have RX := range_of VX
  go_wp2_with (first
    | refine wpList_load_g (by rfl) 29 (.tmp 1) (by rfl) gL 0 (by rfl) L _ RL Try.underlying29 rfl szL ?_
    | refine wpList_load_g (by rfl) 33 (.tmp 3) (by rfl) (gU + 1) 0 (by rfl) (btnV downB) _ RD Try.underlying33 rfl szB ?_
    | refine wpList_load_g (by rfl) 33 (.tmp 11) (by rfl) gx 0 (by rfl) (btnV downB) _ RX Try.underlying33 rfl szB ?_
    | refine wpList_load_g (by rfl) 35 (.tmp 5) (by rfl) gm 0 (by rfl) (memV downB downB) _ RM Try.underlying35 rfl szM ?_
    | refine wpList_load_g (by rfl) 35 (.tmp 7) (by rfl) gn 0 (by rfl) (memV downB downB) _ RN Try.underlying35 rfl szM ?_
    | refine wpList_build2g (by rfl) 35 (.tmp 70) (.tmp 71) (by rfl) _ _ (.agg (memV downB downB).toArray) (by rfl) (by rfl) (hbm _) ?_
    | fail)
  refine (Size_c L 3 [0] 2 0 A c A1 c1 A3 c3 ve 2 1 3 2 _ rfl rfl rfl rfl H16.lay).mono ?_
  rintro e W17 ⟨rfl, b17⟩
  have HB := Lib.hid (below_step H16.bel b17)
  clear RL RD RM RN RX H16 VX y0 y1
  go_wp2_with fail
  go_ret
  exact ⟨rfl, HB.out⟩
end Go.Proofs.Ytioggdiicgfoaaa
