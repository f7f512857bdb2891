/- Images: the contract of 'wakes'. Nothing that was there is turned. (This text is printed by wip/imgw.py.) -/
import Derived.Test.YtlcahkkpbikccaaDoorImgR
import Derived.Test.YtlcahkkpbikccaaDoorRnd
namespace Go.Proofs.YtlcahkkpbikccaaDoor
open Go.RowKit Rf Mem
attribute [local go_sem ↓] run_max2 run_min2
structure Ws15 (w W : World) (L A0 B0 C0 : List Value) (A : Option Addr) (cc pL pA pB pC : Nat) : Prop where
  l : W.heap[pL]? = some (.cells L.toArray 29 (0, 0))
  a : W.heap[pA]? = some (.cells A0.toArray 39 (0, 0))
  b : W.heap[pB]? = some (.cells B0.toArray 39 (0, 0))
  c : W.heap[pC]? = some (.cells C0.toArray 39 (0, 0))
  sa : SecsAt W (.slice A 2 cc) [1, 2]
  sr : SecsR W (.slice A 2 cc) secs3
  bb : Below w.heap.size w W
  t : Tops W
theorem Ws15.later {w W W' : World} {L A0 B0 C0 : List Value} {A : Option Addr} {c pL pA pB pC : Nat} (h : Ws15 w W L A0 B0 C0 A c pL pA pB pC) (b : Below W.heap.size W W') : Ws15 w W' L A0 B0 C0 A c pL pA pB pC :=
  ⟨var_later h.l b, var_later h.a b, var_later h.b b, var_later h.c b, h.sa.later b, h.sr.later b, below_step h.bb b, h.t.below b⟩
theorem Ws15.drew {w W : World} {L A0 B0 C0 : List Value} {A : Option Addr} {c pL pA pB pC : Nat} (h : Ws15 w W L A0 B0 C0 A c pL pA pB pC) : Ws15 w W.drew L A0 B0 C0 A c pL pA pB pC :=
  h.later (Below.refl _ W).drew
def badI : List Value := [.int .i64 (-1), .int .i64 0, .int .i64 0, .int .i64 0, .int .i64 0, .int .i64 0, .int .i64 0, .int .i64 0, .int .i64 0, .int .i64 0, .int .i64 0, .int .i64 0, .int .i64 0, .int .i64 0, .int .i64 0, .int .i64 0, .int .i64 0, .int .i64 0, .int .i64 0, .int .i64 0, .int .i64 0, .int .i64 0, .int .i64 0, .int .i64 0, .int .i64 0, .int .u32 0, .int .u32 0, .int .u32 0, .int .u32 0]
theorem badI_f : ImgF badI (-1) fr0 0#32 0#32 0#32 0#32 := by
  refine ⟨rfl, by simp [fr0], rfl, fun k z hk => ?_, rfl, rfl, rfl, rfl⟩
  have hlt : k < 24 := by have := (List.getElem?_eq_some_iff.1 hk).1; simpa [fr0] using this
  have hz : z = 0 := by
    have := List.mem_of_getElem? hk
    simp [fr0] at this; exact this
  subst hz
  rw [show badI = .int .i64 (-1) :: (List.replicate 24 (.int .i64 0) ++ List.replicate 4 (.int .u32 0)) from rfl, Nat.add_comm, List.getElem?_cons_succ, List.getElem?_append_left (by simpa using hlt), List.getElem?_replicate, if_pos hlt]
set_option maxHeartbeats 8000000 in
set_option maxRecDepth 100000 in
theorem wakes_c (w : World) (hT : Tops w) : Calls Tryd.prog 6 #[] w fun e w' => e = .returned (.bool true) ∧ Below w.heap.size w w' := by
  go_enter Tryd.func6, Tryd.ntmps6
  go_wp2_with fail
  refine (three_c _).mono ?_
  rintro e W1 ⟨BB, L, A, c, A1, c1, rfl, hL, hSA, hSR, h1L⟩
  have hT1 := hT.below BB
  have szL := lay_size hL.len
  have oneL := all_oneCell_toArray h1L
  obtain ⟨W2, hWs, VL, bs, ths⟩ := new_var W1 zL 29 L (by simp [hL.len])
  replace hSA := hSA.later bs
  replace hSR := hSR.later bs
  replace hT1 := hT1.below bs
  replace BB := below_step BB bs
  have HWS := Lib.hid hWs
  clear bs hWs
  go_wp2_with (first
      | (refine wpList_store_mid rfl 29 (.tmp 1) (.tmp 7) (by rfl) W1.heap.size 0 L.toArray (by rfl) (by rfl) ths (by simpa using szL) oneL ?_; rw [HWS.out]))
  refine (New_c _).mono ?_
  rintro e W3 ⟨b, rfl⟩
  clear HWS ths
  replace VL := var_later VL b
  replace hSA := hSA.later b
  replace hSR := hSR.later b
  replace hT1 := hT1.below b
  replace BB := below_step BB b
  have hMA := newI_f
  have szA := img_size hMA.len
  have oneA := all_oneCell_toArray hMA.one
  clear b
  obtain ⟨W4, hWs, VA, bs, ths⟩ := new_var W3 zM 39 newI (by simp [hMA.len])
  replace VL := var_later VL bs
  replace hSA := hSA.later bs
  replace hSR := hSR.later bs
  replace hT1 := hT1.below bs
  replace BB := below_step BB bs
  have HWS := Lib.hid hWs
  clear bs hWs
  obtain ⟨WI, hWI⟩ : ∃ WI, W4.alloc (.cells (inV 1#32 0#32 2#32 1#32) 37) = WI := ⟨_, rfl⟩
  have bi : Below W4.heap.size W4 WI := by rw [← hWI]; exact below_new _ _
  have VI : WI.heap[W4.heap.size]? = some (.cells (inV 1#32 0#32 2#32 1#32) 37 (0, 0)) := by rw [← hWI]; exact new_at rfl _
  replace VL := var_later VL bi
  replace VA := var_later VA bi
  replace hSA := hSA.later bi
  replace hSR := hSR.later bi
  replace hT1 := hT1.below bi
  replace BB := below_step BB bi
  have szI : (Tryd.prog.info? 37).map (·.size) = some [Value.int .u32 (1#32).toNat, .int .u32 (0#32).toNat, .int .u32 (2#32).toNat, .int .u32 (1#32).toNat].length := by kernel_rfl
  have HWI := Lib.hid hWI
  clear bi hWI
  go_upto_region 3 with (first
      | (refine wpList_store_mid rfl 39 (.tmp 2) (.tmp 8) (by rfl) W3.heap.size 0 newI.toArray (by rfl) (by rfl) ths (by simpa using szA) oneA ?_; rw [HWS.out]))
  go_upto_region 4 with (fail)
  rw [show W4.alloc (.cells #[.int .u32 1, .int .u32 0, .int .u32 2, .int .u32 1] 37) = WI from HWI.out]
  clear HWI HWS ths szA oneA hT oneL
  generalize W1.heap.size = pL at *
  generalize W3.heap.size = pA at *
  generalize W4.heap.size = pI at *
  have szA := img_size hMA.len
  go_wp2_with (first
      | refine wpList_load_g (by rfl) 29 (.tmp 1) (by rfl) pL 0 (by rfl) L _ (range_of VL) Tryd.underlying29 rfl szL ?_
      | refine wpList_load_g (by rfl) 39 (.tmp 2) (by rfl) pA 0 (by rfl) newI _ (range_of VA) Tryd.underlying39 rfl szA ?_
      | refine wpList_load_g (by rfl) 37 (.tmp 3) (by rfl) pI 0 (by rfl) [Value.int .u32 (1#32).toNat, .int .u32 (0#32).toNat, .int .u32 (2#32).toNat, .int .u32 (1#32).toNat] _ (range_of VI) Tryd.underlying37 rfl szI ?_)
  refine (Take_g L newI 2 1 2 2 65535 A A1 c c1 fr0 (frN 1) 0#32 0#32 0#32 0#32 1#32 0#32 2#32 1#32 _ fr_b hT1 hL hMA).mono ?_
  rintro e W5 ⟨b, B0, rfl, hMB⟩
  replace VL := var_later VL b
  replace VA := var_later VA b
  replace VI := var_later VI b
  replace hSA := hSA.later b
  replace hSR := hSR.later b
  replace hT1 := hT1.below b
  replace BB := below_step BB b
  have szB := img_size hMB.len
  have oneB := all_oneCell_toArray hMB.one
  clear b
  obtain ⟨W6, hWs, VB, bs, ths⟩ := new_var W5 zM 39 B0 (by simp [hMB.len])
  replace VL := var_later VL bs
  replace VA := var_later VA bs
  replace VI := var_later VI bs
  replace hSA := hSA.later bs
  replace hSR := hSR.later bs
  replace hT1 := hT1.below bs
  replace BB := below_step BB bs
  have HWS := Lib.hid hWs
  clear bs hWs
  go_wp2_with (first
      | (refine wpList_store_mid rfl 39 (.tmp 4) (.tmp 13) (by rfl) W5.heap.size 0 B0.toArray (by rfl) (by rfl) ths (by simpa using szB) oneB ?_; rw [HWS.out])
      | refine wpList_load_g (by rfl) 29 (.tmp 1) (by rfl) pL 0 (by rfl) L _ (range_of VL) Tryd.underlying29 rfl szL ?_
      | refine wpList_load_g (by rfl) 39 (.tmp 4) (by rfl) W5.heap.size 0 (by rfl) B0 _ (range_of VB) Tryd.underlying39 rfl szB ?_
      | refine wpList_load_g (by rfl) 37 (.tmp 3) (by rfl) pI 0 (by rfl) [Value.int .u32 (1#32).toNat, .int .u32 (0#32).toNat, .int .u32 (2#32).toNat, .int .u32 (1#32).toNat] _ (range_of VI) Tryd.underlying37 rfl szI ?_)
  refine (Take_g L B0 2 1 2 2 0 A A1 c c1 (frN 1) (frN 2) 1#32 0#32 2#32 1#32 1#32 0#32 2#32 1#32 _ fr_c hT1 hL hMB).mono ?_
  rintro e W7 ⟨b, C0, rfl, hMC⟩
  clear HWS ths
  generalize W5.heap.size = pB at *
  replace VL := var_later VL b
  replace VA := var_later VA b
  replace VB := var_later VB b
  replace hSA := hSA.later b
  replace hSR := hSR.later b
  replace hT1 := hT1.below b
  replace BB := below_step BB b
  have szC := img_size hMC.len
  have oneC := all_oneCell_toArray hMC.one
  clear b VI
  obtain ⟨W8, hWs, VC, bs, ths⟩ := new_var W7 zM 39 C0 (by simp [hMC.len])
  replace VL := var_later VL bs
  replace VA := var_later VA bs
  replace VB := var_later VB bs
  replace hSA := hSA.later bs
  replace hSR := hSR.later bs
  replace hT1 := hT1.below bs
  replace BB := below_step BB bs
  have HWS := Lib.hid hWs
  clear bs hWs
  go_upto_region 6 with (first
      | (refine wpList_store_mid rfl 39 (.tmp 5) (.tmp 17) (by rfl) W7.heap.size 0 C0.toArray (by rfl) (by rfl) ths (by simpa using szC) oneC ?_; rw [HWS.out]))
  have S := Ws15.mk VL VA VB VC hSA hSR BB hT1
  clear HWS ths VL VA VB VC hSA hSR BB hT1 oneB oneC szI
  generalize W7.heap.size = pC at *
  refine Code.wp_mono (Q := nq (fun a W => ∃ (pD : Nat) (M1 M2 M3 : List Value), a = { tmps := (([.bool false, .pointer (some ⟨pL, 0, none⟩), .pointer (some ⟨pA, 0, none⟩), .pointer (some ⟨pI, 0, none⟩), .pointer (some ⟨pB, 0, none⟩), .pointer (some ⟨pC, 0, none⟩), .pointer (some ⟨pD, 0, none⟩), .agg L.toArray, .agg newI.toArray, .agg (inV 1#32 0#32 2#32 1#32), .agg L.toArray, .agg newI.toArray, .agg (inV 1#32 0#32 2#32 1#32), .agg B0.toArray, .agg L.toArray, .agg B0.toArray, .agg (inV 1#32 0#32 2#32 1#32), .agg C0.toArray, .agg L.toArray, .agg L.toArray, .agg L.toArray, .agg C0.toArray, .agg M1.toArray, .agg M2.toArray, .agg M3.toArray] ++ ([undef, undef, undef, undef, undef, undef, undef, undef, undef, undef, undef, undef, undef, undef, undef, undef, undef, undef, undef, undef, undef, undef, undef, undef, undef, undef, undef, undef, undef, undef, undef, undef, undef, undef, undef, undef, undef, undef, undef, undef, undef, undef, undef, undef, undef, undef, undef, undef, undef, undef, undef, undef, undef, undef, undef, undef, undef, undef, undef, undef] ++ [undef, undef, undef, undef, undef, undef, undef, undef, undef, undef, undef, undef, undef, undef, undef, undef, undef, undef, undef, undef, undef, undef, undef, undef, undef, undef, undef, undef, undef, undef, undef, undef, undef, undef, undef, undef, undef, undef, undef, undef, undef, undef, undef, undef, undef, undef, undef, undef, undef, undef, undef, undef, undef, undef, undef, undef, undef, undef, undef]) : List Value)).toArray, defers := [] } ∧ Ws15 w W L newI B0 C0 A c pL pA pB pC ∧ W.heap[pD]? = some (.cells M3.toArray 39 (0, 0)) ∧ ImgF M3 3 fr0 1#32 0#32 2#32 1#32)) (fun e a W hR => ?_) ?_
  rotate_left
  · replace S := S.drew
    refine wp_region_held_drew (S := (fun w' => w'.rangeAt pL 0 L ∧ w'.rangeAt pC 0 C0)) (by kernel_rfl) ?_ (fun hHeld => ?_)
    · exact ⟨range_of S.l, range_of S.c⟩
    generalize W8.drew = V0 at *
    refine wpAnyH_take (i := 0) (v := .agg (L : List Value).toArray) rfl (by kernel_rfl) (by kernel_rfl) (by kernel_rfl) (fun _ _ _ h => h) (yieldsIf_load_mid rfl 29 (.tmp 1) rfl (pL) 0 rfl L _ (fun w' h => h.1) (by first | exact Tryd.underlying29) rfl (by first | assumption | (simp only [*]; kernel_rfl))) (by assumption) ?_
    simp only [List.getElem_toArray, List.getElem_cons_succ, List.getElem_cons_zero, Act.put, List.setIfInBounds_toArray, List.set_cons_zero, List.set_cons_succ]
    refine wpAnyH_take (i := 1) (v := .agg (L : List Value).toArray) rfl (by kernel_rfl) (by kernel_rfl) (by kernel_rfl) (fun _ _ _ h => h) (yieldsIf_load_mid rfl 29 (.tmp 1) rfl (pL) 0 rfl L _ (fun w' h => h.1) (by first | exact Tryd.underlying29) rfl (by first | assumption | (simp only [*]; kernel_rfl))) (by assumption) ?_
    simp only [List.getElem_toArray, List.getElem_cons_succ, List.getElem_cons_zero, Act.put, List.setIfInBounds_toArray, List.set_cons_zero, List.set_cons_succ]
    refine wpAnyH_take (i := 2) (v := .agg (L : List Value).toArray) rfl (by kernel_rfl) (by kernel_rfl) (by kernel_rfl) (fun _ _ _ h => h) (yieldsIf_load_mid rfl 29 (.tmp 1) rfl (pL) 0 rfl L _ (fun w' h => h.1) (by first | exact Tryd.underlying29) rfl (by first | assumption | (simp only [*]; kernel_rfl))) (by assumption) ?_
    simp only [List.getElem_toArray, List.getElem_cons_succ, List.getElem_cons_zero, Act.put, List.setIfInBounds_toArray, List.set_cons_zero, List.set_cons_succ]
    refine wpAnyH_take (i := 3) (v := .agg (C0 : List Value).toArray) rfl (by kernel_rfl) (by kernel_rfl) (by kernel_rfl) (fun _ _ _ h => h) (yieldsIf_load_mid rfl 39 (.tmp 5) rfl (pC) 0 rfl C0 _ (fun w' h => h.2) (by first | exact Tryd.underlying39) rfl (by first | assumption | (simp only [*]; kernel_rfl))) (by assumption) ?_
    simp only [List.getElem_toArray, List.getElem_cons_succ, List.getElem_cons_zero, Act.put, List.setIfInBounds_toArray, List.set_cons_zero, List.set_cons_succ]
    refine wpAnyH_ready (rs := [4, 7]) (by kernel_rfl) (by simp) ?_
    refine AllReadyH.cons rfl ?_ (AllReadyH.cons rfl ?_ AllReadyH.nil)
    · intro K hK
      go_simp
      refine (Pass_g L C0 2 1 2 2 0 1 A A1 c c1 (frN 2) (frN 3) 1#32 0#32 2#32 1#32 _ (by decide) fr_1 S.t hL hMC).mono ?_
      rintro e V1 ⟨b, M1, rfl, hM1⟩
      replace S := S.later b
      clear b
      refine hK.out _ _ ⟨range_of S.l, range_of S.c⟩ (fun _ => ?_)
      clear hK K
      try simp only [List.getElem_toArray, List.getElem_cons_succ, List.getElem_cons_zero, Act.put, List.setIfInBounds_toArray, List.set_cons_zero, List.set_cons_succ]
      refine wpAnyH_ready (rs := [5, 7]) (by kernel_rfl) (by simp) ?_
      refine AllReadyH.cons rfl ?_ (AllReadyH.cons rfl ?_ AllReadyH.nil)
      · intro K hK
        go_simp
        refine (Pass_g L M1 2 1 2 2 1 2 A A1 c c1 (frN 3) (frN 4) 1#32 0#32 2#32 1#32 _ (by decide) fr_2 S.t hL hM1).mono ?_
        rintro e V2 ⟨b, M2, rfl, hM2⟩
        replace S := S.later b
        clear b
        refine hK.out _ _ ⟨range_of S.l, range_of S.c⟩ (fun _ => ?_)
        clear hK K
        try simp only [List.getElem_toArray, List.getElem_cons_succ, List.getElem_cons_zero, Act.put, List.setIfInBounds_toArray, List.set_cons_zero, List.set_cons_succ]
        refine wpAnyH_ready (rs := [6, 7]) (by kernel_rfl) (by simp) ?_
        refine AllReadyH.cons rfl ?_ (AllReadyH.cons rfl ?_ AllReadyH.nil)
        · intro K hK
          go_simp
          refine (Pass_g L M2 2 1 2 2 2 3 A A1 c c1 (frN 4) fr0 1#32 0#32 2#32 1#32 _ (by decide) fr_3 S.t hL hM2).mono ?_
          rintro e V3 ⟨b, M3, rfl, hM3⟩
          replace S := S.later b
          clear b
          refine hK.out _ _ ⟨range_of S.l, range_of S.c⟩ (fun _ => ?_)
          clear hK K
          try simp only [List.getElem_toArray, List.getElem_cons_succ, List.getElem_cons_zero, Act.put, List.setIfInBounds_toArray, List.set_cons_zero, List.set_cons_succ]
          refine wpAnyH_ready (rs := [7]) (by kernel_rfl) (by simp) ?_
          refine AllReadyH.cons rfl ?_ AllReadyH.nil
          · intro K hK
            go_simp
            have GD := new_at (w := V3) rfl (.cells zM 39)
            have BA := below_new V3 (.cells zM 39)
            have SA := S
            replace S := S.later BA
            generalize hVa : V3.alloc (.cells zM 39) = V4 at *
            clear hVa
            generalize V3 = Wa at *
            refine hK.out _ _ ⟨range_of S.l, range_of S.c⟩ (fun _ => ?_)
            clear hK K
            try simp only [List.getElem_toArray, List.getElem_cons_succ, List.getElem_cons_zero, Act.put, List.setIfInBounds_toArray, List.set_cons_zero, List.set_cons_succ]
            refine wpAnyH_ready (rs := [8]) (by kernel_rfl) (by simp) ?_
            refine AllReadyH.cons rfl (fun K hK => ?_) AllReadyH.nil
            have BF : Below Wa.heap.size Wa (V4.setCells Wa.heap.size 0 M3.toArray.toList) := below_setCells (Nat.le_refl _) _ _ BA
            have SF := SA.later BF
            have GF : (V4.setCells Wa.heap.size 0 M3.toArray.toList).heap[Wa.heap.size]? = some (.cells M3.toArray 39 (0, 0)) := by rw [setCells_at _ _ GD, setL_all (by simp [hM3.len])]
            refine wp_store_mid 39 (.tmp 6) (.tmp 24) (by rfl) Wa.heap.size 0 M3.toArray (by rfl) (by rfl) (there_of GD 0 _ (by simp [hM3.len])) (by simpa using img_size hM3.len) (all_oneCell_toArray hM3.one) ?_
            generalize V4.setCells Wa.heap.size 0 M3.toArray.toList = VF at *
            refine hK.out _ _ ⟨range_of SF.l, range_of SF.c⟩ (fun _ => ?_)
            clear hK K
            try simp only [List.getElem_toArray, List.getElem_cons_succ, List.getElem_cons_zero, Act.put, List.setIfInBounds_toArray, List.set_cons_zero, List.set_cons_succ]
            refine wpAnyH_done (by kernel_rfl) ?_ _
            exact ⟨Wa.heap.size, M1, M2, M3, rfl, SF, GF, hM3⟩
        · intro K hK
          go_simp
          have GD := new_at (w := V2) rfl (.cells zM 39)
          have BA := below_new V2 (.cells zM 39)
          have SA := S
          replace S := S.later BA
          generalize hVa : V2.alloc (.cells zM 39) = V3 at *
          clear hVa
          generalize V2 = Wa at *
          refine hK.out _ _ ⟨range_of S.l, range_of S.c⟩ (fun _ => ?_)
          clear hK K
          try simp only [List.getElem_toArray, List.getElem_cons_succ, List.getElem_cons_zero, Act.put, List.setIfInBounds_toArray, List.set_cons_zero, List.set_cons_succ]
          refine wpAnyH_ready (rs := [6]) (by kernel_rfl) (by simp) ?_
          refine AllReadyH.cons rfl ?_ AllReadyH.nil
          · intro K hK
            go_simp
            refine (Pass_g L M2 2 1 2 2 2 3 A A1 c c1 (frN 4) fr0 1#32 0#32 2#32 1#32 _ (by decide) fr_3 S.t hL hM2).mono ?_
            rintro e V4 ⟨b, M3, rfl, hM3⟩
            replace S := S.later b
            replace BA := below_step BA b
            replace GD := var_later GD b
            clear b
            refine hK.out _ _ ⟨range_of S.l, range_of S.c⟩ (fun _ => ?_)
            clear hK K
            try simp only [List.getElem_toArray, List.getElem_cons_succ, List.getElem_cons_zero, Act.put, List.setIfInBounds_toArray, List.set_cons_zero, List.set_cons_succ]
            refine wpAnyH_ready (rs := [8]) (by kernel_rfl) (by simp) ?_
            refine AllReadyH.cons rfl (fun K hK => ?_) AllReadyH.nil
            have BF : Below Wa.heap.size Wa (V4.setCells Wa.heap.size 0 M3.toArray.toList) := below_setCells (Nat.le_refl _) _ _ BA
            have SF := SA.later BF
            have GF : (V4.setCells Wa.heap.size 0 M3.toArray.toList).heap[Wa.heap.size]? = some (.cells M3.toArray 39 (0, 0)) := by rw [setCells_at _ _ GD, setL_all (by simp [hM3.len])]
            refine wp_store_mid 39 (.tmp 6) (.tmp 24) (by rfl) Wa.heap.size 0 M3.toArray (by rfl) (by rfl) (there_of GD 0 _ (by simp [hM3.len])) (by simpa using img_size hM3.len) (all_oneCell_toArray hM3.one) ?_
            generalize V4.setCells Wa.heap.size 0 M3.toArray.toList = VF at *
            refine hK.out _ _ ⟨range_of SF.l, range_of SF.c⟩ (fun _ => ?_)
            clear hK K
            try simp only [List.getElem_toArray, List.getElem_cons_succ, List.getElem_cons_zero, Act.put, List.setIfInBounds_toArray, List.set_cons_zero, List.set_cons_succ]
            refine wpAnyH_done (by kernel_rfl) ?_ _
            exact ⟨Wa.heap.size, M1, M2, M3, rfl, SF, GF, hM3⟩
      · intro K hK
        go_simp
        have GD := new_at (w := V1) rfl (.cells zM 39)
        have BA := below_new V1 (.cells zM 39)
        have SA := S
        replace S := S.later BA
        generalize hVa : V1.alloc (.cells zM 39) = V2 at *
        clear hVa
        generalize V1 = Wa at *
        refine hK.out _ _ ⟨range_of S.l, range_of S.c⟩ (fun _ => ?_)
        clear hK K
        try simp only [List.getElem_toArray, List.getElem_cons_succ, List.getElem_cons_zero, Act.put, List.setIfInBounds_toArray, List.set_cons_zero, List.set_cons_succ]
        refine wpAnyH_ready (rs := [5]) (by kernel_rfl) (by simp) ?_
        refine AllReadyH.cons rfl ?_ AllReadyH.nil
        · intro K hK
          go_simp
          refine (Pass_g L M1 2 1 2 2 1 2 A A1 c c1 (frN 3) (frN 4) 1#32 0#32 2#32 1#32 _ (by decide) fr_2 S.t hL hM1).mono ?_
          rintro e V3 ⟨b, M2, rfl, hM2⟩
          replace S := S.later b
          replace BA := below_step BA b
          replace GD := var_later GD b
          clear b
          refine hK.out _ _ ⟨range_of S.l, range_of S.c⟩ (fun _ => ?_)
          clear hK K
          try simp only [List.getElem_toArray, List.getElem_cons_succ, List.getElem_cons_zero, Act.put, List.setIfInBounds_toArray, List.set_cons_zero, List.set_cons_succ]
          refine wpAnyH_ready (rs := [6]) (by kernel_rfl) (by simp) ?_
          refine AllReadyH.cons rfl ?_ AllReadyH.nil
          · intro K hK
            go_simp
            refine (Pass_g L M2 2 1 2 2 2 3 A A1 c c1 (frN 4) fr0 1#32 0#32 2#32 1#32 _ (by decide) fr_3 S.t hL hM2).mono ?_
            rintro e V4 ⟨b, M3, rfl, hM3⟩
            replace S := S.later b
            replace BA := below_step BA b
            replace GD := var_later GD b
            clear b
            refine hK.out _ _ ⟨range_of S.l, range_of S.c⟩ (fun _ => ?_)
            clear hK K
            try simp only [List.getElem_toArray, List.getElem_cons_succ, List.getElem_cons_zero, Act.put, List.setIfInBounds_toArray, List.set_cons_zero, List.set_cons_succ]
            refine wpAnyH_ready (rs := [8]) (by kernel_rfl) (by simp) ?_
            refine AllReadyH.cons rfl (fun K hK => ?_) AllReadyH.nil
            have BF : Below Wa.heap.size Wa (V4.setCells Wa.heap.size 0 M3.toArray.toList) := below_setCells (Nat.le_refl _) _ _ BA
            have SF := SA.later BF
            have GF : (V4.setCells Wa.heap.size 0 M3.toArray.toList).heap[Wa.heap.size]? = some (.cells M3.toArray 39 (0, 0)) := by rw [setCells_at _ _ GD, setL_all (by simp [hM3.len])]
            refine wp_store_mid 39 (.tmp 6) (.tmp 24) (by rfl) Wa.heap.size 0 M3.toArray (by rfl) (by rfl) (there_of GD 0 _ (by simp [hM3.len])) (by simpa using img_size hM3.len) (all_oneCell_toArray hM3.one) ?_
            generalize V4.setCells Wa.heap.size 0 M3.toArray.toList = VF at *
            refine hK.out _ _ ⟨range_of SF.l, range_of SF.c⟩ (fun _ => ?_)
            clear hK K
            try simp only [List.getElem_toArray, List.getElem_cons_succ, List.getElem_cons_zero, Act.put, List.setIfInBounds_toArray, List.set_cons_zero, List.set_cons_succ]
            refine wpAnyH_done (by kernel_rfl) ?_ _
            exact ⟨Wa.heap.size, M1, M2, M3, rfl, SF, GF, hM3⟩
    · intro K hK
      go_simp
      have GD := new_at (w := V0) rfl (.cells zM 39)
      have BA := below_new V0 (.cells zM 39)
      have SA := S
      replace S := S.later BA
      generalize hVa : V0.alloc (.cells zM 39) = V1 at *
      clear hVa
      generalize V0 = Wa at *
      refine hK.out _ _ ⟨range_of S.l, range_of S.c⟩ (fun _ => ?_)
      clear hK K
      try simp only [List.getElem_toArray, List.getElem_cons_succ, List.getElem_cons_zero, Act.put, List.setIfInBounds_toArray, List.set_cons_zero, List.set_cons_succ]
      refine wpAnyH_ready (rs := [4]) (by kernel_rfl) (by simp) ?_
      refine AllReadyH.cons rfl ?_ AllReadyH.nil
      · intro K hK
        go_simp
        refine (Pass_g L C0 2 1 2 2 0 1 A A1 c c1 (frN 2) (frN 3) 1#32 0#32 2#32 1#32 _ (by decide) fr_1 S.t hL hMC).mono ?_
        rintro e V2 ⟨b, M1, rfl, hM1⟩
        replace S := S.later b
        replace BA := below_step BA b
        replace GD := var_later GD b
        clear b
        refine hK.out _ _ ⟨range_of S.l, range_of S.c⟩ (fun _ => ?_)
        clear hK K
        try simp only [List.getElem_toArray, List.getElem_cons_succ, List.getElem_cons_zero, Act.put, List.setIfInBounds_toArray, List.set_cons_zero, List.set_cons_succ]
        refine wpAnyH_ready (rs := [5]) (by kernel_rfl) (by simp) ?_
        refine AllReadyH.cons rfl ?_ AllReadyH.nil
        · intro K hK
          go_simp
          refine (Pass_g L M1 2 1 2 2 1 2 A A1 c c1 (frN 3) (frN 4) 1#32 0#32 2#32 1#32 _ (by decide) fr_2 S.t hL hM1).mono ?_
          rintro e V3 ⟨b, M2, rfl, hM2⟩
          replace S := S.later b
          replace BA := below_step BA b
          replace GD := var_later GD b
          clear b
          refine hK.out _ _ ⟨range_of S.l, range_of S.c⟩ (fun _ => ?_)
          clear hK K
          try simp only [List.getElem_toArray, List.getElem_cons_succ, List.getElem_cons_zero, Act.put, List.setIfInBounds_toArray, List.set_cons_zero, List.set_cons_succ]
          refine wpAnyH_ready (rs := [6]) (by kernel_rfl) (by simp) ?_
          refine AllReadyH.cons rfl ?_ AllReadyH.nil
          · intro K hK
            go_simp
            refine (Pass_g L M2 2 1 2 2 2 3 A A1 c c1 (frN 4) fr0 1#32 0#32 2#32 1#32 _ (by decide) fr_3 S.t hL hM2).mono ?_
            rintro e V4 ⟨b, M3, rfl, hM3⟩
            replace S := S.later b
            replace BA := below_step BA b
            replace GD := var_later GD b
            clear b
            refine hK.out _ _ ⟨range_of S.l, range_of S.c⟩ (fun _ => ?_)
            clear hK K
            try simp only [List.getElem_toArray, List.getElem_cons_succ, List.getElem_cons_zero, Act.put, List.setIfInBounds_toArray, List.set_cons_zero, List.set_cons_succ]
            refine wpAnyH_ready (rs := [8]) (by kernel_rfl) (by simp) ?_
            refine AllReadyH.cons rfl (fun K hK => ?_) AllReadyH.nil
            have BF : Below Wa.heap.size Wa (V4.setCells Wa.heap.size 0 M3.toArray.toList) := below_setCells (Nat.le_refl _) _ _ BA
            have SF := SA.later BF
            have GF : (V4.setCells Wa.heap.size 0 M3.toArray.toList).heap[Wa.heap.size]? = some (.cells M3.toArray 39 (0, 0)) := by rw [setCells_at _ _ GD, setL_all (by simp [hM3.len])]
            refine wp_store_mid 39 (.tmp 6) (.tmp 24) (by rfl) Wa.heap.size 0 M3.toArray (by rfl) (by rfl) (there_of GD 0 _ (by simp [hM3.len])) (by simpa using img_size hM3.len) (all_oneCell_toArray hM3.one) ?_
            generalize V4.setCells Wa.heap.size 0 M3.toArray.toList = VF at *
            refine hK.out _ _ ⟨range_of SF.l, range_of SF.c⟩ (fun _ => ?_)
            clear hK K
            try simp only [List.getElem_toArray, List.getElem_cons_succ, List.getElem_cons_zero, Act.put, List.setIfInBounds_toArray, List.set_cons_zero, List.set_cons_succ]
            refine wpAnyH_done (by kernel_rfl) ?_ _
            exact ⟨Wa.heap.size, M1, M2, M3, rfl, SF, GF, hM3⟩
  cases e <;> try exact hR.elim
  obtain ⟨pD, M1, M2, M3, rfl, S', VD, hMD⟩ := hR
  simp only [List.cons_append, List.nil_append]
  clear S
  have S := S'
  clear S'
  have szB := img_size hMB.len
  have szC := img_size hMC.len
  have szD := img_size hMD.len
  go_upto_region 7 with (fail)
  simp only [List.append_eq, List.cons_append, List.nil_append]
  go_wp2_with (first
      | refine wpList_load_g (by rfl) 29 (.tmp 1) (by rfl) pL 0 (by rfl) L _ (range_of S.l) Tryd.underlying29 rfl szL ?_
      | refine wpList_load_g (by rfl) 39 (.tmp 2) (by rfl) pA 0 (by rfl) newI _ (range_of S.a) Tryd.underlying39 rfl szA ?_)
  refine (Stale_g L newI 65535 2 true _ (by decide) hL.st hMA.age).mono ?_
  rintro e X1 ⟨rfl, b⟩
  replace S := S.later b
  replace VD := var_later VD b
  clear b
  go_wp2_with (first
      | refine wpList_load_g (by rfl) 29 (.tmp 1) (by rfl) pL 0 (by rfl) L _ (range_of S.l) Tryd.underlying29 rfl szL ?_
      | refine wpList_load_g (by rfl) 39 (.tmp 2) (by rfl) pA 0 (by rfl) newI _ (range_of S.a) Tryd.underlying39 rfl szA ?_)
  refine (Occupied_g L newI 2 1 2 2 65535 1 A A1 c c1 fr0 0#32 0#32 0#32 0#32 true _ (by decide +kernel) hL hMA).mono ?_
  rintro e X2 ⟨rfl, b⟩
  replace S := S.later b
  replace VD := var_later VD b
  clear b
  go_wp2_with (first
      | refine wpList_load_g (by rfl) 29 (.tmp 1) (by rfl) pL 0 (by rfl) L _ (range_of S.l) Tryd.underlying29 rfl szL ?_
      | refine wpList_load_g (by rfl) 39 (.tmp 2) (by rfl) pA 0 (by rfl) newI _ (range_of S.a) Tryd.underlying39 rfl szA ?_)
  refine (At_g L newI [1, 2] 2 1 2 2 65535 1 A A1 c c1 fr0 0#32 0#32 0#32 0#32 (-1) _ rfl (by decide +kernel) hL hMA S.sa).mono ?_
  rintro e X3 ⟨rfl, b⟩
  replace S := S.later b
  replace VD := var_later VD b
  clear b
  go_wp2_with (first
      | refine wpList_load_g (by rfl) 29 (.tmp 1) (by rfl) pL 0 (by rfl) L _ (range_of S.l) Tryd.underlying29 rfl szL ?_
      | refine wpList_load_g (by rfl) 39 (.tmp 2) (by rfl) pA 0 (by rfl) newI _ (range_of S.a) Tryd.underlying39 rfl szA ?_)
  refine (Lit_g L newI 2 1 2 2 65535 0 A A1 c c1 fr0 0#32 0#32 0#32 0#32 false _ (by decide +kernel) hL hMA).mono ?_
  rintro e X4 ⟨rfl, b⟩
  replace S := S.later b
  replace VD := var_later VD b
  clear b
  go_wp2_with (first
      | refine wpList_load_g (by rfl) 29 (.tmp 1) (by rfl) pL 0 (by rfl) L _ (range_of S.l) Tryd.underlying29 rfl szL ?_
      | refine wpList_load_g (by rfl) 39 (.tmp 2) (by rfl) pA 0 (by rfl) newI _ (range_of S.a) Tryd.underlying39 rfl szA ?_)
  refine (Mask_g L newI secs3 2 1 2 2 65535 A A1 c c1 fr0 0#32 0#32 0#32 0#32 3 _ rfl (by decide +kernel) hL hMA S.sr).mono ?_
  rintro e X5 ⟨rfl, b⟩
  replace S := S.later b
  replace VD := var_later VD b
  clear b
  go_wp2_with (first
      | refine wpList_load_g (by rfl) 29 (.tmp 1) (by rfl) pL 0 (by rfl) L _ (range_of S.l) Tryd.underlying29 rfl szL ?_
      | refine wpList_load_g (by rfl) 39 (.tmp 4) (by rfl) pB 0 (by rfl) B0 _ (range_of S.b) Tryd.underlying39 rfl szB ?_)
  refine (Stale_g L B0 0 2 false _ (by decide) hL.st hMB.age).mono ?_
  rintro e X6 ⟨rfl, b⟩
  replace S := S.later b
  replace VD := var_later VD b
  clear b
  go_wp2_with (first
      | refine wpList_load_g (by rfl) 29 (.tmp 1) (by rfl) pL 0 (by rfl) L _ (range_of S.l) Tryd.underlying29 rfl szL ?_
      | refine wpList_load_g (by rfl) 39 (.tmp 4) (by rfl) pB 0 (by rfl) B0 _ (range_of S.b) Tryd.underlying39 rfl szB ?_)
  refine (Occupied_g L B0 2 1 2 2 0 1 A A1 c c1 (frN 1) 1#32 0#32 2#32 1#32 true _ (by decide +kernel) hL hMB).mono ?_
  rintro e X7 ⟨rfl, b⟩
  replace S := S.later b
  replace VD := var_later VD b
  clear b
  go_wp2_with (first
      | refine wpList_load_g (by rfl) 29 (.tmp 1) (by rfl) pL 0 (by rfl) L _ (range_of S.l) Tryd.underlying29 rfl szL ?_
      | refine wpList_load_g (by rfl) 39 (.tmp 5) (by rfl) pC 0 (by rfl) C0 _ (range_of S.c) Tryd.underlying39 rfl szC ?_)
  refine (Occupied_g L C0 2 1 2 2 0 0 A A1 c c1 (frN 2) 1#32 0#32 2#32 1#32 true _ (by decide +kernel) hL hMC).mono ?_
  rintro e X8 ⟨rfl, b⟩
  replace S := S.later b
  replace VD := var_later VD b
  clear b
  go_wp2_with (first
      | refine wpList_load_g (by rfl) 29 (.tmp 1) (by rfl) pL 0 (by rfl) L _ (range_of S.l) Tryd.underlying29 rfl szL ?_
      | refine wpList_load_g (by rfl) 39 (.tmp 5) (by rfl) pC 0 (by rfl) C0 _ (range_of S.c) Tryd.underlying39 rfl szC ?_)
  refine (Told_g L C0 2 1 2 2 0 0 A A1 c c1 (frN 2) 1#32 0#32 2#32 1#32 true _ (by decide +kernel) hL hMC).mono ?_
  rintro e X9 ⟨rfl, b⟩
  replace S := S.later b
  replace VD := var_later VD b
  clear b
  go_wp2_with (first
      | refine wpList_load_g (by rfl) 29 (.tmp 1) (by rfl) pL 0 (by rfl) L _ (range_of S.l) Tryd.underlying29 rfl szL ?_
      | refine wpList_load_g (by rfl) 39 (.tmp 5) (by rfl) pC 0 (by rfl) C0 _ (range_of S.c) Tryd.underlying39 rfl szC ?_)
  refine (Told_g L C0 2 1 2 2 0 1 A A1 c c1 (frN 2) 1#32 0#32 2#32 1#32 false _ (by decide +kernel) hL hMC).mono ?_
  rintro e X10 ⟨rfl, b⟩
  replace S := S.later b
  replace VD := var_later VD b
  clear b
  go_wp2_with (first
      | refine wpList_load_g (by rfl) 29 (.tmp 1) (by rfl) pL 0 (by rfl) L _ (range_of S.l) Tryd.underlying29 rfl szL ?_
      | refine wpList_load_g (by rfl) 39 (.tmp 2) (by rfl) pA 0 (by rfl) newI _ (range_of S.a) Tryd.underlying39 rfl szA ?_)
  refine (Told_g L newI 2 1 2 2 65535 0 A A1 c c1 fr0 0#32 0#32 0#32 0#32 false _ (by decide +kernel) hL hMA).mono ?_
  rintro e X11 ⟨rfl, b⟩
  replace S := S.later b
  replace VD := var_later VD b
  clear b
  go_wp2_with (first
      | refine wpList_load_g (by rfl) 29 (.tmp 1) (by rfl) pL 0 (by rfl) L _ (range_of S.l) Tryd.underlying29 rfl szL ?_
      | refine wpList_load_g (by rfl) 39 (.tmp 5) (by rfl) pC 0 (by rfl) C0 _ (range_of S.c) Tryd.underlying39 rfl szC ?_)
  refine (Occupied_g L C0 2 1 2 2 0 1 A A1 c c1 (frN 2) 1#32 0#32 2#32 1#32 false _ (by decide +kernel) hL hMC).mono ?_
  rintro e X12 ⟨rfl, b⟩
  replace S := S.later b
  replace VD := var_later VD b
  clear b
  go_wp2_with (first
      | refine wpList_load_g (by rfl) 29 (.tmp 1) (by rfl) pL 0 (by rfl) L _ (range_of S.l) Tryd.underlying29 rfl szL ?_
      | refine wpList_load_g (by rfl) 39 (.tmp 5) (by rfl) pC 0 (by rfl) C0 _ (range_of S.c) Tryd.underlying39 rfl szC ?_)
  refine (Mask_g L C0 secs3 2 1 2 2 0 A A1 c c1 (frN 2) 1#32 0#32 2#32 1#32 1 _ rfl (by decide +kernel) hL hMC S.sr).mono ?_
  rintro e X13 ⟨rfl, b⟩
  replace S := S.later b
  replace VD := var_later VD b
  clear b
  go_wp2_with (first
      | refine wpList_load_g (by rfl) 29 (.tmp 1) (by rfl) pL 0 (by rfl) L _ (range_of S.l) Tryd.underlying29 rfl szL ?_
      | refine wpList_load_g (by rfl) 39 (.tmp 5) (by rfl) pC 0 (by rfl) C0 _ (range_of S.c) Tryd.underlying39 rfl szC ?_)
  refine (At_g L C0 [1, 2] 2 1 2 2 0 1 A A1 c c1 (frN 2) 1#32 0#32 2#32 1#32 1 _ rfl (by decide +kernel) hL hMC S.sa).mono ?_
  rintro e X14 ⟨rfl, b⟩
  replace S := S.later b
  replace VD := var_later VD b
  clear b
  go_wp2_with (first
      | refine wpList_load_g (by rfl) 29 (.tmp 1) (by rfl) pL 0 (by rfl) L _ (range_of S.l) Tryd.underlying29 rfl szL ?_
      | refine wpList_load_g (by rfl) 39 (.tmp 5) (by rfl) pC 0 (by rfl) C0 _ (range_of S.c) Tryd.underlying39 rfl szC ?_)
  refine (At_g L C0 [1, 2] 2 1 2 2 0 0 A A1 c c1 (frN 2) 1#32 0#32 2#32 1#32 (-1) _ rfl (by decide +kernel) hL hMC S.sa).mono ?_
  rintro e X15 ⟨rfl, b⟩
  replace S := S.later b
  replace VD := var_later VD b
  clear b
  go_wp2_with (first
      | refine wpList_load_g (by rfl) 29 (.tmp 1) (by rfl) pL 0 (by rfl) L _ (range_of S.l) Tryd.underlying29 rfl szL ?_
      | refine wpList_load_g (by rfl) 39 (.tmp 5) (by rfl) pC 0 (by rfl) C0 _ (range_of S.c) Tryd.underlying39 rfl szC ?_)
  refine (Lit_g L C0 2 1 2 2 0 0 A A1 c c1 (frN 2) 1#32 0#32 2#32 1#32 true _ (by decide +kernel) hL hMC).mono ?_
  rintro e X16 ⟨rfl, b⟩
  replace S := S.later b
  replace VD := var_later VD b
  clear b
  go_wp2_with (first
      | refine wpList_load_g (by rfl) 29 (.tmp 1) (by rfl) pL 0 (by rfl) L _ (range_of S.l) Tryd.underlying29 rfl szL ?_
      | refine wpList_load_g (by rfl) 39 (.tmp 5) (by rfl) pC 0 (by rfl) C0 _ (range_of S.c) Tryd.underlying39 rfl szC ?_)
  refine (Lit_g L C0 2 1 2 2 0 1 A A1 c c1 (frN 2) 1#32 0#32 2#32 1#32 false _ (by decide +kernel) hL hMC).mono ?_
  rintro e X17 ⟨rfl, b⟩
  replace S := S.later b
  replace VD := var_later VD b
  clear b
  go_wp2_with (first
      | refine wpList_load_g (by rfl) 29 (.tmp 1) (by rfl) pL 0 (by rfl) L _ (range_of S.l) Tryd.underlying29 rfl szL ?_
      | refine wpList_load_g (by rfl) 39 (.tmp 6) (by rfl) pD 0 (by rfl) M3 _ (range_of VD) Tryd.underlying39 rfl szD ?_)
  refine (Stale_g L M3 3 2 true _ (by decide) hL.st hMD.age).mono ?_
  rintro e X18 ⟨rfl, b⟩
  replace S := S.later b
  replace VD := var_later VD b
  clear b
  go_wp2_with (first
      | refine wpList_load_g (by rfl) 29 (.tmp 1) (by rfl) pL 0 (by rfl) L _ (range_of S.l) Tryd.underlying29 rfl szL ?_
      | refine wpList_load_g (by rfl) 39 (.tmp 6) (by rfl) pD 0 (by rfl) M3 _ (range_of VD) Tryd.underlying39 rfl szD ?_)
  refine (Mask_g L M3 secs3 2 1 2 2 3 A A1 c c1 fr0 1#32 0#32 2#32 1#32 3 _ rfl (by decide +kernel) hL hMD S.sr).mono ?_
  rintro e X19 ⟨rfl, b⟩
  replace S := S.later b
  replace VD := var_later VD b
  clear b
  go_wp2_with (first
      | refine wpList_load_g (by rfl) 29 (.tmp 1) (by rfl) pL 0 (by rfl) L _ (range_of S.l) Tryd.underlying29 rfl szL ?_
      | refine wpList_load_g (by rfl) 39 (.tmp 5) (by rfl) pC 0 (by rfl) C0 _ (range_of S.c) Tryd.underlying39 rfl szC ?_)
  refine (Occupied_g L C0 2 1 2 2 0 2 A A1 c c1 (frN 2) 1#32 0#32 2#32 1#32 true _ (by decide +kernel) hL hMC).mono ?_
  rintro e X20 ⟨rfl, b⟩
  replace S := S.later b
  replace VD := var_later VD b
  clear b
  go_wp2_with (first
      | refine wpList_load_g (by rfl) 39 (.tmp 6) (by rfl) pD 0 (by rfl) M3 _ (range_of VD) Tryd.underlying39 rfl szD ?_)
  refine (Right_g M3 3 fr0 1#32 0#32 2#32 1#32 true _ (by decide +kernel) S.t hMD).mono ?_
  rintro e X21 ⟨rfl, b⟩
  replace S := S.later b
  replace VD := var_later VD b
  clear b
  go_wp2_with fail
  refine (Right_g badI (-1) fr0 0#32 0#32 0#32 0#32 false _ (by decide +kernel) S.t badI_f).mono ?_
  rintro e X22 ⟨rfl, b⟩
  replace S := S.later b
  replace VD := var_later VD b
  clear b
  go_wp2
  go_ret
  exact ⟨rfl, S.bb⟩
end Go.Proofs.YtlcahkkpbikccaaDoor
