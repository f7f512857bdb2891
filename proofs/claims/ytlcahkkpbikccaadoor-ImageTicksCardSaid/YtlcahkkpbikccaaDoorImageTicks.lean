/- ImageTicks: for every argument the statement's Go text returns true and turns nothing that was there. It is proved at every argument, without a condition beyond the row. -/
import Derived.Test.YtlcahkkpbikccaaDoorTV
import Derived.Test.YtlcahkkpbikccaaDoorCards
import Derived.Test.YtlcahkkpbikccaaDoorTie
import Derived.SevenTiedAt
import Derived.Test.YtlcahkkpbikccaaDoorFrame
import Derived.Deep.RegionHeld3
import Derived.Deep.DrawnRows
namespace Go.Proofs.YtlcahkkpbikccaaDoor.imageTicks
open Go.ChangeShapes Go.WideShapes Go.ChangeAt Go.RowKit Rf
attribute [local go_sem ↓] run_max2 run_min2
set_option maxHeartbeats 8000000 in
set_option maxRecDepth 100000 in
theorem walk (L M : List Value) (kinds : List Int) (ss : List (List Value)) (lens : List Nat) (nsig nfl : Nat) (clr st age : Int) (A : Option Addr) (c : Nat) (A1 : Option Addr) (c1 : Nat) (A3 : Option Addr) (c3 : Nat) (ve : Value) (free : List Int) (occ nor rev lam o n r l : BitVec 32) (w : World) (hT : Tops w)
    (hA : LayA w L kinds ss lens nsig nfl clr st A c A1 c1 A3 c3 ve) (hM : ImgF M age free occ nor rev lam) (ha : -9223372036854775808 ≤ age ∧ age ≤ 9223372036854775807) (hfb : ∀ z ∈ free, -9223372036854775808 ≤ z ∧ z ≤ 9223372036854775807) :
    Calls Tryd.prog 4 #[.agg L.toArray, .agg M.toArray, .agg (inV o n r l)] w fun e w' => e = .returned (.bool true) ∧ Below w.heap.size w w' := by
  have S := TV.new w L M (inV o n r l) hT
  have szL := lay_size hA.f.len
  have szM := img_size hM.len
  have szI : (Tryd.prog.info? 37).map (·.size) = some [Value.int .u32 o.toNat, .int .u32 n.toNat, .int .u32 r.toNat, .int .u32 l.toNat].length := by kernel_rfl
  have hg := hA.later S.bb
  obtain ⟨g, hgr⟩ : ∃ g, greatV kinds.length nsig nfl lens = g := ⟨_, rfl⟩
  obtain ⟨rt, hrt⟩ : ∃ rt, rightI free age = rt := ⟨_, rfl⟩
  have HG := Lib.hid hgr
  have HR := Lib.hid hrt
  clear hgr hrt
  go_enter Tryd.func4, Tryd.ntmps4
  go_upto_region 1 with (fail)
  generalize ((w.alloc (.cells L.toArray 29)).alloc (.cells M.toArray 39)).alloc (.cells (inV o n r l) 37) = W0 at *
  go_wp2_with (first
      | refine wpList_load_g (by rfl) 29 (.tmp 3) (by rfl) (w.heap.size) 0 (by rfl) L _ (range_of S.l) Tryd.underlying29 rfl szL ?_)
  refine (Great_g L kinds.length nsig nfl lens A A1 A3 c c1 c3 ve g _ HG.out.symm hA.f.sec hA.f.sig hA.ex hA.fl hg.ea).mono ?_
  rintro e W1 ⟨rfl, b⟩
  replace S := S.later b
  replace hg := hg.later b
  clear b
  cases g
  rotate_left
  · go_wp2_with fail
    refine (wakes_c _ S.t).mono ?_
    rintro e W2 ⟨rfl, b⟩
    go_wp2
    go_ret
    exact ⟨rfl, (S.later b).bb⟩
  go_wp2_with (first
      | refine wpList_load_g (by rfl) 39 (.tmp 4) (by rfl) (w.heap.size + 1) 0 (by rfl) M _ (range_of S.m) Tryd.underlying39 rfl szM ?_)
  refine (refRight_g M age free occ nor rev lam rt _ HR.out.symm hM).mono ?_
  rintro e W2 ⟨rfl, b⟩
  replace S := S.later b
  clear b
  cases rt
  · go_wp2_with fail
    refine (wakes_c _ S.t).mono ?_
    rintro e W3 ⟨rfl, b⟩
    go_wp2
    go_ret
    exact ⟨rfl, (S.later b).bb⟩
  clear hg
  obtain ⟨age', hage⟩ : ∃ age', onV age 1 65535 = age' := ⟨_, rfl⟩
  obtain ⟨fa, hfa⟩ : ∃ fa, rowL o (decide (st < 0)) free 24 = fa := ⟨_, rfl⟩
  obtain ⟨fb, hfb'⟩ : ∃ fb, rowL occ (decide (st < age')) free 24 = fb := ⟨_, rfl⟩
  have HAGE := Lib.hid hage
  have HFA := Lib.hid hfa
  have HFB := Lib.hid hfb'
  clear hage hfa hfb'
  go_upto_region 3 with (fail)
  refine Code.wp_mono (Q := nq (fun a W => ∃ (pA pB : Nat) (MA MB : List Value), a = { tmps := (([.agg L.toArray, .agg M.toArray, .agg (inV o n r l), .pointer (some ⟨w.heap.size, 0, none⟩), .pointer (some ⟨w.heap.size + 1, 0, none⟩), .pointer (some ⟨w.heap.size + 1 + 1, 0, none⟩), .bool false, .pointer (some ⟨pA, 0, none⟩), .pointer (some ⟨pB, 0, none⟩), undef, .agg L.toArray, .bool false, .bool false, .agg M.toArray, .bool true, .bool false, .bool false, undef, .agg L.toArray, .agg M.toArray, .agg (inV o n r l), .agg MA.toArray, .agg L.toArray, .agg M.toArray, .agg MB.toArray] ++ ([undef, undef, undef, undef, undef, undef, undef, undef, undef, undef, undef, undef, undef, undef, undef, undef, undef, undef, undef, undef, undef, undef, undef, undef, undef, undef, undef, undef, undef, undef, undef, undef, undef, undef, undef, undef, undef, undef, undef, undef, undef, undef, undef, undef, undef, undef, undef, undef, undef, undef, undef, undef, undef, undef] ++ [undef, undef, undef, undef, undef, undef, undef, undef, undef, undef, undef, undef, undef, undef, undef, undef, undef, undef, undef, undef, undef, undef, undef, undef, undef, undef, undef, undef, undef, undef, undef, undef, undef, undef, undef, undef, undef, undef, undef, undef, undef, undef, undef, undef, undef, undef, undef, undef, undef, undef, undef, undef, undef]) : List Value)).toArray, defers := [] } ∧ TV w W L M (inV o n r l) ∧ W.heap[pA]? = some (.cells MA.toArray 39 (0, 0)) ∧ W.heap[pB]? = some (.cells MB.toArray 39 (0, 0)) ∧ ImgF MA 0 fa o n r l ∧ ImgF MB age' fb occ nor rev lam)) (fun e a W hR => ?_) ?_
  rotate_left
  · replace S := S.drew
    have HH : ∀ {W : World}, TV w W L M (inV o n r l) → W.rangeAt w.heap.size 0 L ∧ W.rangeAt (w.heap.size + 1) 0 M ∧ W.rangeAt (w.heap.size + 1 + 1) 0 [Value.int .u32 o.toNat, .int .u32 n.toNat, .int .u32 r.toNat, .int .u32 l.toNat] := fun S => ⟨range_of S.l, range_of S.m, range_of S.i⟩
    refine wp_region_held_drew (S := (fun w' => w'.rangeAt w.heap.size 0 L ∧ w'.rangeAt (w.heap.size + 1) 0 M ∧ w'.rangeAt (w.heap.size + 1 + 1) 0 [Value.int .u32 o.toNat, .int .u32 n.toNat, .int .u32 r.toNat, .int .u32 l.toNat])) (by kernel_rfl) ?_ (fun hHeld => ?_)
    · exact HH S
    generalize W2.drew = V0 at *
    refine wpAnyH_take (i := 0) (v := .agg (L : List Value).toArray) rfl (by kernel_rfl) (by kernel_rfl) (by kernel_rfl) (fun _ _ _ h => h) (yieldsIf_load_mid rfl 29 (.tmp 3) rfl (w.heap.size) 0 rfl L _ (fun w' h => h.1) (by first | exact Tryd.underlying29) rfl (by first | assumption | (simp only [*]; kernel_rfl))) (by assumption) ?_
    simp only [List.getElem_toArray, List.getElem_cons_succ, List.getElem_cons_zero, Act.put, List.setIfInBounds_toArray, List.set_cons_zero, List.set_cons_succ]
    refine wpAnyH_take (i := 1) (v := .agg (M : List Value).toArray) rfl (by kernel_rfl) (by kernel_rfl) (by kernel_rfl) (fun _ _ _ h => h) (yieldsIf_load_mid rfl 39 (.tmp 4) rfl (w.heap.size + 1) 0 rfl M _ (fun w' h => h.2.1) (by first | exact Tryd.underlying39) rfl (by first | assumption | (simp only [*]; kernel_rfl))) (by assumption) ?_
    simp only [List.getElem_toArray, List.getElem_cons_succ, List.getElem_cons_zero, Act.put, List.setIfInBounds_toArray, List.set_cons_zero, List.set_cons_succ]
    refine wpAnyH_take (i := 2) (v := .agg (([Value.int .u32 o.toNat, .int .u32 n.toNat, .int .u32 r.toNat, .int .u32 l.toNat]) : List Value).toArray) rfl (by kernel_rfl) (by kernel_rfl) (by kernel_rfl) (fun _ _ _ h => h) (yieldsIf_load_mid rfl 37 (.tmp 5) rfl (w.heap.size + 1 + 1) 0 rfl ([Value.int .u32 o.toNat, .int .u32 n.toNat, .int .u32 r.toNat, .int .u32 l.toNat]) _ (fun w' h => h.2.2) (by first | exact Tryd.underlying37) rfl (by first | assumption | (simp only [*]; kernel_rfl))) (by assumption) ?_
    simp only [List.getElem_toArray, List.getElem_cons_succ, List.getElem_cons_zero, Act.put, List.setIfInBounds_toArray, List.set_cons_zero, List.set_cons_succ]
    refine wpAnyH_take (i := 4) (v := .agg (L : List Value).toArray) rfl (by kernel_rfl) (by kernel_rfl) (by kernel_rfl) (fun _ _ _ h => h) (yieldsIf_load_mid rfl 29 (.tmp 3) rfl (w.heap.size) 0 rfl L _ (fun w' h => h.1) (by first | exact Tryd.underlying29) rfl (by first | assumption | (simp only [*]; kernel_rfl))) (by assumption) ?_
    simp only [List.getElem_toArray, List.getElem_cons_succ, List.getElem_cons_zero, Act.put, List.setIfInBounds_toArray, List.set_cons_zero, List.set_cons_succ]
    refine wpAnyH_take (i := 5) (v := .agg (M : List Value).toArray) rfl (by kernel_rfl) (by kernel_rfl) (by kernel_rfl) (fun _ _ _ h => h) (yieldsIf_load_mid rfl 39 (.tmp 4) rfl (w.heap.size + 1) 0 rfl M _ (fun w' h => h.2.1) (by first | exact Tryd.underlying39) rfl (by first | assumption | (simp only [*]; kernel_rfl))) (by assumption) ?_
    simp only [List.getElem_toArray, List.getElem_cons_succ, List.getElem_cons_zero, Act.put, List.setIfInBounds_toArray, List.set_cons_zero, List.set_cons_succ]
    refine wpAnyH_ready (rs := [3, 7, 8]) (by kernel_rfl) (by simp) ?_
    refine AllReadyH.cons rfl ?_ (AllReadyH.cons rfl ?_ (AllReadyH.cons rfl ?_ AllReadyH.nil))
    · intro K hK
      go_simp
      refine (Take_g L M kinds.length nsig clr st age A A1 c c1 free fa occ nor rev lam o n r l _ HFA.out.symm S.t hA.f hM).mono ?_
      rintro e V1 ⟨b, MA, rfl, hMA⟩
      replace S := S.later b
      clear b
      refine hK.out _ _ (HH S) (fun _ => ?_)
      clear hK K
      try simp only [List.getElem_toArray, List.getElem_cons_succ, List.getElem_cons_zero, Act.put, List.setIfInBounds_toArray, List.set_cons_zero, List.set_cons_succ]
      refine wpAnyH_ready (rs := [6, 7, 8]) (by kernel_rfl) (by simp) ?_
      refine AllReadyH.cons rfl ?_ (AllReadyH.cons rfl ?_ (AllReadyH.cons rfl ?_ AllReadyH.nil))
      · intro K hK
        go_simp
        refine (Pass_g L M kinds.length nsig clr st age age' A A1 c c1 free fb occ nor rev lam _ HAGE.out.symm HFB.out.symm S.t hA.f hM).mono ?_
        rintro e V2 ⟨b, MB, rfl, hMB⟩
        replace S := S.later b
        clear b
        refine hK.out _ _ (HH S) (fun _ => ?_)
        clear hK K
        try simp only [List.getElem_toArray, List.getElem_cons_succ, List.getElem_cons_zero, Act.put, List.setIfInBounds_toArray, List.set_cons_zero, List.set_cons_succ]
        refine wpAnyH_ready (rs := [7, 8]) (by kernel_rfl) (by simp) ?_
        refine AllReadyH.cons rfl ?_ (AllReadyH.cons rfl ?_ AllReadyH.nil)
        · intro K hK
          go_simp
          have GA := new_at (w := V2) rfl (.cells zM 39)
          have LA : w.heap.size + 3 ≤ V2.heap.size := S.lt
          replace S := S.later (below_new V2 (.cells zM 39))
          generalize hVa : V2.alloc (.cells zM 39) = V3 at *
          clear hVa
          generalize V2.heap.size = pA at *
          refine hK.out _ _ (HH S) (fun _ => ?_)
          clear hK K
          try simp only [List.getElem_toArray, List.getElem_cons_succ, List.getElem_cons_zero, Act.put, List.setIfInBounds_toArray, List.set_cons_zero, List.set_cons_succ]
          refine wpAnyH_ready (rs := [8]) (by kernel_rfl) (by simp) ?_
          refine AllReadyH.cons rfl ?_ AllReadyH.nil
          · intro K hK
            go_simp
            have GB := new_at (w := V3) rfl (.cells zM 39)
            have LB : w.heap.size + 3 ≤ V3.heap.size := S.lt
            have hne : pA ≠ V3.heap.size := by have := (Array.getElem?_eq_some_iff.1 GA).1; omega
            replace GA := old_at GA (.cells zM 39)
            replace S := S.later (below_new V3 (.cells zM 39))
            generalize hVa : V3.alloc (.cells zM 39) = V4 at *
            clear hVa
            generalize V3.heap.size = pB at *
            refine hK.out _ _ (HH S) (fun _ => ?_)
            clear hK K
            try simp only [List.getElem_toArray, List.getElem_cons_succ, List.getElem_cons_zero, Act.put, List.setIfInBounds_toArray, List.set_cons_zero, List.set_cons_succ]
            refine wpAnyH_ready (rs := [9]) (by kernel_rfl) (by simp) ?_
            refine AllReadyH.cons rfl (fun K hK => ?_) AllReadyH.nil
            have th : V4.there pA 0 MA.toArray.size := there_of GA 0 _ (by simp [hMA.len])
            have GA2 : (V4.setCells pA 0 MA.toArray.toList).heap[pA]? = some (.cells MA.toArray 39 (0, 0)) := by rw [setCells_at _ _ GA, setL_all (by simp [hMA.len])]
            have GB2 := setCells_far (fun e => hne e.symm) MA.toArray.toList 0 GB
            replace S := S.set LA MA.toArray.toList
            refine wp_store_mid 39 (.tmp 7) (.tmp 21) (by rfl) pA 0 MA.toArray (by rfl) (by rfl) th (by simpa using img_size hMA.len) (all_oneCell_toArray hMA.one) ?_
            clear th GA GB
            generalize V4.setCells pA 0 MA.toArray.toList = VE at *
            refine hK.out _ _ (HH S) (fun _ => ?_)
            clear hK K
            try simp only [List.getElem_toArray, List.getElem_cons_succ, List.getElem_cons_zero, Act.put, List.setIfInBounds_toArray, List.set_cons_zero, List.set_cons_succ]
            refine wpAnyH_ready (rs := [10]) (by kernel_rfl) (by simp) ?_
            refine AllReadyH.cons rfl (fun K hK => ?_) AllReadyH.nil
            have th : VE.there pB 0 MB.toArray.size := there_of GB2 0 _ (by simp [hMB.len])
            have GB3 : (VE.setCells pB 0 MB.toArray.toList).heap[pB]? = some (.cells MB.toArray 39 (0, 0)) := by rw [setCells_at _ _ GB2, setL_all (by simp [hMB.len])]
            have GA3 := setCells_far hne MB.toArray.toList 0 GA2
            replace S := S.set LB MB.toArray.toList
            refine wp_store_mid 39 (.tmp 8) (.tmp 24) (by rfl) pB 0 MB.toArray (by rfl) (by rfl) th (by simpa using img_size hMB.len) (all_oneCell_toArray hMB.one) ?_
            clear th GA2 GB2
            generalize VE.setCells pB 0 MB.toArray.toList = VF at *
            refine hK.out _ _ (HH S) (fun _ => ?_)
            clear hK K
            try simp only [List.getElem_toArray, List.getElem_cons_succ, List.getElem_cons_zero, Act.put, List.setIfInBounds_toArray, List.set_cons_zero, List.set_cons_succ]
            refine wpAnyH_done (by kernel_rfl) ?_ _
            exact ⟨pA, pB, MA, MB, rfl, S, GA3, GB3, hMA, hMB⟩
        · intro K hK
          go_simp
          have GB := new_at (w := V2) rfl (.cells zM 39)
          have LB : w.heap.size + 3 ≤ V2.heap.size := S.lt
          replace S := S.later (below_new V2 (.cells zM 39))
          generalize hVa : V2.alloc (.cells zM 39) = V3 at *
          clear hVa
          generalize V2.heap.size = pB at *
          refine hK.out _ _ (HH S) (fun _ => ?_)
          clear hK K
          try simp only [List.getElem_toArray, List.getElem_cons_succ, List.getElem_cons_zero, Act.put, List.setIfInBounds_toArray, List.set_cons_zero, List.set_cons_succ]
          refine wpAnyH_ready (rs := [7]) (by kernel_rfl) (by simp) ?_
          refine AllReadyH.cons rfl ?_ AllReadyH.nil
          · intro K hK
            go_simp
            have GA := new_at (w := V3) rfl (.cells zM 39)
            have LA : w.heap.size + 3 ≤ V3.heap.size := S.lt
            have hne : V3.heap.size ≠ pB := by have := (Array.getElem?_eq_some_iff.1 GB).1; omega
            replace GB := old_at GB (.cells zM 39)
            replace S := S.later (below_new V3 (.cells zM 39))
            generalize hVa : V3.alloc (.cells zM 39) = V4 at *
            clear hVa
            generalize V3.heap.size = pA at *
            refine hK.out _ _ (HH S) (fun _ => ?_)
            clear hK K
            try simp only [List.getElem_toArray, List.getElem_cons_succ, List.getElem_cons_zero, Act.put, List.setIfInBounds_toArray, List.set_cons_zero, List.set_cons_succ]
            refine wpAnyH_ready (rs := [9]) (by kernel_rfl) (by simp) ?_
            refine AllReadyH.cons rfl (fun K hK => ?_) AllReadyH.nil
            have th : V4.there pA 0 MA.toArray.size := there_of GA 0 _ (by simp [hMA.len])
            have GA2 : (V4.setCells pA 0 MA.toArray.toList).heap[pA]? = some (.cells MA.toArray 39 (0, 0)) := by rw [setCells_at _ _ GA, setL_all (by simp [hMA.len])]
            have GB2 := setCells_far (fun e => hne e.symm) MA.toArray.toList 0 GB
            replace S := S.set LA MA.toArray.toList
            refine wp_store_mid 39 (.tmp 7) (.tmp 21) (by rfl) pA 0 MA.toArray (by rfl) (by rfl) th (by simpa using img_size hMA.len) (all_oneCell_toArray hMA.one) ?_
            clear th GA GB
            generalize V4.setCells pA 0 MA.toArray.toList = VE at *
            refine hK.out _ _ (HH S) (fun _ => ?_)
            clear hK K
            try simp only [List.getElem_toArray, List.getElem_cons_succ, List.getElem_cons_zero, Act.put, List.setIfInBounds_toArray, List.set_cons_zero, List.set_cons_succ]
            refine wpAnyH_ready (rs := [10]) (by kernel_rfl) (by simp) ?_
            refine AllReadyH.cons rfl (fun K hK => ?_) AllReadyH.nil
            have th : VE.there pB 0 MB.toArray.size := there_of GB2 0 _ (by simp [hMB.len])
            have GB3 : (VE.setCells pB 0 MB.toArray.toList).heap[pB]? = some (.cells MB.toArray 39 (0, 0)) := by rw [setCells_at _ _ GB2, setL_all (by simp [hMB.len])]
            have GA3 := setCells_far hne MB.toArray.toList 0 GA2
            replace S := S.set LB MB.toArray.toList
            refine wp_store_mid 39 (.tmp 8) (.tmp 24) (by rfl) pB 0 MB.toArray (by rfl) (by rfl) th (by simpa using img_size hMB.len) (all_oneCell_toArray hMB.one) ?_
            clear th GA2 GB2
            generalize VE.setCells pB 0 MB.toArray.toList = VF at *
            refine hK.out _ _ (HH S) (fun _ => ?_)
            clear hK K
            try simp only [List.getElem_toArray, List.getElem_cons_succ, List.getElem_cons_zero, Act.put, List.setIfInBounds_toArray, List.set_cons_zero, List.set_cons_succ]
            refine wpAnyH_done (by kernel_rfl) ?_ _
            exact ⟨pA, pB, MA, MB, rfl, S, GA3, GB3, hMA, hMB⟩
      · intro K hK
        go_simp
        have GA := new_at (w := V1) rfl (.cells zM 39)
        have LA : w.heap.size + 3 ≤ V1.heap.size := S.lt
        replace S := S.later (below_new V1 (.cells zM 39))
        generalize hVa : V1.alloc (.cells zM 39) = V2 at *
        clear hVa
        generalize V1.heap.size = pA at *
        refine hK.out _ _ (HH S) (fun _ => ?_)
        clear hK K
        try simp only [List.getElem_toArray, List.getElem_cons_succ, List.getElem_cons_zero, Act.put, List.setIfInBounds_toArray, List.set_cons_zero, List.set_cons_succ]
        refine wpAnyH_ready (rs := [6, 8]) (by kernel_rfl) (by simp) ?_
        refine AllReadyH.cons rfl ?_ (AllReadyH.cons rfl ?_ AllReadyH.nil)
        · intro K hK
          go_simp
          refine (Pass_g L M kinds.length nsig clr st age age' A A1 c c1 free fb occ nor rev lam _ HAGE.out.symm HFB.out.symm S.t hA.f hM).mono ?_
          rintro e V3 ⟨b, MB, rfl, hMB⟩
          replace S := S.later b
          replace GA := var_later GA b
          clear b
          refine hK.out _ _ (HH S) (fun _ => ?_)
          clear hK K
          try simp only [List.getElem_toArray, List.getElem_cons_succ, List.getElem_cons_zero, Act.put, List.setIfInBounds_toArray, List.set_cons_zero, List.set_cons_succ]
          refine wpAnyH_ready (rs := [8]) (by kernel_rfl) (by simp) ?_
          refine AllReadyH.cons rfl ?_ AllReadyH.nil
          · intro K hK
            go_simp
            have GB := new_at (w := V3) rfl (.cells zM 39)
            have LB : w.heap.size + 3 ≤ V3.heap.size := S.lt
            have hne : pA ≠ V3.heap.size := by have := (Array.getElem?_eq_some_iff.1 GA).1; omega
            replace GA := old_at GA (.cells zM 39)
            replace S := S.later (below_new V3 (.cells zM 39))
            generalize hVa : V3.alloc (.cells zM 39) = V4 at *
            clear hVa
            generalize V3.heap.size = pB at *
            refine hK.out _ _ (HH S) (fun _ => ?_)
            clear hK K
            try simp only [List.getElem_toArray, List.getElem_cons_succ, List.getElem_cons_zero, Act.put, List.setIfInBounds_toArray, List.set_cons_zero, List.set_cons_succ]
            refine wpAnyH_ready (rs := [9]) (by kernel_rfl) (by simp) ?_
            refine AllReadyH.cons rfl (fun K hK => ?_) AllReadyH.nil
            have th : V4.there pA 0 MA.toArray.size := there_of GA 0 _ (by simp [hMA.len])
            have GA2 : (V4.setCells pA 0 MA.toArray.toList).heap[pA]? = some (.cells MA.toArray 39 (0, 0)) := by rw [setCells_at _ _ GA, setL_all (by simp [hMA.len])]
            have GB2 := setCells_far (fun e => hne e.symm) MA.toArray.toList 0 GB
            replace S := S.set LA MA.toArray.toList
            refine wp_store_mid 39 (.tmp 7) (.tmp 21) (by rfl) pA 0 MA.toArray (by rfl) (by rfl) th (by simpa using img_size hMA.len) (all_oneCell_toArray hMA.one) ?_
            clear th GA GB
            generalize V4.setCells pA 0 MA.toArray.toList = VE at *
            refine hK.out _ _ (HH S) (fun _ => ?_)
            clear hK K
            try simp only [List.getElem_toArray, List.getElem_cons_succ, List.getElem_cons_zero, Act.put, List.setIfInBounds_toArray, List.set_cons_zero, List.set_cons_succ]
            refine wpAnyH_ready (rs := [10]) (by kernel_rfl) (by simp) ?_
            refine AllReadyH.cons rfl (fun K hK => ?_) AllReadyH.nil
            have th : VE.there pB 0 MB.toArray.size := there_of GB2 0 _ (by simp [hMB.len])
            have GB3 : (VE.setCells pB 0 MB.toArray.toList).heap[pB]? = some (.cells MB.toArray 39 (0, 0)) := by rw [setCells_at _ _ GB2, setL_all (by simp [hMB.len])]
            have GA3 := setCells_far hne MB.toArray.toList 0 GA2
            replace S := S.set LB MB.toArray.toList
            refine wp_store_mid 39 (.tmp 8) (.tmp 24) (by rfl) pB 0 MB.toArray (by rfl) (by rfl) th (by simpa using img_size hMB.len) (all_oneCell_toArray hMB.one) ?_
            clear th GA2 GB2
            generalize VE.setCells pB 0 MB.toArray.toList = VF at *
            refine hK.out _ _ (HH S) (fun _ => ?_)
            clear hK K
            try simp only [List.getElem_toArray, List.getElem_cons_succ, List.getElem_cons_zero, Act.put, List.setIfInBounds_toArray, List.set_cons_zero, List.set_cons_succ]
            refine wpAnyH_done (by kernel_rfl) ?_ _
            exact ⟨pA, pB, MA, MB, rfl, S, GA3, GB3, hMA, hMB⟩
        · intro K hK
          go_simp
          have GB := new_at (w := V2) rfl (.cells zM 39)
          have LB : w.heap.size + 3 ≤ V2.heap.size := S.lt
          have hne : pA ≠ V2.heap.size := by have := (Array.getElem?_eq_some_iff.1 GA).1; omega
          replace GA := old_at GA (.cells zM 39)
          replace S := S.later (below_new V2 (.cells zM 39))
          generalize hVa : V2.alloc (.cells zM 39) = V3 at *
          clear hVa
          generalize V2.heap.size = pB at *
          refine hK.out _ _ (HH S) (fun _ => ?_)
          clear hK K
          try simp only [List.getElem_toArray, List.getElem_cons_succ, List.getElem_cons_zero, Act.put, List.setIfInBounds_toArray, List.set_cons_zero, List.set_cons_succ]
          refine wpAnyH_ready (rs := [6]) (by kernel_rfl) (by simp) ?_
          refine AllReadyH.cons rfl ?_ AllReadyH.nil
          · intro K hK
            go_simp
            refine (Pass_g L M kinds.length nsig clr st age age' A A1 c c1 free fb occ nor rev lam _ HAGE.out.symm HFB.out.symm S.t hA.f hM).mono ?_
            rintro e V4 ⟨b, MB, rfl, hMB⟩
            replace S := S.later b
            replace GA := var_later GA b
            replace GB := var_later GB b
            clear b
            refine hK.out _ _ (HH S) (fun _ => ?_)
            clear hK K
            try simp only [List.getElem_toArray, List.getElem_cons_succ, List.getElem_cons_zero, Act.put, List.setIfInBounds_toArray, List.set_cons_zero, List.set_cons_succ]
            refine wpAnyH_ready (rs := [9]) (by kernel_rfl) (by simp) ?_
            refine AllReadyH.cons rfl (fun K hK => ?_) AllReadyH.nil
            have th : V4.there pA 0 MA.toArray.size := there_of GA 0 _ (by simp [hMA.len])
            have GA2 : (V4.setCells pA 0 MA.toArray.toList).heap[pA]? = some (.cells MA.toArray 39 (0, 0)) := by rw [setCells_at _ _ GA, setL_all (by simp [hMA.len])]
            have GB2 := setCells_far (fun e => hne e.symm) MA.toArray.toList 0 GB
            replace S := S.set LA MA.toArray.toList
            refine wp_store_mid 39 (.tmp 7) (.tmp 21) (by rfl) pA 0 MA.toArray (by rfl) (by rfl) th (by simpa using img_size hMA.len) (all_oneCell_toArray hMA.one) ?_
            clear th GA GB
            generalize V4.setCells pA 0 MA.toArray.toList = VE at *
            refine hK.out _ _ (HH S) (fun _ => ?_)
            clear hK K
            try simp only [List.getElem_toArray, List.getElem_cons_succ, List.getElem_cons_zero, Act.put, List.setIfInBounds_toArray, List.set_cons_zero, List.set_cons_succ]
            refine wpAnyH_ready (rs := [10]) (by kernel_rfl) (by simp) ?_
            refine AllReadyH.cons rfl (fun K hK => ?_) AllReadyH.nil
            have th : VE.there pB 0 MB.toArray.size := there_of GB2 0 _ (by simp [hMB.len])
            have GB3 : (VE.setCells pB 0 MB.toArray.toList).heap[pB]? = some (.cells MB.toArray 39 (0, 0)) := by rw [setCells_at _ _ GB2, setL_all (by simp [hMB.len])]
            have GA3 := setCells_far hne MB.toArray.toList 0 GA2
            replace S := S.set LB MB.toArray.toList
            refine wp_store_mid 39 (.tmp 8) (.tmp 24) (by rfl) pB 0 MB.toArray (by rfl) (by rfl) th (by simpa using img_size hMB.len) (all_oneCell_toArray hMB.one) ?_
            clear th GA2 GB2
            generalize VE.setCells pB 0 MB.toArray.toList = VF at *
            refine hK.out _ _ (HH S) (fun _ => ?_)
            clear hK K
            try simp only [List.getElem_toArray, List.getElem_cons_succ, List.getElem_cons_zero, Act.put, List.setIfInBounds_toArray, List.set_cons_zero, List.set_cons_succ]
            refine wpAnyH_done (by kernel_rfl) ?_ _
            exact ⟨pA, pB, MA, MB, rfl, S, GA3, GB3, hMA, hMB⟩
      · intro K hK
        go_simp
        have GB := new_at (w := V1) rfl (.cells zM 39)
        have LB : w.heap.size + 3 ≤ V1.heap.size := S.lt
        replace S := S.later (below_new V1 (.cells zM 39))
        generalize hVa : V1.alloc (.cells zM 39) = V2 at *
        clear hVa
        generalize V1.heap.size = pB at *
        refine hK.out _ _ (HH S) (fun _ => ?_)
        clear hK K
        try simp only [List.getElem_toArray, List.getElem_cons_succ, List.getElem_cons_zero, Act.put, List.setIfInBounds_toArray, List.set_cons_zero, List.set_cons_succ]
        refine wpAnyH_ready (rs := [6, 7]) (by kernel_rfl) (by simp) ?_
        refine AllReadyH.cons rfl ?_ (AllReadyH.cons rfl ?_ AllReadyH.nil)
        · intro K hK
          go_simp
          refine (Pass_g L M kinds.length nsig clr st age age' A A1 c c1 free fb occ nor rev lam _ HAGE.out.symm HFB.out.symm S.t hA.f hM).mono ?_
          rintro e V3 ⟨b, MB, rfl, hMB⟩
          replace S := S.later b
          replace GB := var_later GB b
          clear b
          refine hK.out _ _ (HH S) (fun _ => ?_)
          clear hK K
          try simp only [List.getElem_toArray, List.getElem_cons_succ, List.getElem_cons_zero, Act.put, List.setIfInBounds_toArray, List.set_cons_zero, List.set_cons_succ]
          refine wpAnyH_ready (rs := [7]) (by kernel_rfl) (by simp) ?_
          refine AllReadyH.cons rfl ?_ AllReadyH.nil
          · intro K hK
            go_simp
            have GA := new_at (w := V3) rfl (.cells zM 39)
            have LA : w.heap.size + 3 ≤ V3.heap.size := S.lt
            have hne : V3.heap.size ≠ pB := by have := (Array.getElem?_eq_some_iff.1 GB).1; omega
            replace GB := old_at GB (.cells zM 39)
            replace S := S.later (below_new V3 (.cells zM 39))
            generalize hVa : V3.alloc (.cells zM 39) = V4 at *
            clear hVa
            generalize V3.heap.size = pA at *
            refine hK.out _ _ (HH S) (fun _ => ?_)
            clear hK K
            try simp only [List.getElem_toArray, List.getElem_cons_succ, List.getElem_cons_zero, Act.put, List.setIfInBounds_toArray, List.set_cons_zero, List.set_cons_succ]
            refine wpAnyH_ready (rs := [9]) (by kernel_rfl) (by simp) ?_
            refine AllReadyH.cons rfl (fun K hK => ?_) AllReadyH.nil
            have th : V4.there pA 0 MA.toArray.size := there_of GA 0 _ (by simp [hMA.len])
            have GA2 : (V4.setCells pA 0 MA.toArray.toList).heap[pA]? = some (.cells MA.toArray 39 (0, 0)) := by rw [setCells_at _ _ GA, setL_all (by simp [hMA.len])]
            have GB2 := setCells_far (fun e => hne e.symm) MA.toArray.toList 0 GB
            replace S := S.set LA MA.toArray.toList
            refine wp_store_mid 39 (.tmp 7) (.tmp 21) (by rfl) pA 0 MA.toArray (by rfl) (by rfl) th (by simpa using img_size hMA.len) (all_oneCell_toArray hMA.one) ?_
            clear th GA GB
            generalize V4.setCells pA 0 MA.toArray.toList = VE at *
            refine hK.out _ _ (HH S) (fun _ => ?_)
            clear hK K
            try simp only [List.getElem_toArray, List.getElem_cons_succ, List.getElem_cons_zero, Act.put, List.setIfInBounds_toArray, List.set_cons_zero, List.set_cons_succ]
            refine wpAnyH_ready (rs := [10]) (by kernel_rfl) (by simp) ?_
            refine AllReadyH.cons rfl (fun K hK => ?_) AllReadyH.nil
            have th : VE.there pB 0 MB.toArray.size := there_of GB2 0 _ (by simp [hMB.len])
            have GB3 : (VE.setCells pB 0 MB.toArray.toList).heap[pB]? = some (.cells MB.toArray 39 (0, 0)) := by rw [setCells_at _ _ GB2, setL_all (by simp [hMB.len])]
            have GA3 := setCells_far hne MB.toArray.toList 0 GA2
            replace S := S.set LB MB.toArray.toList
            refine wp_store_mid 39 (.tmp 8) (.tmp 24) (by rfl) pB 0 MB.toArray (by rfl) (by rfl) th (by simpa using img_size hMB.len) (all_oneCell_toArray hMB.one) ?_
            clear th GA2 GB2
            generalize VE.setCells pB 0 MB.toArray.toList = VF at *
            refine hK.out _ _ (HH S) (fun _ => ?_)
            clear hK K
            try simp only [List.getElem_toArray, List.getElem_cons_succ, List.getElem_cons_zero, Act.put, List.setIfInBounds_toArray, List.set_cons_zero, List.set_cons_succ]
            refine wpAnyH_done (by kernel_rfl) ?_ _
            exact ⟨pA, pB, MA, MB, rfl, S, GA3, GB3, hMA, hMB⟩
        · intro K hK
          go_simp
          have GA := new_at (w := V2) rfl (.cells zM 39)
          have LA : w.heap.size + 3 ≤ V2.heap.size := S.lt
          have hne : V2.heap.size ≠ pB := by have := (Array.getElem?_eq_some_iff.1 GB).1; omega
          replace GB := old_at GB (.cells zM 39)
          replace S := S.later (below_new V2 (.cells zM 39))
          generalize hVa : V2.alloc (.cells zM 39) = V3 at *
          clear hVa
          generalize V2.heap.size = pA at *
          refine hK.out _ _ (HH S) (fun _ => ?_)
          clear hK K
          try simp only [List.getElem_toArray, List.getElem_cons_succ, List.getElem_cons_zero, Act.put, List.setIfInBounds_toArray, List.set_cons_zero, List.set_cons_succ]
          refine wpAnyH_ready (rs := [6]) (by kernel_rfl) (by simp) ?_
          refine AllReadyH.cons rfl ?_ AllReadyH.nil
          · intro K hK
            go_simp
            refine (Pass_g L M kinds.length nsig clr st age age' A A1 c c1 free fb occ nor rev lam _ HAGE.out.symm HFB.out.symm S.t hA.f hM).mono ?_
            rintro e V4 ⟨b, MB, rfl, hMB⟩
            replace S := S.later b
            replace GB := var_later GB b
            replace GA := var_later GA b
            clear b
            refine hK.out _ _ (HH S) (fun _ => ?_)
            clear hK K
            try simp only [List.getElem_toArray, List.getElem_cons_succ, List.getElem_cons_zero, Act.put, List.setIfInBounds_toArray, List.set_cons_zero, List.set_cons_succ]
            refine wpAnyH_ready (rs := [9]) (by kernel_rfl) (by simp) ?_
            refine AllReadyH.cons rfl (fun K hK => ?_) AllReadyH.nil
            have th : V4.there pA 0 MA.toArray.size := there_of GA 0 _ (by simp [hMA.len])
            have GA2 : (V4.setCells pA 0 MA.toArray.toList).heap[pA]? = some (.cells MA.toArray 39 (0, 0)) := by rw [setCells_at _ _ GA, setL_all (by simp [hMA.len])]
            have GB2 := setCells_far (fun e => hne e.symm) MA.toArray.toList 0 GB
            replace S := S.set LA MA.toArray.toList
            refine wp_store_mid 39 (.tmp 7) (.tmp 21) (by rfl) pA 0 MA.toArray (by rfl) (by rfl) th (by simpa using img_size hMA.len) (all_oneCell_toArray hMA.one) ?_
            clear th GA GB
            generalize V4.setCells pA 0 MA.toArray.toList = VE at *
            refine hK.out _ _ (HH S) (fun _ => ?_)
            clear hK K
            try simp only [List.getElem_toArray, List.getElem_cons_succ, List.getElem_cons_zero, Act.put, List.setIfInBounds_toArray, List.set_cons_zero, List.set_cons_succ]
            refine wpAnyH_ready (rs := [10]) (by kernel_rfl) (by simp) ?_
            refine AllReadyH.cons rfl (fun K hK => ?_) AllReadyH.nil
            have th : VE.there pB 0 MB.toArray.size := there_of GB2 0 _ (by simp [hMB.len])
            have GB3 : (VE.setCells pB 0 MB.toArray.toList).heap[pB]? = some (.cells MB.toArray 39 (0, 0)) := by rw [setCells_at _ _ GB2, setL_all (by simp [hMB.len])]
            have GA3 := setCells_far hne MB.toArray.toList 0 GA2
            replace S := S.set LB MB.toArray.toList
            refine wp_store_mid 39 (.tmp 8) (.tmp 24) (by rfl) pB 0 MB.toArray (by rfl) (by rfl) th (by simpa using img_size hMB.len) (all_oneCell_toArray hMB.one) ?_
            clear th GA2 GB2
            generalize VE.setCells pB 0 MB.toArray.toList = VF at *
            refine hK.out _ _ (HH S) (fun _ => ?_)
            clear hK K
            try simp only [List.getElem_toArray, List.getElem_cons_succ, List.getElem_cons_zero, Act.put, List.setIfInBounds_toArray, List.set_cons_zero, List.set_cons_succ]
            refine wpAnyH_done (by kernel_rfl) ?_ _
            exact ⟨pA, pB, MA, MB, rfl, S, GA3, GB3, hMA, hMB⟩
    · intro K hK
      go_simp
      have GA := new_at (w := V0) rfl (.cells zM 39)
      have LA : w.heap.size + 3 ≤ V0.heap.size := S.lt
      replace S := S.later (below_new V0 (.cells zM 39))
      generalize hVa : V0.alloc (.cells zM 39) = V1 at *
      clear hVa
      generalize V0.heap.size = pA at *
      refine hK.out _ _ (HH S) (fun _ => ?_)
      clear hK K
      try simp only [List.getElem_toArray, List.getElem_cons_succ, List.getElem_cons_zero, Act.put, List.setIfInBounds_toArray, List.set_cons_zero, List.set_cons_succ]
      refine wpAnyH_ready (rs := [3, 8]) (by kernel_rfl) (by simp) ?_
      refine AllReadyH.cons rfl ?_ (AllReadyH.cons rfl ?_ AllReadyH.nil)
      · intro K hK
        go_simp
        refine (Take_g L M kinds.length nsig clr st age A A1 c c1 free fa occ nor rev lam o n r l _ HFA.out.symm S.t hA.f hM).mono ?_
        rintro e V2 ⟨b, MA, rfl, hMA⟩
        replace S := S.later b
        replace GA := var_later GA b
        clear b
        refine hK.out _ _ (HH S) (fun _ => ?_)
        clear hK K
        try simp only [List.getElem_toArray, List.getElem_cons_succ, List.getElem_cons_zero, Act.put, List.setIfInBounds_toArray, List.set_cons_zero, List.set_cons_succ]
        refine wpAnyH_ready (rs := [6, 8]) (by kernel_rfl) (by simp) ?_
        refine AllReadyH.cons rfl ?_ (AllReadyH.cons rfl ?_ AllReadyH.nil)
        · intro K hK
          go_simp
          refine (Pass_g L M kinds.length nsig clr st age age' A A1 c c1 free fb occ nor rev lam _ HAGE.out.symm HFB.out.symm S.t hA.f hM).mono ?_
          rintro e V3 ⟨b, MB, rfl, hMB⟩
          replace S := S.later b
          replace GA := var_later GA b
          clear b
          refine hK.out _ _ (HH S) (fun _ => ?_)
          clear hK K
          try simp only [List.getElem_toArray, List.getElem_cons_succ, List.getElem_cons_zero, Act.put, List.setIfInBounds_toArray, List.set_cons_zero, List.set_cons_succ]
          refine wpAnyH_ready (rs := [8]) (by kernel_rfl) (by simp) ?_
          refine AllReadyH.cons rfl ?_ AllReadyH.nil
          · intro K hK
            go_simp
            have GB := new_at (w := V3) rfl (.cells zM 39)
            have LB : w.heap.size + 3 ≤ V3.heap.size := S.lt
            have hne : pA ≠ V3.heap.size := by have := (Array.getElem?_eq_some_iff.1 GA).1; omega
            replace GA := old_at GA (.cells zM 39)
            replace S := S.later (below_new V3 (.cells zM 39))
            generalize hVa : V3.alloc (.cells zM 39) = V4 at *
            clear hVa
            generalize V3.heap.size = pB at *
            refine hK.out _ _ (HH S) (fun _ => ?_)
            clear hK K
            try simp only [List.getElem_toArray, List.getElem_cons_succ, List.getElem_cons_zero, Act.put, List.setIfInBounds_toArray, List.set_cons_zero, List.set_cons_succ]
            refine wpAnyH_ready (rs := [9]) (by kernel_rfl) (by simp) ?_
            refine AllReadyH.cons rfl (fun K hK => ?_) AllReadyH.nil
            have th : V4.there pA 0 MA.toArray.size := there_of GA 0 _ (by simp [hMA.len])
            have GA2 : (V4.setCells pA 0 MA.toArray.toList).heap[pA]? = some (.cells MA.toArray 39 (0, 0)) := by rw [setCells_at _ _ GA, setL_all (by simp [hMA.len])]
            have GB2 := setCells_far (fun e => hne e.symm) MA.toArray.toList 0 GB
            replace S := S.set LA MA.toArray.toList
            refine wp_store_mid 39 (.tmp 7) (.tmp 21) (by rfl) pA 0 MA.toArray (by rfl) (by rfl) th (by simpa using img_size hMA.len) (all_oneCell_toArray hMA.one) ?_
            clear th GA GB
            generalize V4.setCells pA 0 MA.toArray.toList = VE at *
            refine hK.out _ _ (HH S) (fun _ => ?_)
            clear hK K
            try simp only [List.getElem_toArray, List.getElem_cons_succ, List.getElem_cons_zero, Act.put, List.setIfInBounds_toArray, List.set_cons_zero, List.set_cons_succ]
            refine wpAnyH_ready (rs := [10]) (by kernel_rfl) (by simp) ?_
            refine AllReadyH.cons rfl (fun K hK => ?_) AllReadyH.nil
            have th : VE.there pB 0 MB.toArray.size := there_of GB2 0 _ (by simp [hMB.len])
            have GB3 : (VE.setCells pB 0 MB.toArray.toList).heap[pB]? = some (.cells MB.toArray 39 (0, 0)) := by rw [setCells_at _ _ GB2, setL_all (by simp [hMB.len])]
            have GA3 := setCells_far hne MB.toArray.toList 0 GA2
            replace S := S.set LB MB.toArray.toList
            refine wp_store_mid 39 (.tmp 8) (.tmp 24) (by rfl) pB 0 MB.toArray (by rfl) (by rfl) th (by simpa using img_size hMB.len) (all_oneCell_toArray hMB.one) ?_
            clear th GA2 GB2
            generalize VE.setCells pB 0 MB.toArray.toList = VF at *
            refine hK.out _ _ (HH S) (fun _ => ?_)
            clear hK K
            try simp only [List.getElem_toArray, List.getElem_cons_succ, List.getElem_cons_zero, Act.put, List.setIfInBounds_toArray, List.set_cons_zero, List.set_cons_succ]
            refine wpAnyH_done (by kernel_rfl) ?_ _
            exact ⟨pA, pB, MA, MB, rfl, S, GA3, GB3, hMA, hMB⟩
        · intro K hK
          go_simp
          have GB := new_at (w := V2) rfl (.cells zM 39)
          have LB : w.heap.size + 3 ≤ V2.heap.size := S.lt
          have hne : pA ≠ V2.heap.size := by have := (Array.getElem?_eq_some_iff.1 GA).1; omega
          replace GA := old_at GA (.cells zM 39)
          replace S := S.later (below_new V2 (.cells zM 39))
          generalize hVa : V2.alloc (.cells zM 39) = V3 at *
          clear hVa
          generalize V2.heap.size = pB at *
          refine hK.out _ _ (HH S) (fun _ => ?_)
          clear hK K
          try simp only [List.getElem_toArray, List.getElem_cons_succ, List.getElem_cons_zero, Act.put, List.setIfInBounds_toArray, List.set_cons_zero, List.set_cons_succ]
          refine wpAnyH_ready (rs := [6]) (by kernel_rfl) (by simp) ?_
          refine AllReadyH.cons rfl ?_ AllReadyH.nil
          · intro K hK
            go_simp
            refine (Pass_g L M kinds.length nsig clr st age age' A A1 c c1 free fb occ nor rev lam _ HAGE.out.symm HFB.out.symm S.t hA.f hM).mono ?_
            rintro e V4 ⟨b, MB, rfl, hMB⟩
            replace S := S.later b
            replace GA := var_later GA b
            replace GB := var_later GB b
            clear b
            refine hK.out _ _ (HH S) (fun _ => ?_)
            clear hK K
            try simp only [List.getElem_toArray, List.getElem_cons_succ, List.getElem_cons_zero, Act.put, List.setIfInBounds_toArray, List.set_cons_zero, List.set_cons_succ]
            refine wpAnyH_ready (rs := [9]) (by kernel_rfl) (by simp) ?_
            refine AllReadyH.cons rfl (fun K hK => ?_) AllReadyH.nil
            have th : V4.there pA 0 MA.toArray.size := there_of GA 0 _ (by simp [hMA.len])
            have GA2 : (V4.setCells pA 0 MA.toArray.toList).heap[pA]? = some (.cells MA.toArray 39 (0, 0)) := by rw [setCells_at _ _ GA, setL_all (by simp [hMA.len])]
            have GB2 := setCells_far (fun e => hne e.symm) MA.toArray.toList 0 GB
            replace S := S.set LA MA.toArray.toList
            refine wp_store_mid 39 (.tmp 7) (.tmp 21) (by rfl) pA 0 MA.toArray (by rfl) (by rfl) th (by simpa using img_size hMA.len) (all_oneCell_toArray hMA.one) ?_
            clear th GA GB
            generalize V4.setCells pA 0 MA.toArray.toList = VE at *
            refine hK.out _ _ (HH S) (fun _ => ?_)
            clear hK K
            try simp only [List.getElem_toArray, List.getElem_cons_succ, List.getElem_cons_zero, Act.put, List.setIfInBounds_toArray, List.set_cons_zero, List.set_cons_succ]
            refine wpAnyH_ready (rs := [10]) (by kernel_rfl) (by simp) ?_
            refine AllReadyH.cons rfl (fun K hK => ?_) AllReadyH.nil
            have th : VE.there pB 0 MB.toArray.size := there_of GB2 0 _ (by simp [hMB.len])
            have GB3 : (VE.setCells pB 0 MB.toArray.toList).heap[pB]? = some (.cells MB.toArray 39 (0, 0)) := by rw [setCells_at _ _ GB2, setL_all (by simp [hMB.len])]
            have GA3 := setCells_far hne MB.toArray.toList 0 GA2
            replace S := S.set LB MB.toArray.toList
            refine wp_store_mid 39 (.tmp 8) (.tmp 24) (by rfl) pB 0 MB.toArray (by rfl) (by rfl) th (by simpa using img_size hMB.len) (all_oneCell_toArray hMB.one) ?_
            clear th GA2 GB2
            generalize VE.setCells pB 0 MB.toArray.toList = VF at *
            refine hK.out _ _ (HH S) (fun _ => ?_)
            clear hK K
            try simp only [List.getElem_toArray, List.getElem_cons_succ, List.getElem_cons_zero, Act.put, List.setIfInBounds_toArray, List.set_cons_zero, List.set_cons_succ]
            refine wpAnyH_done (by kernel_rfl) ?_ _
            exact ⟨pA, pB, MA, MB, rfl, S, GA3, GB3, hMA, hMB⟩
      · intro K hK
        go_simp
        have GB := new_at (w := V1) rfl (.cells zM 39)
        have LB : w.heap.size + 3 ≤ V1.heap.size := S.lt
        have hne : pA ≠ V1.heap.size := by have := (Array.getElem?_eq_some_iff.1 GA).1; omega
        replace GA := old_at GA (.cells zM 39)
        replace S := S.later (below_new V1 (.cells zM 39))
        generalize hVa : V1.alloc (.cells zM 39) = V2 at *
        clear hVa
        generalize V1.heap.size = pB at *
        refine hK.out _ _ (HH S) (fun _ => ?_)
        clear hK K
        try simp only [List.getElem_toArray, List.getElem_cons_succ, List.getElem_cons_zero, Act.put, List.setIfInBounds_toArray, List.set_cons_zero, List.set_cons_succ]
        refine wpAnyH_ready (rs := [3]) (by kernel_rfl) (by simp) ?_
        refine AllReadyH.cons rfl ?_ AllReadyH.nil
        · intro K hK
          go_simp
          refine (Take_g L M kinds.length nsig clr st age A A1 c c1 free fa occ nor rev lam o n r l _ HFA.out.symm S.t hA.f hM).mono ?_
          rintro e V3 ⟨b, MA, rfl, hMA⟩
          replace S := S.later b
          replace GA := var_later GA b
          replace GB := var_later GB b
          clear b
          refine hK.out _ _ (HH S) (fun _ => ?_)
          clear hK K
          try simp only [List.getElem_toArray, List.getElem_cons_succ, List.getElem_cons_zero, Act.put, List.setIfInBounds_toArray, List.set_cons_zero, List.set_cons_succ]
          refine wpAnyH_ready (rs := [6]) (by kernel_rfl) (by simp) ?_
          refine AllReadyH.cons rfl ?_ AllReadyH.nil
          · intro K hK
            go_simp
            refine (Pass_g L M kinds.length nsig clr st age age' A A1 c c1 free fb occ nor rev lam _ HAGE.out.symm HFB.out.symm S.t hA.f hM).mono ?_
            rintro e V4 ⟨b, MB, rfl, hMB⟩
            replace S := S.later b
            replace GA := var_later GA b
            replace GB := var_later GB b
            clear b
            refine hK.out _ _ (HH S) (fun _ => ?_)
            clear hK K
            try simp only [List.getElem_toArray, List.getElem_cons_succ, List.getElem_cons_zero, Act.put, List.setIfInBounds_toArray, List.set_cons_zero, List.set_cons_succ]
            refine wpAnyH_ready (rs := [9]) (by kernel_rfl) (by simp) ?_
            refine AllReadyH.cons rfl (fun K hK => ?_) AllReadyH.nil
            have th : V4.there pA 0 MA.toArray.size := there_of GA 0 _ (by simp [hMA.len])
            have GA2 : (V4.setCells pA 0 MA.toArray.toList).heap[pA]? = some (.cells MA.toArray 39 (0, 0)) := by rw [setCells_at _ _ GA, setL_all (by simp [hMA.len])]
            have GB2 := setCells_far (fun e => hne e.symm) MA.toArray.toList 0 GB
            replace S := S.set LA MA.toArray.toList
            refine wp_store_mid 39 (.tmp 7) (.tmp 21) (by rfl) pA 0 MA.toArray (by rfl) (by rfl) th (by simpa using img_size hMA.len) (all_oneCell_toArray hMA.one) ?_
            clear th GA GB
            generalize V4.setCells pA 0 MA.toArray.toList = VE at *
            refine hK.out _ _ (HH S) (fun _ => ?_)
            clear hK K
            try simp only [List.getElem_toArray, List.getElem_cons_succ, List.getElem_cons_zero, Act.put, List.setIfInBounds_toArray, List.set_cons_zero, List.set_cons_succ]
            refine wpAnyH_ready (rs := [10]) (by kernel_rfl) (by simp) ?_
            refine AllReadyH.cons rfl (fun K hK => ?_) AllReadyH.nil
            have th : VE.there pB 0 MB.toArray.size := there_of GB2 0 _ (by simp [hMB.len])
            have GB3 : (VE.setCells pB 0 MB.toArray.toList).heap[pB]? = some (.cells MB.toArray 39 (0, 0)) := by rw [setCells_at _ _ GB2, setL_all (by simp [hMB.len])]
            have GA3 := setCells_far hne MB.toArray.toList 0 GA2
            replace S := S.set LB MB.toArray.toList
            refine wp_store_mid 39 (.tmp 8) (.tmp 24) (by rfl) pB 0 MB.toArray (by rfl) (by rfl) th (by simpa using img_size hMB.len) (all_oneCell_toArray hMB.one) ?_
            clear th GA2 GB2
            generalize VE.setCells pB 0 MB.toArray.toList = VF at *
            refine hK.out _ _ (HH S) (fun _ => ?_)
            clear hK K
            try simp only [List.getElem_toArray, List.getElem_cons_succ, List.getElem_cons_zero, Act.put, List.setIfInBounds_toArray, List.set_cons_zero, List.set_cons_succ]
            refine wpAnyH_done (by kernel_rfl) ?_ _
            exact ⟨pA, pB, MA, MB, rfl, S, GA3, GB3, hMA, hMB⟩
    · intro K hK
      go_simp
      have GB := new_at (w := V0) rfl (.cells zM 39)
      have LB : w.heap.size + 3 ≤ V0.heap.size := S.lt
      replace S := S.later (below_new V0 (.cells zM 39))
      generalize hVa : V0.alloc (.cells zM 39) = V1 at *
      clear hVa
      generalize V0.heap.size = pB at *
      refine hK.out _ _ (HH S) (fun _ => ?_)
      clear hK K
      try simp only [List.getElem_toArray, List.getElem_cons_succ, List.getElem_cons_zero, Act.put, List.setIfInBounds_toArray, List.set_cons_zero, List.set_cons_succ]
      refine wpAnyH_ready (rs := [3, 7]) (by kernel_rfl) (by simp) ?_
      refine AllReadyH.cons rfl ?_ (AllReadyH.cons rfl ?_ AllReadyH.nil)
      · intro K hK
        go_simp
        refine (Take_g L M kinds.length nsig clr st age A A1 c c1 free fa occ nor rev lam o n r l _ HFA.out.symm S.t hA.f hM).mono ?_
        rintro e V2 ⟨b, MA, rfl, hMA⟩
        replace S := S.later b
        replace GB := var_later GB b
        clear b
        refine hK.out _ _ (HH S) (fun _ => ?_)
        clear hK K
        try simp only [List.getElem_toArray, List.getElem_cons_succ, List.getElem_cons_zero, Act.put, List.setIfInBounds_toArray, List.set_cons_zero, List.set_cons_succ]
        refine wpAnyH_ready (rs := [6, 7]) (by kernel_rfl) (by simp) ?_
        refine AllReadyH.cons rfl ?_ (AllReadyH.cons rfl ?_ AllReadyH.nil)
        · intro K hK
          go_simp
          refine (Pass_g L M kinds.length nsig clr st age age' A A1 c c1 free fb occ nor rev lam _ HAGE.out.symm HFB.out.symm S.t hA.f hM).mono ?_
          rintro e V3 ⟨b, MB, rfl, hMB⟩
          replace S := S.later b
          replace GB := var_later GB b
          clear b
          refine hK.out _ _ (HH S) (fun _ => ?_)
          clear hK K
          try simp only [List.getElem_toArray, List.getElem_cons_succ, List.getElem_cons_zero, Act.put, List.setIfInBounds_toArray, List.set_cons_zero, List.set_cons_succ]
          refine wpAnyH_ready (rs := [7]) (by kernel_rfl) (by simp) ?_
          refine AllReadyH.cons rfl ?_ AllReadyH.nil
          · intro K hK
            go_simp
            have GA := new_at (w := V3) rfl (.cells zM 39)
            have LA : w.heap.size + 3 ≤ V3.heap.size := S.lt
            have hne : V3.heap.size ≠ pB := by have := (Array.getElem?_eq_some_iff.1 GB).1; omega
            replace GB := old_at GB (.cells zM 39)
            replace S := S.later (below_new V3 (.cells zM 39))
            generalize hVa : V3.alloc (.cells zM 39) = V4 at *
            clear hVa
            generalize V3.heap.size = pA at *
            refine hK.out _ _ (HH S) (fun _ => ?_)
            clear hK K
            try simp only [List.getElem_toArray, List.getElem_cons_succ, List.getElem_cons_zero, Act.put, List.setIfInBounds_toArray, List.set_cons_zero, List.set_cons_succ]
            refine wpAnyH_ready (rs := [9]) (by kernel_rfl) (by simp) ?_
            refine AllReadyH.cons rfl (fun K hK => ?_) AllReadyH.nil
            have th : V4.there pA 0 MA.toArray.size := there_of GA 0 _ (by simp [hMA.len])
            have GA2 : (V4.setCells pA 0 MA.toArray.toList).heap[pA]? = some (.cells MA.toArray 39 (0, 0)) := by rw [setCells_at _ _ GA, setL_all (by simp [hMA.len])]
            have GB2 := setCells_far (fun e => hne e.symm) MA.toArray.toList 0 GB
            replace S := S.set LA MA.toArray.toList
            refine wp_store_mid 39 (.tmp 7) (.tmp 21) (by rfl) pA 0 MA.toArray (by rfl) (by rfl) th (by simpa using img_size hMA.len) (all_oneCell_toArray hMA.one) ?_
            clear th GA GB
            generalize V4.setCells pA 0 MA.toArray.toList = VE at *
            refine hK.out _ _ (HH S) (fun _ => ?_)
            clear hK K
            try simp only [List.getElem_toArray, List.getElem_cons_succ, List.getElem_cons_zero, Act.put, List.setIfInBounds_toArray, List.set_cons_zero, List.set_cons_succ]
            refine wpAnyH_ready (rs := [10]) (by kernel_rfl) (by simp) ?_
            refine AllReadyH.cons rfl (fun K hK => ?_) AllReadyH.nil
            have th : VE.there pB 0 MB.toArray.size := there_of GB2 0 _ (by simp [hMB.len])
            have GB3 : (VE.setCells pB 0 MB.toArray.toList).heap[pB]? = some (.cells MB.toArray 39 (0, 0)) := by rw [setCells_at _ _ GB2, setL_all (by simp [hMB.len])]
            have GA3 := setCells_far hne MB.toArray.toList 0 GA2
            replace S := S.set LB MB.toArray.toList
            refine wp_store_mid 39 (.tmp 8) (.tmp 24) (by rfl) pB 0 MB.toArray (by rfl) (by rfl) th (by simpa using img_size hMB.len) (all_oneCell_toArray hMB.one) ?_
            clear th GA2 GB2
            generalize VE.setCells pB 0 MB.toArray.toList = VF at *
            refine hK.out _ _ (HH S) (fun _ => ?_)
            clear hK K
            try simp only [List.getElem_toArray, List.getElem_cons_succ, List.getElem_cons_zero, Act.put, List.setIfInBounds_toArray, List.set_cons_zero, List.set_cons_succ]
            refine wpAnyH_done (by kernel_rfl) ?_ _
            exact ⟨pA, pB, MA, MB, rfl, S, GA3, GB3, hMA, hMB⟩
        · intro K hK
          go_simp
          have GA := new_at (w := V2) rfl (.cells zM 39)
          have LA : w.heap.size + 3 ≤ V2.heap.size := S.lt
          have hne : V2.heap.size ≠ pB := by have := (Array.getElem?_eq_some_iff.1 GB).1; omega
          replace GB := old_at GB (.cells zM 39)
          replace S := S.later (below_new V2 (.cells zM 39))
          generalize hVa : V2.alloc (.cells zM 39) = V3 at *
          clear hVa
          generalize V2.heap.size = pA at *
          refine hK.out _ _ (HH S) (fun _ => ?_)
          clear hK K
          try simp only [List.getElem_toArray, List.getElem_cons_succ, List.getElem_cons_zero, Act.put, List.setIfInBounds_toArray, List.set_cons_zero, List.set_cons_succ]
          refine wpAnyH_ready (rs := [6]) (by kernel_rfl) (by simp) ?_
          refine AllReadyH.cons rfl ?_ AllReadyH.nil
          · intro K hK
            go_simp
            refine (Pass_g L M kinds.length nsig clr st age age' A A1 c c1 free fb occ nor rev lam _ HAGE.out.symm HFB.out.symm S.t hA.f hM).mono ?_
            rintro e V4 ⟨b, MB, rfl, hMB⟩
            replace S := S.later b
            replace GB := var_later GB b
            replace GA := var_later GA b
            clear b
            refine hK.out _ _ (HH S) (fun _ => ?_)
            clear hK K
            try simp only [List.getElem_toArray, List.getElem_cons_succ, List.getElem_cons_zero, Act.put, List.setIfInBounds_toArray, List.set_cons_zero, List.set_cons_succ]
            refine wpAnyH_ready (rs := [9]) (by kernel_rfl) (by simp) ?_
            refine AllReadyH.cons rfl (fun K hK => ?_) AllReadyH.nil
            have th : V4.there pA 0 MA.toArray.size := there_of GA 0 _ (by simp [hMA.len])
            have GA2 : (V4.setCells pA 0 MA.toArray.toList).heap[pA]? = some (.cells MA.toArray 39 (0, 0)) := by rw [setCells_at _ _ GA, setL_all (by simp [hMA.len])]
            have GB2 := setCells_far (fun e => hne e.symm) MA.toArray.toList 0 GB
            replace S := S.set LA MA.toArray.toList
            refine wp_store_mid 39 (.tmp 7) (.tmp 21) (by rfl) pA 0 MA.toArray (by rfl) (by rfl) th (by simpa using img_size hMA.len) (all_oneCell_toArray hMA.one) ?_
            clear th GA GB
            generalize V4.setCells pA 0 MA.toArray.toList = VE at *
            refine hK.out _ _ (HH S) (fun _ => ?_)
            clear hK K
            try simp only [List.getElem_toArray, List.getElem_cons_succ, List.getElem_cons_zero, Act.put, List.setIfInBounds_toArray, List.set_cons_zero, List.set_cons_succ]
            refine wpAnyH_ready (rs := [10]) (by kernel_rfl) (by simp) ?_
            refine AllReadyH.cons rfl (fun K hK => ?_) AllReadyH.nil
            have th : VE.there pB 0 MB.toArray.size := there_of GB2 0 _ (by simp [hMB.len])
            have GB3 : (VE.setCells pB 0 MB.toArray.toList).heap[pB]? = some (.cells MB.toArray 39 (0, 0)) := by rw [setCells_at _ _ GB2, setL_all (by simp [hMB.len])]
            have GA3 := setCells_far hne MB.toArray.toList 0 GA2
            replace S := S.set LB MB.toArray.toList
            refine wp_store_mid 39 (.tmp 8) (.tmp 24) (by rfl) pB 0 MB.toArray (by rfl) (by rfl) th (by simpa using img_size hMB.len) (all_oneCell_toArray hMB.one) ?_
            clear th GA2 GB2
            generalize VE.setCells pB 0 MB.toArray.toList = VF at *
            refine hK.out _ _ (HH S) (fun _ => ?_)
            clear hK K
            try simp only [List.getElem_toArray, List.getElem_cons_succ, List.getElem_cons_zero, Act.put, List.setIfInBounds_toArray, List.set_cons_zero, List.set_cons_succ]
            refine wpAnyH_done (by kernel_rfl) ?_ _
            exact ⟨pA, pB, MA, MB, rfl, S, GA3, GB3, hMA, hMB⟩
      · intro K hK
        go_simp
        have GA := new_at (w := V1) rfl (.cells zM 39)
        have LA : w.heap.size + 3 ≤ V1.heap.size := S.lt
        have hne : V1.heap.size ≠ pB := by have := (Array.getElem?_eq_some_iff.1 GB).1; omega
        replace GB := old_at GB (.cells zM 39)
        replace S := S.later (below_new V1 (.cells zM 39))
        generalize hVa : V1.alloc (.cells zM 39) = V2 at *
        clear hVa
        generalize V1.heap.size = pA at *
        refine hK.out _ _ (HH S) (fun _ => ?_)
        clear hK K
        try simp only [List.getElem_toArray, List.getElem_cons_succ, List.getElem_cons_zero, Act.put, List.setIfInBounds_toArray, List.set_cons_zero, List.set_cons_succ]
        refine wpAnyH_ready (rs := [3]) (by kernel_rfl) (by simp) ?_
        refine AllReadyH.cons rfl ?_ AllReadyH.nil
        · intro K hK
          go_simp
          refine (Take_g L M kinds.length nsig clr st age A A1 c c1 free fa occ nor rev lam o n r l _ HFA.out.symm S.t hA.f hM).mono ?_
          rintro e V3 ⟨b, MA, rfl, hMA⟩
          replace S := S.later b
          replace GB := var_later GB b
          replace GA := var_later GA b
          clear b
          refine hK.out _ _ (HH S) (fun _ => ?_)
          clear hK K
          try simp only [List.getElem_toArray, List.getElem_cons_succ, List.getElem_cons_zero, Act.put, List.setIfInBounds_toArray, List.set_cons_zero, List.set_cons_succ]
          refine wpAnyH_ready (rs := [6]) (by kernel_rfl) (by simp) ?_
          refine AllReadyH.cons rfl ?_ AllReadyH.nil
          · intro K hK
            go_simp
            refine (Pass_g L M kinds.length nsig clr st age age' A A1 c c1 free fb occ nor rev lam _ HAGE.out.symm HFB.out.symm S.t hA.f hM).mono ?_
            rintro e V4 ⟨b, MB, rfl, hMB⟩
            replace S := S.later b
            replace GB := var_later GB b
            replace GA := var_later GA b
            clear b
            refine hK.out _ _ (HH S) (fun _ => ?_)
            clear hK K
            try simp only [List.getElem_toArray, List.getElem_cons_succ, List.getElem_cons_zero, Act.put, List.setIfInBounds_toArray, List.set_cons_zero, List.set_cons_succ]
            refine wpAnyH_ready (rs := [9]) (by kernel_rfl) (by simp) ?_
            refine AllReadyH.cons rfl (fun K hK => ?_) AllReadyH.nil
            have th : V4.there pA 0 MA.toArray.size := there_of GA 0 _ (by simp [hMA.len])
            have GA2 : (V4.setCells pA 0 MA.toArray.toList).heap[pA]? = some (.cells MA.toArray 39 (0, 0)) := by rw [setCells_at _ _ GA, setL_all (by simp [hMA.len])]
            have GB2 := setCells_far (fun e => hne e.symm) MA.toArray.toList 0 GB
            replace S := S.set LA MA.toArray.toList
            refine wp_store_mid 39 (.tmp 7) (.tmp 21) (by rfl) pA 0 MA.toArray (by rfl) (by rfl) th (by simpa using img_size hMA.len) (all_oneCell_toArray hMA.one) ?_
            clear th GA GB
            generalize V4.setCells pA 0 MA.toArray.toList = VE at *
            refine hK.out _ _ (HH S) (fun _ => ?_)
            clear hK K
            try simp only [List.getElem_toArray, List.getElem_cons_succ, List.getElem_cons_zero, Act.put, List.setIfInBounds_toArray, List.set_cons_zero, List.set_cons_succ]
            refine wpAnyH_ready (rs := [10]) (by kernel_rfl) (by simp) ?_
            refine AllReadyH.cons rfl (fun K hK => ?_) AllReadyH.nil
            have th : VE.there pB 0 MB.toArray.size := there_of GB2 0 _ (by simp [hMB.len])
            have GB3 : (VE.setCells pB 0 MB.toArray.toList).heap[pB]? = some (.cells MB.toArray 39 (0, 0)) := by rw [setCells_at _ _ GB2, setL_all (by simp [hMB.len])]
            have GA3 := setCells_far hne MB.toArray.toList 0 GA2
            replace S := S.set LB MB.toArray.toList
            refine wp_store_mid 39 (.tmp 8) (.tmp 24) (by rfl) pB 0 MB.toArray (by rfl) (by rfl) th (by simpa using img_size hMB.len) (all_oneCell_toArray hMB.one) ?_
            clear th GA2 GB2
            generalize VE.setCells pB 0 MB.toArray.toList = VF at *
            refine hK.out _ _ (HH S) (fun _ => ?_)
            clear hK K
            try simp only [List.getElem_toArray, List.getElem_cons_succ, List.getElem_cons_zero, Act.put, List.setIfInBounds_toArray, List.set_cons_zero, List.set_cons_succ]
            refine wpAnyH_done (by kernel_rfl) ?_ _
            exact ⟨pA, pB, MA, MB, rfl, S, GA3, GB3, hMA, hMB⟩
  cases e <;> try exact hR.elim
  obtain ⟨pA, pB, MA, MB, rfl, S', GA, GB, hMA, hMB⟩ := hR
  clear S
  have S := S'
  clear S'
  simp only [List.cons_append, List.nil_append]
  have szA := img_size hMA.len
  have szB := img_size hMB.len
  have hr := HR.out
  simp only [rightI, Bool.and_eq_true] at hr
  have hag := (isCount_iff _).1 hr.2
  have hfr : ∀ z ∈ free, 0 ≤ z ∧ z ≤ 65535 := fun z hz => (isCount_iff _).1 (List.all_eq_true.1 hr.1 z hz)
  have rA : true = rightI fa 0 := by rw [← HFA.out, rightI, rowL_right]; rfl
  have hage' : min (age + 1) 65535 = age' := by rw [← HAGE.out, onV_val hag]
  have rB : true = rightI fb age' := by rw [← HFB.out, rightI, rowL_right, Bool.true_and]; exact ((isCount_iff _).2 (by omega)).symm
  have hwrap : IntKind.i64.wrap (age + 1) = age + 1 := IntWalk.i64_in _ (by omega)
  have RA := Lib.hid rA
  have RB := Lib.hid rB
  have HFR := Lib.hid hfr
  have HAG := Lib.hid (And.intro hag hage')
  clear hr hag hfr rA rB
  go_wp2_with (first
      | refine wpList_load_g (by rfl) 39 (.tmp 7) (by rfl) (pA) 0 (by rfl) MA _ (range_of GA) Tryd.underlying39 rfl szA ?_)
  refine (Right_g MA 0 fa o n r l true _ RA.out S.t hMA).mono ?_
  rintro e W3 ⟨rfl, b⟩
  replace S := S.later b
  replace GA := var_later GA b
  replace GB := var_later GB b
  clear b
  go_wp2_with (first
      | refine wpList_load_g (by rfl) 39 (.tmp 8) (by rfl) (pB) 0 (by rfl) MB _ (range_of GB) Tryd.underlying39 rfl szB ?_)
  refine (Right_g MB age' fb occ nor rev lam true _ RB.out S.t hMB).mono ?_
  rintro e W4 ⟨rfl, b⟩
  replace S := S.later b
  replace GA := var_later GA b
  replace GB := var_later GB b
  clear b
  have a0 := cell_list GA hMA.age
  have b0 := cell_list GB hMB.age
  have m0 := cell_list S.m hM.age
  go_wp2_with (first
      | refine wpList_load_g (by rfl) 37 (.tmp 39) (by rfl) (pA) 25 (by rfl) [Value.int .u32 o.toNat, .int .u32 n.toNat, .int .u32 r.toNat, .int .u32 l.toNat] _ (in_range GA hMA) Tryd.underlying37 rfl (by kernel_rfl) ?_
      | refine wpList_load_g (by rfl) 37 (.tmp 5) (by rfl) (w.heap.size + 1 + 1) 0 (by rfl) [Value.int .u32 o.toNat, .int .u32 n.toNat, .int .u32 r.toNat, .int .u32 l.toNat] _ (range_of S.i) Tryd.underlying37 rfl szI ?_
      | refine wpList_load_g (by rfl) 37 (.tmp 45) (by rfl) (pB) 25 (by rfl) [Value.int .u32 occ.toNat, .int .u32 nor.toNat, .int .u32 rev.toNat, .int .u32 lam.toNat] _ (in_range GB hMB) Tryd.underlying37 rfl (by kernel_rfl) ?_
      | refine wpList_load_g (by rfl) 37 (.tmp 47) (by rfl) (w.heap.size + 1) 25 (by rfl) [Value.int .u32 occ.toNat, .int .u32 nor.toNat, .int .u32 rev.toNat, .int .u32 lam.toNat] _ (in_range S.m hM) Tryd.underlying37 rfl (by kernel_rfl) ?_)
  go_loopw [9] (fun i wr => ∃ k : Nat, k ≤ 24 ∧ i = .int .i64 k ∧ TV w wr L M (inV o n r l) ∧ wr.heap[pA]? = some (.cells MA.toArray 39 (0, 0)) ∧ wr.heap[pB]? = some (.cells MB.toArray 39 (0, 0))) (fun i _ => 24 - (intOf i).toNat)
  case atStart => exact ⟨0, Nat.zero_le _, rfl, S, GA, GB⟩
  case round =>
    clear S GA GB a0 b0 m0
    obtain ⟨k, hk, rfl, S, GA, GB⟩ := hrel
    by_cases hlt : k < 24
    · obtain ⟨z, hz⟩ : ∃ z, free[k]? = some z := ⟨_, List.getElem?_eq_getElem (by rw [hM.fl]; exact hlt)⟩
      have hzb := HFR.out z (List.mem_of_getElem? hz)
      have hgd : free.getD k 0 = z := by simp [List.getD, hz]
      obtain ⟨mm, hmm⟩ : ∃ mm, min (z + 1) 65535 = mm := ⟨_, rfl⟩
      have hza : fa[k]? = some (if !decide (st < 0) && !bitV o k then mm else 0) := by rw [← HFA.out, rowL_at o _ free hlt hM.fl, hgd, rowV_val hzb, hmm]
      have hzb' : fb[k]? = some (if !decide (st < age') && !bitV occ k then mm else 0) := by rw [← HFB.out, rowL_at occ _ free hlt hM.fl, hgd, rowV_val hzb, hmm]
      rw [bitV_nat o (by omega)] at hza
      have xa := cell_list GA (hMA.free k _ hza)
      have xb := cell_list GB (hMB.free k _ hzb')
      have xm := cell_list S.m (hM.free k _ hz)
      have xi : wr.cell? ⟨w.heap.size + 1 + 1, 0, none⟩ = some (.int .u32 o.toNat) := cell_at S.i 0
      have xs := cell_list S.l hA.f.st
      have xg := cell_list GB hMB.age
      have hlow := low32 o k
      have hwr : IntKind.i64.wrap (z + 1) = z + 1 := IntWalk.i64_in _ (by omega)
      have i1 : (k : Int) < 24 := by omega
      have q1 : (mm == 0) = false := by simp; omega
      have q2 : (mm != 0) = true := by simp; omega
      clear hz hzb hgd hza hzb'
      generalize decide (st < 0) = sa at *
      generalize o.getLsbD k = ob at *
      generalize bitV occ k = bt at *
      generalize hsb : decide (st < age') = sb at *
      have hca : (sa = false ∧ ob = false) ∨ ob = true ∨ (ob = false ∧ sa = true) := by cases sa <;> cases ob <;> simp
      have hcb : (sb = false ∧ bt = false) ∨ sb = true ∨ (sb = false ∧ bt = true) := by cases sb <;> cases bt <;> simp
      rcases hca with ⟨rfl, rfl⟩ | rfl | ⟨rfl, rfl⟩ <;> rcases hcb with ⟨rfl, rfl⟩ | rfl | ⟨rfl, rfl⟩
      all_goals
        simp only [Bool.not_true, Bool.not_false, Bool.and_true, Bool.and_false, Bool.true_and, Bool.false_and, if_true, if_false, reduceIte, Bool.false_eq_true] at xa xb
        go_wp2_with fail
        go_quiet (fail)
        go_wp2
        go_roundw
        case rel => exact ⟨k + 1, by omega, by go_num, S.later (below_drewN (Below.refl _ _) _), GA, GB⟩
        case measure => simp [intOf]; omega
    · obtain rfl : k = 24 := by omega
      go_wp2_with fail
      refine (wakes_c _ S.t).mono ?_
      rintro e W5 ⟨rfl, b⟩
      go_wp2
      go_ret
      exact ⟨rfl, (S.later b).bb⟩

theorem own : ownKnob Tryd.prog.godebug = none := by kernel_rfl
theorem laidOut : laidOutB Tryd.prog = true := by kernel_rfl
noncomputable def wit (os : Os) : World :=
  { World.holding Tryd.prog os ⟨#[], #[], []⟩ with heap := (World.holding Tryd.prog os ⟨#[], #[], []⟩).heap.modify 0 fun
      | .cells _ t frozen => .cells #[.int .i64 1073741824, .int .i64 65535] t frozen
      | o => o }
set_option maxRecDepth 100000 in
theorem lifted (os : Os) (started : os.Started) (H : Type) (enc : TypeId × Value → H) (F : Stop.Interp) :
    ReturnsInHanded {} Tryd.checked os 4 .any ((OpenSpec.ofChange Rows.imageTicksSpec).preRow enc Tryd.prog Tryd.f4 Rows.imageTicksRow.domain false Rows.imageTicksRow.laid) (((OpenSpec.ofChange Rows.imageTicksSpec).at F).post enc Tryd.prog Tryd.f4 false true false false) := by
  obtain ⟨x, hx⟩ : ∃ x, DataW.whole enc Tryd.prog ((wit os).forCall (fun _ _ => 0) ⟨#[], #[.agg zL, .agg zM, .agg #[.int .u32 0, .int .u32 0, .int .u32 0, .int .u32 0]], []⟩).memory Tryd.f4.params.toList Rows.imageTicksSpec.vars false (#[.agg zL, .agg zM, .agg #[.int .u32 0, .int .u32 0, .int .u32 0, .int .u32 0]] : Array Value).toList 8 = some x := Option.isSome_iff_exists.1 (by kernel_rfl)
  refine Fr.lift (C := Tryd.checked) (s := OpenSpec.ofChange Rows.imageTicksSpec) own started (by kernel_rfl) Tryd.func4
    (witness_row_at (enc := enc) (C := Tryd.checked) false (wit os) #[.agg zL, .agg zM, .agg #[.int .u32 0, .int .u32 0, .int .u32 0, .int .u32 0]] rfl (by kernel_rfl) (by kernel_rfl) (by kernel_rfl)
      (OpenSpec.preRow_of_cond 8 hx rfl (fun k hk => by cases hk) (by kernel_rfl) (laidMet_of_run' 8 (by kernel_rfl) (by kernel_rfl))))
    laidOut (by kernel_rfl) rfl Tryd.underlying4 rfl rfl ?_ ?_
  · intro ds hds
    match ds, hds with
    | [_, _, _], _ => rfl
  · intro W base args ds before hval hA hlt _ hz hL
    rw [Tryd.params4] at hA hval
    obtain ⟨v0, vs0, d0, ds0, p0, q0, hargs, rfl, rfl, h0, r0⟩ := trodAll_cons hA
    obtain ⟨v1, vs1, d1, ds1, p1, q1, rfl, rfl, rfl, h1, r1⟩ := trodAll_cons r0
    obtain ⟨v2, vs2, d2, ds2, p2, q2, rfl, rfl, rfl, h2, r2⟩ := trodAll_cons r1
    obtain ⟨rfl, rfl, rfl⟩ := trodAll_nil r2
    obtain rfl : args = #[v0, v1, v2] := by cases args; simp_all
    obtain ⟨L, kinds, ss, lens, nsig, nfl, clr, st, A, c, A1, c1, A3, c3, ve, rfl, hLA⟩ := open_layout (hval 0 _ v0 rfl rfl) h0
    obtain ⟨M, age, free, occ, nor, rev, lam, rfl, hM, hag, hfr⟩ := open_image (hval 1 _ v1 rfl rfl) h1
    obtain ⟨o, n, r, l, rfl⟩ := open_inarg (hval 2 _ v2 rfl rfl) h2
    exact walk L M kinds ss lens nsig nfl clr st age A c A1 c1 A3 c3 ve free occ nor rev lam o n r l W (tops_of_laid hL) hLA hM hag hfr

theorem said : Rows.ImageTicksSaid :=
  OpenClaim.holds_of_cond 4 Tryd.f4 rfl rfl rfl rfl rfl rfl rfl ⟨rfl, rfl, rfl, rfl, rfl⟩ rfl rfl rfl rfl rfl (by kernel_rfl) Tryd.func4 (by kernel_rfl)
    (of_decide_eq_true (by kernel_rfl)) (by unfold Func.isWrapper; first | (rw [if_pos (by decide +kernel)]; kernel_rfl) | (rw [if_neg (by decide +kernel)]; exact ⟨rfl, rfl⟩))
    (fun os started H enc _ F => by rw [OpenClaim.pre_eq_preRow]; exact lifted os started H enc F)

theorem plain (f : FuncId) (fn : Func) (hf : Tryd.pinned.checked.prog.funcNamed "lockbar/lockbarlaw15.ImageTicks" = some f) (hfn : Tryd.pinned.checked.prog.funcs[f]? = some fn) :
    false = Tryd.pinned.checked.prog.looks [] ∧ ∀ (j : Nat) t, fn.params[j]? = some t → Tryd.pinned.checked.prog.wantsStandIn t = false := by
  obtain rfl : f = 4 := Option.some.inj ((show Tryd.prog.funcNamed "lockbar/lockbarlaw15.ImageTicks" = some 4 by kernel_rfl).symm.trans hf) |>.symm
  obtain rfl : fn = Tryd.f4 := (Option.some.inj (Tryd.func4.symm.trans hfn)).symm
  refine ⟨by kernel_rfl, fun j t ht => ?_⟩
  have hm : t ∈ Tryd.f4.params.toList := by simpa using Array.mem_of_getElem? ht
  have hall : (Tryd.f4.params.toList.all fun u => !Tryd.prog.wantsStandIn u) = true := by kernel_rfl
  exact (show Tryd.prog.wantsStandIn t = false by simpa using List.all_eq_true.1 hall t hm)

theorem card : Rows.ImageTicksCardSaid :=
  Claim7.holds_tied_plain_at .later [] _ _ _ _ said (fun _ h => by cases h) (by kernel_rfl) (fun _ h => by cases h) imageTicks_row_tie rfl ⟨rfl, rfl⟩ (by kernel_rfl) rfl plain (by kernel_rfl)
#print axioms card
end Go.Proofs.YtlcahkkpbikccaaDoor.imageTicks
