/- KeysBack: for every argument the statement's Go text returns true and turns nothing that was there. It is proved at every argument, without a condition beyond the row. -/
import Derived.Test.YtdnimdpnejjjlaaKeyP
import Derived.Test.YtdnimdpnejjjlaaKeyR
import Derived.Test.YtdnimdpnejjjlaaKeyQ
import Derived.Test.YtdnimdpnejjjlaaFrame
import Derived.Deep.RegionHeld3
import Derived.Deep.DrawnRows
namespace Go.Proofs.Ytdnimdpnejjjlaa.keysBack
open Go.ChangeShapes Go.WideShapes Go.ChangeAt Go.RowKit Rf
attribute [local go_sem ↓] run_max2 run_min2
open Mem KM Bits Bv Str
theorem mask_get (n i : Nat) (hn : n < 32) : (mask n).getLsbD i = decide (i < n) := by
  unfold mask
  rw [BitVec.getLsbD_ofNat, Nat.testBit_two_pow_sub_one]
  by_cases h : i < n
  · simp [h]; omega
  · simp [h]
theorem cut_cut (b : Btn) (ns ne nc : Nat) (h1 : ns ≤ 12) (h2 : ne ≤ 12) (h3 : nc ≤ 24) : Cut (cutB b ns ne nc) ns ne nc := by
  refine ⟨fun i hi => ?_, fun i hi => ?_, fun i hi => ?_, cutK_len _ _ _, fun i hi => ?_, fun i hi => ?_⟩
  · simp only [cutB, BitVec.getLsbD_and, mask_get ns i (by omega)]; simp; omega
  · simp only [cutB, BitVec.getLsbD_and, mask_get ne i (by omega)]; simp; omega
  · simp only [cutB, BitVec.getLsbD_and, mask_get nc i (by omega)]; simp; omega
  · simp only [cutB, cutK]
    rw [List.getD_eq_getElem?_getD, List.getElem?_map, List.getElem?_range (by omega)]
    simp only [Option.map_some, Option.getD_some, if_pos (show i < 24 by omega), if_pos hi, BitVec.toNat_ofNat]
    omega
  · simp only [cutB, cutK]
    rw [List.getD_eq_getElem?_getD, List.getElem?_map]
    by_cases h : i < 24
    · rw [List.getElem?_range h]
      simp only [Option.map_some, Option.getD_some, if_pos h, if_neg (show ¬ i < nc by omega)]
    · rw [List.getElem?_eq_none (by simp; omega)]; rfl
theorem read_cut {b : Btn} {ns ne nc : Nat} {B : List (BitVec 8)} (hc : Cut b ns ne nc) (h1 : ns ≤ 12) (h2 : ne ≤ 12) (h3 : nc ≤ 24) (hB : Holds B (payBits b ns ne nc)) : rdB (bitsOf B) ns ne nc = b := by
  obtain ⟨_, m, hm⟩ := hB
  rw [hm]; exact rd_pay hc (by omega) (by omega) h3 _
theorem same_iff {b c : Btn} {ns ne nc : Nat} {B C : List (BitVec 8)} (hb : Cut b ns ne nc) (hc : Cut c ns ne nc) (h1 : ns ≤ 12) (h2 : ne ≤ 12) (h3 : nc ≤ 24) (hB : Holds B (payBits b ns ne nc)) (hC : Holds C (payBits c ns ne nc)) : decide (B = C) = decide (b = c) := by
  rw [Bool.eq_iff_iff, decide_eq_true_eq, decide_eq_true_eq]
  constructor
  · rintro rfl
    rw [← read_cut hb h1 h2 h3 hB, ← read_cut hc h1 h2 h3 hC]
  · rintro rfl
    exact holds_unique hB hC
/-- what the law knows: the layout, both buttons -/
structure KB (w V : World) (L : List Value) (gc : Nat) (nsec : Nat) (lens : List Nat) (nsig nfl : Nat) (A : Option Addr) (c : Nat) (A1 : Option Addr) (c1 : Nat) (A3 : Option Addr) (c3 : Nat) (ve : Value) (b1 b2 : Btn) : Prop where
  bel : Below w.heap.size w V
  l : V.heap[w.heap.size]? = some (.cells L.toArray 29 (0, 0))
  b : V.heap[w.heap.size + 1]? = some (.cells (btnV b1).toArray 33 (0, 0))
  dd : V.heap[w.heap.size + 1 + 1]? = some (.cells (btnV b2).toArray 33 (0, 0))
  lay : LayN V L nsec lens nsig nfl A c A1 c1 A3 c3 ve
theorem KB.later {w V V' : World} {L : List Value} {gc nsec : Nat} {lens : List Nat} {nsig nfl : Nat} {A : Option Addr} {c : Nat} {A1 : Option Addr} {c1 : Nat} {A3 : Option Addr} {c3 : Nat} {ve : Value} {b1 b2 : Btn} (h : KB w V L gc nsec lens nsig nfl A c A1 c1 A3 c3 ve b1 b2) (b : Below V.heap.size V V') : KB w V' L gc nsec lens nsig nfl A c A1 c1 A3 c3 ve b1 b2 :=
  ⟨below_step h.bel b, var_later h.l b, var_later h.b b, var_later h.dd b, h.lay.later b⟩
set_option maxHeartbeats 8000000 in
set_option maxRecDepth 100000 in
theorem walk (L : List Value) (nsec : Nat) (lens : List Nat) (nsig nfl : Nat) (A : Option Addr) (c : Nat) (A1 : Option Addr) (c1 : Nat) (A3 : Option Addr) (c3 : Nat) (ve : Value) (b0 c0 : Btn) (w : World) (hb0 : b0.keys.length = 24) (hc0 : c0.keys.length = 24)
    (hL : LayN w L nsec lens nsig nfl A c A1 c1 A3 c3 ve) :
    Calls Try.prog 5 #[.agg L.toArray, .agg (btnV b0).toArray, .agg (btnV c0).toArray] w fun e w' => e = .returned (.bool true) ∧ Below w.heap.size w w' := by
  have szL := lay_size hL.len
  obtain ⟨ns, hns⟩ : ∃ ns, min nsig 12 = ns := ⟨_, rfl⟩
  obtain ⟨ne, hne⟩ : ∃ ne, min lens.length 12 = ne := ⟨_, rfl⟩
  obtain ⟨nc, hnc⟩ : ∃ nc, min nsec 24 = nc := ⟨_, rfl⟩
  have l1 : ns ≤ 12 := by omega
  have l2 : ne ≤ 12 := by omega
  have l3 : nc ≤ 24 := by omega
  have HNS := Lib.hid hns
  have HNE := Lib.hid hne
  have HNC := Lib.hid hnc
  clear hns hne hnc
  obtain ⟨b, hbq⟩ : ∃ b, cutB b0 ns ne nc = b := ⟨_, rfl⟩
  obtain ⟨d, hdq⟩ : ∃ d, cutB c0 ns ne nc = d := ⟨_, rfl⟩
  have hcb : Cut b ns ne nc := hbq ▸ cut_cut b0 ns ne nc l1 l2 l3
  have hcd : Cut d ns ne nc := hdq ▸ cut_cut c0 ns ne nc l1 l2 l3
  have hbl : b.keys.length = 24 := hcb.len
  have hdl : d.keys.length = 24 := hcd.len
  have HBQ := Lib.hid hbq
  have HDQ := Lib.hid hdq
  have HL1 := Lib.hid l1
  have HL2 := Lib.hid l2
  have HL3 := Lib.hid l3
  have HCB := Lib.hid hcb
  have HCD := Lib.hid hcd
  have HB0 := Lib.hid hb0
  have HC0 := Lib.hid hc0
  have szB := btn_size hbl
  have szD := btn_size hdl
  have szB0 := btn_size hb0
  have szC0 := btn_size hc0
  clear hbq hdq l1 l2 l3 hcb hcd hb0 hc0
  obtain ⟨gr, hg⟩ : ∃ gr, greatV nsec nsig nfl lens = gr := ⟨_, rfl⟩
  have HG := Lib.hid hg
  clear hg
  have W0 : KB w (((w.alloc (.cells L.toArray 29)).alloc (.cells (btnV b0).toArray 33)).alloc (.cells (btnV c0).toArray 33)) L 0 nsec lens nsig nfl A c A1 c1 A3 c3 ve b0 c0 :=
    ⟨below_step (below_step (kbelow_new _ _) (kbelow_new _ _)) (kbelow_new _ _), old_at (old_at (new_at rfl _) _) _, old_at (new_at (by simp) _) _, new_at (by simp) _, hL.later (below_step (below_step (kbelow_new _ _) (kbelow_new _ _)) (kbelow_new _ _))⟩
  go_enter Try.func5, Try.ntmps5
  go_upto_region 1 with (fail)
  generalize ((w.alloc (.cells L.toArray 29)).alloc (.cells (btnV b0).toArray 33)).alloc (.cells (btnV c0).toArray 33) = V at *
  have HLw := Lib.hid hL
  clear hL
  have RL := range_of W0.l
  go_wp2_with (first
    | refine wpList_load_g (by rfl) 29 (.tmp 3) (by rfl) w.heap.size 0 (by rfl) L _ RL Try.underlying29 rfl szL ?_
    | fail)
  obtain ⟨Ae, ce, hve, _⟩ := W0.lay.ea
  refine (Great_c L nsec nsig nfl lens A A1 A3 c c1 c3 ve _ W0.lay.sec W0.lay.sig W0.lay.ex W0.lay.fl W0.lay.ea).mono ?_
  rintro e V1 ⟨rfl, b1⟩
  rw [HG.out]
  have W1 := W0.later b1
  clear RL W0 b1 hve
  cases gr with
  | true =>
    go_wp2_with fail
    refine (wakes_c _).mono ?_
    rintro e V2 ⟨rfl, b2⟩
    have W2 := W1.later b2
    go_wp2
    go_ret
    exact ⟨rfl, W2.bel⟩
  | false =>
    go_upto_region 3 with (fail)
    have one0 : (btnV b).toArray.all (·.oneCell') = true := all_one (btnV_one _)
    have one1 : (btnV d).toArray.all (·.oneCell') = true := all_one (btnV_one _)
    refine Code.wp_mono (Q := nq (fun a W => ∃ u15 u16 u17 u18 u19 u20 u21 u22 u23 : Value, a = { tmps := (([.agg L.toArray, .agg (btnV b0).toArray, .agg (btnV c0).toArray, .pointer (some ⟨w.heap.size, 0, none⟩), .pointer (some ⟨w.heap.size + 1, 0, none⟩), .pointer (some ⟨w.heap.size + 1 + 1, 0, none⟩), .bool false, undef, undef, undef, undef, undef, undef, undef, undef, u15, u16, u17, u18, u19, u20, u21, u22, u23, undef, undef, undef, undef, undef, undef, undef, undef, undef, undef, undef, undef, undef, undef, undef, undef, undef, undef, undef, undef, undef, undef, undef, undef, undef, undef] ++ ([undef, undef, undef, undef, undef, undef, undef, undef, undef, undef, undef, undef, undef, undef, undef, undef, undef, undef, undef, undef, undef, undef, undef, undef, undef, undef, undef, undef, undef, undef, undef, undef, undef, undef, undef, undef, undef, undef, undef, undef, undef, undef, undef, undef, undef]) : List Value)).toArray, defers := [] } ∧ KB w W L 0 nsec lens nsig nfl A c A1 c1 A3 c3 ve b d)) (fun e a V3 hR => ?_) ?_
    rotate_left
    · skip
      refine wp_region_held_drew (S := (fun w' => w'.rangeAt w.heap.size 0 L)) (by kernel_rfl) ?_ (fun hHeld => ?_)
      · exact range_of W1.l
      replace W1 := W1.later (Below.refl _ _).drew
      generalize V1.drew = V at *
      refine wpAnyH_take (i := 0) (v := .agg (L : List Value).toArray) rfl (by kernel_rfl) (by kernel_rfl) (by kernel_rfl) (fun _ _ _ h => h) (yieldsIf_load_mid rfl 29 (.tmp 3) rfl (w.heap.size) 0 rfl L _ (fun w' h => h) (by first | exact Try.underlying29) rfl (by first | assumption | (simp only [*]; kernel_rfl))) (by assumption) ?_
      simp only [List.getElem_toArray, List.getElem_cons_succ, List.getElem_cons_zero, Act.put, List.setIfInBounds_toArray, List.set_cons_zero, List.set_cons_succ]
      refine wpAnyH_take (i := 3) (v := .agg (L : List Value).toArray) rfl (by kernel_rfl) (by kernel_rfl) (by kernel_rfl) (fun _ _ _ h => h) (yieldsIf_load_mid rfl 29 (.tmp 3) rfl (w.heap.size) 0 rfl L _ (fun w' h => h) (by first | exact Try.underlying29) rfl (by first | assumption | (simp only [*]; kernel_rfl))) (by assumption) ?_
      simp only [List.getElem_toArray, List.getElem_cons_succ, List.getElem_cons_zero, Act.put, List.setIfInBounds_toArray, List.set_cons_zero, List.set_cons_succ]
      clear hHeld
      refine wpAnyH_ready (rs := [1, 4]) (by kernel_rfl) (by simp) ?_
      refine AllReadyH.cons rfl (fun K hK => ?_) (AllReadyH.cons rfl (fun K hK => ?_) AllReadyH.nil)
      · skip
        refine wp_load_mid 33 (.tmp 4) (by rfl) (w.heap.size + 1) 0 (by rfl) (btnV b0) _ (range_of W1.b) Try.underlying33 rfl szB0 ?_
        refine hK.out _ _ (range_of W1.l) (fun _ => ?_)
        clear hK K
        try simp only [List.getElem_toArray, List.getElem_cons_succ, List.getElem_cons_zero, Act.put, List.setIfInBounds_toArray, List.set_cons_zero, List.set_cons_succ]
        refine wpAnyH_ready (rs := [2, 4]) (by kernel_rfl) (by simp) ?_
        refine AllReadyH.cons rfl (fun K hK => ?_) (AllReadyH.cons rfl (fun K hK => ?_) AllReadyH.nil)
        · skip
          go_simp
          refine (cut_c L nsec lens nsig nfl A c A1 c1 A3 c3 ve ns ne nc b0 _ HNS.out HNE.out HNC.out HB0.out W1.lay).mono ?_
          rintro e V ⟨rfl, bF⟩
          rw [HBQ.out]
          replace W1 := W1.later bF
          clear bF
          refine hK.out _ _ (range_of W1.l) (fun _ => ?_)
          clear hK K
          try simp only [List.getElem_toArray, List.getElem_cons_succ, List.getElem_cons_zero, Act.put, List.setIfInBounds_toArray, List.set_cons_zero, List.set_cons_succ]
          refine wpAnyH_ready (rs := [4]) (by kernel_rfl) (by simp) ?_
          refine AllReadyH.cons rfl (fun K hK => ?_) AllReadyH.nil
          refine wp_load_mid 33 (.tmp 5) (by rfl) (w.heap.size + 1 + 1) 0 (by rfl) (btnV c0) _ (range_of W1.dd) Try.underlying33 rfl szC0 ?_
          refine hK.out _ _ (range_of W1.l) (fun _ => ?_)
          clear hK K
          try simp only [List.getElem_toArray, List.getElem_cons_succ, List.getElem_cons_zero, Act.put, List.setIfInBounds_toArray, List.set_cons_zero, List.set_cons_succ]
          refine wpAnyH_ready (rs := [5]) (by kernel_rfl) (by simp) ?_
          refine AllReadyH.cons rfl (fun K hK => ?_) AllReadyH.nil
          go_simp
          refine (cut_c L nsec lens nsig nfl A c A1 c1 A3 c3 ve ns ne nc c0 _ HNS.out HNE.out HNC.out HC0.out W1.lay).mono ?_
          rintro e V ⟨rfl, bF⟩
          rw [HDQ.out]
          replace W1 := W1.later bF
          clear bF
          refine hK.out _ _ (range_of W1.l) (fun _ => ?_)
          clear hK K
          try simp only [List.getElem_toArray, List.getElem_cons_succ, List.getElem_cons_zero, Act.put, List.setIfInBounds_toArray, List.set_cons_zero, List.set_cons_succ]
          refine wpAnyH_ready (rs := [6]) (by kernel_rfl) (by simp) ?_
          refine AllReadyH.cons rfl (fun K hK => ?_) AllReadyH.nil
          obtain ⟨V', hW, F, bF, far, ths⟩ := fill_new (btnV b) W1.b (by rw [List.size_toArray, btnV_len hbl, btnV_len HB0.out]) W1.bel (by omega)
          refine wp_store_mid 33 (.tmp 4) (.tmp 20) (by rfl) (w.heap.size + 1) 0 (btnV b).toArray (by rfl) (by rfl) ths (by simpa using szB) one0 ?_
          rw [hW]
          have G1 := (far w.heap.size (by omega)).trans W1.l
          have G2 := (far (w.heap.size + 1 + 1) (by omega)).trans W1.dd
          clear hW ths far W1
          refine hK.out _ _ (range_of G1) (fun _ => ?_)
          clear hK K
          try simp only [List.getElem_toArray, List.getElem_cons_succ, List.getElem_cons_zero, Act.put, List.setIfInBounds_toArray, List.set_cons_zero, List.set_cons_succ]
          refine wpAnyH_ready (rs := [7]) (by kernel_rfl) (by simp) ?_
          refine AllReadyH.cons rfl (fun K hK => ?_) AllReadyH.nil
          obtain ⟨V4, hW, F4, bF4, far, ths⟩ := fill_new (btnV d) G2 (by rw [List.size_toArray, btnV_len hdl, btnV_len HC0.out]) bF (by omega)
          refine wp_store_mid 33 (.tmp 5) (.tmp 23) (by rfl) (w.heap.size + 1 + 1) 0 (btnV d).toArray (by rfl) (by rfl) ths (by simpa using szD) one1 ?_
          rw [hW]
          have G1' := (far w.heap.size (by omega)).trans G1
          have G3 := (far (w.heap.size + 1) (by omega)).trans F
          clear hW ths far
          refine hK.out _ _ (range_of G1') (fun _ => ?_)
          clear hK K
          try simp only [List.getElem_toArray, List.getElem_cons_succ, List.getElem_cons_zero, Act.put, List.setIfInBounds_toArray, List.set_cons_zero, List.set_cons_succ]
          refine wpAnyH_done (by kernel_rfl) ?_ _
          exact ⟨_, _, _, _, _, _, _, _, _, rfl, bF4, G1', G3, F4, HLw.out.later bF4⟩
        · skip
          refine wp_load_mid 33 (.tmp 5) (by rfl) (w.heap.size + 1 + 1) 0 (by rfl) (btnV c0) _ (range_of W1.dd) Try.underlying33 rfl szC0 ?_
          refine hK.out _ _ (range_of W1.l) (fun _ => ?_)
          clear hK K
          try simp only [List.getElem_toArray, List.getElem_cons_succ, List.getElem_cons_zero, Act.put, List.setIfInBounds_toArray, List.set_cons_zero, List.set_cons_succ]
          refine wpAnyH_ready (rs := [2]) (by kernel_rfl) (by simp) ?_
          refine AllReadyH.cons rfl (fun K hK => ?_) AllReadyH.nil
          go_simp
          refine (cut_c L nsec lens nsig nfl A c A1 c1 A3 c3 ve ns ne nc b0 _ HNS.out HNE.out HNC.out HB0.out W1.lay).mono ?_
          rintro e V ⟨rfl, bF⟩
          rw [HBQ.out]
          replace W1 := W1.later bF
          clear bF
          refine hK.out _ _ (range_of W1.l) (fun _ => ?_)
          clear hK K
          try simp only [List.getElem_toArray, List.getElem_cons_succ, List.getElem_cons_zero, Act.put, List.setIfInBounds_toArray, List.set_cons_zero, List.set_cons_succ]
          refine wpAnyH_ready (rs := [5]) (by kernel_rfl) (by simp) ?_
          refine AllReadyH.cons rfl (fun K hK => ?_) AllReadyH.nil
          go_simp
          refine (cut_c L nsec lens nsig nfl A c A1 c1 A3 c3 ve ns ne nc c0 _ HNS.out HNE.out HNC.out HC0.out W1.lay).mono ?_
          rintro e V ⟨rfl, bF⟩
          rw [HDQ.out]
          replace W1 := W1.later bF
          clear bF
          refine hK.out _ _ (range_of W1.l) (fun _ => ?_)
          clear hK K
          try simp only [List.getElem_toArray, List.getElem_cons_succ, List.getElem_cons_zero, Act.put, List.setIfInBounds_toArray, List.set_cons_zero, List.set_cons_succ]
          refine wpAnyH_ready (rs := [6]) (by kernel_rfl) (by simp) ?_
          refine AllReadyH.cons rfl (fun K hK => ?_) AllReadyH.nil
          obtain ⟨V', hW, F, bF, far, ths⟩ := fill_new (btnV b) W1.b (by rw [List.size_toArray, btnV_len hbl, btnV_len HB0.out]) W1.bel (by omega)
          refine wp_store_mid 33 (.tmp 4) (.tmp 20) (by rfl) (w.heap.size + 1) 0 (btnV b).toArray (by rfl) (by rfl) ths (by simpa using szB) one0 ?_
          rw [hW]
          have G1 := (far w.heap.size (by omega)).trans W1.l
          have G2 := (far (w.heap.size + 1 + 1) (by omega)).trans W1.dd
          clear hW ths far W1
          refine hK.out _ _ (range_of G1) (fun _ => ?_)
          clear hK K
          try simp only [List.getElem_toArray, List.getElem_cons_succ, List.getElem_cons_zero, Act.put, List.setIfInBounds_toArray, List.set_cons_zero, List.set_cons_succ]
          refine wpAnyH_ready (rs := [7]) (by kernel_rfl) (by simp) ?_
          refine AllReadyH.cons rfl (fun K hK => ?_) AllReadyH.nil
          obtain ⟨V4, hW, F4, bF4, far, ths⟩ := fill_new (btnV d) G2 (by rw [List.size_toArray, btnV_len hdl, btnV_len HC0.out]) bF (by omega)
          refine wp_store_mid 33 (.tmp 5) (.tmp 23) (by rfl) (w.heap.size + 1 + 1) 0 (btnV d).toArray (by rfl) (by rfl) ths (by simpa using szD) one1 ?_
          rw [hW]
          have G1' := (far w.heap.size (by omega)).trans G1
          have G3 := (far (w.heap.size + 1) (by omega)).trans F
          clear hW ths far
          refine hK.out _ _ (range_of G1') (fun _ => ?_)
          clear hK K
          try simp only [List.getElem_toArray, List.getElem_cons_succ, List.getElem_cons_zero, Act.put, List.setIfInBounds_toArray, List.set_cons_zero, List.set_cons_succ]
          refine wpAnyH_done (by kernel_rfl) ?_ _
          exact ⟨_, _, _, _, _, _, _, _, _, rfl, bF4, G1', G3, F4, HLw.out.later bF4⟩
      · skip
        refine wp_load_mid 33 (.tmp 5) (by rfl) (w.heap.size + 1 + 1) 0 (by rfl) (btnV c0) _ (range_of W1.dd) Try.underlying33 rfl szC0 ?_
        refine hK.out _ _ (range_of W1.l) (fun _ => ?_)
        clear hK K
        try simp only [List.getElem_toArray, List.getElem_cons_succ, List.getElem_cons_zero, Act.put, List.setIfInBounds_toArray, List.set_cons_zero, List.set_cons_succ]
        refine wpAnyH_ready (rs := [1]) (by kernel_rfl) (by simp) ?_
        refine AllReadyH.cons rfl (fun K hK => ?_) AllReadyH.nil
        refine wp_load_mid 33 (.tmp 4) (by rfl) (w.heap.size + 1) 0 (by rfl) (btnV b0) _ (range_of W1.b) Try.underlying33 rfl szB0 ?_
        refine hK.out _ _ (range_of W1.l) (fun _ => ?_)
        clear hK K
        try simp only [List.getElem_toArray, List.getElem_cons_succ, List.getElem_cons_zero, Act.put, List.setIfInBounds_toArray, List.set_cons_zero, List.set_cons_succ]
        refine wpAnyH_ready (rs := [2]) (by kernel_rfl) (by simp) ?_
        refine AllReadyH.cons rfl (fun K hK => ?_) AllReadyH.nil
        go_simp
        refine (cut_c L nsec lens nsig nfl A c A1 c1 A3 c3 ve ns ne nc b0 _ HNS.out HNE.out HNC.out HB0.out W1.lay).mono ?_
        rintro e V ⟨rfl, bF⟩
        rw [HBQ.out]
        replace W1 := W1.later bF
        clear bF
        refine hK.out _ _ (range_of W1.l) (fun _ => ?_)
        clear hK K
        try simp only [List.getElem_toArray, List.getElem_cons_succ, List.getElem_cons_zero, Act.put, List.setIfInBounds_toArray, List.set_cons_zero, List.set_cons_succ]
        refine wpAnyH_ready (rs := [5]) (by kernel_rfl) (by simp) ?_
        refine AllReadyH.cons rfl (fun K hK => ?_) AllReadyH.nil
        go_simp
        refine (cut_c L nsec lens nsig nfl A c A1 c1 A3 c3 ve ns ne nc c0 _ HNS.out HNE.out HNC.out HC0.out W1.lay).mono ?_
        rintro e V ⟨rfl, bF⟩
        rw [HDQ.out]
        replace W1 := W1.later bF
        clear bF
        refine hK.out _ _ (range_of W1.l) (fun _ => ?_)
        clear hK K
        try simp only [List.getElem_toArray, List.getElem_cons_succ, List.getElem_cons_zero, Act.put, List.setIfInBounds_toArray, List.set_cons_zero, List.set_cons_succ]
        refine wpAnyH_ready (rs := [6]) (by kernel_rfl) (by simp) ?_
        refine AllReadyH.cons rfl (fun K hK => ?_) AllReadyH.nil
        obtain ⟨V', hW, F, bF, far, ths⟩ := fill_new (btnV b) W1.b (by rw [List.size_toArray, btnV_len hbl, btnV_len HB0.out]) W1.bel (by omega)
        refine wp_store_mid 33 (.tmp 4) (.tmp 20) (by rfl) (w.heap.size + 1) 0 (btnV b).toArray (by rfl) (by rfl) ths (by simpa using szB) one0 ?_
        rw [hW]
        have G1 := (far w.heap.size (by omega)).trans W1.l
        have G2 := (far (w.heap.size + 1 + 1) (by omega)).trans W1.dd
        clear hW ths far W1
        refine hK.out _ _ (range_of G1) (fun _ => ?_)
        clear hK K
        try simp only [List.getElem_toArray, List.getElem_cons_succ, List.getElem_cons_zero, Act.put, List.setIfInBounds_toArray, List.set_cons_zero, List.set_cons_succ]
        refine wpAnyH_ready (rs := [7]) (by kernel_rfl) (by simp) ?_
        refine AllReadyH.cons rfl (fun K hK => ?_) AllReadyH.nil
        obtain ⟨V4, hW, F4, bF4, far, ths⟩ := fill_new (btnV d) G2 (by rw [List.size_toArray, btnV_len hdl, btnV_len HC0.out]) bF (by omega)
        refine wp_store_mid 33 (.tmp 5) (.tmp 23) (by rfl) (w.heap.size + 1 + 1) 0 (btnV d).toArray (by rfl) (by rfl) ths (by simpa using szD) one1 ?_
        rw [hW]
        have G1' := (far w.heap.size (by omega)).trans G1
        have G3 := (far (w.heap.size + 1) (by omega)).trans F
        clear hW ths far
        refine hK.out _ _ (range_of G1') (fun _ => ?_)
        clear hK K
        try simp only [List.getElem_toArray, List.getElem_cons_succ, List.getElem_cons_zero, Act.put, List.setIfInBounds_toArray, List.set_cons_zero, List.set_cons_succ]
        refine wpAnyH_done (by kernel_rfl) ?_ _
        exact ⟨_, _, _, _, _, _, _, _, _, rfl, bF4, G1', G3, F4, HLw.out.later bF4⟩
    cases e <;> try exact hR.elim
    obtain ⟨u15, u16, u17, u18, u19, u20, u21, u22, u23, rfl, W3⟩ := hR
    simp only [List.cons_append, List.nil_append]
    clear W1
    go_upto_region 4 with (fail)
    refine wp_region_held_drew (S := (fun w' => w'.rangeAt w.heap.size 0 L ∧ w'.rangeAt (w.heap.size + 1) 0 (btnV b) ∧ w'.rangeAt (w.heap.size + 1 + 1) 0 (btnV d))) (by kernel_rfl) ?_ (fun hHeld => ?_)
    · exact ⟨range_of W3.l, range_of W3.b, range_of W3.dd⟩
    replace W3 := W3.later (Below.refl _ _).drew
    generalize V3.drew = V at *
    refine wpAnyH_take (i := 0) (v := .agg (L : List Value).toArray) rfl (by kernel_rfl) (by kernel_rfl) (by kernel_rfl) (fun _ _ _ h => h) (yieldsIf_load_mid rfl 29 (.tmp 3) rfl (w.heap.size) 0 rfl L _ (fun w' h => h.1) (by first | exact Try.underlying29) rfl (by first | assumption | (simp only [*]; kernel_rfl))) (by assumption) ?_
    simp only [List.getElem_toArray, List.getElem_cons_succ, List.getElem_cons_zero, Act.put, List.setIfInBounds_toArray, List.set_cons_zero, List.set_cons_succ]
    refine wpAnyH_take (i := 1) (v := .agg ((btnV b) : List Value).toArray) rfl (by kernel_rfl) (by kernel_rfl) (by kernel_rfl) (fun _ _ _ h => h) (yieldsIf_load_mid rfl 33 (.tmp 4) rfl (w.heap.size + 1) 0 rfl (btnV b) _ (fun w' h => h.2.1) (by first | exact Try.underlying33) rfl (by first | assumption | (simp only [*]; kernel_rfl))) (by assumption) ?_
    simp only [List.getElem_toArray, List.getElem_cons_succ, List.getElem_cons_zero, Act.put, List.setIfInBounds_toArray, List.set_cons_zero, List.set_cons_succ]
    refine wpAnyH_take (i := 3) (v := .agg (L : List Value).toArray) rfl (by kernel_rfl) (by kernel_rfl) (by kernel_rfl) (fun _ _ _ h => h) (yieldsIf_load_mid rfl 29 (.tmp 3) rfl (w.heap.size) 0 rfl L _ (fun w' h => h.1) (by first | exact Try.underlying29) rfl (by first | assumption | (simp only [*]; kernel_rfl))) (by assumption) ?_
    simp only [List.getElem_toArray, List.getElem_cons_succ, List.getElem_cons_zero, Act.put, List.setIfInBounds_toArray, List.set_cons_zero, List.set_cons_succ]
    refine wpAnyH_take (i := 4) (v := .agg ((btnV d) : List Value).toArray) rfl (by kernel_rfl) (by kernel_rfl) (by kernel_rfl) (fun _ _ _ h => h) (yieldsIf_load_mid rfl 33 (.tmp 5) rfl (w.heap.size + 1 + 1) 0 rfl (btnV d) _ (fun w' h => h.2.2) (by first | exact Try.underlying33) rfl (by first | assumption | (simp only [*]; kernel_rfl))) (by assumption) ?_
    simp only [List.getElem_toArray, List.getElem_cons_succ, List.getElem_cons_zero, Act.put, List.setIfInBounds_toArray, List.set_cons_zero, List.set_cons_succ]
    clear hHeld
    refine wpAnyH_ready (rs := [2]) (by kernel_rfl) (by simp) ?_
    refine AllReadyH.cons rfl (fun K hK => ?_) AllReadyH.nil
    go_simp
    refine (Put_c L nsec lens nsig nfl A c A1 c1 A3 c3 ve ns ne nc b _ HNS.out HNE.out HNC.out hbl W3.lay).mono ?_
    rintro e V ⟨bF, Ap, cp, Bp, rfl, op, hp, hpl⟩
    replace W3 := W3.later bF
    have sp := sliceAt_of_own op
    clear bF op
    obtain ⟨m, hm⟩ : ∃ m, m = Bp.length := ⟨_, rfl⟩
    rw [← hm] at sp ⊢
    have HM := Lib.hid hm
    have HPL := Lib.hid hpl
    have HP := Lib.hid hp
    clear hm hpl hp
    refine hK.out _ _ ⟨range_of W3.l, range_of W3.b, range_of W3.dd⟩ (fun _ => ?_)
    clear hK K
    try simp only [List.getElem_toArray, List.getElem_cons_succ, List.getElem_cons_zero, Act.put, List.setIfInBounds_toArray, List.set_cons_zero, List.set_cons_succ]
    refine wpAnyH_ready (rs := [5]) (by kernel_rfl) (by simp) ?_
    refine AllReadyH.cons rfl (fun K hK => ?_) AllReadyH.nil
    go_simp
    refine (Put_c L nsec lens nsig nfl A c A1 c1 A3 c3 ve ns ne nc d _ HNS.out HNE.out HNC.out hdl W3.lay).mono ?_
    rintro e V ⟨bF, Aq, cq, Bq, rfl, oq, hq, hql⟩
    replace W3 := W3.later bF
    replace sp := sp.later bF
    have sq := sliceAt_of_own oq
    clear bF oq
    obtain ⟨m2, hm2⟩ : ∃ m2, m2 = Bq.length := ⟨_, rfl⟩
    rw [← hm2] at sq ⊢
    have HM2 := Lib.hid hm2
    have HQ := Lib.hid hq
    clear hm2 hql hq
    refine hK.out _ _ ⟨range_of W3.l, range_of W3.b, range_of W3.dd⟩ (fun _ => ?_)
    clear hK K
    try simp only [List.getElem_toArray, List.getElem_cons_succ, List.getElem_cons_zero, Act.put, List.setIfInBounds_toArray, List.set_cons_zero, List.set_cons_succ]
    refine wpAnyH_ready (rs := [6]) (by kernel_rfl) (by simp) ?_
    refine AllReadyH.cons rfl (fun K hK => ?_) AllReadyH.nil
    go_simp
    refine hK.out _ _ ⟨range_of W3.l, range_of W3.b, range_of W3.dd⟩ (fun _ => ?_)
    clear hK K
    try simp only [List.getElem_toArray, List.getElem_cons_succ, List.getElem_cons_zero, Act.put, List.setIfInBounds_toArray, List.set_cons_zero, List.set_cons_succ]
    refine wpAnyH_ready (rs := [7]) (by kernel_rfl) (by simp) ?_
    refine AllReadyH.cons rfl (fun K hK => ?_) AllReadyH.nil
    go_simp
    refine hK.out _ _ ⟨range_of W3.l, range_of W3.b, range_of W3.dd⟩ (fun _ => ?_)
    clear hK K
    try simp only [List.getElem_toArray, List.getElem_cons_succ, List.getElem_cons_zero, Act.put, List.setIfInBounds_toArray, List.set_cons_zero, List.set_cons_succ]
    refine wpAnyH_done (by kernel_rfl) ?_ _
    have RL := range_of W3.l
    go_wp2_with (first
      | refine wpList_load_g (by rfl) 29 (.tmp 3) (by rfl) w.heap.size 0 (by rfl) L _ RL Try.underlying29 rfl szL ?_
      | fail)
    refine (Take_c L nsec lens nsig nfl A c A1 c1 A3 c3 ve ns ne nc (.slice Ap m cp) Bp _ HNS.out HNE.out HNC.out W3.lay (by rw [← HM.out]; exact sp)).mono ?_
    rintro e V5 ⟨b5, r, err, rfl, hT, _⟩
    have hre : r = b ∧ err = 0 := by
      have hrd := read_cut HCB.out HL1.out HL2.out HL3.out HP.out
      rcases hT with ⟨h, _⟩ | ⟨_, ⟨_, h2, h3⟩ | ⟨h, _⟩⟩
      · exact absurd HPL.out h
      · exact ⟨h2.trans hrd, h3⟩
      · rw [hrd] at h; exact absurd HP.out h
    obtain ⟨rfl, rfl⟩ := hre
    clear hT RL
    have W5 := W3.later b5
    replace sp := sp.later b5
    replace sq := sq.later b5
    clear W3 b5
    obtain ⟨V6, hW, VX, b6, ths⟩ := newv (V := V5) (btnV r) zB 33 (by rw [btnV_len hbl]; rfl)
    have szB2 : (Try.prog.info? 33).map (·.size) = some (btnV r).toArray.size := by simpa using szB
    go_upto_region 6 with (first | (refine wpList_store_mid rfl 33 (.tmp 9) (.tmp 34) (by rfl) V5.heap.size 0 (btnV r).toArray (by rfl) (by rfl) ths szB2 one0 ?_; rw [hW]) | fail)
    have W6 := W5.later b6
    replace sp := sp.later b6
    replace sq := sq.later b6
    clear hW ths b6 W5
    generalize V5.heap.size = gx at *
    obtain ⟨tq, htq⟩ : ∃ tq, decide (r = d) = tq := ⟨_, rfl⟩
    have heB : ∀ W : World, (Op.equalIn 10000 33 (.agg (btnV r).toArray) (.agg (btnV r).toArray)).run Try.prog W = .ok true W := fun W => by rw [eq_btn r r hbl hbl W, decide_eq_true rfl]
    have heD : ∀ W : World, (Op.equalIn 10000 33 (.agg (btnV r).toArray) (.agg (btnV d).toArray)).run Try.prog W = .ok tq W := fun W => by rw [eq_btn r d hbl hdl W, htq]
    have hst : ((strOf Bp).toList == (strOf Bq).toList) = tq := by rw [str_beq, same_iff HCB.out HCD.out HL1.out HL2.out HL3.out HP.out HQ.out, htq]
    have cvp : ∀ W : World, SliceAt W 1 (.slice Ap m cp) m (u8s Bp) → (convert 36 9 (.slice Ap m cp)).run Try.prog W = .ok (.string (strOf Bp)) W := fun W h => conv_str (P := Try.prog) (dst := 9) (by rw [← HM.out]; exact h) Try.underlying36 Try.underlying5 Try.underlying9
    have cvq : ∀ W : World, SliceAt W 1 (.slice Aq m2 cq) m2 (u8s Bq) → (convert 36 9 (.slice Aq m2 cq)).run Try.prog W = .ok (.string (strOf Bq)) W := fun W h => conv_str (P := Try.prog) (dst := 9) (by rw [← HM2.out]; exact h) Try.underlying36 Try.underlying5 Try.underlying9
    have HTQ := Lib.hid htq
    have hm1 : 1 ≤ m := by rw [HM.out, HPL.out]; unfold sizeK; omega
    have hlt1 : decide ((m : Int) < 1) = false := decide_eq_false (by omega)
    clear htq
    refine wp_region_held_drew (S := (fun w' => w'.rangeAt w.heap.size 0 L ∧ w'.rangeAt (w.heap.size + 1) 0 (btnV r) ∧ w'.rangeAt (w.heap.size + 1 + 1) 0 (btnV d) ∧ w'.rangeAt gx 0 (btnV r) ∧ (convert 36 9 (.slice Ap m cp)).run Try.prog w' = .ok (.string (strOf Bp)) w' ∧ (convert 36 9 (.slice Aq m2 cq)).run Try.prog w' = .ok (.string (strOf Bq)) w')) (by kernel_rfl) ?_ (fun hHeld => ?_)
    · have bd : Below V6.heap.size V6 V6.drew := (Below.refl _ V6).drew
      exact ⟨range_of W6.l, range_of W6.b, range_of W6.dd, range_of VX, cvp _ (sp.later bd), cvq _ (sq.later bd)⟩
    have bd : Below V6.heap.size V6 V6.drew := (Below.refl _ V6).drew
    replace W6 := W6.later bd
    replace sp := sp.later bd
    replace sq := sq.later bd
    replace VX := var_later VX bd
    clear bd
    generalize V6.drew = V at *
    refine wpAnyH_take (i := 0) (v := ?_) rfl (by kernel_rfl) (by kernel_rfl) (by kernel_rfl) (fun _ _ _ h => h) (Or.inl ⟨by rfl, ?_⟩) (by assumption) ?_
    rotate_left
    · intro w hSw
      try dsimp only at hSw
      go_simp
      try with_reducible rfl
    simp only [List.getElem_toArray, List.getElem_cons_succ, List.getElem_cons_zero, Act.put, List.setIfInBounds_toArray, List.set_cons_zero, List.set_cons_succ]
    refine wpAnyH_take (i := 1) (v := ?_) rfl (by kernel_rfl) (by kernel_rfl) (by kernel_rfl) (fun _ _ _ h => h) (Or.inl ⟨by rfl, ?_⟩) (by assumption) ?_
    rotate_left
    · intro w hSw
      try dsimp only at hSw
      go_simp
      try with_reducible rfl
    simp only [List.getElem_toArray, List.getElem_cons_succ, List.getElem_cons_zero, Act.put, List.setIfInBounds_toArray, List.set_cons_zero, List.set_cons_succ]
    refine wpAnyH_take (i := 2) (v := ?_) rfl (by kernel_rfl) (by kernel_rfl) (by kernel_rfl) (fun _ _ _ h => h) (Or.inl ⟨by rfl, ?_⟩) (by assumption) ?_
    rotate_left
    · intro w hSw
      try dsimp only at hSw
      go_simp
      try with_reducible rfl
    simp only [List.getElem_toArray, List.getElem_cons_succ, List.getElem_cons_zero, Act.put, List.setIfInBounds_toArray, List.set_cons_zero, List.set_cons_succ]
    refine wpAnyH_take (i := 3) (v := .agg ((btnV r) : List Value).toArray) rfl (by kernel_rfl) (by kernel_rfl) (by kernel_rfl) (fun _ _ _ h => h) (yieldsIf_load_mid rfl 33 (.tmp 9) rfl (gx) 0 rfl (btnV r) _ (fun w' h => h.2.2.2.1) (by first | exact Try.underlying33) rfl (by first | assumption | (simp only [*]; kernel_rfl))) (by assumption) ?_
    simp only [List.getElem_toArray, List.getElem_cons_succ, List.getElem_cons_zero, Act.put, List.setIfInBounds_toArray, List.set_cons_zero, List.set_cons_succ]
    refine wpAnyH_take (i := 4) (v := .agg ((btnV r) : List Value).toArray) rfl (by kernel_rfl) (by kernel_rfl) (by kernel_rfl) (fun _ _ _ h => h) (yieldsIf_load_mid rfl 33 (.tmp 4) rfl (w.heap.size + 1) 0 rfl (btnV r) _ (fun w' h => h.2.1) (by first | exact Try.underlying33) rfl (by first | assumption | (simp only [*]; kernel_rfl))) (by assumption) ?_
    simp only [List.getElem_toArray, List.getElem_cons_succ, List.getElem_cons_zero, Act.put, List.setIfInBounds_toArray, List.set_cons_zero, List.set_cons_succ]
    refine wpAnyH_take (i := 5) (v := ?_) rfl (by kernel_rfl) (by kernel_rfl) (by kernel_rfl) (fun _ _ _ h => h) (Or.inl ⟨by rfl, ?_⟩) (by assumption) ?_
    rotate_left
    · intro w hSw
      try dsimp only at hSw
      go_simp
      try with_reducible rfl
    simp only [List.getElem_toArray, List.getElem_cons_succ, List.getElem_cons_zero, Act.put, List.setIfInBounds_toArray, List.set_cons_zero, List.set_cons_succ]
    refine wpAnyH_take (i := 6) (v := ?_) rfl (by kernel_rfl) (by kernel_rfl) (by kernel_rfl) (fun _ _ _ h => h) (Or.inl ⟨by rfl, ?_⟩) (by assumption) ?_
    rotate_left
    · intro w hSw
      try dsimp only at hSw
      go_simp
      try with_reducible rfl
    simp only [List.getElem_toArray, List.getElem_cons_succ, List.getElem_cons_zero, Act.put, List.setIfInBounds_toArray, List.set_cons_zero, List.set_cons_succ]
    refine wpAnyH_take (i := 7) (v := ?_) rfl (by kernel_rfl) (by kernel_rfl) (by kernel_rfl) (fun _ _ _ h => h) (Or.inl ⟨by rfl, ?_⟩) (by assumption) ?_
    rotate_left
    · intro w hSw
      try dsimp only at hSw
      go_simp
      try with_reducible rfl
    simp only [List.getElem_toArray, List.getElem_cons_succ, List.getElem_cons_zero, Act.put, List.setIfInBounds_toArray, List.set_cons_zero, List.set_cons_succ]
    refine wpAnyH_take (i := 8) (v := ?_) rfl (by kernel_rfl) (by kernel_rfl) (by kernel_rfl) (fun _ _ _ h => h) (Or.inl ⟨by rfl, ?_⟩) (by assumption) ?_
    rotate_left
    · intro w hSw
      try dsimp only at hSw
      go_simp
      try with_reducible rfl
    simp only [List.getElem_toArray, List.getElem_cons_succ, List.getElem_cons_zero, Act.put, List.setIfInBounds_toArray, List.set_cons_zero, List.set_cons_succ]
    refine wpAnyH_take (i := 9) (v := ?_) rfl (by kernel_rfl) (by kernel_rfl) (by kernel_rfl) (fun _ _ _ h => h) (Or.inl ⟨by rfl, ?_⟩) (by assumption) ?_
    rotate_left
    · intro w hSw
      try dsimp only at hSw
      go_simp
      try with_reducible rfl
    simp only [List.getElem_toArray, List.getElem_cons_succ, List.getElem_cons_zero, Act.put, List.setIfInBounds_toArray, List.set_cons_zero, List.set_cons_succ]
    refine wpAnyH_take (i := 10) (v := .agg (L : List Value).toArray) rfl (by kernel_rfl) (by kernel_rfl) (by kernel_rfl) (fun _ _ _ h => h) (yieldsIf_load_mid rfl 29 (.tmp 3) rfl (w.heap.size) 0 rfl L _ (fun w' h => h.1) (by first | exact Try.underlying29) rfl (by first | assumption | (simp only [*]; kernel_rfl))) (by assumption) ?_
    simp only [List.getElem_toArray, List.getElem_cons_succ, List.getElem_cons_zero, Act.put, List.setIfInBounds_toArray, List.set_cons_zero, List.set_cons_succ]
    clear hHeld
    refine wpAnyH_ready (rs := [11]) (by kernel_rfl) (by simp) ?_
    refine AllReadyH.cons rfl (fun K hK => ?_) AllReadyH.nil
    go_simp
    refine (Size_c L nsec lens nsig nfl A c A1 c1 A3 c3 ve ns ne nc (m : Int) _ HNS.out HNE.out HNC.out (by rw [HM.out, HPL.out]) W6.lay).mono ?_
    rintro e V ⟨rfl, bF⟩
    replace W6 := W6.later bF
    replace sp := sp.later bF
    replace sq := sq.later bF
    replace VX := var_later VX bF
    clear bF
    refine hK.out _ _ ⟨range_of W6.l, range_of W6.b, range_of W6.dd, range_of VX, cvp _ sp, cvq _ sq⟩ (fun _ => ?_)
    clear hK K
    try simp only [List.getElem_toArray, List.getElem_cons_succ, List.getElem_cons_zero, Act.put, List.setIfInBounds_toArray, List.set_cons_zero, List.set_cons_succ]
    have hHeld : V.rangeAt w.heap.size 0 L ∧ V.rangeAt (w.heap.size + 1) 0 (btnV r) ∧ V.rangeAt (w.heap.size + 1 + 1) 0 (btnV d) ∧ V.rangeAt gx 0 (btnV r) ∧ (convert 36 9 (.slice Ap m cp)).run Try.prog V = .ok (.string (strOf Bp)) V ∧ (convert 36 9 (.slice Aq m2 cq)).run Try.prog V = .ok (.string (strOf Bq)) V := ⟨range_of W6.l, range_of W6.b, range_of W6.dd, range_of VX, cvp _ sp, cvq _ sq⟩
    refine wpAnyH_take (i := 12) (v := ?_) rfl (by kernel_rfl) (by kernel_rfl) (by kernel_rfl) (fun _ _ _ h => h) (Or.inl ⟨by rfl, ?_⟩) (by assumption) ?_
    rotate_left
    · intro w hSw
      try dsimp only at hSw
      go_simp
      try with_reducible rfl
    simp only [List.getElem_toArray, List.getElem_cons_succ, List.getElem_cons_zero, Act.put, List.setIfInBounds_toArray, List.set_cons_zero, List.set_cons_succ]
    refine wpAnyH_take (i := 13) (v := ?_) rfl (by kernel_rfl) (by kernel_rfl) (by kernel_rfl) (fun _ _ _ h => h) (Or.inl ⟨by rfl, ?_⟩) (by assumption) ?_
    rotate_left
    · intro w hSw
      try dsimp only at hSw
      go_simp
      try with_reducible rfl
    simp only [List.getElem_toArray, List.getElem_cons_succ, List.getElem_cons_zero, Act.put, List.setIfInBounds_toArray, List.set_cons_zero, List.set_cons_succ]
    refine wpAnyH_take (i := 14) (v := ?_) rfl (by kernel_rfl) (by kernel_rfl) (by kernel_rfl) (fun _ _ _ h => h) (Or.inl ⟨by rfl, ?_⟩) (by assumption) ?_
    rotate_left
    · intro w hSw
      try dsimp only at hSw
      go_simp
      try with_reducible rfl
    simp only [List.getElem_toArray, List.getElem_cons_succ, List.getElem_cons_zero, Act.put, List.setIfInBounds_toArray, List.set_cons_zero, List.set_cons_succ]
    refine wpAnyH_take (i := 15) (v := ?_) rfl (by kernel_rfl) (by kernel_rfl) (by kernel_rfl) (fun _ _ _ h => h) (Or.inl ⟨by rfl, ?_⟩) (by assumption) ?_
    rotate_left
    · intro w hSw
      try dsimp only at hSw
      go_simp
      try with_reducible rfl
    simp only [List.getElem_toArray, List.getElem_cons_succ, List.getElem_cons_zero, Act.put, List.setIfInBounds_toArray, List.set_cons_zero, List.set_cons_succ]
    refine wpAnyH_take (i := 16) (v := ?_) rfl (by kernel_rfl) (by kernel_rfl) (by kernel_rfl) (fun _ _ _ h => h) (Or.inl ⟨by rfl, ?_⟩) (by assumption) ?_
    rotate_left
    · intro w hSw
      try dsimp only at hSw
      go_simp
      try with_reducible rfl
    simp only [List.getElem_toArray, List.getElem_cons_succ, List.getElem_cons_zero, Act.put, List.setIfInBounds_toArray, List.set_cons_zero, List.set_cons_succ]
    refine wpAnyH_take (i := 17) (v := ?_) rfl (by kernel_rfl) (by kernel_rfl) (by kernel_rfl) (fun _ _ _ h => h) (Or.inl ⟨by rfl, ?_⟩) (by assumption) ?_
    rotate_left
    · intro w hSw
      try dsimp only at hSw
      go_simp
      try with_reducible rfl
    simp only [List.getElem_toArray, List.getElem_cons_succ, List.getElem_cons_zero, Act.put, List.setIfInBounds_toArray, List.set_cons_zero, List.set_cons_succ]
    refine wpAnyH_take (i := 18) (v := ?_) rfl (by kernel_rfl) (by kernel_rfl) (by kernel_rfl) (fun _ _ _ h => h) (Or.inl ⟨by rfl, ?_⟩) (by assumption) ?_
    rotate_left
    · intro w hSw
      try dsimp only at hSw
      go_simp
      try with_reducible rfl
    simp only [List.getElem_toArray, List.getElem_cons_succ, List.getElem_cons_zero, Act.put, List.setIfInBounds_toArray, List.set_cons_zero, List.set_cons_succ]
    refine wpAnyH_take (i := 19) (v := ?_) rfl (by kernel_rfl) (by kernel_rfl) (by kernel_rfl) (fun _ _ _ h => h) (Or.inl ⟨by rfl, ?_⟩) (by assumption) ?_
    rotate_left
    · intro w hSw
      try dsimp only at hSw
      go_simp
      try with_reducible rfl
    simp only [List.getElem_toArray, List.getElem_cons_succ, List.getElem_cons_zero, Act.put, List.setIfInBounds_toArray, List.set_cons_zero, List.set_cons_succ]
    refine wpAnyH_take (i := 20) (v := ?_) rfl (by kernel_rfl) (by kernel_rfl) (by kernel_rfl) (fun _ _ _ h => h) (Or.inl ⟨by rfl, ?_⟩) (by assumption) ?_
    rotate_left
    · intro w hSw
      try dsimp only at hSw
      go_simp
      try with_reducible rfl
    simp only [List.getElem_toArray, List.getElem_cons_succ, List.getElem_cons_zero, Act.put, List.setIfInBounds_toArray, List.set_cons_zero, List.set_cons_succ]
    refine wpAnyH_take (i := 21) (v := ?_) rfl (by kernel_rfl) (by kernel_rfl) (by kernel_rfl) (fun _ _ _ h => h) (Or.inl ⟨by rfl, ?_⟩) (by assumption) ?_
    rotate_left
    · intro w hSw
      try dsimp only at hSw
      go_simp
      try with_reducible rfl
    simp only [List.getElem_toArray, List.getElem_cons_succ, List.getElem_cons_zero, Act.put, List.setIfInBounds_toArray, List.set_cons_zero, List.set_cons_succ]
    refine wpAnyH_take (i := 22) (v := ?_) rfl (by kernel_rfl) (by kernel_rfl) (by kernel_rfl) (fun _ _ _ h => h) (Or.inl ⟨by rfl, ?_⟩) (by assumption) ?_
    rotate_left
    · intro w hSw
      try dsimp only at hSw
      go_simp
      try with_reducible rfl
    simp only [List.getElem_toArray, List.getElem_cons_succ, List.getElem_cons_zero, Act.put, List.setIfInBounds_toArray, List.set_cons_zero, List.set_cons_succ]
    refine wpAnyH_take (i := 23) (v := ?_) rfl (by kernel_rfl) (by kernel_rfl) (by kernel_rfl) (fun _ _ _ h => h) (Or.inl ⟨by rfl, ?_⟩) (by assumption) ?_
    rotate_left
    · intro w hSw
      try dsimp only at hSw
      go_simp
      try with_reducible rfl
    simp only [List.getElem_toArray, List.getElem_cons_succ, List.getElem_cons_zero, Act.put, List.setIfInBounds_toArray, List.set_cons_zero, List.set_cons_succ]
    refine wpAnyH_take (i := 24) (v := ?_) rfl (by kernel_rfl) (by kernel_rfl) (by kernel_rfl) (fun _ _ _ h => h) (Or.inl ⟨by rfl, ?_⟩) (by assumption) ?_
    rotate_left
    · intro w hSw
      try dsimp only at hSw
      go_simp
      try with_reducible rfl
    simp only [List.getElem_toArray, List.getElem_cons_succ, List.getElem_cons_zero, Act.put, List.setIfInBounds_toArray, List.set_cons_zero, List.set_cons_succ]
    refine wpAnyH_take (i := 25) (v := .agg ((btnV r) : List Value).toArray) rfl (by kernel_rfl) (by kernel_rfl) (by kernel_rfl) (fun _ _ _ h => h) (yieldsIf_load_mid rfl 33 (.tmp 4) rfl (w.heap.size + 1) 0 rfl (btnV r) _ (fun w' h => h.2.1) (by first | exact Try.underlying33) rfl (by first | assumption | (simp only [*]; kernel_rfl))) (by assumption) ?_
    simp only [List.getElem_toArray, List.getElem_cons_succ, List.getElem_cons_zero, Act.put, List.setIfInBounds_toArray, List.set_cons_zero, List.set_cons_succ]
    refine wpAnyH_take (i := 26) (v := .agg ((btnV d) : List Value).toArray) rfl (by kernel_rfl) (by kernel_rfl) (by kernel_rfl) (fun _ _ _ h => h) (yieldsIf_load_mid rfl 33 (.tmp 5) rfl (w.heap.size + 1 + 1) 0 rfl (btnV d) _ (fun w' h => h.2.2.1) (by first | exact Try.underlying33) rfl (by first | assumption | (simp only [*]; kernel_rfl))) (by assumption) ?_
    simp only [List.getElem_toArray, List.getElem_cons_succ, List.getElem_cons_zero, Act.put, List.setIfInBounds_toArray, List.set_cons_zero, List.set_cons_succ]
    refine wpAnyH_take (i := 27) (v := ?_) rfl (by kernel_rfl) (by kernel_rfl) (by kernel_rfl) (fun _ _ _ h => h) (Or.inl ⟨by rfl, ?_⟩) (by assumption) ?_
    rotate_left
    · intro w hSw
      try dsimp only at hSw
      go_simp
      try with_reducible rfl
    simp only [List.getElem_toArray, List.getElem_cons_succ, List.getElem_cons_zero, Act.put, List.setIfInBounds_toArray, List.set_cons_zero, List.set_cons_succ]
    refine wpAnyH_take (i := 28) (v := ?_) rfl (by kernel_rfl) (by kernel_rfl) (by kernel_rfl) (fun _ _ _ h => h) (Or.inl ⟨by rfl, ?_⟩) (by assumption) ?_
    rotate_left
    · intro w hSw
      try dsimp only at hSw
      go_simp
      try with_reducible rfl
    simp only [List.getElem_toArray, List.getElem_cons_succ, List.getElem_cons_zero, Act.put, List.setIfInBounds_toArray, List.set_cons_zero, List.set_cons_succ]
    refine wpAnyH_take (i := 29) (v := ?_) rfl (by kernel_rfl) (by kernel_rfl) (by kernel_rfl) (fun _ _ _ h => h) (Or.inl ⟨by rfl, ?_⟩) (by assumption) ?_
    rotate_left
    · intro w hSw
      try dsimp only at hSw
      go_simp
      try with_reducible rfl
    simp only [List.getElem_toArray, List.getElem_cons_succ, List.getElem_cons_zero, Act.put, List.setIfInBounds_toArray, List.set_cons_zero, List.set_cons_succ]
    refine wpAnyH_done (by kernel_rfl) ?_ _
    clear hHeld heB heD hst cvp cvq
    go_upto_region 8 with (fail)
    generalize V = V8 at *
    obtain ⟨k, hk⟩ : ∃ k, m = k + 1 := ⟨m - 1, by omega⟩
    have hmb : m ≤ 1000 := by rw [HM.out, HPL.out]; unfold sizeK; have := HL1.out; have := HL2.out; have := HL3.out; omega
    have hwk : wrap64 ((m : Int) - 1) = (k : Int) := by unfold wrap64; omega
    have hwk2 : IntKind.i64.wrap ((m : Int) - 1) = (k : Int) := by rw [IntKind.wrap_i64]; omega
    obtain ⟨_, _, hveq, hmcp, _⟩ := sp.form
    obtain ⟨rfl, _, rfl⟩ := Value.slice.inj hveq
    have HK1 := Lib.hid hk
    have HMB := Lib.hid hmb
    have HMCP := Lib.hid hmcp
    have sk : SliceAt V8 1 (.slice Ap k cp) (Bp.take k).length (u8s (Bp.take k)) := by
      have h := sp.take (k := k) (by omega)
      rw [Nat.mul_one] at h
      have e : (Bp.take k).length = k := by rw [List.length_take, ← HM.out]; omega
      rw [e]
      simpa [u8s, List.map_take] using h
    have hk1 : (k : Int) ≤ (cp : Int) := by omega
    have hlen8 : (Bp.take k).length ≠ sizeK ns ne nc := by rw [← HPL.out, ← HM.out, List.length_take, ← HM.out]; omega
    clear hveq hk hmb hmcp
    refine Code.wp_mono (Q := nq (fun a W => ∃ u15 u16 u17 u18 u19 u20 u21 u22 u23 u24 u25 u26 u27 u28 u29 u30 u31 u32 u33 u34 u35 u36 u37 u38 u39 u40 u41 u42 u43 u44 u45 u46 u47 u48 u49 u50 u51 u52 u53 u54 u55 u56 u57 u58 u59 u60 u61 u62 u63 u64 u65 u66 u67 u68 u69 u70 u71 u72 u73 u74 u75 : Value, ∃ gz : Nat, a = { tmps := (([.agg L.toArray, .agg (btnV b0).toArray, .agg (btnV c0).toArray, .pointer (some ⟨w.heap.size, 0, none⟩), .pointer (some ⟨w.heap.size + 1, 0, none⟩), .pointer (some ⟨w.heap.size + 1 + 1, 0, none⟩), .bool false, .slice Ap m cp, .slice Aq m2 cq, .pointer (some ⟨gx, 0, none⟩), .int .i64 0, .pointer (some ⟨gz, 0, none⟩), .int .i64 41, undef, undef, u15, u16, u17, u18, u19, u20, u21, u22, u23, u24, u25, u26, u27, u28, u29, u30, u31, u32, u33, u34, u35, u36, u37, u38, u39, u40, u41, u42, u43, u44, u45, u46, u47, u48, u49] ++ ([u50, u51, u52, u53, u54, u55, u56, u57, u58, u59, u60, u61, u62, u63, u64, u65, u66, u67, u68, u69, u70, u71, u72, u73, u74, u75, undef, undef, undef, undef, undef, undef, undef, undef, undef, undef, undef, undef, undef, undef, undef, undef, undef, undef, undef]) : List Value)).toArray, defers := [] } ∧ Below V8.heap.size V8 W)) (fun e a V9 hR => ?_) ?_
    rotate_left
    · skip
      refine wp_region_held_drew (S := (fun w' => w'.rangeAt w.heap.size 0 L)) (by kernel_rfl) ?_ (fun hHeld => ?_)
      · exact range_of W6.l
      have Bb : Below V8.heap.size V8 V8.drew := (Below.refl _ V8).drew
      generalize V8.drew = V at *
      refine wpAnyH_take (i := 0) (v := .agg (L : List Value).toArray) rfl (by kernel_rfl) (by kernel_rfl) (by kernel_rfl) (fun _ _ _ h => h) (yieldsIf_load_mid rfl 29 (.tmp 3) rfl (w.heap.size) 0 rfl L _ (fun w' h => h) (by first | exact Try.underlying29) rfl (by first | assumption | (simp only [*]; kernel_rfl))) (by assumption) ?_
      simp only [List.getElem_toArray, List.getElem_cons_succ, List.getElem_cons_zero, Act.put, List.setIfInBounds_toArray, List.set_cons_zero, List.set_cons_succ]
      refine wpAnyH_take (i := 1) (v := ?_) rfl (by kernel_rfl) (by kernel_rfl) (by kernel_rfl) (fun _ _ _ h => h) (Or.inl ⟨by rfl, ?_⟩) (by assumption) ?_
      rotate_left
      · intro w hSw
        try dsimp only at hSw
        go_simp
        try with_reducible rfl
      simp only [List.getElem_toArray, List.getElem_cons_succ, List.getElem_cons_zero, Act.put, List.setIfInBounds_toArray, List.set_cons_zero, List.set_cons_succ]
      refine wpAnyH_take (i := 2) (v := ?_) rfl (by kernel_rfl) (by kernel_rfl) (by kernel_rfl) (fun _ _ _ h => h) (Or.inl ⟨by rfl, ?_⟩) (by assumption) ?_
      rotate_left
      · intro w hSw
        try dsimp only at hSw
        go_simp
        try with_reducible rfl
      simp only [List.getElem_toArray, List.getElem_cons_succ, List.getElem_cons_zero, Act.put, List.setIfInBounds_toArray, List.set_cons_zero, List.set_cons_succ]
      refine wpAnyH_take (i := 3) (v := ?_) rfl (by kernel_rfl) (by kernel_rfl) (by kernel_rfl) (fun _ _ _ h => h) (Or.inl ⟨by rfl, ?_⟩) (by assumption) ?_
      rotate_left
      · intro w hSw
        try dsimp only at hSw
        go_simp
        try with_reducible rfl
      simp only [List.getElem_toArray, List.getElem_cons_succ, List.getElem_cons_zero, Act.put, List.setIfInBounds_toArray, List.set_cons_zero, List.set_cons_succ]
      refine wpAnyH_take (i := 4) (v := ?_) rfl (by kernel_rfl) (by kernel_rfl) (by kernel_rfl) (fun _ _ _ h => h) (Or.inl ⟨by rfl, ?_⟩) (by assumption) ?_
      rotate_left
      · intro w hSw
        try dsimp only at hSw
        go_simp
        try with_reducible rfl
      simp only [List.getElem_toArray, List.getElem_cons_succ, List.getElem_cons_zero, Act.put, List.setIfInBounds_toArray, List.set_cons_zero, List.set_cons_succ]
      refine wpAnyH_take (i := 5) (v := ?_) rfl (by kernel_rfl) (by kernel_rfl) (by kernel_rfl) (fun _ _ _ h => h) (Or.inl ⟨by rfl, ?_⟩) (by assumption) ?_
      rotate_left
      · intro w hSw
        try dsimp only at hSw
        go_simp
        try with_reducible rfl
      simp only [List.getElem_toArray, List.getElem_cons_succ, List.getElem_cons_zero, Act.put, List.setIfInBounds_toArray, List.set_cons_zero, List.set_cons_succ]
      clear hHeld
      refine wpAnyH_ready (rs := [6, 10]) (by kernel_rfl) (by simp) ?_
      refine AllReadyH.cons rfl (fun K hK => ?_) (AllReadyH.cons rfl (fun K hK => ?_) AllReadyH.nil)
      · skip
        go_simp
        refine (Take_c L nsec lens nsig nfl A c A1 c1 A3 c3 ve ns ne nc (.slice Ap k cp) (Bp.take k) _ HNS.out HNE.out HNC.out (W6.later Bb).lay (sk.later Bb)).mono ?_
        rintro e V ⟨b, r8, err, rfl, hT, _⟩
        have hre : r8 = zBtn ∧ err = 41 := by
          rcases hT with ⟨_, h2, h3⟩ | ⟨h, _⟩
          · exact ⟨h2, h3⟩
          · exact absurd h hlen8
        obtain ⟨rfl, rfl⟩ := hre
        replace Bb := below_step Bb b
        try replace GZ := var_later GZ b
        clear b hT
        refine hK.out _ _ (range_of (W6.later Bb).l) (fun _ => ?_)
        clear hK K
        try simp only [List.getElem_toArray, List.getElem_cons_succ, List.getElem_cons_zero, Act.put, List.setIfInBounds_toArray, List.set_cons_zero, List.set_cons_succ]
        have hHeld : V.rangeAt w.heap.size 0 L := range_of (W6.later Bb).l
        refine wpAnyH_take (i := 7) (v := ?_) rfl (by kernel_rfl) (by kernel_rfl) (by kernel_rfl) (fun _ _ _ h => h) (Or.inl ⟨by rfl, ?_⟩) (by assumption) ?_
        rotate_left
        · intro w hSw
          try dsimp only at hSw
          go_simp
          try with_reducible rfl
        simp only [List.getElem_toArray, List.getElem_cons_succ, List.getElem_cons_zero, Act.put, List.setIfInBounds_toArray, List.set_cons_zero, List.set_cons_succ]
        refine wpAnyH_take (i := 8) (v := ?_) rfl (by kernel_rfl) (by kernel_rfl) (by kernel_rfl) (fun _ _ _ h => h) (Or.inl ⟨by rfl, ?_⟩) (by assumption) ?_
        rotate_left
        · intro w hSw
          try dsimp only at hSw
          go_simp
          try with_reducible rfl
        simp only [List.getElem_toArray, List.getElem_cons_succ, List.getElem_cons_zero, Act.put, List.setIfInBounds_toArray, List.set_cons_zero, List.set_cons_succ]
        refine wpAnyH_take (i := 9) (v := ?_) rfl (by kernel_rfl) (by kernel_rfl) (by kernel_rfl) (fun _ _ _ h => h) (Or.inl ⟨by rfl, ?_⟩) (by assumption) ?_
        rotate_left
        · intro w hSw
          try dsimp only at hSw
          go_simp
          try with_reducible rfl
        simp only [List.getElem_toArray, List.getElem_cons_succ, List.getElem_cons_zero, Act.put, List.setIfInBounds_toArray, List.set_cons_zero, List.set_cons_succ]
        clear hHeld
        refine wpAnyH_ready (rs := [10]) (by kernel_rfl) (by simp) ?_
        refine AllReadyH.cons rfl (fun K hK => ?_) AllReadyH.nil
        have GZ := new_at (w := V) rfl (.cells zB 33)
        have b := kbelow_new V (.cells zB 33)
        have hgz : V8.heap.size ≤ V.heap.size := Bb.size
        go_simp
        replace Bb := below_step Bb b
        clear b
        generalize V.heap.size = gz at *
        generalize V.alloc (.cells zB 33) = V at *
        refine hK.out _ _ (range_of (W6.later Bb).l) (fun _ => ?_)
        clear hK K
        try simp only [List.getElem_toArray, List.getElem_cons_succ, List.getElem_cons_zero, Act.put, List.setIfInBounds_toArray, List.set_cons_zero, List.set_cons_succ]
        refine wpAnyH_ready (rs := [11]) (by kernel_rfl) (by simp) ?_
        refine AllReadyH.cons rfl (fun K hK => ?_) AllReadyH.nil
        obtain ⟨V', hW, F, b, far, ths⟩ := fill_new (btnV zBtn) GZ (by rfl) Bb hgz
        refine wp_store_mid 33 (.tmp 11) (.tmp 74) (by rfl) gz 0 (btnV zBtn).toArray (by rfl) (by rfl) ths (by kernel_rfl) (all_one (btnV_one _)) ?_
        rw [hW]
        clear hW ths far F Bb GZ
        have Bb := b
        clear b
        generalize V' = V at *
        refine hK.out _ _ (range_of (W6.later Bb).l) (fun _ => ?_)
        clear hK K
        try simp only [List.getElem_toArray, List.getElem_cons_succ, List.getElem_cons_zero, Act.put, List.setIfInBounds_toArray, List.set_cons_zero, List.set_cons_succ]
        refine wpAnyH_ready (rs := [12]) (by kernel_rfl) (by simp) ?_
        refine AllReadyH.cons rfl (fun K hK => ?_) AllReadyH.nil
        go_simp
        refine hK.out _ _ (range_of (W6.later Bb).l) (fun _ => ?_)
        clear hK K
        try simp only [List.getElem_toArray, List.getElem_cons_succ, List.getElem_cons_zero, Act.put, List.setIfInBounds_toArray, List.set_cons_zero, List.set_cons_succ]
        refine wpAnyH_done (by kernel_rfl) ?_ _
        exact ⟨_, _, _, _, _, _, _, _, _, _, _, _, _, _, _, _, _, _, _, _, _, _, _, _, _, _, _, _, _, _, _, _, _, _, _, _, _, _, _, _, _, _, _, _, _, _, _, _, _, _, _, _, _, _, _, _, _, _, _, _, _, _, rfl, Bb⟩
      · skip
        have GZ := new_at (w := V) rfl (.cells zB 33)
        have b := kbelow_new V (.cells zB 33)
        have hgz : V8.heap.size ≤ V.heap.size := Bb.size
        go_simp
        replace Bb := below_step Bb b
        clear b
        generalize V.heap.size = gz at *
        generalize V.alloc (.cells zB 33) = V at *
        refine hK.out _ _ (range_of (W6.later Bb).l) (fun _ => ?_)
        clear hK K
        try simp only [List.getElem_toArray, List.getElem_cons_succ, List.getElem_cons_zero, Act.put, List.setIfInBounds_toArray, List.set_cons_zero, List.set_cons_succ]
        refine wpAnyH_ready (rs := [6]) (by kernel_rfl) (by simp) ?_
        refine AllReadyH.cons rfl (fun K hK => ?_) AllReadyH.nil
        go_simp
        refine (Take_c L nsec lens nsig nfl A c A1 c1 A3 c3 ve ns ne nc (.slice Ap k cp) (Bp.take k) _ HNS.out HNE.out HNC.out (W6.later Bb).lay (sk.later Bb)).mono ?_
        rintro e V ⟨b, r8, err, rfl, hT, _⟩
        have hre : r8 = zBtn ∧ err = 41 := by
          rcases hT with ⟨_, h2, h3⟩ | ⟨h, _⟩
          · exact ⟨h2, h3⟩
          · exact absurd h hlen8
        obtain ⟨rfl, rfl⟩ := hre
        replace Bb := below_step Bb b
        try replace GZ := var_later GZ b
        clear b hT
        refine hK.out _ _ (range_of (W6.later Bb).l) (fun _ => ?_)
        clear hK K
        try simp only [List.getElem_toArray, List.getElem_cons_succ, List.getElem_cons_zero, Act.put, List.setIfInBounds_toArray, List.set_cons_zero, List.set_cons_succ]
        have hHeld : V.rangeAt w.heap.size 0 L := range_of (W6.later Bb).l
        refine wpAnyH_take (i := 7) (v := ?_) rfl (by kernel_rfl) (by kernel_rfl) (by kernel_rfl) (fun _ _ _ h => h) (Or.inl ⟨by rfl, ?_⟩) (by assumption) ?_
        rotate_left
        · intro w hSw
          try dsimp only at hSw
          go_simp
          try with_reducible rfl
        simp only [List.getElem_toArray, List.getElem_cons_succ, List.getElem_cons_zero, Act.put, List.setIfInBounds_toArray, List.set_cons_zero, List.set_cons_succ]
        refine wpAnyH_take (i := 8) (v := ?_) rfl (by kernel_rfl) (by kernel_rfl) (by kernel_rfl) (fun _ _ _ h => h) (Or.inl ⟨by rfl, ?_⟩) (by assumption) ?_
        rotate_left
        · intro w hSw
          try dsimp only at hSw
          go_simp
          try with_reducible rfl
        simp only [List.getElem_toArray, List.getElem_cons_succ, List.getElem_cons_zero, Act.put, List.setIfInBounds_toArray, List.set_cons_zero, List.set_cons_succ]
        refine wpAnyH_take (i := 9) (v := ?_) rfl (by kernel_rfl) (by kernel_rfl) (by kernel_rfl) (fun _ _ _ h => h) (Or.inl ⟨by rfl, ?_⟩) (by assumption) ?_
        rotate_left
        · intro w hSw
          try dsimp only at hSw
          go_simp
          try with_reducible rfl
        simp only [List.getElem_toArray, List.getElem_cons_succ, List.getElem_cons_zero, Act.put, List.setIfInBounds_toArray, List.set_cons_zero, List.set_cons_succ]
        clear hHeld
        refine wpAnyH_ready (rs := [11]) (by kernel_rfl) (by simp) ?_
        refine AllReadyH.cons rfl (fun K hK => ?_) AllReadyH.nil
        obtain ⟨V', hW, F, b, far, ths⟩ := fill_new (btnV zBtn) GZ (by rfl) Bb hgz
        refine wp_store_mid 33 (.tmp 11) (.tmp 74) (by rfl) gz 0 (btnV zBtn).toArray (by rfl) (by rfl) ths (by kernel_rfl) (all_one (btnV_one _)) ?_
        rw [hW]
        clear hW ths far F Bb GZ
        have Bb := b
        clear b
        generalize V' = V at *
        refine hK.out _ _ (range_of (W6.later Bb).l) (fun _ => ?_)
        clear hK K
        try simp only [List.getElem_toArray, List.getElem_cons_succ, List.getElem_cons_zero, Act.put, List.setIfInBounds_toArray, List.set_cons_zero, List.set_cons_succ]
        refine wpAnyH_ready (rs := [12]) (by kernel_rfl) (by simp) ?_
        refine AllReadyH.cons rfl (fun K hK => ?_) AllReadyH.nil
        go_simp
        refine hK.out _ _ (range_of (W6.later Bb).l) (fun _ => ?_)
        clear hK K
        try simp only [List.getElem_toArray, List.getElem_cons_succ, List.getElem_cons_zero, Act.put, List.setIfInBounds_toArray, List.set_cons_zero, List.set_cons_succ]
        refine wpAnyH_done (by kernel_rfl) ?_ _
        exact ⟨_, _, _, _, _, _, _, _, _, _, _, _, _, _, _, _, _, _, _, _, _, _, _, _, _, _, _, _, _, _, _, _, _, _, _, _, _, _, _, _, _, _, _, _, _, _, _, _, _, _, _, _, _, _, _, _, _, _, _, _, _, _, rfl, Bb⟩
    cases e <;> try exact hR.elim
    obtain ⟨u15, u16, u17, u18, u19, u20, u21, u22, u23, u24, u25, u26, u27, u28, u29, u30, u31, u32, u33, u34, u35, u36, u37, u38, u39, u40, u41, u42, u43, u44, u45, u46, u47, u48, u49, u50, u51, u52, u53, u54, u55, u56, u57, u58, u59, u60, u61, u62, u63, u64, u65, u66, u67, u68, u69, u70, u71, u72, u73, u74, u75, g11, rfl, B9⟩ := hR
    simp only [List.cons_append, List.nil_append]
    have W9 := W6.later B9
    replace sp := sp.later B9
    clear W6 sq VX sk hlen8 hwk hwk2 hlt1 hk1 B9
    generalize V9 = V8 at *
    go_upto_region 9 with (fail)
    have hl9 : (Bp ++ [0#8]).length ≠ sizeK ns ne nc := by rw [List.length_append, HPL.out]; simp
    obtain ⟨i0, hi, hz0, hz1, hz2⟩ := info_parts info_u8
    refine Code.wp_mono (Q := nq (fun a W => ∃ u15 u16 u17 u18 u19 u20 u21 u22 u23 u24 u25 u26 u27 u28 u29 u30 u31 u32 u33 u34 u35 u36 u37 u38 u39 u40 u41 u42 u43 u44 u45 u46 u47 u48 u49 u50 u51 u52 u53 u54 u55 u56 u57 u58 u59 u60 u61 u62 u63 u64 u65 u66 u67 u68 u69 u70 u71 u72 u73 u74 u75 u76 u77 u78 u79 u80 u81 u82 u83 u84 u85 : Value, ∃ gz : Nat, a = { tmps := (([.agg L.toArray, .agg (btnV b0).toArray, .agg (btnV c0).toArray, .pointer (some ⟨w.heap.size, 0, none⟩), .pointer (some ⟨w.heap.size + 1, 0, none⟩), .pointer (some ⟨w.heap.size + 1 + 1, 0, none⟩), .bool false, .slice Ap m cp, .slice Aq m2 cq, .pointer (some ⟨gx, 0, none⟩), .int .i64 0, .pointer (some ⟨g11, 0, none⟩), .int .i64 41, .pointer (some ⟨gz, 0, none⟩), .int .i64 41, u15, u16, u17, u18, u19, u20, u21, u22, u23, u24, u25, u26, u27, u28, u29, u30, u31, u32, u33, u34, u35, u36, u37, u38, u39, u40, u41, u42, u43, u44, u45, u46, u47, u48, u49] ++ ([u50, u51, u52, u53, u54, u55, u56, u57, u58, u59, u60, u61, u62, u63, u64, u65, u66, u67, u68, u69, u70, u71, u72, u73, u74, u75, u76, u77, u78, u79, u80, u81, u82, u83, u84, u85, undef, undef, undef, undef, undef, undef, undef, undef, undef]) : List Value)).toArray, defers := [] } ∧ Below V8.heap.size V8 W)) (fun e a V10 hR => ?_) ?_
    rotate_left
    · skip
      refine Node.region_key (fun w' => w'.rangeAt w.heap.size 0 L) 2 #[true, true, true, true, true, true, true, true, true, true, true, false, false] (fun a W => ∃ (ga g4 : Nat) (Aa : Option Addr) (ca : Nat) (A5 : Option Addr) (c5 : Nat) (gz : Nat), a = { tmps := (([.agg L.toArray, .agg (btnV b0).toArray, .agg (btnV c0).toArray, .pointer (some ⟨w.heap.size, 0, none⟩), .pointer (some ⟨w.heap.size + 1, 0, none⟩), .pointer (some ⟨w.heap.size + 1 + 1, 0, none⟩), .bool false, .slice Ap m cp, .slice Aq m2 cq, .pointer (some ⟨gx, 0, none⟩), .int .i64 0, .pointer (some ⟨g11, 0, none⟩), .int .i64 41, .pointer (some ⟨gz, 0, none⟩), undef, u15, u16, u17, u18, u19, u20, u21, u22, u23, u24, u25, u26, u27, u28, u29, u30, u31, u32, u33, u34, u35, u36, u37, u38, u39, u40, u41, u42, u43, u44, u45, u46, u47, u48, u49] ++ ([u50, u51, u52, u53, u54, u55, u56, u57, u58, u59, u60, u61, u62, u63, u64, u65, u66, u67, u68, u69, u70, u71, u72, u73, u74, u75, .tuple #[.agg (btnV zBtn).toArray, .int .i64 41], .agg L.toArray, .slice (some ⟨ga, 0, none⟩) 0 0, .slice Ap m cp, .slice Aa m ca, .slice (some ⟨g4, 0, none⟩) 1 1, .slice A5 (m + 1) c5, .tuple #[.agg (btnV zBtn).toArray, .int .i64 41], .agg (btnV zBtn).toArray, .int .i64 41, undef, undef, undef, undef, undef, undef, undef, undef, undef]) : List Value)).toArray, defers := [] } ∧ Below V8.heap.size V8 W ∧ V8.heap.size ≤ gz ∧ W.heap[gz]? = some (.cells zB 33 (0, 0))) ?_ (fun kC => ?_)
      · rintro a V hS ⟨ga, g4, Aa, ca, A5, c5, gz, rfl, Bb, hgz, GZ⟩
        try simp only [List.cons_append, List.nil_append]
        refine wpAnyH_ready (rs := [11]) (by kernel_rfl) (by simp) ?_
        refine AllReadyH.cons rfl (fun K hK => ?_) AllReadyH.nil
        obtain ⟨V', hW, F, b, far, ths⟩ := fill_new (btnV zBtn) GZ (by rfl) Bb hgz
        refine wp_store_mid 33 (.tmp 13) (.tmp 84) (by rfl) gz 0 (btnV zBtn).toArray (by rfl) (by rfl) ths (by kernel_rfl) (all_one (btnV_one _)) ?_
        rw [hW]
        clear hW ths far F Bb GZ
        have Bb := b
        clear b
        generalize V' = V at *
        refine hK.out _ _ (range_of (W9.later Bb).l) (fun _ => ?_)
        clear hK K
        try simp only [List.getElem_toArray, List.getElem_cons_succ, List.getElem_cons_zero, Act.put, List.setIfInBounds_toArray, List.set_cons_zero, List.set_cons_succ]
        refine wpAnyH_ready (rs := [12]) (by kernel_rfl) (by simp) ?_
        refine AllReadyH.cons rfl (fun K hK => ?_) AllReadyH.nil
        refine Node.wp_set (.int .i64 41) (.tmp 85) (.inr rfl) (by rfl) ?_
        refine hK.out _ _ (range_of (W9.later Bb).l) (fun _ => ?_)
        clear hK K
        try simp only [List.getElem_toArray, List.getElem_cons_succ, List.getElem_cons_zero, Act.put, List.setIfInBounds_toArray, List.set_cons_zero, List.set_cons_succ]
        refine wpAnyH_done (by kernel_rfl) ?_ _
        exact ⟨_, _, _, _, _, _, _, _, _, _, _, _, _, _, _, _, _, _, _, _, _, _, _, _, _, _, _, _, _, _, _, _, _, _, _, _, _, _, _, _, _, _, _, _, _, _, _, _, _, _, _, _, _, _, _, _, _, _, _, _, _, _, _, _, _, _, _, _, _, _, _, _, rfl, Bb⟩
      refine Node.region_key (fun w' => w'.rangeAt w.heap.size 0 L) 6 #[true, true, true, true, true, true, false, false, false, false, true, false, false] (fun a W => ∃ (ga g4 : Nat) (Aa : Option Addr) (ca : Nat) (A5 : Option Addr) (c5 : Nat) (gz : Nat), a = { tmps := (([.agg L.toArray, .agg (btnV b0).toArray, .agg (btnV c0).toArray, .pointer (some ⟨w.heap.size, 0, none⟩), .pointer (some ⟨w.heap.size + 1, 0, none⟩), .pointer (some ⟨w.heap.size + 1 + 1, 0, none⟩), .bool false, .slice Ap m cp, .slice Aq m2 cq, .pointer (some ⟨gx, 0, none⟩), .int .i64 0, .pointer (some ⟨g11, 0, none⟩), .int .i64 41, .pointer (some ⟨gz, 0, none⟩), undef, u15, u16, u17, u18, u19, u20, u21, u22, u23, u24, u25, u26, u27, u28, u29, u30, u31, u32, u33, u34, u35, u36, u37, u38, u39, u40, u41, u42, u43, u44, u45, u46, u47, u48, u49] ++ ([u50, u51, u52, u53, u54, u55, u56, u57, u58, u59, u60, u61, u62, u63, u64, u65, u66, u67, u68, u69, u70, u71, u72, u73, u74, u75, undef, .agg L.toArray, .slice (some ⟨ga, 0, none⟩) 0 0, .slice Ap m cp, .slice Aa m ca, .slice (some ⟨g4, 0, none⟩) 1 1, .slice A5 (m + 1) c5, undef, undef, undef, undef, undef, undef, undef, undef, undef, undef, undef, undef]) : List Value)).toArray, defers := [] } ∧ Below V8.heap.size V8 W ∧ SliceAt W 1 (.slice A5 (m + 1) c5) (m + 1) (u8s (Bp ++ [0#8])) ∧ V8.heap.size ≤ gz ∧ W.heap[gz]? = some (.cells zB 33 (0, 0))) ?_ (fun kB => ?_)
      · rintro a V hS ⟨ga, g4, Aa, ca, A5, c5, gz, rfl, Bb, O5, hgz, GZ⟩
        try simp only [List.cons_append, List.nil_append]
        refine wpAnyH_ready (rs := [6]) (by kernel_rfl) (by simp) ?_
        refine AllReadyH.cons rfl (fun K hK => ?_) AllReadyH.nil
        refine Node.wp_fn 8 [.tmp 77, .tmp 82] _ [.agg L.toArray, .slice A5 (m + 1) c5] (by rfl) (by rfl) (enters Try.func8 (by kernel_rfl) rfl) (Take_c L nsec lens nsig nfl A c A1 c1 A3 c3 ve ns ne nc (.slice A5 (m + 1) c5) (Bp ++ [0#8]) _ HNS.out HNE.out HNC.out (W9.later Bb).lay (by rw [List.length_append, ← HM.out]; exact O5)) ?_
        rintro e V ⟨b, r, err, rfl, hT, _⟩
        have hre : r = zBtn ∧ err = 41 := by
          rcases hT with ⟨_, h2, h3⟩ | ⟨h, _⟩
          · exact ⟨h2, h3⟩
          · exact absurd h hl9
        obtain ⟨rfl, rfl⟩ := hre
        refine ⟨_, rfl, ?_⟩
        replace Bb := below_step Bb b
        try replace GZ := var_later GZ b
        clear b hT O5
        refine hK.out _ _ (range_of (W9.later Bb).l) (fun _ => ?_)
        clear hK K
        try simp only [List.getElem_toArray, List.getElem_cons_succ, List.getElem_cons_zero, Act.put, List.setIfInBounds_toArray, List.set_cons_zero, List.set_cons_succ]
        have hHeld : V.rangeAt w.heap.size 0 L := range_of (W9.later Bb).l
        refine wpAnyH_take (i := 7) (v := ?_) rfl (by kernel_rfl) (by kernel_rfl) (by kernel_rfl) (fun _ _ _ h => h) (Or.inl ⟨by rfl, ?_⟩) (by assumption) ?_
        rotate_left
        · intro w hSw
          try dsimp only at hSw
          go_simp
          try with_reducible rfl
        simp only [List.getElem_toArray, List.getElem_cons_succ, List.getElem_cons_zero, Act.put, List.setIfInBounds_toArray, List.set_cons_zero, List.set_cons_succ]
        refine wpAnyH_take (i := 8) (v := ?_) rfl (by kernel_rfl) (by kernel_rfl) (by kernel_rfl) (fun _ _ _ h => h) (Or.inl ⟨by rfl, ?_⟩) (by assumption) ?_
        rotate_left
        · intro w hSw
          try dsimp only at hSw
          go_simp
          try with_reducible rfl
        simp only [List.getElem_toArray, List.getElem_cons_succ, List.getElem_cons_zero, Act.put, List.setIfInBounds_toArray, List.set_cons_zero, List.set_cons_succ]
        refine wpAnyH_take (i := 9) (v := ?_) rfl (by kernel_rfl) (by kernel_rfl) (by kernel_rfl) (fun _ _ _ h => h) (Or.inl ⟨by rfl, ?_⟩) (by assumption) ?_
        rotate_left
        · intro w hSw
          try dsimp only at hSw
          go_simp
          try with_reducible rfl
        simp only [List.getElem_toArray, List.getElem_cons_succ, List.getElem_cons_zero, Act.put, List.setIfInBounds_toArray, List.set_cons_zero, List.set_cons_succ]
        clear hHeld
        exact kC _ _ (range_of (W9.later Bb).l) ⟨_, _, _, _, _, _, _, rfl, Bb, hgz, GZ⟩
      refine Node.region_key (fun w' => w'.rangeAt w.heap.size 0 L) 7 #[true, true, true, true, true, true, false, false, false, false, false, false, false] (fun a W => ∃ (ga g4 : Nat) (Aa : Option Addr) (ca : Nat) (A5 : Option Addr) (c5 : Nat), a = { tmps := (([.agg L.toArray, .agg (btnV b0).toArray, .agg (btnV c0).toArray, .pointer (some ⟨w.heap.size, 0, none⟩), .pointer (some ⟨w.heap.size + 1, 0, none⟩), .pointer (some ⟨w.heap.size + 1 + 1, 0, none⟩), .bool false, .slice Ap m cp, .slice Aq m2 cq, .pointer (some ⟨gx, 0, none⟩), .int .i64 0, .pointer (some ⟨g11, 0, none⟩), .int .i64 41, undef, undef, u15, u16, u17, u18, u19, u20, u21, u22, u23, u24, u25, u26, u27, u28, u29, u30, u31, u32, u33, u34, u35, u36, u37, u38, u39, u40, u41, u42, u43, u44, u45, u46, u47, u48, u49] ++ ([u50, u51, u52, u53, u54, u55, u56, u57, u58, u59, u60, u61, u62, u63, u64, u65, u66, u67, u68, u69, u70, u71, u72, u73, u74, u75, undef, .agg L.toArray, .slice (some ⟨ga, 0, none⟩) 0 0, .slice Ap m cp, .slice Aa m ca, .slice (some ⟨g4, 0, none⟩) 1 1, .slice A5 (m + 1) c5, undef, undef, undef, undef, undef, undef, undef, undef, undef, undef, undef, undef]) : List Value)).toArray, defers := [] } ∧ Below V8.heap.size V8 W ∧ SliceAt W 1 (.slice A5 (m + 1) c5) (m + 1) (u8s (Bp ++ [0#8]))) ?_ (fun kA => ?_)
      · rintro a V hS ⟨ga, g4, Aa, ca, A5, c5, rfl, Bb, O5⟩
        try simp only [List.cons_append, List.nil_append]
        refine wpAnyH_ready (rs := [6, 10]) (by kernel_rfl) (by simp) ?_
        refine AllReadyH.cons rfl (fun K hK => ?_) (AllReadyH.cons rfl (fun K hK => ?_) AllReadyH.nil)
        · skip
          refine Node.wp_fn 8 [.tmp 77, .tmp 82] _ [.agg L.toArray, .slice A5 (m + 1) c5] (by rfl) (by rfl) (enters Try.func8 (by kernel_rfl) rfl) (Take_c L nsec lens nsig nfl A c A1 c1 A3 c3 ve ns ne nc (.slice A5 (m + 1) c5) (Bp ++ [0#8]) _ HNS.out HNE.out HNC.out (W9.later Bb).lay (by rw [List.length_append, ← HM.out]; exact O5)) ?_
          rintro e V ⟨b, r, err, rfl, hT, _⟩
          have hre : r = zBtn ∧ err = 41 := by
            rcases hT with ⟨_, h2, h3⟩ | ⟨h, _⟩
            · exact ⟨h2, h3⟩
            · exact absurd h hl9
          obtain ⟨rfl, rfl⟩ := hre
          refine ⟨_, rfl, ?_⟩
          replace Bb := below_step Bb b
          try replace GZ := var_later GZ b
          clear b hT O5
          refine hK.out _ _ (range_of (W9.later Bb).l) (fun _ => ?_)
          clear hK K
          try simp only [List.getElem_toArray, List.getElem_cons_succ, List.getElem_cons_zero, Act.put, List.setIfInBounds_toArray, List.set_cons_zero, List.set_cons_succ]
          have hHeld : V.rangeAt w.heap.size 0 L := range_of (W9.later Bb).l
          refine wpAnyH_take (i := 7) (v := ?_) rfl (by kernel_rfl) (by kernel_rfl) (by kernel_rfl) (fun _ _ _ h => h) (Or.inl ⟨by rfl, ?_⟩) (by assumption) ?_
          rotate_left
          · intro w hSw
            try dsimp only at hSw
            go_simp
            try with_reducible rfl
          simp only [List.getElem_toArray, List.getElem_cons_succ, List.getElem_cons_zero, Act.put, List.setIfInBounds_toArray, List.set_cons_zero, List.set_cons_succ]
          refine wpAnyH_take (i := 8) (v := ?_) rfl (by kernel_rfl) (by kernel_rfl) (by kernel_rfl) (fun _ _ _ h => h) (Or.inl ⟨by rfl, ?_⟩) (by assumption) ?_
          rotate_left
          · intro w hSw
            try dsimp only at hSw
            go_simp
            try with_reducible rfl
          simp only [List.getElem_toArray, List.getElem_cons_succ, List.getElem_cons_zero, Act.put, List.setIfInBounds_toArray, List.set_cons_zero, List.set_cons_succ]
          refine wpAnyH_take (i := 9) (v := ?_) rfl (by kernel_rfl) (by kernel_rfl) (by kernel_rfl) (fun _ _ _ h => h) (Or.inl ⟨by rfl, ?_⟩) (by assumption) ?_
          rotate_left
          · intro w hSw
            try dsimp only at hSw
            go_simp
            try with_reducible rfl
          simp only [List.getElem_toArray, List.getElem_cons_succ, List.getElem_cons_zero, Act.put, List.setIfInBounds_toArray, List.set_cons_zero, List.set_cons_succ]
          clear hHeld
          refine wpAnyH_ready (rs := [10]) (by kernel_rfl) (by simp) ?_
          refine AllReadyH.cons rfl (fun K hK => ?_) AllReadyH.nil
          have GZ := new_at (w := V) rfl (.cells zB 33)
          have b := kbelow_new V (.cells zB 33)
          have hgz : V8.heap.size ≤ V.heap.size := Bb.size
          refine Node.wp_new 33 (.agg zB) zB (by kernel_rfl) rfl (by rfl) ?_
          replace Bb := below_step Bb b
          try replace O1 := own_bel O1 b
          try replace G4 := var_later G4 b
          try replace O5 := O5.later b
          clear b
          generalize V.heap.size = gz at *
          generalize V.alloc (.cells zB 33) = V at *
          refine hK.out _ _ (range_of (W9.later Bb).l) (fun _ => ?_)
          clear hK K
          try simp only [List.getElem_toArray, List.getElem_cons_succ, List.getElem_cons_zero, Act.put, List.setIfInBounds_toArray, List.set_cons_zero, List.set_cons_succ]
          exact kC _ _ (range_of (W9.later Bb).l) ⟨_, _, _, _, _, _, _, rfl, Bb, hgz, GZ⟩
        · skip
          have GZ := new_at (w := V) rfl (.cells zB 33)
          have b := kbelow_new V (.cells zB 33)
          have hgz : V8.heap.size ≤ V.heap.size := Bb.size
          refine Node.wp_new 33 (.agg zB) zB (by kernel_rfl) rfl (by rfl) ?_
          replace Bb := below_step Bb b
          try replace O1 := own_bel O1 b
          try replace G4 := var_later G4 b
          try replace O5 := O5.later b
          clear b
          generalize V.heap.size = gz at *
          generalize V.alloc (.cells zB 33) = V at *
          refine hK.out _ _ (range_of (W9.later Bb).l) (fun _ => ?_)
          clear hK K
          try simp only [List.getElem_toArray, List.getElem_cons_succ, List.getElem_cons_zero, Act.put, List.setIfInBounds_toArray, List.set_cons_zero, List.set_cons_succ]
          exact kB _ _ (range_of (W9.later Bb).l) ⟨_, _, _, _, _, _, _, rfl, Bb, O5, hgz, GZ⟩
      refine wp_region_held_drew (S := (fun w' => w'.rangeAt w.heap.size 0 L)) (by kernel_rfl) ?_ (fun hHeld => ?_)
      · exact range_of W9.l
      have Bb : Below V8.heap.size V8 V8.drew := (Below.refl _ V8).drew
      generalize V8.drew = V at *
      refine wpAnyH_take (i := 0) (v := .agg (L : List Value).toArray) rfl (by kernel_rfl) (by kernel_rfl) (by kernel_rfl) (fun _ _ _ h => h) (yieldsIf_load_mid rfl 29 (.tmp 3) rfl (w.heap.size) 0 rfl L _ (fun w' h => h) (by first | exact Try.underlying29) rfl (by first | assumption | (simp only [*]; kernel_rfl))) (by assumption) ?_
      simp only [List.getElem_toArray, List.getElem_cons_succ, List.getElem_cons_zero, Act.put, List.setIfInBounds_toArray, List.set_cons_zero, List.set_cons_succ]
      refine wpAnyH_take (i := 2) (v := ?_) rfl (by kernel_rfl) (by kernel_rfl) (by kernel_rfl) (fun _ _ _ h => h) (Or.inl ⟨by rfl, ?_⟩) (by assumption) ?_
      rotate_left
      · intro w hSw
        try dsimp only at hSw
        go_simp
        try with_reducible rfl
      simp only [List.getElem_toArray, List.getElem_cons_succ, List.getElem_cons_zero, Act.put, List.setIfInBounds_toArray, List.set_cons_zero, List.set_cons_succ]
      clear hHeld
      refine wpAnyH_ready (rs := [1, 4, 10]) (by kernel_rfl) (by simp) ?_
      refine AllReadyH.cons rfl (fun K hK => ?_) (AllReadyH.cons rfl (fun K hK => ?_) (AllReadyH.cons rfl (fun K hK => ?_) AllReadyH.nil))
      · skip
        have O1 := own_empty V 5 1
        have b := kbelow_new V (.cells #[] 5)
        have hga : V8.heap.size ≤ V.heap.size := Bb.size
        try have hne : g4 ≠ V.heap.size := by have := (Array.getElem?_eq_some_iff.1 G4).1; omega
        refine Node.wp_bs 36 0 [] [] _ (by rfl) (by rfl) (run_bs0 V) ?_
        replace Bb := below_step Bb b
        try replace G4 := var_later G4 b
        try replace GZ := var_later GZ b
        clear b
        generalize V.heap.size = ga at *
        generalize V.alloc (.cells #[] 5) = V at *
        refine hK.out _ _ (range_of (W9.later Bb).l) (fun _ => ?_)
        clear hK K
        try simp only [List.getElem_toArray, List.getElem_cons_succ, List.getElem_cons_zero, Act.put, List.setIfInBounds_toArray, List.set_cons_zero, List.set_cons_succ]
        refine wpAnyH_ready (rs := [3, 4, 10]) (by kernel_rfl) (by simp) ?_
        refine AllReadyH.cons rfl (fun K hK => ?_) (AllReadyH.cons rfl (fun K hK => ?_) (AllReadyH.cons rfl (fun K hK => ?_) AllReadyH.nil))
        · skip
          have hgaV := (own_base O1 rfl).2
          refine wp_app (.tmp 78) (.tmp 79) _ (by rfl) ga 5 i0 _ 1 1 Try.underlying36 hi hz0 hz1 hz2 rfl (by omega) (.slice (some ⟨ga, 0, none⟩) 0 0) 0 [] (by rfl) O1 (.slice Ap m cp) m (u8s Bp) (by rfl) (sp.later Bb) (u8s_one Bp) (by have := HMB.out; simp only [maxLen]; omega) (by have := HMB.out; omega) (Nat.le_of_lt hgaV) ?_
          intro v1 V' ho1 hg1 hw1
          simp only [Nat.zero_add, List.nil_append] at ho1
          obtain ⟨Aa, ca, rfl, _, _⟩ := (sliceAt_of_own ho1).form
          have b := below_own Bb hg1 Bb.size (fun g hg => by cases hg; exact hga)
          try replace G4 := (hg1.block g4 (Array.getElem?_eq_some_iff.1 G4).1 (fun e => hne (Option.some.inj e))).trans G4
          try replace GZ := (hg1.block gz (Array.getElem?_eq_some_iff.1 GZ).1 (fun e => by obtain ⟨cur, hc⟩ := own_type O1 e.symm; rw [GZ] at hc; cases hc)).trans GZ
          clear hgaV hg1 hw1 Bb O1
          have O1 := ho1
          have Bb := b
          clear b ho1
          generalize V' = V at *
          refine hK.out _ _ (range_of (W9.later Bb).l) (fun _ => ?_)
          clear hK K
          try simp only [List.getElem_toArray, List.getElem_cons_succ, List.getElem_cons_zero, Act.put, List.setIfInBounds_toArray, List.set_cons_zero, List.set_cons_succ]
          refine wpAnyH_ready (rs := [4, 10]) (by kernel_rfl) (by simp) ?_
          refine AllReadyH.cons rfl (fun K hK => ?_) (AllReadyH.cons rfl (fun K hK => ?_) AllReadyH.nil)
          · skip
            have G4 := new_at (w := V) rfl (.cells ([.int .u8 0] : List Value).toArray 5)
            have b := kbelow_new V (.cells ([.int .u8 0] : List Value).toArray 5)
            try have hne : V.heap.size ≠ ga := by have h : ga < V.heap.size := (own_base O1 rfl).2; omega
            refine Node.wp_bs 36 1 [(0, .const (.int .u8 0))] [(0, .int .u8 0)] _ (by rfl) (by rfl) (run_bs1 V) ?_
            replace Bb := below_step Bb b
            try replace O1 := own_bel O1 b
            try replace GZ := var_later GZ b
            clear b
            generalize V.heap.size = g4 at *
            generalize V.alloc (.cells ([.int .u8 0] : List Value).toArray 5) = V at *
            refine hK.out _ _ (range_of (W9.later Bb).l) (fun _ => ?_)
            clear hK K
            try simp only [List.getElem_toArray, List.getElem_cons_succ, List.getElem_cons_zero, Act.put, List.setIfInBounds_toArray, List.set_cons_zero, List.set_cons_succ]
            refine wpAnyH_ready (rs := [5, 10]) (by kernel_rfl) (by simp) ?_
            refine AllReadyH.cons rfl (fun K hK => ?_) (AllReadyH.cons rfl (fun K hK => ?_) AllReadyH.nil)
            · skip
              refine wp_app (.tmp 80) (.tmp 81) _ (by rfl) V8.heap.size 5 i0 _ 1 1 Try.underlying36 hi hz0 hz1 hz2 rfl (by omega) (.slice Aa m ca) m (u8s Bp) (by rfl) (own_mono O1 hga) (.slice (some ⟨g4, 0, none⟩) 1 1) 1 [.int .u8 0] (by rfl) (sliceAt_blk G4 rfl (by decide)) (by simp [Value.oneCell']) (by have := HMB.out; simp only [maxLen]; omega) (by have := HMB.out; omega) Bb.size ?_
              intro v1 V' ho1 hg1 hw1
              obtain ⟨A5, c5, rfl, _, _⟩ := (sliceAt_of_own ho1).form
              have b := below_own Bb hg1 Bb.size (fun g hg => Nat.le_trans hga (own_base O1 hg).1)
              try replace GZ := (hg1.block gz (Array.getElem?_eq_some_iff.1 GZ).1 (fun e => by obtain ⟨cur, hc⟩ := own_type O1 e.symm; rw [GZ] at hc; cases hc)).trans GZ
              clear hg1 hw1 Bb O1 G4
              have O5 : SliceAt V' 1 (.slice A5 (m + 1) c5) (m + 1) (u8s (Bp ++ [0#8])) := (by rw [show u8s (Bp ++ [0#8]) = u8s Bp ++ [.int .u8 0] by simp [u8s]]; exact sliceAt_of_own ho1)
              have Bb := b
              clear b ho1
              generalize V' = V at *
              refine hK.out _ _ (range_of (W9.later Bb).l) (fun _ => ?_)
              clear hK K
              try simp only [List.getElem_toArray, List.getElem_cons_succ, List.getElem_cons_zero, Act.put, List.setIfInBounds_toArray, List.set_cons_zero, List.set_cons_succ]
              exact kA _ _ (range_of (W9.later Bb).l) ⟨_, _, _, _, _, _, rfl, Bb, O5⟩
            · skip
              have GZ := new_at (w := V) rfl (.cells zB 33)
              have b := kbelow_new V (.cells zB 33)
              have hgz : V8.heap.size ≤ V.heap.size := Bb.size
              refine Node.wp_new 33 (.agg zB) zB (by kernel_rfl) rfl (by rfl) ?_
              replace Bb := below_step Bb b
              try replace O1 := own_bel O1 b
              try replace G4 := var_later G4 b
              try replace O5 := O5.later b
              clear b
              generalize V.heap.size = gz at *
              generalize V.alloc (.cells zB 33) = V at *
              refine hK.out _ _ (range_of (W9.later Bb).l) (fun _ => ?_)
              clear hK K
              try simp only [List.getElem_toArray, List.getElem_cons_succ, List.getElem_cons_zero, Act.put, List.setIfInBounds_toArray, List.set_cons_zero, List.set_cons_succ]
              refine wpAnyH_ready (rs := [5]) (by kernel_rfl) (by simp) ?_
              refine AllReadyH.cons rfl (fun K hK => ?_) AllReadyH.nil
              refine wp_app (.tmp 80) (.tmp 81) _ (by rfl) V8.heap.size 5 i0 _ 1 1 Try.underlying36 hi hz0 hz1 hz2 rfl (by omega) (.slice Aa m ca) m (u8s Bp) (by rfl) (own_mono O1 hga) (.slice (some ⟨g4, 0, none⟩) 1 1) 1 [.int .u8 0] (by rfl) (sliceAt_blk G4 rfl (by decide)) (by simp [Value.oneCell']) (by have := HMB.out; simp only [maxLen]; omega) (by have := HMB.out; omega) Bb.size ?_
              intro v1 V' ho1 hg1 hw1
              obtain ⟨A5, c5, rfl, _, _⟩ := (sliceAt_of_own ho1).form
              have b := below_own Bb hg1 Bb.size (fun g hg => Nat.le_trans hga (own_base O1 hg).1)
              try replace GZ := (hg1.block gz (Array.getElem?_eq_some_iff.1 GZ).1 (fun e => by obtain ⟨cur, hc⟩ := own_type O1 e.symm; rw [GZ] at hc; cases hc)).trans GZ
              clear hg1 hw1 Bb O1 G4
              have O5 : SliceAt V' 1 (.slice A5 (m + 1) c5) (m + 1) (u8s (Bp ++ [0#8])) := (by rw [show u8s (Bp ++ [0#8]) = u8s Bp ++ [.int .u8 0] by simp [u8s]]; exact sliceAt_of_own ho1)
              have Bb := b
              clear b ho1
              generalize V' = V at *
              refine hK.out _ _ (range_of (W9.later Bb).l) (fun _ => ?_)
              clear hK K
              try simp only [List.getElem_toArray, List.getElem_cons_succ, List.getElem_cons_zero, Act.put, List.setIfInBounds_toArray, List.set_cons_zero, List.set_cons_succ]
              exact kB _ _ (range_of (W9.later Bb).l) ⟨_, _, _, _, _, _, _, rfl, Bb, O5, hgz, GZ⟩
          · skip
            have GZ := new_at (w := V) rfl (.cells zB 33)
            have b := kbelow_new V (.cells zB 33)
            have hgz : V8.heap.size ≤ V.heap.size := Bb.size
            refine Node.wp_new 33 (.agg zB) zB (by kernel_rfl) rfl (by rfl) ?_
            replace Bb := below_step Bb b
            try replace O1 := own_bel O1 b
            try replace G4 := var_later G4 b
            try replace O5 := O5.later b
            clear b
            generalize V.heap.size = gz at *
            generalize V.alloc (.cells zB 33) = V at *
            refine hK.out _ _ (range_of (W9.later Bb).l) (fun _ => ?_)
            clear hK K
            try simp only [List.getElem_toArray, List.getElem_cons_succ, List.getElem_cons_zero, Act.put, List.setIfInBounds_toArray, List.set_cons_zero, List.set_cons_succ]
            refine wpAnyH_ready (rs := [4]) (by kernel_rfl) (by simp) ?_
            refine AllReadyH.cons rfl (fun K hK => ?_) AllReadyH.nil
            have G4 := new_at (w := V) rfl (.cells ([.int .u8 0] : List Value).toArray 5)
            have b := kbelow_new V (.cells ([.int .u8 0] : List Value).toArray 5)
            try have hne : V.heap.size ≠ ga := by have h : ga < V.heap.size := (own_base O1 rfl).2; omega
            refine Node.wp_bs 36 1 [(0, .const (.int .u8 0))] [(0, .int .u8 0)] _ (by rfl) (by rfl) (run_bs1 V) ?_
            replace Bb := below_step Bb b
            try replace O1 := own_bel O1 b
            try replace GZ := var_later GZ b
            clear b
            generalize V.heap.size = g4 at *
            generalize V.alloc (.cells ([.int .u8 0] : List Value).toArray 5) = V at *
            refine hK.out _ _ (range_of (W9.later Bb).l) (fun _ => ?_)
            clear hK K
            try simp only [List.getElem_toArray, List.getElem_cons_succ, List.getElem_cons_zero, Act.put, List.setIfInBounds_toArray, List.set_cons_zero, List.set_cons_succ]
            refine wpAnyH_ready (rs := [5]) (by kernel_rfl) (by simp) ?_
            refine AllReadyH.cons rfl (fun K hK => ?_) AllReadyH.nil
            refine wp_app (.tmp 80) (.tmp 81) _ (by rfl) V8.heap.size 5 i0 _ 1 1 Try.underlying36 hi hz0 hz1 hz2 rfl (by omega) (.slice Aa m ca) m (u8s Bp) (by rfl) (own_mono O1 hga) (.slice (some ⟨g4, 0, none⟩) 1 1) 1 [.int .u8 0] (by rfl) (sliceAt_blk G4 rfl (by decide)) (by simp [Value.oneCell']) (by have := HMB.out; simp only [maxLen]; omega) (by have := HMB.out; omega) Bb.size ?_
            intro v1 V' ho1 hg1 hw1
            obtain ⟨A5, c5, rfl, _, _⟩ := (sliceAt_of_own ho1).form
            have b := below_own Bb hg1 Bb.size (fun g hg => Nat.le_trans hga (own_base O1 hg).1)
            try replace GZ := (hg1.block gz (Array.getElem?_eq_some_iff.1 GZ).1 (fun e => by obtain ⟨cur, hc⟩ := own_type O1 e.symm; rw [GZ] at hc; cases hc)).trans GZ
            clear hg1 hw1 Bb O1 G4
            have O5 : SliceAt V' 1 (.slice A5 (m + 1) c5) (m + 1) (u8s (Bp ++ [0#8])) := (by rw [show u8s (Bp ++ [0#8]) = u8s Bp ++ [.int .u8 0] by simp [u8s]]; exact sliceAt_of_own ho1)
            have Bb := b
            clear b ho1
            generalize V' = V at *
            refine hK.out _ _ (range_of (W9.later Bb).l) (fun _ => ?_)
            clear hK K
            try simp only [List.getElem_toArray, List.getElem_cons_succ, List.getElem_cons_zero, Act.put, List.setIfInBounds_toArray, List.set_cons_zero, List.set_cons_succ]
            exact kB _ _ (range_of (W9.later Bb).l) ⟨_, _, _, _, _, _, _, rfl, Bb, O5, hgz, GZ⟩
        · skip
          have G4 := new_at (w := V) rfl (.cells ([.int .u8 0] : List Value).toArray 5)
          have b := kbelow_new V (.cells ([.int .u8 0] : List Value).toArray 5)
          try have hne : V.heap.size ≠ ga := by have h : ga < V.heap.size := (own_base O1 rfl).2; omega
          refine Node.wp_bs 36 1 [(0, .const (.int .u8 0))] [(0, .int .u8 0)] _ (by rfl) (by rfl) (run_bs1 V) ?_
          replace Bb := below_step Bb b
          try replace O1 := own_bel O1 b
          try replace GZ := var_later GZ b
          clear b
          generalize V.heap.size = g4 at *
          generalize V.alloc (.cells ([.int .u8 0] : List Value).toArray 5) = V at *
          refine hK.out _ _ (range_of (W9.later Bb).l) (fun _ => ?_)
          clear hK K
          try simp only [List.getElem_toArray, List.getElem_cons_succ, List.getElem_cons_zero, Act.put, List.setIfInBounds_toArray, List.set_cons_zero, List.set_cons_succ]
          refine wpAnyH_ready (rs := [3, 10]) (by kernel_rfl) (by simp) ?_
          refine AllReadyH.cons rfl (fun K hK => ?_) (AllReadyH.cons rfl (fun K hK => ?_) AllReadyH.nil)
          · skip
            have hgaV := (own_base O1 rfl).2
            refine wp_app (.tmp 78) (.tmp 79) _ (by rfl) ga 5 i0 _ 1 1 Try.underlying36 hi hz0 hz1 hz2 rfl (by omega) (.slice (some ⟨ga, 0, none⟩) 0 0) 0 [] (by rfl) O1 (.slice Ap m cp) m (u8s Bp) (by rfl) (sp.later Bb) (u8s_one Bp) (by have := HMB.out; simp only [maxLen]; omega) (by have := HMB.out; omega) (Nat.le_of_lt hgaV) ?_
            intro v1 V' ho1 hg1 hw1
            simp only [Nat.zero_add, List.nil_append] at ho1
            obtain ⟨Aa, ca, rfl, _, _⟩ := (sliceAt_of_own ho1).form
            have b := below_own Bb hg1 Bb.size (fun g hg => by cases hg; exact hga)
            try replace G4 := (hg1.block g4 (Array.getElem?_eq_some_iff.1 G4).1 (fun e => hne (Option.some.inj e))).trans G4
            try replace GZ := (hg1.block gz (Array.getElem?_eq_some_iff.1 GZ).1 (fun e => by obtain ⟨cur, hc⟩ := own_type O1 e.symm; rw [GZ] at hc; cases hc)).trans GZ
            clear hgaV hg1 hw1 Bb O1
            have O1 := ho1
            have Bb := b
            clear b ho1
            generalize V' = V at *
            refine hK.out _ _ (range_of (W9.later Bb).l) (fun _ => ?_)
            clear hK K
            try simp only [List.getElem_toArray, List.getElem_cons_succ, List.getElem_cons_zero, Act.put, List.setIfInBounds_toArray, List.set_cons_zero, List.set_cons_succ]
            refine wpAnyH_ready (rs := [5, 10]) (by kernel_rfl) (by simp) ?_
            refine AllReadyH.cons rfl (fun K hK => ?_) (AllReadyH.cons rfl (fun K hK => ?_) AllReadyH.nil)
            · skip
              refine wp_app (.tmp 80) (.tmp 81) _ (by rfl) V8.heap.size 5 i0 _ 1 1 Try.underlying36 hi hz0 hz1 hz2 rfl (by omega) (.slice Aa m ca) m (u8s Bp) (by rfl) (own_mono O1 hga) (.slice (some ⟨g4, 0, none⟩) 1 1) 1 [.int .u8 0] (by rfl) (sliceAt_blk G4 rfl (by decide)) (by simp [Value.oneCell']) (by have := HMB.out; simp only [maxLen]; omega) (by have := HMB.out; omega) Bb.size ?_
              intro v1 V' ho1 hg1 hw1
              obtain ⟨A5, c5, rfl, _, _⟩ := (sliceAt_of_own ho1).form
              have b := below_own Bb hg1 Bb.size (fun g hg => Nat.le_trans hga (own_base O1 hg).1)
              try replace GZ := (hg1.block gz (Array.getElem?_eq_some_iff.1 GZ).1 (fun e => by obtain ⟨cur, hc⟩ := own_type O1 e.symm; rw [GZ] at hc; cases hc)).trans GZ
              clear hg1 hw1 Bb O1 G4
              have O5 : SliceAt V' 1 (.slice A5 (m + 1) c5) (m + 1) (u8s (Bp ++ [0#8])) := (by rw [show u8s (Bp ++ [0#8]) = u8s Bp ++ [.int .u8 0] by simp [u8s]]; exact sliceAt_of_own ho1)
              have Bb := b
              clear b ho1
              generalize V' = V at *
              refine hK.out _ _ (range_of (W9.later Bb).l) (fun _ => ?_)
              clear hK K
              try simp only [List.getElem_toArray, List.getElem_cons_succ, List.getElem_cons_zero, Act.put, List.setIfInBounds_toArray, List.set_cons_zero, List.set_cons_succ]
              exact kA _ _ (range_of (W9.later Bb).l) ⟨_, _, _, _, _, _, rfl, Bb, O5⟩
            · skip
              have GZ := new_at (w := V) rfl (.cells zB 33)
              have b := kbelow_new V (.cells zB 33)
              have hgz : V8.heap.size ≤ V.heap.size := Bb.size
              refine Node.wp_new 33 (.agg zB) zB (by kernel_rfl) rfl (by rfl) ?_
              replace Bb := below_step Bb b
              try replace O1 := own_bel O1 b
              try replace G4 := var_later G4 b
              try replace O5 := O5.later b
              clear b
              generalize V.heap.size = gz at *
              generalize V.alloc (.cells zB 33) = V at *
              refine hK.out _ _ (range_of (W9.later Bb).l) (fun _ => ?_)
              clear hK K
              try simp only [List.getElem_toArray, List.getElem_cons_succ, List.getElem_cons_zero, Act.put, List.setIfInBounds_toArray, List.set_cons_zero, List.set_cons_succ]
              refine wpAnyH_ready (rs := [5]) (by kernel_rfl) (by simp) ?_
              refine AllReadyH.cons rfl (fun K hK => ?_) AllReadyH.nil
              refine wp_app (.tmp 80) (.tmp 81) _ (by rfl) V8.heap.size 5 i0 _ 1 1 Try.underlying36 hi hz0 hz1 hz2 rfl (by omega) (.slice Aa m ca) m (u8s Bp) (by rfl) (own_mono O1 hga) (.slice (some ⟨g4, 0, none⟩) 1 1) 1 [.int .u8 0] (by rfl) (sliceAt_blk G4 rfl (by decide)) (by simp [Value.oneCell']) (by have := HMB.out; simp only [maxLen]; omega) (by have := HMB.out; omega) Bb.size ?_
              intro v1 V' ho1 hg1 hw1
              obtain ⟨A5, c5, rfl, _, _⟩ := (sliceAt_of_own ho1).form
              have b := below_own Bb hg1 Bb.size (fun g hg => Nat.le_trans hga (own_base O1 hg).1)
              try replace GZ := (hg1.block gz (Array.getElem?_eq_some_iff.1 GZ).1 (fun e => by obtain ⟨cur, hc⟩ := own_type O1 e.symm; rw [GZ] at hc; cases hc)).trans GZ
              clear hg1 hw1 Bb O1 G4
              have O5 : SliceAt V' 1 (.slice A5 (m + 1) c5) (m + 1) (u8s (Bp ++ [0#8])) := (by rw [show u8s (Bp ++ [0#8]) = u8s Bp ++ [.int .u8 0] by simp [u8s]]; exact sliceAt_of_own ho1)
              have Bb := b
              clear b ho1
              generalize V' = V at *
              refine hK.out _ _ (range_of (W9.later Bb).l) (fun _ => ?_)
              clear hK K
              try simp only [List.getElem_toArray, List.getElem_cons_succ, List.getElem_cons_zero, Act.put, List.setIfInBounds_toArray, List.set_cons_zero, List.set_cons_succ]
              exact kB _ _ (range_of (W9.later Bb).l) ⟨_, _, _, _, _, _, _, rfl, Bb, O5, hgz, GZ⟩
          · skip
            have GZ := new_at (w := V) rfl (.cells zB 33)
            have b := kbelow_new V (.cells zB 33)
            have hgz : V8.heap.size ≤ V.heap.size := Bb.size
            refine Node.wp_new 33 (.agg zB) zB (by kernel_rfl) rfl (by rfl) ?_
            replace Bb := below_step Bb b
            try replace O1 := own_bel O1 b
            try replace G4 := var_later G4 b
            try replace O5 := O5.later b
            clear b
            generalize V.heap.size = gz at *
            generalize V.alloc (.cells zB 33) = V at *
            refine hK.out _ _ (range_of (W9.later Bb).l) (fun _ => ?_)
            clear hK K
            try simp only [List.getElem_toArray, List.getElem_cons_succ, List.getElem_cons_zero, Act.put, List.setIfInBounds_toArray, List.set_cons_zero, List.set_cons_succ]
            refine wpAnyH_ready (rs := [3]) (by kernel_rfl) (by simp) ?_
            refine AllReadyH.cons rfl (fun K hK => ?_) AllReadyH.nil
            have hgaV := (own_base O1 rfl).2
            refine wp_app (.tmp 78) (.tmp 79) _ (by rfl) ga 5 i0 _ 1 1 Try.underlying36 hi hz0 hz1 hz2 rfl (by omega) (.slice (some ⟨ga, 0, none⟩) 0 0) 0 [] (by rfl) O1 (.slice Ap m cp) m (u8s Bp) (by rfl) (sp.later Bb) (u8s_one Bp) (by have := HMB.out; simp only [maxLen]; omega) (by have := HMB.out; omega) (Nat.le_of_lt hgaV) ?_
            intro v1 V' ho1 hg1 hw1
            simp only [Nat.zero_add, List.nil_append] at ho1
            obtain ⟨Aa, ca, rfl, _, _⟩ := (sliceAt_of_own ho1).form
            have b := below_own Bb hg1 Bb.size (fun g hg => by cases hg; exact hga)
            try replace G4 := (hg1.block g4 (Array.getElem?_eq_some_iff.1 G4).1 (fun e => hne (Option.some.inj e))).trans G4
            try replace GZ := (hg1.block gz (Array.getElem?_eq_some_iff.1 GZ).1 (fun e => by obtain ⟨cur, hc⟩ := own_type O1 e.symm; rw [GZ] at hc; cases hc)).trans GZ
            clear hgaV hg1 hw1 Bb O1
            have O1 := ho1
            have Bb := b
            clear b ho1
            generalize V' = V at *
            refine hK.out _ _ (range_of (W9.later Bb).l) (fun _ => ?_)
            clear hK K
            try simp only [List.getElem_toArray, List.getElem_cons_succ, List.getElem_cons_zero, Act.put, List.setIfInBounds_toArray, List.set_cons_zero, List.set_cons_succ]
            refine wpAnyH_ready (rs := [5]) (by kernel_rfl) (by simp) ?_
            refine AllReadyH.cons rfl (fun K hK => ?_) AllReadyH.nil
            refine wp_app (.tmp 80) (.tmp 81) _ (by rfl) V8.heap.size 5 i0 _ 1 1 Try.underlying36 hi hz0 hz1 hz2 rfl (by omega) (.slice Aa m ca) m (u8s Bp) (by rfl) (own_mono O1 hga) (.slice (some ⟨g4, 0, none⟩) 1 1) 1 [.int .u8 0] (by rfl) (sliceAt_blk G4 rfl (by decide)) (by simp [Value.oneCell']) (by have := HMB.out; simp only [maxLen]; omega) (by have := HMB.out; omega) Bb.size ?_
            intro v1 V' ho1 hg1 hw1
            obtain ⟨A5, c5, rfl, _, _⟩ := (sliceAt_of_own ho1).form
            have b := below_own Bb hg1 Bb.size (fun g hg => Nat.le_trans hga (own_base O1 hg).1)
            try replace GZ := (hg1.block gz (Array.getElem?_eq_some_iff.1 GZ).1 (fun e => by obtain ⟨cur, hc⟩ := own_type O1 e.symm; rw [GZ] at hc; cases hc)).trans GZ
            clear hg1 hw1 Bb O1 G4
            have O5 : SliceAt V' 1 (.slice A5 (m + 1) c5) (m + 1) (u8s (Bp ++ [0#8])) := (by rw [show u8s (Bp ++ [0#8]) = u8s Bp ++ [.int .u8 0] by simp [u8s]]; exact sliceAt_of_own ho1)
            have Bb := b
            clear b ho1
            generalize V' = V at *
            refine hK.out _ _ (range_of (W9.later Bb).l) (fun _ => ?_)
            clear hK K
            try simp only [List.getElem_toArray, List.getElem_cons_succ, List.getElem_cons_zero, Act.put, List.setIfInBounds_toArray, List.set_cons_zero, List.set_cons_succ]
            exact kB _ _ (range_of (W9.later Bb).l) ⟨_, _, _, _, _, _, _, rfl, Bb, O5, hgz, GZ⟩
        · skip
          have GZ := new_at (w := V) rfl (.cells zB 33)
          have b := kbelow_new V (.cells zB 33)
          have hgz : V8.heap.size ≤ V.heap.size := Bb.size
          refine Node.wp_new 33 (.agg zB) zB (by kernel_rfl) rfl (by rfl) ?_
          replace Bb := below_step Bb b
          try replace O1 := own_bel O1 b
          try replace G4 := var_later G4 b
          try replace O5 := O5.later b
          clear b
          generalize V.heap.size = gz at *
          generalize V.alloc (.cells zB 33) = V at *
          refine hK.out _ _ (range_of (W9.later Bb).l) (fun _ => ?_)
          clear hK K
          try simp only [List.getElem_toArray, List.getElem_cons_succ, List.getElem_cons_zero, Act.put, List.setIfInBounds_toArray, List.set_cons_zero, List.set_cons_succ]
          refine wpAnyH_ready (rs := [3, 4]) (by kernel_rfl) (by simp) ?_
          refine AllReadyH.cons rfl (fun K hK => ?_) (AllReadyH.cons rfl (fun K hK => ?_) AllReadyH.nil)
          · skip
            have hgaV := (own_base O1 rfl).2
            refine wp_app (.tmp 78) (.tmp 79) _ (by rfl) ga 5 i0 _ 1 1 Try.underlying36 hi hz0 hz1 hz2 rfl (by omega) (.slice (some ⟨ga, 0, none⟩) 0 0) 0 [] (by rfl) O1 (.slice Ap m cp) m (u8s Bp) (by rfl) (sp.later Bb) (u8s_one Bp) (by have := HMB.out; simp only [maxLen]; omega) (by have := HMB.out; omega) (Nat.le_of_lt hgaV) ?_
            intro v1 V' ho1 hg1 hw1
            simp only [Nat.zero_add, List.nil_append] at ho1
            obtain ⟨Aa, ca, rfl, _, _⟩ := (sliceAt_of_own ho1).form
            have b := below_own Bb hg1 Bb.size (fun g hg => by cases hg; exact hga)
            try replace G4 := (hg1.block g4 (Array.getElem?_eq_some_iff.1 G4).1 (fun e => hne (Option.some.inj e))).trans G4
            try replace GZ := (hg1.block gz (Array.getElem?_eq_some_iff.1 GZ).1 (fun e => by obtain ⟨cur, hc⟩ := own_type O1 e.symm; rw [GZ] at hc; cases hc)).trans GZ
            clear hgaV hg1 hw1 Bb O1
            have O1 := ho1
            have Bb := b
            clear b ho1
            generalize V' = V at *
            refine hK.out _ _ (range_of (W9.later Bb).l) (fun _ => ?_)
            clear hK K
            try simp only [List.getElem_toArray, List.getElem_cons_succ, List.getElem_cons_zero, Act.put, List.setIfInBounds_toArray, List.set_cons_zero, List.set_cons_succ]
            refine wpAnyH_ready (rs := [4]) (by kernel_rfl) (by simp) ?_
            refine AllReadyH.cons rfl (fun K hK => ?_) AllReadyH.nil
            have G4 := new_at (w := V) rfl (.cells ([.int .u8 0] : List Value).toArray 5)
            have b := kbelow_new V (.cells ([.int .u8 0] : List Value).toArray 5)
            try have hne : V.heap.size ≠ ga := by have h : ga < V.heap.size := (own_base O1 rfl).2; omega
            refine Node.wp_bs 36 1 [(0, .const (.int .u8 0))] [(0, .int .u8 0)] _ (by rfl) (by rfl) (run_bs1 V) ?_
            replace Bb := below_step Bb b
            try replace O1 := own_bel O1 b
            try replace GZ := var_later GZ b
            clear b
            generalize V.heap.size = g4 at *
            generalize V.alloc (.cells ([.int .u8 0] : List Value).toArray 5) = V at *
            refine hK.out _ _ (range_of (W9.later Bb).l) (fun _ => ?_)
            clear hK K
            try simp only [List.getElem_toArray, List.getElem_cons_succ, List.getElem_cons_zero, Act.put, List.setIfInBounds_toArray, List.set_cons_zero, List.set_cons_succ]
            refine wpAnyH_ready (rs := [5]) (by kernel_rfl) (by simp) ?_
            refine AllReadyH.cons rfl (fun K hK => ?_) AllReadyH.nil
            refine wp_app (.tmp 80) (.tmp 81) _ (by rfl) V8.heap.size 5 i0 _ 1 1 Try.underlying36 hi hz0 hz1 hz2 rfl (by omega) (.slice Aa m ca) m (u8s Bp) (by rfl) (own_mono O1 hga) (.slice (some ⟨g4, 0, none⟩) 1 1) 1 [.int .u8 0] (by rfl) (sliceAt_blk G4 rfl (by decide)) (by simp [Value.oneCell']) (by have := HMB.out; simp only [maxLen]; omega) (by have := HMB.out; omega) Bb.size ?_
            intro v1 V' ho1 hg1 hw1
            obtain ⟨A5, c5, rfl, _, _⟩ := (sliceAt_of_own ho1).form
            have b := below_own Bb hg1 Bb.size (fun g hg => Nat.le_trans hga (own_base O1 hg).1)
            try replace GZ := (hg1.block gz (Array.getElem?_eq_some_iff.1 GZ).1 (fun e => by obtain ⟨cur, hc⟩ := own_type O1 e.symm; rw [GZ] at hc; cases hc)).trans GZ
            clear hg1 hw1 Bb O1 G4
            have O5 : SliceAt V' 1 (.slice A5 (m + 1) c5) (m + 1) (u8s (Bp ++ [0#8])) := (by rw [show u8s (Bp ++ [0#8]) = u8s Bp ++ [.int .u8 0] by simp [u8s]]; exact sliceAt_of_own ho1)
            have Bb := b
            clear b ho1
            generalize V' = V at *
            refine hK.out _ _ (range_of (W9.later Bb).l) (fun _ => ?_)
            clear hK K
            try simp only [List.getElem_toArray, List.getElem_cons_succ, List.getElem_cons_zero, Act.put, List.setIfInBounds_toArray, List.set_cons_zero, List.set_cons_succ]
            exact kB _ _ (range_of (W9.later Bb).l) ⟨_, _, _, _, _, _, _, rfl, Bb, O5, hgz, GZ⟩
          · skip
            have G4 := new_at (w := V) rfl (.cells ([.int .u8 0] : List Value).toArray 5)
            have b := kbelow_new V (.cells ([.int .u8 0] : List Value).toArray 5)
            try have hne : V.heap.size ≠ ga := by have h : ga < V.heap.size := (own_base O1 rfl).2; omega
            refine Node.wp_bs 36 1 [(0, .const (.int .u8 0))] [(0, .int .u8 0)] _ (by rfl) (by rfl) (run_bs1 V) ?_
            replace Bb := below_step Bb b
            try replace O1 := own_bel O1 b
            try replace GZ := var_later GZ b
            clear b
            generalize V.heap.size = g4 at *
            generalize V.alloc (.cells ([.int .u8 0] : List Value).toArray 5) = V at *
            refine hK.out _ _ (range_of (W9.later Bb).l) (fun _ => ?_)
            clear hK K
            try simp only [List.getElem_toArray, List.getElem_cons_succ, List.getElem_cons_zero, Act.put, List.setIfInBounds_toArray, List.set_cons_zero, List.set_cons_succ]
            refine wpAnyH_ready (rs := [3]) (by kernel_rfl) (by simp) ?_
            refine AllReadyH.cons rfl (fun K hK => ?_) AllReadyH.nil
            have hgaV := (own_base O1 rfl).2
            refine wp_app (.tmp 78) (.tmp 79) _ (by rfl) ga 5 i0 _ 1 1 Try.underlying36 hi hz0 hz1 hz2 rfl (by omega) (.slice (some ⟨ga, 0, none⟩) 0 0) 0 [] (by rfl) O1 (.slice Ap m cp) m (u8s Bp) (by rfl) (sp.later Bb) (u8s_one Bp) (by have := HMB.out; simp only [maxLen]; omega) (by have := HMB.out; omega) (Nat.le_of_lt hgaV) ?_
            intro v1 V' ho1 hg1 hw1
            simp only [Nat.zero_add, List.nil_append] at ho1
            obtain ⟨Aa, ca, rfl, _, _⟩ := (sliceAt_of_own ho1).form
            have b := below_own Bb hg1 Bb.size (fun g hg => by cases hg; exact hga)
            try replace G4 := (hg1.block g4 (Array.getElem?_eq_some_iff.1 G4).1 (fun e => hne (Option.some.inj e))).trans G4
            try replace GZ := (hg1.block gz (Array.getElem?_eq_some_iff.1 GZ).1 (fun e => by obtain ⟨cur, hc⟩ := own_type O1 e.symm; rw [GZ] at hc; cases hc)).trans GZ
            clear hgaV hg1 hw1 Bb O1
            have O1 := ho1
            have Bb := b
            clear b ho1
            generalize V' = V at *
            refine hK.out _ _ (range_of (W9.later Bb).l) (fun _ => ?_)
            clear hK K
            try simp only [List.getElem_toArray, List.getElem_cons_succ, List.getElem_cons_zero, Act.put, List.setIfInBounds_toArray, List.set_cons_zero, List.set_cons_succ]
            refine wpAnyH_ready (rs := [5]) (by kernel_rfl) (by simp) ?_
            refine AllReadyH.cons rfl (fun K hK => ?_) AllReadyH.nil
            refine wp_app (.tmp 80) (.tmp 81) _ (by rfl) V8.heap.size 5 i0 _ 1 1 Try.underlying36 hi hz0 hz1 hz2 rfl (by omega) (.slice Aa m ca) m (u8s Bp) (by rfl) (own_mono O1 hga) (.slice (some ⟨g4, 0, none⟩) 1 1) 1 [.int .u8 0] (by rfl) (sliceAt_blk G4 rfl (by decide)) (by simp [Value.oneCell']) (by have := HMB.out; simp only [maxLen]; omega) (by have := HMB.out; omega) Bb.size ?_
            intro v1 V' ho1 hg1 hw1
            obtain ⟨A5, c5, rfl, _, _⟩ := (sliceAt_of_own ho1).form
            have b := below_own Bb hg1 Bb.size (fun g hg => Nat.le_trans hga (own_base O1 hg).1)
            try replace GZ := (hg1.block gz (Array.getElem?_eq_some_iff.1 GZ).1 (fun e => by obtain ⟨cur, hc⟩ := own_type O1 e.symm; rw [GZ] at hc; cases hc)).trans GZ
            clear hg1 hw1 Bb O1 G4
            have O5 : SliceAt V' 1 (.slice A5 (m + 1) c5) (m + 1) (u8s (Bp ++ [0#8])) := (by rw [show u8s (Bp ++ [0#8]) = u8s Bp ++ [.int .u8 0] by simp [u8s]]; exact sliceAt_of_own ho1)
            have Bb := b
            clear b ho1
            generalize V' = V at *
            refine hK.out _ _ (range_of (W9.later Bb).l) (fun _ => ?_)
            clear hK K
            try simp only [List.getElem_toArray, List.getElem_cons_succ, List.getElem_cons_zero, Act.put, List.setIfInBounds_toArray, List.set_cons_zero, List.set_cons_succ]
            exact kB _ _ (range_of (W9.later Bb).l) ⟨_, _, _, _, _, _, _, rfl, Bb, O5, hgz, GZ⟩
      · skip
        have G4 := new_at (w := V) rfl (.cells ([.int .u8 0] : List Value).toArray 5)
        have b := kbelow_new V (.cells ([.int .u8 0] : List Value).toArray 5)
        try have hne : V.heap.size ≠ ga := by have h : ga < V.heap.size := (own_base O1 rfl).2; omega
        refine Node.wp_bs 36 1 [(0, .const (.int .u8 0))] [(0, .int .u8 0)] _ (by rfl) (by rfl) (run_bs1 V) ?_
        replace Bb := below_step Bb b
        try replace O1 := own_bel O1 b
        try replace GZ := var_later GZ b
        clear b
        generalize V.heap.size = g4 at *
        generalize V.alloc (.cells ([.int .u8 0] : List Value).toArray 5) = V at *
        refine hK.out _ _ (range_of (W9.later Bb).l) (fun _ => ?_)
        clear hK K
        try simp only [List.getElem_toArray, List.getElem_cons_succ, List.getElem_cons_zero, Act.put, List.setIfInBounds_toArray, List.set_cons_zero, List.set_cons_succ]
        refine wpAnyH_ready (rs := [1, 10]) (by kernel_rfl) (by simp) ?_
        refine AllReadyH.cons rfl (fun K hK => ?_) (AllReadyH.cons rfl (fun K hK => ?_) AllReadyH.nil)
        · skip
          have O1 := own_empty V 5 1
          have b := kbelow_new V (.cells #[] 5)
          have hga : V8.heap.size ≤ V.heap.size := Bb.size
          try have hne : g4 ≠ V.heap.size := by have := (Array.getElem?_eq_some_iff.1 G4).1; omega
          refine Node.wp_bs 36 0 [] [] _ (by rfl) (by rfl) (run_bs0 V) ?_
          replace Bb := below_step Bb b
          try replace G4 := var_later G4 b
          try replace GZ := var_later GZ b
          clear b
          generalize V.heap.size = ga at *
          generalize V.alloc (.cells #[] 5) = V at *
          refine hK.out _ _ (range_of (W9.later Bb).l) (fun _ => ?_)
          clear hK K
          try simp only [List.getElem_toArray, List.getElem_cons_succ, List.getElem_cons_zero, Act.put, List.setIfInBounds_toArray, List.set_cons_zero, List.set_cons_succ]
          refine wpAnyH_ready (rs := [3, 10]) (by kernel_rfl) (by simp) ?_
          refine AllReadyH.cons rfl (fun K hK => ?_) (AllReadyH.cons rfl (fun K hK => ?_) AllReadyH.nil)
          · skip
            have hgaV := (own_base O1 rfl).2
            refine wp_app (.tmp 78) (.tmp 79) _ (by rfl) ga 5 i0 _ 1 1 Try.underlying36 hi hz0 hz1 hz2 rfl (by omega) (.slice (some ⟨ga, 0, none⟩) 0 0) 0 [] (by rfl) O1 (.slice Ap m cp) m (u8s Bp) (by rfl) (sp.later Bb) (u8s_one Bp) (by have := HMB.out; simp only [maxLen]; omega) (by have := HMB.out; omega) (Nat.le_of_lt hgaV) ?_
            intro v1 V' ho1 hg1 hw1
            simp only [Nat.zero_add, List.nil_append] at ho1
            obtain ⟨Aa, ca, rfl, _, _⟩ := (sliceAt_of_own ho1).form
            have b := below_own Bb hg1 Bb.size (fun g hg => by cases hg; exact hga)
            try replace G4 := (hg1.block g4 (Array.getElem?_eq_some_iff.1 G4).1 (fun e => hne (Option.some.inj e))).trans G4
            try replace GZ := (hg1.block gz (Array.getElem?_eq_some_iff.1 GZ).1 (fun e => by obtain ⟨cur, hc⟩ := own_type O1 e.symm; rw [GZ] at hc; cases hc)).trans GZ
            clear hgaV hg1 hw1 Bb O1
            have O1 := ho1
            have Bb := b
            clear b ho1
            generalize V' = V at *
            refine hK.out _ _ (range_of (W9.later Bb).l) (fun _ => ?_)
            clear hK K
            try simp only [List.getElem_toArray, List.getElem_cons_succ, List.getElem_cons_zero, Act.put, List.setIfInBounds_toArray, List.set_cons_zero, List.set_cons_succ]
            refine wpAnyH_ready (rs := [5, 10]) (by kernel_rfl) (by simp) ?_
            refine AllReadyH.cons rfl (fun K hK => ?_) (AllReadyH.cons rfl (fun K hK => ?_) AllReadyH.nil)
            · skip
              refine wp_app (.tmp 80) (.tmp 81) _ (by rfl) V8.heap.size 5 i0 _ 1 1 Try.underlying36 hi hz0 hz1 hz2 rfl (by omega) (.slice Aa m ca) m (u8s Bp) (by rfl) (own_mono O1 hga) (.slice (some ⟨g4, 0, none⟩) 1 1) 1 [.int .u8 0] (by rfl) (sliceAt_blk G4 rfl (by decide)) (by simp [Value.oneCell']) (by have := HMB.out; simp only [maxLen]; omega) (by have := HMB.out; omega) Bb.size ?_
              intro v1 V' ho1 hg1 hw1
              obtain ⟨A5, c5, rfl, _, _⟩ := (sliceAt_of_own ho1).form
              have b := below_own Bb hg1 Bb.size (fun g hg => Nat.le_trans hga (own_base O1 hg).1)
              try replace GZ := (hg1.block gz (Array.getElem?_eq_some_iff.1 GZ).1 (fun e => by obtain ⟨cur, hc⟩ := own_type O1 e.symm; rw [GZ] at hc; cases hc)).trans GZ
              clear hg1 hw1 Bb O1 G4
              have O5 : SliceAt V' 1 (.slice A5 (m + 1) c5) (m + 1) (u8s (Bp ++ [0#8])) := (by rw [show u8s (Bp ++ [0#8]) = u8s Bp ++ [.int .u8 0] by simp [u8s]]; exact sliceAt_of_own ho1)
              have Bb := b
              clear b ho1
              generalize V' = V at *
              refine hK.out _ _ (range_of (W9.later Bb).l) (fun _ => ?_)
              clear hK K
              try simp only [List.getElem_toArray, List.getElem_cons_succ, List.getElem_cons_zero, Act.put, List.setIfInBounds_toArray, List.set_cons_zero, List.set_cons_succ]
              exact kA _ _ (range_of (W9.later Bb).l) ⟨_, _, _, _, _, _, rfl, Bb, O5⟩
            · skip
              have GZ := new_at (w := V) rfl (.cells zB 33)
              have b := kbelow_new V (.cells zB 33)
              have hgz : V8.heap.size ≤ V.heap.size := Bb.size
              refine Node.wp_new 33 (.agg zB) zB (by kernel_rfl) rfl (by rfl) ?_
              replace Bb := below_step Bb b
              try replace O1 := own_bel O1 b
              try replace G4 := var_later G4 b
              try replace O5 := O5.later b
              clear b
              generalize V.heap.size = gz at *
              generalize V.alloc (.cells zB 33) = V at *
              refine hK.out _ _ (range_of (W9.later Bb).l) (fun _ => ?_)
              clear hK K
              try simp only [List.getElem_toArray, List.getElem_cons_succ, List.getElem_cons_zero, Act.put, List.setIfInBounds_toArray, List.set_cons_zero, List.set_cons_succ]
              refine wpAnyH_ready (rs := [5]) (by kernel_rfl) (by simp) ?_
              refine AllReadyH.cons rfl (fun K hK => ?_) AllReadyH.nil
              refine wp_app (.tmp 80) (.tmp 81) _ (by rfl) V8.heap.size 5 i0 _ 1 1 Try.underlying36 hi hz0 hz1 hz2 rfl (by omega) (.slice Aa m ca) m (u8s Bp) (by rfl) (own_mono O1 hga) (.slice (some ⟨g4, 0, none⟩) 1 1) 1 [.int .u8 0] (by rfl) (sliceAt_blk G4 rfl (by decide)) (by simp [Value.oneCell']) (by have := HMB.out; simp only [maxLen]; omega) (by have := HMB.out; omega) Bb.size ?_
              intro v1 V' ho1 hg1 hw1
              obtain ⟨A5, c5, rfl, _, _⟩ := (sliceAt_of_own ho1).form
              have b := below_own Bb hg1 Bb.size (fun g hg => Nat.le_trans hga (own_base O1 hg).1)
              try replace GZ := (hg1.block gz (Array.getElem?_eq_some_iff.1 GZ).1 (fun e => by obtain ⟨cur, hc⟩ := own_type O1 e.symm; rw [GZ] at hc; cases hc)).trans GZ
              clear hg1 hw1 Bb O1 G4
              have O5 : SliceAt V' 1 (.slice A5 (m + 1) c5) (m + 1) (u8s (Bp ++ [0#8])) := (by rw [show u8s (Bp ++ [0#8]) = u8s Bp ++ [.int .u8 0] by simp [u8s]]; exact sliceAt_of_own ho1)
              have Bb := b
              clear b ho1
              generalize V' = V at *
              refine hK.out _ _ (range_of (W9.later Bb).l) (fun _ => ?_)
              clear hK K
              try simp only [List.getElem_toArray, List.getElem_cons_succ, List.getElem_cons_zero, Act.put, List.setIfInBounds_toArray, List.set_cons_zero, List.set_cons_succ]
              exact kB _ _ (range_of (W9.later Bb).l) ⟨_, _, _, _, _, _, _, rfl, Bb, O5, hgz, GZ⟩
          · skip
            have GZ := new_at (w := V) rfl (.cells zB 33)
            have b := kbelow_new V (.cells zB 33)
            have hgz : V8.heap.size ≤ V.heap.size := Bb.size
            refine Node.wp_new 33 (.agg zB) zB (by kernel_rfl) rfl (by rfl) ?_
            replace Bb := below_step Bb b
            try replace O1 := own_bel O1 b
            try replace G4 := var_later G4 b
            try replace O5 := O5.later b
            clear b
            generalize V.heap.size = gz at *
            generalize V.alloc (.cells zB 33) = V at *
            refine hK.out _ _ (range_of (W9.later Bb).l) (fun _ => ?_)
            clear hK K
            try simp only [List.getElem_toArray, List.getElem_cons_succ, List.getElem_cons_zero, Act.put, List.setIfInBounds_toArray, List.set_cons_zero, List.set_cons_succ]
            refine wpAnyH_ready (rs := [3]) (by kernel_rfl) (by simp) ?_
            refine AllReadyH.cons rfl (fun K hK => ?_) AllReadyH.nil
            have hgaV := (own_base O1 rfl).2
            refine wp_app (.tmp 78) (.tmp 79) _ (by rfl) ga 5 i0 _ 1 1 Try.underlying36 hi hz0 hz1 hz2 rfl (by omega) (.slice (some ⟨ga, 0, none⟩) 0 0) 0 [] (by rfl) O1 (.slice Ap m cp) m (u8s Bp) (by rfl) (sp.later Bb) (u8s_one Bp) (by have := HMB.out; simp only [maxLen]; omega) (by have := HMB.out; omega) (Nat.le_of_lt hgaV) ?_
            intro v1 V' ho1 hg1 hw1
            simp only [Nat.zero_add, List.nil_append] at ho1
            obtain ⟨Aa, ca, rfl, _, _⟩ := (sliceAt_of_own ho1).form
            have b := below_own Bb hg1 Bb.size (fun g hg => by cases hg; exact hga)
            try replace G4 := (hg1.block g4 (Array.getElem?_eq_some_iff.1 G4).1 (fun e => hne (Option.some.inj e))).trans G4
            try replace GZ := (hg1.block gz (Array.getElem?_eq_some_iff.1 GZ).1 (fun e => by obtain ⟨cur, hc⟩ := own_type O1 e.symm; rw [GZ] at hc; cases hc)).trans GZ
            clear hgaV hg1 hw1 Bb O1
            have O1 := ho1
            have Bb := b
            clear b ho1
            generalize V' = V at *
            refine hK.out _ _ (range_of (W9.later Bb).l) (fun _ => ?_)
            clear hK K
            try simp only [List.getElem_toArray, List.getElem_cons_succ, List.getElem_cons_zero, Act.put, List.setIfInBounds_toArray, List.set_cons_zero, List.set_cons_succ]
            refine wpAnyH_ready (rs := [5]) (by kernel_rfl) (by simp) ?_
            refine AllReadyH.cons rfl (fun K hK => ?_) AllReadyH.nil
            refine wp_app (.tmp 80) (.tmp 81) _ (by rfl) V8.heap.size 5 i0 _ 1 1 Try.underlying36 hi hz0 hz1 hz2 rfl (by omega) (.slice Aa m ca) m (u8s Bp) (by rfl) (own_mono O1 hga) (.slice (some ⟨g4, 0, none⟩) 1 1) 1 [.int .u8 0] (by rfl) (sliceAt_blk G4 rfl (by decide)) (by simp [Value.oneCell']) (by have := HMB.out; simp only [maxLen]; omega) (by have := HMB.out; omega) Bb.size ?_
            intro v1 V' ho1 hg1 hw1
            obtain ⟨A5, c5, rfl, _, _⟩ := (sliceAt_of_own ho1).form
            have b := below_own Bb hg1 Bb.size (fun g hg => Nat.le_trans hga (own_base O1 hg).1)
            try replace GZ := (hg1.block gz (Array.getElem?_eq_some_iff.1 GZ).1 (fun e => by obtain ⟨cur, hc⟩ := own_type O1 e.symm; rw [GZ] at hc; cases hc)).trans GZ
            clear hg1 hw1 Bb O1 G4
            have O5 : SliceAt V' 1 (.slice A5 (m + 1) c5) (m + 1) (u8s (Bp ++ [0#8])) := (by rw [show u8s (Bp ++ [0#8]) = u8s Bp ++ [.int .u8 0] by simp [u8s]]; exact sliceAt_of_own ho1)
            have Bb := b
            clear b ho1
            generalize V' = V at *
            refine hK.out _ _ (range_of (W9.later Bb).l) (fun _ => ?_)
            clear hK K
            try simp only [List.getElem_toArray, List.getElem_cons_succ, List.getElem_cons_zero, Act.put, List.setIfInBounds_toArray, List.set_cons_zero, List.set_cons_succ]
            exact kB _ _ (range_of (W9.later Bb).l) ⟨_, _, _, _, _, _, _, rfl, Bb, O5, hgz, GZ⟩
        · skip
          have GZ := new_at (w := V) rfl (.cells zB 33)
          have b := kbelow_new V (.cells zB 33)
          have hgz : V8.heap.size ≤ V.heap.size := Bb.size
          refine Node.wp_new 33 (.agg zB) zB (by kernel_rfl) rfl (by rfl) ?_
          replace Bb := below_step Bb b
          try replace O1 := own_bel O1 b
          try replace G4 := var_later G4 b
          try replace O5 := O5.later b
          clear b
          generalize V.heap.size = gz at *
          generalize V.alloc (.cells zB 33) = V at *
          refine hK.out _ _ (range_of (W9.later Bb).l) (fun _ => ?_)
          clear hK K
          try simp only [List.getElem_toArray, List.getElem_cons_succ, List.getElem_cons_zero, Act.put, List.setIfInBounds_toArray, List.set_cons_zero, List.set_cons_succ]
          refine wpAnyH_ready (rs := [1]) (by kernel_rfl) (by simp) ?_
          refine AllReadyH.cons rfl (fun K hK => ?_) AllReadyH.nil
          have O1 := own_empty V 5 1
          have b := kbelow_new V (.cells #[] 5)
          have hga : V8.heap.size ≤ V.heap.size := Bb.size
          try have hne : g4 ≠ V.heap.size := by have := (Array.getElem?_eq_some_iff.1 G4).1; omega
          refine Node.wp_bs 36 0 [] [] _ (by rfl) (by rfl) (run_bs0 V) ?_
          replace Bb := below_step Bb b
          try replace G4 := var_later G4 b
          try replace GZ := var_later GZ b
          clear b
          generalize V.heap.size = ga at *
          generalize V.alloc (.cells #[] 5) = V at *
          refine hK.out _ _ (range_of (W9.later Bb).l) (fun _ => ?_)
          clear hK K
          try simp only [List.getElem_toArray, List.getElem_cons_succ, List.getElem_cons_zero, Act.put, List.setIfInBounds_toArray, List.set_cons_zero, List.set_cons_succ]
          refine wpAnyH_ready (rs := [3]) (by kernel_rfl) (by simp) ?_
          refine AllReadyH.cons rfl (fun K hK => ?_) AllReadyH.nil
          have hgaV := (own_base O1 rfl).2
          refine wp_app (.tmp 78) (.tmp 79) _ (by rfl) ga 5 i0 _ 1 1 Try.underlying36 hi hz0 hz1 hz2 rfl (by omega) (.slice (some ⟨ga, 0, none⟩) 0 0) 0 [] (by rfl) O1 (.slice Ap m cp) m (u8s Bp) (by rfl) (sp.later Bb) (u8s_one Bp) (by have := HMB.out; simp only [maxLen]; omega) (by have := HMB.out; omega) (Nat.le_of_lt hgaV) ?_
          intro v1 V' ho1 hg1 hw1
          simp only [Nat.zero_add, List.nil_append] at ho1
          obtain ⟨Aa, ca, rfl, _, _⟩ := (sliceAt_of_own ho1).form
          have b := below_own Bb hg1 Bb.size (fun g hg => by cases hg; exact hga)
          try replace G4 := (hg1.block g4 (Array.getElem?_eq_some_iff.1 G4).1 (fun e => hne (Option.some.inj e))).trans G4
          try replace GZ := (hg1.block gz (Array.getElem?_eq_some_iff.1 GZ).1 (fun e => by obtain ⟨cur, hc⟩ := own_type O1 e.symm; rw [GZ] at hc; cases hc)).trans GZ
          clear hgaV hg1 hw1 Bb O1
          have O1 := ho1
          have Bb := b
          clear b ho1
          generalize V' = V at *
          refine hK.out _ _ (range_of (W9.later Bb).l) (fun _ => ?_)
          clear hK K
          try simp only [List.getElem_toArray, List.getElem_cons_succ, List.getElem_cons_zero, Act.put, List.setIfInBounds_toArray, List.set_cons_zero, List.set_cons_succ]
          refine wpAnyH_ready (rs := [5]) (by kernel_rfl) (by simp) ?_
          refine AllReadyH.cons rfl (fun K hK => ?_) AllReadyH.nil
          refine wp_app (.tmp 80) (.tmp 81) _ (by rfl) V8.heap.size 5 i0 _ 1 1 Try.underlying36 hi hz0 hz1 hz2 rfl (by omega) (.slice Aa m ca) m (u8s Bp) (by rfl) (own_mono O1 hga) (.slice (some ⟨g4, 0, none⟩) 1 1) 1 [.int .u8 0] (by rfl) (sliceAt_blk G4 rfl (by decide)) (by simp [Value.oneCell']) (by have := HMB.out; simp only [maxLen]; omega) (by have := HMB.out; omega) Bb.size ?_
          intro v1 V' ho1 hg1 hw1
          obtain ⟨A5, c5, rfl, _, _⟩ := (sliceAt_of_own ho1).form
          have b := below_own Bb hg1 Bb.size (fun g hg => Nat.le_trans hga (own_base O1 hg).1)
          try replace GZ := (hg1.block gz (Array.getElem?_eq_some_iff.1 GZ).1 (fun e => by obtain ⟨cur, hc⟩ := own_type O1 e.symm; rw [GZ] at hc; cases hc)).trans GZ
          clear hg1 hw1 Bb O1 G4
          have O5 : SliceAt V' 1 (.slice A5 (m + 1) c5) (m + 1) (u8s (Bp ++ [0#8])) := (by rw [show u8s (Bp ++ [0#8]) = u8s Bp ++ [.int .u8 0] by simp [u8s]]; exact sliceAt_of_own ho1)
          have Bb := b
          clear b ho1
          generalize V' = V at *
          refine hK.out _ _ (range_of (W9.later Bb).l) (fun _ => ?_)
          clear hK K
          try simp only [List.getElem_toArray, List.getElem_cons_succ, List.getElem_cons_zero, Act.put, List.setIfInBounds_toArray, List.set_cons_zero, List.set_cons_succ]
          exact kB _ _ (range_of (W9.later Bb).l) ⟨_, _, _, _, _, _, _, rfl, Bb, O5, hgz, GZ⟩
      · skip
        have GZ := new_at (w := V) rfl (.cells zB 33)
        have b := kbelow_new V (.cells zB 33)
        have hgz : V8.heap.size ≤ V.heap.size := Bb.size
        refine Node.wp_new 33 (.agg zB) zB (by kernel_rfl) rfl (by rfl) ?_
        replace Bb := below_step Bb b
        try replace O1 := own_bel O1 b
        try replace G4 := var_later G4 b
        try replace O5 := O5.later b
        clear b
        generalize V.heap.size = gz at *
        generalize V.alloc (.cells zB 33) = V at *
        refine hK.out _ _ (range_of (W9.later Bb).l) (fun _ => ?_)
        clear hK K
        try simp only [List.getElem_toArray, List.getElem_cons_succ, List.getElem_cons_zero, Act.put, List.setIfInBounds_toArray, List.set_cons_zero, List.set_cons_succ]
        refine wpAnyH_ready (rs := [1, 4]) (by kernel_rfl) (by simp) ?_
        refine AllReadyH.cons rfl (fun K hK => ?_) (AllReadyH.cons rfl (fun K hK => ?_) AllReadyH.nil)
        · skip
          have O1 := own_empty V 5 1
          have b := kbelow_new V (.cells #[] 5)
          have hga : V8.heap.size ≤ V.heap.size := Bb.size
          try have hne : g4 ≠ V.heap.size := by have := (Array.getElem?_eq_some_iff.1 G4).1; omega
          refine Node.wp_bs 36 0 [] [] _ (by rfl) (by rfl) (run_bs0 V) ?_
          replace Bb := below_step Bb b
          try replace G4 := var_later G4 b
          try replace GZ := var_later GZ b
          clear b
          generalize V.heap.size = ga at *
          generalize V.alloc (.cells #[] 5) = V at *
          refine hK.out _ _ (range_of (W9.later Bb).l) (fun _ => ?_)
          clear hK K
          try simp only [List.getElem_toArray, List.getElem_cons_succ, List.getElem_cons_zero, Act.put, List.setIfInBounds_toArray, List.set_cons_zero, List.set_cons_succ]
          refine wpAnyH_ready (rs := [3, 4]) (by kernel_rfl) (by simp) ?_
          refine AllReadyH.cons rfl (fun K hK => ?_) (AllReadyH.cons rfl (fun K hK => ?_) AllReadyH.nil)
          · skip
            have hgaV := (own_base O1 rfl).2
            refine wp_app (.tmp 78) (.tmp 79) _ (by rfl) ga 5 i0 _ 1 1 Try.underlying36 hi hz0 hz1 hz2 rfl (by omega) (.slice (some ⟨ga, 0, none⟩) 0 0) 0 [] (by rfl) O1 (.slice Ap m cp) m (u8s Bp) (by rfl) (sp.later Bb) (u8s_one Bp) (by have := HMB.out; simp only [maxLen]; omega) (by have := HMB.out; omega) (Nat.le_of_lt hgaV) ?_
            intro v1 V' ho1 hg1 hw1
            simp only [Nat.zero_add, List.nil_append] at ho1
            obtain ⟨Aa, ca, rfl, _, _⟩ := (sliceAt_of_own ho1).form
            have b := below_own Bb hg1 Bb.size (fun g hg => by cases hg; exact hga)
            try replace G4 := (hg1.block g4 (Array.getElem?_eq_some_iff.1 G4).1 (fun e => hne (Option.some.inj e))).trans G4
            try replace GZ := (hg1.block gz (Array.getElem?_eq_some_iff.1 GZ).1 (fun e => by obtain ⟨cur, hc⟩ := own_type O1 e.symm; rw [GZ] at hc; cases hc)).trans GZ
            clear hgaV hg1 hw1 Bb O1
            have O1 := ho1
            have Bb := b
            clear b ho1
            generalize V' = V at *
            refine hK.out _ _ (range_of (W9.later Bb).l) (fun _ => ?_)
            clear hK K
            try simp only [List.getElem_toArray, List.getElem_cons_succ, List.getElem_cons_zero, Act.put, List.setIfInBounds_toArray, List.set_cons_zero, List.set_cons_succ]
            refine wpAnyH_ready (rs := [4]) (by kernel_rfl) (by simp) ?_
            refine AllReadyH.cons rfl (fun K hK => ?_) AllReadyH.nil
            have G4 := new_at (w := V) rfl (.cells ([.int .u8 0] : List Value).toArray 5)
            have b := kbelow_new V (.cells ([.int .u8 0] : List Value).toArray 5)
            try have hne : V.heap.size ≠ ga := by have h : ga < V.heap.size := (own_base O1 rfl).2; omega
            refine Node.wp_bs 36 1 [(0, .const (.int .u8 0))] [(0, .int .u8 0)] _ (by rfl) (by rfl) (run_bs1 V) ?_
            replace Bb := below_step Bb b
            try replace O1 := own_bel O1 b
            try replace GZ := var_later GZ b
            clear b
            generalize V.heap.size = g4 at *
            generalize V.alloc (.cells ([.int .u8 0] : List Value).toArray 5) = V at *
            refine hK.out _ _ (range_of (W9.later Bb).l) (fun _ => ?_)
            clear hK K
            try simp only [List.getElem_toArray, List.getElem_cons_succ, List.getElem_cons_zero, Act.put, List.setIfInBounds_toArray, List.set_cons_zero, List.set_cons_succ]
            refine wpAnyH_ready (rs := [5]) (by kernel_rfl) (by simp) ?_
            refine AllReadyH.cons rfl (fun K hK => ?_) AllReadyH.nil
            refine wp_app (.tmp 80) (.tmp 81) _ (by rfl) V8.heap.size 5 i0 _ 1 1 Try.underlying36 hi hz0 hz1 hz2 rfl (by omega) (.slice Aa m ca) m (u8s Bp) (by rfl) (own_mono O1 hga) (.slice (some ⟨g4, 0, none⟩) 1 1) 1 [.int .u8 0] (by rfl) (sliceAt_blk G4 rfl (by decide)) (by simp [Value.oneCell']) (by have := HMB.out; simp only [maxLen]; omega) (by have := HMB.out; omega) Bb.size ?_
            intro v1 V' ho1 hg1 hw1
            obtain ⟨A5, c5, rfl, _, _⟩ := (sliceAt_of_own ho1).form
            have b := below_own Bb hg1 Bb.size (fun g hg => Nat.le_trans hga (own_base O1 hg).1)
            try replace GZ := (hg1.block gz (Array.getElem?_eq_some_iff.1 GZ).1 (fun e => by obtain ⟨cur, hc⟩ := own_type O1 e.symm; rw [GZ] at hc; cases hc)).trans GZ
            clear hg1 hw1 Bb O1 G4
            have O5 : SliceAt V' 1 (.slice A5 (m + 1) c5) (m + 1) (u8s (Bp ++ [0#8])) := (by rw [show u8s (Bp ++ [0#8]) = u8s Bp ++ [.int .u8 0] by simp [u8s]]; exact sliceAt_of_own ho1)
            have Bb := b
            clear b ho1
            generalize V' = V at *
            refine hK.out _ _ (range_of (W9.later Bb).l) (fun _ => ?_)
            clear hK K
            try simp only [List.getElem_toArray, List.getElem_cons_succ, List.getElem_cons_zero, Act.put, List.setIfInBounds_toArray, List.set_cons_zero, List.set_cons_succ]
            exact kB _ _ (range_of (W9.later Bb).l) ⟨_, _, _, _, _, _, _, rfl, Bb, O5, hgz, GZ⟩
          · skip
            have G4 := new_at (w := V) rfl (.cells ([.int .u8 0] : List Value).toArray 5)
            have b := kbelow_new V (.cells ([.int .u8 0] : List Value).toArray 5)
            try have hne : V.heap.size ≠ ga := by have h : ga < V.heap.size := (own_base O1 rfl).2; omega
            refine Node.wp_bs 36 1 [(0, .const (.int .u8 0))] [(0, .int .u8 0)] _ (by rfl) (by rfl) (run_bs1 V) ?_
            replace Bb := below_step Bb b
            try replace O1 := own_bel O1 b
            try replace GZ := var_later GZ b
            clear b
            generalize V.heap.size = g4 at *
            generalize V.alloc (.cells ([.int .u8 0] : List Value).toArray 5) = V at *
            refine hK.out _ _ (range_of (W9.later Bb).l) (fun _ => ?_)
            clear hK K
            try simp only [List.getElem_toArray, List.getElem_cons_succ, List.getElem_cons_zero, Act.put, List.setIfInBounds_toArray, List.set_cons_zero, List.set_cons_succ]
            refine wpAnyH_ready (rs := [3]) (by kernel_rfl) (by simp) ?_
            refine AllReadyH.cons rfl (fun K hK => ?_) AllReadyH.nil
            have hgaV := (own_base O1 rfl).2
            refine wp_app (.tmp 78) (.tmp 79) _ (by rfl) ga 5 i0 _ 1 1 Try.underlying36 hi hz0 hz1 hz2 rfl (by omega) (.slice (some ⟨ga, 0, none⟩) 0 0) 0 [] (by rfl) O1 (.slice Ap m cp) m (u8s Bp) (by rfl) (sp.later Bb) (u8s_one Bp) (by have := HMB.out; simp only [maxLen]; omega) (by have := HMB.out; omega) (Nat.le_of_lt hgaV) ?_
            intro v1 V' ho1 hg1 hw1
            simp only [Nat.zero_add, List.nil_append] at ho1
            obtain ⟨Aa, ca, rfl, _, _⟩ := (sliceAt_of_own ho1).form
            have b := below_own Bb hg1 Bb.size (fun g hg => by cases hg; exact hga)
            try replace G4 := (hg1.block g4 (Array.getElem?_eq_some_iff.1 G4).1 (fun e => hne (Option.some.inj e))).trans G4
            try replace GZ := (hg1.block gz (Array.getElem?_eq_some_iff.1 GZ).1 (fun e => by obtain ⟨cur, hc⟩ := own_type O1 e.symm; rw [GZ] at hc; cases hc)).trans GZ
            clear hgaV hg1 hw1 Bb O1
            have O1 := ho1
            have Bb := b
            clear b ho1
            generalize V' = V at *
            refine hK.out _ _ (range_of (W9.later Bb).l) (fun _ => ?_)
            clear hK K
            try simp only [List.getElem_toArray, List.getElem_cons_succ, List.getElem_cons_zero, Act.put, List.setIfInBounds_toArray, List.set_cons_zero, List.set_cons_succ]
            refine wpAnyH_ready (rs := [5]) (by kernel_rfl) (by simp) ?_
            refine AllReadyH.cons rfl (fun K hK => ?_) AllReadyH.nil
            refine wp_app (.tmp 80) (.tmp 81) _ (by rfl) V8.heap.size 5 i0 _ 1 1 Try.underlying36 hi hz0 hz1 hz2 rfl (by omega) (.slice Aa m ca) m (u8s Bp) (by rfl) (own_mono O1 hga) (.slice (some ⟨g4, 0, none⟩) 1 1) 1 [.int .u8 0] (by rfl) (sliceAt_blk G4 rfl (by decide)) (by simp [Value.oneCell']) (by have := HMB.out; simp only [maxLen]; omega) (by have := HMB.out; omega) Bb.size ?_
            intro v1 V' ho1 hg1 hw1
            obtain ⟨A5, c5, rfl, _, _⟩ := (sliceAt_of_own ho1).form
            have b := below_own Bb hg1 Bb.size (fun g hg => Nat.le_trans hga (own_base O1 hg).1)
            try replace GZ := (hg1.block gz (Array.getElem?_eq_some_iff.1 GZ).1 (fun e => by obtain ⟨cur, hc⟩ := own_type O1 e.symm; rw [GZ] at hc; cases hc)).trans GZ
            clear hg1 hw1 Bb O1 G4
            have O5 : SliceAt V' 1 (.slice A5 (m + 1) c5) (m + 1) (u8s (Bp ++ [0#8])) := (by rw [show u8s (Bp ++ [0#8]) = u8s Bp ++ [.int .u8 0] by simp [u8s]]; exact sliceAt_of_own ho1)
            have Bb := b
            clear b ho1
            generalize V' = V at *
            refine hK.out _ _ (range_of (W9.later Bb).l) (fun _ => ?_)
            clear hK K
            try simp only [List.getElem_toArray, List.getElem_cons_succ, List.getElem_cons_zero, Act.put, List.setIfInBounds_toArray, List.set_cons_zero, List.set_cons_succ]
            exact kB _ _ (range_of (W9.later Bb).l) ⟨_, _, _, _, _, _, _, rfl, Bb, O5, hgz, GZ⟩
        · skip
          have G4 := new_at (w := V) rfl (.cells ([.int .u8 0] : List Value).toArray 5)
          have b := kbelow_new V (.cells ([.int .u8 0] : List Value).toArray 5)
          try have hne : V.heap.size ≠ ga := by have h : ga < V.heap.size := (own_base O1 rfl).2; omega
          refine Node.wp_bs 36 1 [(0, .const (.int .u8 0))] [(0, .int .u8 0)] _ (by rfl) (by rfl) (run_bs1 V) ?_
          replace Bb := below_step Bb b
          try replace O1 := own_bel O1 b
          try replace GZ := var_later GZ b
          clear b
          generalize V.heap.size = g4 at *
          generalize V.alloc (.cells ([.int .u8 0] : List Value).toArray 5) = V at *
          refine hK.out _ _ (range_of (W9.later Bb).l) (fun _ => ?_)
          clear hK K
          try simp only [List.getElem_toArray, List.getElem_cons_succ, List.getElem_cons_zero, Act.put, List.setIfInBounds_toArray, List.set_cons_zero, List.set_cons_succ]
          refine wpAnyH_ready (rs := [1]) (by kernel_rfl) (by simp) ?_
          refine AllReadyH.cons rfl (fun K hK => ?_) AllReadyH.nil
          have O1 := own_empty V 5 1
          have b := kbelow_new V (.cells #[] 5)
          have hga : V8.heap.size ≤ V.heap.size := Bb.size
          try have hne : g4 ≠ V.heap.size := by have := (Array.getElem?_eq_some_iff.1 G4).1; omega
          refine Node.wp_bs 36 0 [] [] _ (by rfl) (by rfl) (run_bs0 V) ?_
          replace Bb := below_step Bb b
          try replace G4 := var_later G4 b
          try replace GZ := var_later GZ b
          clear b
          generalize V.heap.size = ga at *
          generalize V.alloc (.cells #[] 5) = V at *
          refine hK.out _ _ (range_of (W9.later Bb).l) (fun _ => ?_)
          clear hK K
          try simp only [List.getElem_toArray, List.getElem_cons_succ, List.getElem_cons_zero, Act.put, List.setIfInBounds_toArray, List.set_cons_zero, List.set_cons_succ]
          refine wpAnyH_ready (rs := [3]) (by kernel_rfl) (by simp) ?_
          refine AllReadyH.cons rfl (fun K hK => ?_) AllReadyH.nil
          have hgaV := (own_base O1 rfl).2
          refine wp_app (.tmp 78) (.tmp 79) _ (by rfl) ga 5 i0 _ 1 1 Try.underlying36 hi hz0 hz1 hz2 rfl (by omega) (.slice (some ⟨ga, 0, none⟩) 0 0) 0 [] (by rfl) O1 (.slice Ap m cp) m (u8s Bp) (by rfl) (sp.later Bb) (u8s_one Bp) (by have := HMB.out; simp only [maxLen]; omega) (by have := HMB.out; omega) (Nat.le_of_lt hgaV) ?_
          intro v1 V' ho1 hg1 hw1
          simp only [Nat.zero_add, List.nil_append] at ho1
          obtain ⟨Aa, ca, rfl, _, _⟩ := (sliceAt_of_own ho1).form
          have b := below_own Bb hg1 Bb.size (fun g hg => by cases hg; exact hga)
          try replace G4 := (hg1.block g4 (Array.getElem?_eq_some_iff.1 G4).1 (fun e => hne (Option.some.inj e))).trans G4
          try replace GZ := (hg1.block gz (Array.getElem?_eq_some_iff.1 GZ).1 (fun e => by obtain ⟨cur, hc⟩ := own_type O1 e.symm; rw [GZ] at hc; cases hc)).trans GZ
          clear hgaV hg1 hw1 Bb O1
          have O1 := ho1
          have Bb := b
          clear b ho1
          generalize V' = V at *
          refine hK.out _ _ (range_of (W9.later Bb).l) (fun _ => ?_)
          clear hK K
          try simp only [List.getElem_toArray, List.getElem_cons_succ, List.getElem_cons_zero, Act.put, List.setIfInBounds_toArray, List.set_cons_zero, List.set_cons_succ]
          refine wpAnyH_ready (rs := [5]) (by kernel_rfl) (by simp) ?_
          refine AllReadyH.cons rfl (fun K hK => ?_) AllReadyH.nil
          refine wp_app (.tmp 80) (.tmp 81) _ (by rfl) V8.heap.size 5 i0 _ 1 1 Try.underlying36 hi hz0 hz1 hz2 rfl (by omega) (.slice Aa m ca) m (u8s Bp) (by rfl) (own_mono O1 hga) (.slice (some ⟨g4, 0, none⟩) 1 1) 1 [.int .u8 0] (by rfl) (sliceAt_blk G4 rfl (by decide)) (by simp [Value.oneCell']) (by have := HMB.out; simp only [maxLen]; omega) (by have := HMB.out; omega) Bb.size ?_
          intro v1 V' ho1 hg1 hw1
          obtain ⟨A5, c5, rfl, _, _⟩ := (sliceAt_of_own ho1).form
          have b := below_own Bb hg1 Bb.size (fun g hg => Nat.le_trans hga (own_base O1 hg).1)
          try replace GZ := (hg1.block gz (Array.getElem?_eq_some_iff.1 GZ).1 (fun e => by obtain ⟨cur, hc⟩ := own_type O1 e.symm; rw [GZ] at hc; cases hc)).trans GZ
          clear hg1 hw1 Bb O1 G4
          have O5 : SliceAt V' 1 (.slice A5 (m + 1) c5) (m + 1) (u8s (Bp ++ [0#8])) := (by rw [show u8s (Bp ++ [0#8]) = u8s Bp ++ [.int .u8 0] by simp [u8s]]; exact sliceAt_of_own ho1)
          have Bb := b
          clear b ho1
          generalize V' = V at *
          refine hK.out _ _ (range_of (W9.later Bb).l) (fun _ => ?_)
          clear hK K
          try simp only [List.getElem_toArray, List.getElem_cons_succ, List.getElem_cons_zero, Act.put, List.setIfInBounds_toArray, List.set_cons_zero, List.set_cons_succ]
          exact kB _ _ (range_of (W9.later Bb).l) ⟨_, _, _, _, _, _, _, rfl, Bb, O5, hgz, GZ⟩
    cases e <;> try exact hR.elim
    obtain ⟨u15, u16, u17, u18, u19, u20, u21, u22, u23, u24, u25, u26, u27, u28, u29, u30, u31, u32, u33, u34, u35, u36, u37, u38, u39, u40, u41, u42, u43, u44, u45, u46, u47, u48, u49, u50, u51, u52, u53, u54, u55, u56, u57, u58, u59, u60, u61, u62, u63, u64, u65, u66, u67, u68, u69, u70, u71, u72, u73, u74, u75, u76, u77, u78, u79, u80, u81, u82, u83, u84, u85, g13, rfl, B10⟩ := hR
    simp only [List.cons_append, List.nil_append]
    have W10 := W9.later B10
    clear W9 sp B10
    go_wp2_with fail
    refine (wakes_c _).mono ?_
    rintro e V11 ⟨rfl, b11⟩
    have HB := Lib.hid (W10.later b11).bel
    clear W10 b11
    go_wp2_with fail
    go_ret
    exact ⟨rfl, HB.out⟩

theorem own : ownKnob Try.prog.godebug = none := by kernel_rfl
theorem laidOut : laidOutB Try.prog = true := by kernel_rfl
noncomputable def wit (os : Os) : World := World.holding Try.prog os ⟨#[], #[], []⟩
set_option maxRecDepth 100000 in
theorem lifted (os : Os) (started : os.Started) (H : Type) (enc : TypeId × Value → H) (F : Stop.Interp) :
    ReturnsInHanded {} Try.checked os 5 .any ((OpenSpec.ofChange Rows.keysBackSpec).preRow enc Try.prog Try.f5 Rows.keysBackRow.domain false Rows.keysBackRow.laid) (((OpenSpec.ofChange Rows.keysBackSpec).at F).post enc Try.prog Try.f5 false true false false) := by
  obtain ⟨x, hx⟩ : ∃ x, DataW.whole enc Try.prog ((wit os).forCall (fun _ _ => 0) ⟨#[], #[.agg zL, .agg zB, .agg zB], []⟩).memory Try.f5.params.toList Rows.keysBackSpec.vars false (#[.agg zL, .agg zB, .agg zB] : Array Value).toList 8 = some x := Option.isSome_iff_exists.1 (by kernel_rfl)
  refine Fr.lift (C := Try.checked) (s := OpenSpec.ofChange Rows.keysBackSpec) own started (by kernel_rfl) Try.func5
    (witness_row_at (enc := enc) (C := Try.checked) false (wit os) #[.agg zL, .agg zB, .agg zB] rfl (by kernel_rfl) (by kernel_rfl) (by kernel_rfl)
      (OpenSpec.preRow_of_cond 8 hx rfl (fun k hk => by cases hk) (by kernel_rfl) (laidMet_of_run' 8 (by kernel_rfl) (by kernel_rfl))))
    laidOut (by kernel_rfl) rfl Try.underlying4 rfl rfl ?_ ?_
  · intro ds hds
    match ds, hds with
    | [_, _, _], _ => rfl
  · intro W base args ds before hval hA hlt _ hz hL
    rw [Try.params5] at hA hval
    obtain ⟨v0, vs0, d0, ds0, p0, q0, hargs, rfl, rfl, h0, r0⟩ := trodAll_cons hA
    obtain ⟨v1, vs1, d1, ds1, p1, q1, rfl, rfl, rfl, h1, r1⟩ := trodAll_cons r0
    obtain ⟨v2, vs2, d2, ds2, p2, q2, rfl, rfl, rfl, h2, r2⟩ := trodAll_cons r1
    obtain ⟨rfl, rfl, rfl⟩ := trodAll_nil r2
    obtain rfl : args = #[v0, v1, v2] := by cases args; simp_all
    obtain ⟨L, nsec, lens, nsig, nfl, A, c, A1, c1, A3, c3, ve, rfl, hLA⟩ := open_layN (hval 0 _ v0 rfl rfl) h0
    obtain ⟨b0, hb, rfl⟩ := open_btn (hval 1 _ v1 rfl rfl) h1
    obtain ⟨c0, hc, rfl⟩ := open_btn (hval 2 _ v2 rfl rfl) h2
    exact walk L nsec lens nsig nfl A c A1 c1 A3 c3 ve b0 c0 W hb hc hLA

theorem said : Rows.KeysBackSaid :=
  OpenClaim.holds_of_cond 5 Try.f5 rfl rfl rfl rfl rfl rfl rfl ⟨rfl, rfl, rfl, rfl, rfl⟩ rfl rfl rfl rfl rfl (by kernel_rfl) Try.func5 (by kernel_rfl)
    (of_decide_eq_true (by kernel_rfl)) (by unfold Func.isWrapper; first | (rw [if_pos (by decide +kernel)]; kernel_rfl) | (rw [if_neg (by decide +kernel)]; exact ⟨rfl, rfl⟩))
    (fun os started H enc _ F => by rw [OpenClaim.pre_eq_preRow]; exact lifted os started H enc F)
#print axioms said
end Go.Proofs.Ytdnimdpnejjjlaa.keysBack
