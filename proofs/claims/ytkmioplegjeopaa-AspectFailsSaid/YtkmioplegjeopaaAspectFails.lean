/- AspectFails: for every argument the statement's Go text returns true and turns nothing that was there. It is proved at every argument, without a condition beyond the row. -/
import Derived.Test.YtkmioplegjeopaaAspY
import Derived.Test.YtkmioplegjeopaaAspV
import Derived.Test.YtkmioplegjeopaaAspL
import Derived.Test.YtkmioplegjeopaaFrame
import Derived.Deep.RegionHeld3
import Derived.Deep.CutRange
import Derived.Deep.DrawnRows
namespace Go.Proofs.Ytkmioplegjeopaa.aspectFails
open Go.ChangeShapes Go.WideShapes Go.ChangeAt Go.RowKit Rf
attribute [local go_sem ↓] run_max2 run_min2
open Mem Bv AM
attribute [local go_sem ↓] run_max2 run_min2
set_option maxHeartbeats 8000000 in
set_option maxRecDepth 100000 in
theorem walk (I : IM) (L M cs : List Value) (q : HeldM) (at_ : Int) (nfl : Nat) (lens : List Nat) (A3 : Option Addr) (c3 : Nat) (ve : Value) (w : World) (hA : IMA I L M w) (hQ : HeldAt w cs q) (h2 : L[2]? = some ve) (h3 : L[3]? = some (.slice A3 nfl c3)) (hE : ExsAt w ve lens) :
    Calls Try.prog 4 #[.agg L.toArray, .agg M.toArray, .agg cs.toArray, .int .i64 at_] w fun e w' => e = .returned (.bool true) ∧ Below w.heap.size w w' := by
  obtain ⟨i0, hi, hz0, hz1, hz2⟩ := info_parts info_step
  obtain ⟨zv, hzi, hzs⟩ := ker_zero
  have szL := lay_size hA.f.l.len
  have szM := img_size hA.f.m.len
  have szH := held_size hQ.len
  obtain ⟨W0, hW0⟩ : ∃ W0, ((w.alloc (.cells L.toArray 29)).alloc (.cells M.toArray 35)).alloc (.cells cs.toArray 52) = W0 := ⟨_, rfl⟩
  have B0 : Below w.heap.size w W0 := by rw [← hW0]; exact below_step (below_step (below_new _ _) (below_new _ _)) (below_new _ _)
  have V : FV w W0 L M cs := ⟨B0, by rw [← hW0]; exact old_at (old_at (new_at rfl _) _) _, by rw [← hW0]; exact old_at (new_at (by simp) _) _, by rw [← hW0]; exact new_at (by simp) _⟩
  have HA := Lib.hid hA
  have HQ := Lib.hid hQ
  have HE := Lib.hid hE
  clear hA hQ hE B0
  go_enter Try.func4, Try.ntmps4
  go_upto_region 1 with (fail)
  generalize ((w.alloc (.cells L.toArray 29)).alloc (.cells M.toArray 35)).alloc (.cells cs.toArray 52) = W0' at *
  subst hW0
  have RL := range_of V.l
  go_wp2_with (first
    | refine wpList_load_g (by rfl) 29 (.tmp 4) (by rfl) w.heap.size 0 (by rfl) L _ RL Try.underlying29 rfl szL ?_
    | fail)
  refine (Great_c L I.kinds.length I.nsig nfl lens I.A I.A1 A3 I.c I.c1 c3 ve _ HA.out.f.l.sec HA.out.f.l.sig h2 h3 (HE.out.later V.bel)).mono ?_
  rintro e W1 ⟨he, b1⟩
  obtain ⟨g1, hg1⟩ : ∃ g, greatV I.kinds.length I.nsig nfl lens = g := ⟨_, rfl⟩
  rw [hg1] at he
  subst he
  replace V := V.later b1
  clear b1 hg1 RL
  cases g1
  rotate_left
  · go_wp2_with fail
    refine (wakes_c _).mono ?_
    rintro e Wk ⟨rfl, bk⟩
    have B := below_step V.bel bk
    go_wp2
    go_ret
    exact ⟨rfl, B⟩
  have RH := range_of V.h
  have bN := below_new W1 (.cells cs.toArray 52)
  have GN := new_at (w := W1) rfl (.cells cs.toArray 52)
  have hqN := HQ.out.later (below_step V.bel bN)
  have SL : SliceAt (W1.alloc (.cells cs.toArray 52)) 23 (.slice (some ⟨W1.heap.size, 0, none⟩) 1 1) 1 cs := ⟨_, 1, rfl, Nat.le_refl _, by simp [maxLen], by rw [HQ.out.len], .inr ⟨_, 0, rfl, lt_at GN, fun i u hu => by rw [Nat.zero_add]; exact cell_list GN hu⟩⟩
  have KK := Lib.hid (ker_at _ 0 _ _ _ (hs_one SL hqN))
  replace V := V.later bN
  clear GN hqN SL bN
  go_wp2_with (first
    | refine wpList_load_g (by rfl) 52 (.tmp 6) (by rfl) (w.heap.size + 1 + 1) 0 (by rfl) cs _ RH Try.underlying52 rfl szH ?_
    | refine wpList_bs_g (by rfl) 36 1 [(0, .tmp 18)] _ _ (by rfl) (by rfl) (run_bsH _ cs HQ.out.len) ?_
    | refine wpList_bld_g (by rfl) 41 [(1, .tmp 19)] _ _ (by rfl) (by rfl) (run_k1 _ _ _ _) ?_
    | fail)
  refine (Great18_c _ _ _ _ _ _ _ KK.out).mono ?_
  rintro e W2 ⟨b2, g2, rfl, hsm⟩
  replace V := V.later b2
  clear b2 RH KK
  have HSM := Lib.hid hsm
  clear hsm
  cases g2
  rotate_left
  · go_wp2_with fail
    refine (wakes_c _).mono ?_
    rintro e Wk ⟨rfl, bk⟩
    have B := below_step V.bel bk
    go_wp2
    go_ret
    exact ⟨rfl, B⟩
  obtain ⟨s1, s2, s3⟩ := (HSM.out rfl).2 q (by simp)
  clear HSM
  have RH := range_of V.h
  go_wp2_with (first
    | refine wpList_load_g (by rfl) 52 (.tmp 6) (by rfl) (w.heap.size + 1 + 1) 0 (by rfl) cs _ RH Try.underlying52 rfl szH ?_
    | fail)
  refine (Right17_c cs q _ (HQ.out.later V.bel) (by omega)).mono ?_
  rintro e W3 ⟨b3, r, rfl, hr⟩
  replace V := V.later b3
  clear b3 RH
  have HR := Lib.hid hr
  clear hr
  cases r
  · go_wp2_with fail
    refine (wakes_c _).mono ?_
    rintro e Wk ⟨rfl, bk⟩
    have B := below_step V.bel bk
    go_wp2
    go_ret
    exact ⟨rfl, B⟩
  obtain ⟨n1, n2, n3, n4, n5, nneed⟩ := HR.out rfl
  have HND := Lib.hid nneed
  clear HR nneed n4 n5
  obtain ⟨c, hc⟩ : ∃ c, clearB I.stand I.occB I.litB q = c := ⟨_, rfl⟩
  have HC := Lib.hid hc
  clear hc
  have RL := range_of V.l
  have RM := range_of V.m
  have RH := range_of V.h
  go_wp2_with (first
    | refine wpList_load_g (by rfl) 29 (.tmp 4) (by rfl) w.heap.size 0 (by rfl) L _ RL Try.underlying29 rfl szL ?_
    | refine wpList_load_g (by rfl) 35 (.tmp 5) (by rfl) (w.heap.size + 1) 0 (by rfl) M _ RM Try.underlying35 rfl szM ?_
    | refine wpList_load_g (by rfl) 52 (.tmp 6) (by rfl) (w.heap.size + 1 + 1) 0 (by rfl) cs _ RH Try.underlying52 rfl szH ?_
    | fail)
  refine (Clear_c I L M cs q c _ HC.out.symm (HA.out.later V.bel) (HQ.out.later V.bel) (by omega) (by omega) (by omega)).mono ?_
  rintro e W4 ⟨rfl, b4⟩
  replace V := V.later b4
  clear b4 RL RM RH
  cases c
  · go_wp2_with fail
    refine (wakes_c _).mono ?_
    rintro e Wk ⟨rfl, bk⟩
    have B := below_step V.bel bk
    go_wp2
    go_ret
    exact ⟨rfl, B⟩
  obtain ⟨v3, e3, t3⟩ := HQ.out.st
  obtain ⟨v4, e4, t4⟩ := HQ.out.ov
  obtain ⟨A3', c3', rfl⟩ := t3.form
  obtain ⟨A4, c4, rfl⟩ := t4.form
  obtain ⟨n, hn⟩ : ∃ n, q.steps.length = n := ⟨_, rfl⟩
  obtain ⟨o, ho⟩ : ∃ n, q.over.length = n := ⟨_, rfl⟩
  have HN := Lib.hid hn
  have HO := Lib.hid ho
  rw [hn] at e3 n1 n2
  rw [ho] at e4 n3
  have HE3 := Lib.hid e3
  have HE4 := Lib.hid e4
  have HT3 : Hid (SliceAt w 3 (.slice A3' n c3') n (t3s q.steps)) := Lib.hid (by rw [← hn]; exact t3)
  have HT4 : Hid (SliceAt w 3 (.slice A4 o c4) o (t3s q.over)) := Lib.hid (by rw [← ho]; exact t4)
  clear t3 t4 e3 e4 hn ho
  go_upto_region 3 with (fail)
  go_cut [9] from 36 to 43 (fun v wx => FV w wx L M cs ∧ TAt wx v (q.steps ++ q.over))
  case first =>
    refine wp_region_held_drew (S := (fun w' => w'.cell? ⟨w.heap.size + 1 + 1, 3, none⟩ = some (.slice A3' n c3') ∧ w'.cell? ⟨w.heap.size + 1 + 1, 4, none⟩ = some (.slice A4 o c4))) (by kernel_rfl) ?_ (fun hHeld => ?_)
    · exact ⟨cell_list V.h HE3.out, cell_list V.h HE4.out⟩
    replace V := V.later (Below.refl _ W4).drew
    generalize W4.drew = V0 at *
    refine wpAnyH_take (i := 1) (v := ?_) rfl (by kernel_rfl) (by kernel_rfl) (by kernel_rfl) (fun _ _ _ h => h) (Or.inl ⟨by kernel_rfl, ?_⟩) (by assumption) ?_
    rotate_left
    · intro w hSw
      try dsimp only at hSw
      go_simp
      try with_reducible rfl
    simp only [List.getElem_toArray, List.getElem_cons_succ, List.getElem_cons_zero, Act.put, List.setIfInBounds_toArray, List.set_cons_zero, List.set_cons_succ]
    refine wpAnyH_take (i := 2) (v := ?_) rfl (by kernel_rfl) (by kernel_rfl) (by kernel_rfl) (fun _ _ _ h => h) (Or.inl ⟨by kernel_rfl, ?_⟩) (by assumption) ?_
    rotate_left
    · intro w hSw
      try dsimp only at hSw
      go_simp
      try with_reducible rfl
    simp only [List.getElem_toArray, List.getElem_cons_succ, List.getElem_cons_zero, Act.put, List.setIfInBounds_toArray, List.set_cons_zero, List.set_cons_succ]
    refine wpAnyH_take (i := 3) (v := ?_) rfl (by kernel_rfl) (by kernel_rfl) (by kernel_rfl) (fun _ _ _ h => h) (Or.inl ⟨by kernel_rfl, ?_⟩) (by assumption) ?_
    rotate_left
    · intro w hSw
      try dsimp only at hSw
      go_simp
      try with_reducible rfl
    simp only [List.getElem_toArray, List.getElem_cons_succ, List.getElem_cons_zero, Act.put, List.setIfInBounds_toArray, List.set_cons_zero, List.set_cons_succ]
    refine wpAnyH_take (i := 5) (v := ?_) rfl (by kernel_rfl) (by kernel_rfl) (by kernel_rfl) (fun _ _ _ h => h) (Or.inl ⟨by kernel_rfl, ?_⟩) (by assumption) ?_
    rotate_left
    · intro w hSw
      try dsimp only at hSw
      go_simp
      try with_reducible rfl
    simp only [List.getElem_toArray, List.getElem_cons_succ, List.getElem_cons_zero, Act.put, List.setIfInBounds_toArray, List.set_cons_zero, List.set_cons_succ]
    refine wpAnyH_take (i := 6) (v := ?_) rfl (by kernel_rfl) (by kernel_rfl) (by kernel_rfl) (fun _ _ _ h => h) (Or.inl ⟨by kernel_rfl, ?_⟩) (by assumption) ?_
    rotate_left
    · intro w hSw
      try dsimp only at hSw
      go_simp
      try with_reducible rfl
    simp only [List.getElem_toArray, List.getElem_cons_succ, List.getElem_cons_zero, Act.put, List.setIfInBounds_toArray, List.set_cons_zero, List.set_cons_succ]
    clear hHeld
    have hown := own_empty V0 55 3
    have bA := below_new V0 (.cells #[] 55)
    have hgl := lt_at V.h
    replace V := V.later bA
    clear bA
    refine wpAnyH_ready (rs := [0]) (by kernel_rfl) (by simp) ?_
    refine AllReadyH.cons rfl (fun K hK => ?_) AllReadyH.nil
    refine Node.wp_bs 46 0 [] [] _ (by rfl) (by rfl) (run_bs0 V0) ?_
    generalize V0.alloc (.cells #[] 55) = V1 at *
    generalize V0.heap.size = ga at *
    refine hK.out _ _ ⟨cell_list V.h HE3.out, cell_list V.h HE4.out⟩ (fun hHeld => ?_)
    clear hK K hHeld
    simp only [List.getElem_toArray, List.getElem_cons_succ, List.getElem_cons_zero, Act.put, List.setIfInBounds_toArray, List.set_cons_zero, List.set_cons_succ]
    have hgV := (own_base hown rfl).2
    refine wpAnyH_ready (rs := [4]) (by kernel_rfl) (by simp) ?_
    refine AllReadyH.cons rfl (fun K hK => ?_) AllReadyH.nil
    refine wp_app (.tmp 36) (.tmp 39) _ (by rfl) ga 55 i0 _ 3 24 Try.underlying46 hi hz0 hz1 hz2 rfl (by omega) (.slice (some ⟨ga, 0, none⟩) 0 0) 0 [] (by rfl) hown (.slice A3' n c3') n (t3s q.steps) (by rfl) (HT3.out.later V.bel) (t3s_one _) (by simp only [maxLen]; omega) (by omega) (Nat.le_of_lt hgV) ?_
    intro v1 V2 ho1 hg1 hw1
    rw [Nat.zero_add, List.nil_append] at ho1
    replace V := V.grown hgl hg1 (fun g hg => by have := Option.some.inj hg; simp at this; omega)
    have hgV2 := Nat.le_trans (Nat.le_of_lt hgV) hg1.size
    clear hown hg1 hw1 hgV
    refine hK.out _ _ ⟨cell_list V.h HE3.out, cell_list V.h HE4.out⟩ (fun hHeld => ?_)
    clear hK K hHeld V1
    simp only [List.getElem_toArray, List.getElem_cons_succ, List.getElem_cons_zero, Act.put, List.setIfInBounds_toArray, List.set_cons_zero, List.set_cons_succ]
    refine wpAnyH_ready (rs := [7]) (by kernel_rfl) (by simp) ?_
    refine AllReadyH.cons rfl (fun K hK => ?_) AllReadyH.nil
    refine wp_app (.tmp 40) (.tmp 42) _ (by rfl) ga 55 i0 _ 3 24 Try.underlying46 hi hz0 hz1 hz2 rfl (by omega) v1 n (t3s q.steps) (by rfl) ho1 (.slice A4 o c4) o (t3s q.over) (by rfl) (HT4.out.later V.bel) (t3s_one _) (by simp only [maxLen]; omega) (by omega) hgV2 ?_
    intro v2 V3 ho2 hg2 hw2
    replace V := V.grown hgl hg2 (fun g hg => (own_base ho1 hg).1)
    have T : TAt V3 v2 (q.steps ++ q.over) := by
      have := sliceAt_of_own ho2
      unfold TAt
      rw [List.length_append, HN.out, HO.out]
      rw [show t3s (q.steps ++ q.over) = t3s q.steps ++ t3s q.over by simp [t3s]]
      exact this
    clear ho1 ho2 hg2 hw2 hgV2
    refine hK.out _ _ ⟨cell_list V.h HE3.out, cell_list V.h HE4.out⟩ (fun hHeld => ?_)
    clear hK K
    simp only [List.getElem_toArray, List.getElem_cons_succ, List.getElem_cons_zero, Act.put, List.setIfInBounds_toArray, List.set_cons_zero, List.set_cons_succ]
    refine wpAnyH_take (i := 8) (v := ?_) rfl (by kernel_rfl) (by kernel_rfl) (by kernel_rfl) (fun _ _ _ h => h) (Or.inl ⟨by kernel_rfl, ?_⟩) (by assumption) ?_
    rotate_left
    · intro w hSw
      try dsimp only at hSw
      go_simp
      try with_reducible rfl
    simp only [List.getElem_toArray, List.getElem_cons_succ, List.getElem_cons_zero, Act.put, List.setIfInBounds_toArray, List.set_cons_zero, List.set_cons_succ]
    clear hHeld
    refine wpAnyH_done (by kernel_rfl) ?_ _
    go_wp2
    go_meet
    exact ⟨V, T⟩
  case rest =>
    obtain ⟨V, TA⟩ := hcut
    obtain ⟨all, hall⟩ : ∃ l, q.steps ++ q.over = l := ⟨_, rfl⟩
    rw [hall] at TA
    have HAL := Lib.hid hall
    obtain ⟨Aa, ca, rfl⟩ := TA.form
    obtain ⟨ml, hml⟩ : ∃ l, all.length = l := ⟨_, rfl⟩
    rw [hml] at TA
    rw [hml]
    have HML := Lib.hid hml
    have hm0 : ml = n + o := by rw [← hml, ← hall, List.length_append, HN.out, HO.out]
    have hm1 : 0 < ml := by omega
    have hm2 : ml ≤ 14 := by omega
    clear hall hml hm0 HT3 HT4 HE3 HE4
    have RH := range_of V.h
    go_wp2_with (first
      | refine wpList_load_g (by rfl) 52 (.tmp 6) (by rfl) (w.heap.size + 1 + 1) 0 (by rfl) cs _ RH Try.underlying52 rfl szH ?_
      | fail)
    refine (refNeeds_c cs q _ (HQ.out.later V.bel) (by omega)).mono ?_
    rintro e W5 ⟨vn, rfl, b5, TN⟩
    replace V := V.later b5
    replace TA := TA.later b5
    clear b5 RH
    obtain ⟨l, hl⟩ : ∃ l, needsL q = l := ⟨_, rfl⟩
    have hll : l.length ≤ 100 := by rw [← hl]; exact Nat.le_trans (List.length_filter_le _ _) s3
    rw [hl] at TN
    have HL := Lib.hid hl
    obtain ⟨An, cn, rfl⟩ := TN.form
    obtain ⟨nl, hnl⟩ : ∃ n, l.length = n := ⟨_, rfl⟩
    rw [hnl] at TN hll
    rw [hnl]
    have HNL := Lib.hid hnl
    have HB : Hid (q.needs.length ≤ 5864062014700 ∧ q.steps.length ≤ 5864062014700 ∧ q.over.length ≤ 5864062014700) := Lib.hid (by omega)
    clear hl hnl s1 s2 s3
    obtain ⟨d0, hd0⟩ : ∃ d, decide (at_ < 0) = d := ⟨_, rfl⟩
    cases d0
    rotate_left
    · go_wp2_with fail
      refine (wakes_c _).mono ?_
      rintro e Wk ⟨rfl, bk⟩
      have B := below_step V.bel bk
      go_wp2
      go_ret
      exact ⟨rfl, B⟩
    have ha0 : 0 ≤ at_ := by have := of_decide_eq_false hd0; omega
    have oneM := all_one HA.out.f.m.one
    obtain ⟨Vb, hVb, Xb, bb, thb⟩ := newv (V := W5) M zImg 35 (by rw [HA.out.f.m.len]; rfl)
    have HVb := Lib.hid hVb
    have RM := range_of V.m
    have hgb := lt_at V.h
    clear hVb
    go_upto_region 8 with (first
      | refine wpList_load_g (by rfl) 35 (.tmp 5) (by rfl) (w.heap.size + 1) 0 (by rfl) M _ RM Try.underlying35 rfl szM ?_
      | (refine wpList_store_mid rfl 35 (.tmp 11) (.tmp 49) (by rfl) W5.heap.size 0 M.toArray (by rfl) (by rfl) thb (by simpa using szM) oneM ?_; rw [HVb.out])
      | fail)
    clear HVb RM thb hd0
    replace V := V.later bb
    have X : BV w W5 Vb L M cs M := ⟨V, bb, Xb⟩
    clear bb V Xb
    obtain ⟨k, hk, hkl⟩ := tmod_at at_ ml ha0 hm1
    obtain ⟨x, hx⟩ : ∃ x, all[k]? = some x := ⟨_, List.getElem?_eq_getElem (by rw [HML.out]; exact hkl)⟩
    have hxm : x ∈ q.steps ++ q.over := by rw [HAL.out]; exact List.mem_of_getElem? hx
    have hxo := (clearB_parts.1 HC.out).2.2.1 x hxm
    obtain ⟨hx0, hx24⟩ := occ_in hxo
    obtain ⟨p, hp⟩ := Int.eq_ofNat_of_zero_le hx0
    have HXM := Lib.hid hxm
    have HP := Lib.hid hp
    obtain ⟨ba, oa, cca, hva, x0, x1, x2⟩ := t3_cells TA hx
    obtain ⟨rfl, hdrop, rfl⟩ := Value.slice.inj hva
    rw [hp] at x0 hx24
    have hbl : ba < W5.heap.size := lt_of_cell x0
    replace x0 := cell_later x0 X.b
    have hp24 : p < 24 := by omega
    have hand := and31 (p : Int) (by omega) (by omega)
    have hocc := or_wrap I.occ p (by omega)
    obtain ⟨oc, hoc⟩ : ∃ oc, I.occ ||| BitVec.twoPow 32 p = oc := ⟨_, rfl⟩
    rw [hoc] at hocc
    have HOC := Lib.hid hoc
    have zo := cell_list X.f.m HA.out.f.m.occ
    clear x1 x2 hva hdrop hx hxm hxo hx0 hp hx24 hoc
    have t0 : decide ((0 : Int) < (ml : Int)) = true := decide_eq_true (by omega)
    have t1 : decide (0 < ml) = true := decide_eq_true hm1
    have i1 : (k : Int) < (ml : Int) := by omega
    have tz : ((ml : Int) == 0) = false := by simp; omega
    have tz2 : (ml = 0) = False := by simp; omega
    go_upto_region 9 with (fail)
    refine wp_region_held_drew (S := (fun w' => w'.cell? ⟨w.heap.size + 1, 25, none⟩ = some (.int .u32 I.occ.toNat) ∧ w'.cell? ⟨ba, oa + k * 3, none⟩ = some (.int .i64 (p : Int)))) (by kernel_rfl) ?_ (fun hHeld => ?_)
    · exact ⟨zo, x0⟩
    replace X := X.later (Below.refl _ Vb).drew
    replace x0 := cell_later x0 (Below.refl _ Vb).drew
    have hu := IntWalk.u64_in (p : Int) (by omega)
    have hmn : min p 32 = p := by omega
    clear zo
    generalize Vb.drew = Vd at *
    refine wpAnyH_take (i := 0) (v := ?_) rfl (by kernel_rfl) (by kernel_rfl) (by kernel_rfl) (fun _ _ _ h => h) (Or.inl ⟨by kernel_rfl, ?_⟩) (by assumption) ?_
    rotate_left
    · intro w hSw
      try dsimp only at hSw
      go_simp
      try with_reducible rfl
    simp only [List.getElem_toArray, List.getElem_cons_succ, List.getElem_cons_zero, Act.put, List.setIfInBounds_toArray, List.set_cons_zero, List.set_cons_succ]
    refine wpAnyH_take (i := 1) (v := ?_) rfl (by kernel_rfl) (by kernel_rfl) (by kernel_rfl) (fun _ _ _ h => h) (Or.inl ⟨by kernel_rfl, ?_⟩) (by assumption) ?_
    rotate_left
    · intro w hSw
      try dsimp only at hSw
      go_simp
      try with_reducible rfl
    simp only [List.getElem_toArray, List.getElem_cons_succ, List.getElem_cons_zero, Act.put, List.setIfInBounds_toArray, List.set_cons_zero, List.set_cons_succ]
    refine wpAnyH_take (i := 2) (v := ?_) rfl (by kernel_rfl) (by kernel_rfl) (by kernel_rfl) (fun _ _ _ h => h) (Or.inl ⟨by kernel_rfl, ?_⟩) (by assumption) ?_
    rotate_left
    · intro w hSw
      try dsimp only at hSw
      go_simp
      try with_reducible rfl
    simp only [List.getElem_toArray, List.getElem_cons_succ, List.getElem_cons_zero, Act.put, List.setIfInBounds_toArray, List.set_cons_zero, List.set_cons_succ]
    refine wpAnyH_take (i := 3) (v := ?_) rfl (by kernel_rfl) (by kernel_rfl) (by kernel_rfl) (fun _ _ _ h => h) (Or.inl ⟨by kernel_rfl, ?_⟩) (by assumption) ?_
    rotate_left
    · intro w hSw
      try dsimp only at hSw
      go_simp
      try with_reducible rfl
    simp only [List.getElem_toArray, List.getElem_cons_succ, List.getElem_cons_zero, Act.put, List.setIfInBounds_toArray, List.set_cons_zero, List.set_cons_succ]
    refine wpAnyH_take (i := 4) (v := ?_) rfl (by kernel_rfl) (by kernel_rfl) (by kernel_rfl) (fun _ _ _ h => h) (Or.inl ⟨by kernel_rfl, ?_⟩) (by assumption) ?_
    rotate_left
    · intro w hSw
      try dsimp only at hSw
      go_simp
      try with_reducible rfl
    simp only [List.getElem_toArray, List.getElem_cons_succ, List.getElem_cons_zero, Act.put, List.setIfInBounds_toArray, List.set_cons_zero, List.set_cons_succ]
    refine wpAnyH_take (i := 5) (v := ?_) rfl (by kernel_rfl) (by kernel_rfl) (by kernel_rfl) (fun _ _ _ h => h) (Or.inl ⟨by kernel_rfl, ?_⟩) (by assumption) ?_
    rotate_left
    · intro w hSw
      try dsimp only at hSw
      go_simp
      try with_reducible rfl
    simp only [List.getElem_toArray, List.getElem_cons_succ, List.getElem_cons_zero, Act.put, List.setIfInBounds_toArray, List.set_cons_zero, List.set_cons_succ]
    refine wpAnyH_take (i := 6) (v := ?_) rfl (by kernel_rfl) (by kernel_rfl) (by kernel_rfl) (fun _ _ _ h => h) (Or.inl ⟨by kernel_rfl, ?_⟩) (by assumption) ?_
    rotate_left
    · intro w hSw
      try dsimp only at hSw
      go_simp
      try with_reducible rfl
    simp only [List.getElem_toArray, List.getElem_cons_succ, List.getElem_cons_zero, Act.put, List.setIfInBounds_toArray, List.set_cons_zero, List.set_cons_succ]
    refine wpAnyH_take (i := 7) (v := ?_) rfl (by kernel_rfl) (by kernel_rfl) (by kernel_rfl) (fun _ _ _ h => h) (Or.inl ⟨by kernel_rfl, ?_⟩) (by assumption) ?_
    rotate_left
    · intro w hSw
      try dsimp only at hSw
      go_simp
      try with_reducible rfl
    simp only [List.getElem_toArray, List.getElem_cons_succ, List.getElem_cons_zero, Act.put, List.setIfInBounds_toArray, List.set_cons_zero, List.set_cons_succ]
    refine wpAnyH_take (i := 8) (v := ?_) rfl (by kernel_rfl) (by kernel_rfl) (by kernel_rfl) (fun _ _ _ h => h) (Or.inl ⟨by kernel_rfl, ?_⟩) (by assumption) ?_
    rotate_left
    · intro w hSw
      try dsimp only at hSw
      go_simp
      try with_reducible rfl
    simp only [List.getElem_toArray, List.getElem_cons_succ, List.getElem_cons_zero, Act.put, List.setIfInBounds_toArray, List.set_cons_zero, List.set_cons_succ]
    refine wpAnyH_take (i := 9) (v := ?_) rfl (by kernel_rfl) (by kernel_rfl) (by kernel_rfl) (fun _ _ _ h => h) (Or.inl ⟨by kernel_rfl, ?_⟩) (by assumption) ?_
    rotate_left
    · intro w hSw
      try dsimp only at hSw
      go_simp
      try with_reducible rfl
    simp only [List.getElem_toArray, List.getElem_cons_succ, List.getElem_cons_zero, Act.put, List.setIfInBounds_toArray, List.set_cons_zero, List.set_cons_succ]
    refine wpAnyH_take (i := 10) (v := ?_) rfl (by kernel_rfl) (by kernel_rfl) (by kernel_rfl) (fun _ _ _ h => h) (Or.inl ⟨by kernel_rfl, ?_⟩) (by assumption) ?_
    rotate_left
    · intro w hSw
      try dsimp only at hSw
      go_simp
      try with_reducible rfl
    simp only [List.getElem_toArray, List.getElem_cons_succ, List.getElem_cons_zero, Act.put, List.setIfInBounds_toArray, List.set_cons_zero, List.set_cons_succ]
    refine wpAnyH_take (i := 11) (v := ?_) rfl (by kernel_rfl) (by kernel_rfl) (by kernel_rfl) (fun _ _ _ h => h) (Or.inl ⟨by kernel_rfl, ?_⟩) (by assumption) ?_
    rotate_left
    · intro w hSw
      try dsimp only at hSw
      go_simp
      try with_reducible rfl
    simp only [List.getElem_toArray, List.getElem_cons_succ, List.getElem_cons_zero, Act.put, List.setIfInBounds_toArray, List.set_cons_zero, List.set_cons_succ]
    refine wpAnyH_take (i := 12) (v := ?_) rfl (by kernel_rfl) (by kernel_rfl) (by kernel_rfl) (fun _ _ _ h => h) (Or.inl ⟨by kernel_rfl, ?_⟩) (by assumption) ?_
    rotate_left
    · intro w hSw
      try dsimp only at hSw
      go_simp
      try with_reducible rfl
    simp only [List.getElem_toArray, List.getElem_cons_succ, List.getElem_cons_zero, Act.put, List.setIfInBounds_toArray, List.set_cons_zero, List.set_cons_succ]
    refine wpAnyH_take (i := 13) (v := ?_) rfl (by kernel_rfl) (by kernel_rfl) (by kernel_rfl) (fun _ _ _ h => h) (Or.inl ⟨by kernel_rfl, ?_⟩) (by assumption) ?_
    rotate_left
    · intro w hSw
      try dsimp only at hSw
      go_simp
      try with_reducible rfl
    simp only [List.getElem_toArray, List.getElem_cons_succ, List.getElem_cons_zero, Act.put, List.setIfInBounds_toArray, List.set_cons_zero, List.set_cons_succ]
    refine wpAnyH_take (i := 14) (v := ?_) rfl (by kernel_rfl) (by kernel_rfl) (by kernel_rfl) (fun _ _ _ h => h) (Or.inl ⟨by kernel_rfl, ?_⟩) (by assumption) ?_
    rotate_left
    · intro w hSw
      try dsimp only at hSw
      go_simp
      try with_reducible rfl
    simp only [List.getElem_toArray, List.getElem_cons_succ, List.getElem_cons_zero, Act.put, List.setIfInBounds_toArray, List.set_cons_zero, List.set_cons_succ]
    refine wpAnyH_take (i := 15) (v := ?_) rfl (by kernel_rfl) (by kernel_rfl) (by kernel_rfl) (fun _ _ _ h => h) (Or.inl ⟨by kernel_rfl, ?_⟩) (by assumption) ?_
    rotate_left
    · intro w hSw
      try dsimp only at hSw
      go_simp
      try with_reducible rfl
    simp only [List.getElem_toArray, List.getElem_cons_succ, List.getElem_cons_zero, Act.put, List.setIfInBounds_toArray, List.set_cons_zero, List.set_cons_succ]
    refine wpAnyH_take (i := 16) (v := ?_) rfl (by kernel_rfl) (by kernel_rfl) (by kernel_rfl) (fun _ _ _ h => h) (Or.inl ⟨by kernel_rfl, ?_⟩) (by assumption) ?_
    rotate_left
    · intro w hSw
      try dsimp only at hSw
      go_simp
      try with_reducible rfl
    simp only [List.getElem_toArray, List.getElem_cons_succ, List.getElem_cons_zero, Act.put, List.setIfInBounds_toArray, List.set_cons_zero, List.set_cons_succ]
    have g5 := cell_list X.x HA.out.f.m.occ
    have fr5 := free_at X.x 25
    have x9 := (set_far_cell x0 (p := ⟨W5.heap.size, 25, none⟩) (by simp; omega) (.int .u32 oc.toNat))
    replace X := X.set hgb 25 (.int .u32 oc.toNat)
    refine wpAnyH_ready (rs := [17]) (by kernel_rfl) (by simp) ?_
    refine AllReadyH.cons rfl (fun K hK => ?_) AllReadyH.nil
    go_simp
    refine hK.out _ _ ⟨cell_list X.f.m HA.out.f.m.occ, x9⟩ (fun hHeld => ?_)
    clear hK K hHeld
    generalize Vd.setCell ⟨W5.heap.size, 25, none⟩ (.int .u32 oc.toNat) = V1 at *
    try simp only [List.getElem_toArray, List.getElem_cons_succ, List.getElem_cons_zero, Act.put, List.setIfInBounds_toArray, List.set_cons_zero, List.set_cons_succ]
    refine wpAnyH_done (by kernel_rfl) ?_ _
    clear hk hkl x0 TA hand hocc g5 fr5 tz tz2 t0 t1 i1 hu hmn
    clear x9 hbl hHeld
    have HIM := HA.out.f.m.setOcc oc
    go_upto_region 10 with (fail)
    refine wp_region_held_drew (S := (fun w' => w'.rangeAt w.heap.size 0 L ∧ w'.rangeAt (w.heap.size + 1) 0 M ∧ w'.rangeAt W5.heap.size 25 [.int .u32 oc.toNat, .int .u32 I.nor.toNat, .int .u32 I.rev.toNat, .int .u32 I.lam.toNat] ∧ w'.rangeAt (w.heap.size + 1 + 1) 0 cs)) (by kernel_rfl) ?_ (fun hHeld => ?_)
    · exact ⟨range_of X.f.l, range_of X.f.m, in_range HIM X.x, range_of X.f.h⟩
    replace X := X.later (Below.refl _ V1).drew
    generalize V1.drew = V2 at *
    refine wpAnyH_take (i := 0) (v := .agg (L : List Value).toArray) rfl (by kernel_rfl) (by kernel_rfl) (by kernel_rfl) (fun _ _ _ h => h) (yieldsIf_load_mid (by kernel_rfl) 29 (.tmp 4) (by kernel_rfl) (w.heap.size) 0 (by kernel_rfl) L _ (fun w' h => h.1) (by first | exact Try.underlying29) rfl (by first | assumption | (simp only [*]; kernel_rfl))) (by assumption) ?_
    try simp only [List.getElem_toArray, List.getElem_cons_succ, List.getElem_cons_zero, Act.put, List.setIfInBounds_toArray, List.set_cons_zero, List.set_cons_succ]
    refine wpAnyH_take (i := 1) (v := .agg (L : List Value).toArray) rfl (by kernel_rfl) (by kernel_rfl) (by kernel_rfl) (fun _ _ _ h => h) (yieldsIf_load_mid (by kernel_rfl) 29 (.tmp 4) (by kernel_rfl) (w.heap.size) 0 (by kernel_rfl) L _ (fun w' h => h.1) (by first | exact Try.underlying29) rfl (by first | assumption | (simp only [*]; kernel_rfl))) (by assumption) ?_
    try simp only [List.getElem_toArray, List.getElem_cons_succ, List.getElem_cons_zero, Act.put, List.setIfInBounds_toArray, List.set_cons_zero, List.set_cons_succ]
    refine wpAnyH_take (i := 2) (v := .agg (M : List Value).toArray) rfl (by kernel_rfl) (by kernel_rfl) (by kernel_rfl) (fun _ _ _ h => h) (yieldsIf_load_mid (by kernel_rfl) 35 (.tmp 5) (by kernel_rfl) (w.heap.size + 1) 0 (by kernel_rfl) M _ (fun w' h => h.2.1) (by first | exact Try.underlying35) rfl (by first | assumption | (simp only [*]; kernel_rfl))) (by assumption) ?_
    try simp only [List.getElem_toArray, List.getElem_cons_succ, List.getElem_cons_zero, Act.put, List.setIfInBounds_toArray, List.set_cons_zero, List.set_cons_succ]
    refine wpAnyH_take (i := 3) (v := ?_) rfl (by kernel_rfl) (by kernel_rfl) (by kernel_rfl) (fun _ _ _ h => h) (Or.inl ⟨by kernel_rfl, ?_⟩) (by assumption) ?_
    rotate_left
    · intro w hSw
      try dsimp only at hSw
      go_simp
      try with_reducible rfl
    simp only [List.getElem_toArray, List.getElem_cons_succ, List.getElem_cons_zero, Act.put, List.setIfInBounds_toArray, List.set_cons_zero, List.set_cons_succ]
    refine wpAnyH_take (i := 4) (v := .agg ([.int .u32 oc.toNat, .int .u32 I.nor.toNat, .int .u32 I.rev.toNat, .int .u32 I.lam.toNat] : List Value).toArray) rfl (by kernel_rfl) (by kernel_rfl) (by kernel_rfl) (fun _ _ _ h => h) (yieldsIf_load_mid (by kernel_rfl) 33 (.tmp 73) (by kernel_rfl) (W5.heap.size) (25) (by kernel_rfl) [.int .u32 oc.toNat, .int .u32 I.nor.toNat, .int .u32 I.rev.toNat, .int .u32 I.lam.toNat] _ (fun w' h => h.2.2.1) (by first | exact Try.underlying33) rfl (by first | assumption | (simp only [*]; kernel_rfl) | kernel_rfl)) (by assumption) ?_
    simp only [List.getElem_toArray, List.getElem_cons_succ, List.getElem_cons_zero, Act.put, List.setIfInBounds_toArray, List.set_cons_zero, List.set_cons_succ]
    refine wpAnyH_take (i := 6) (v := .agg (cs : List Value).toArray) rfl (by kernel_rfl) (by kernel_rfl) (by kernel_rfl) (fun _ _ _ h => h) (yieldsIf_load_mid (by kernel_rfl) 52 (.tmp 6) (by kernel_rfl) (w.heap.size + 1 + 1) 0 (by kernel_rfl) cs _ (fun w' h => h.2.2.2) (by first | exact Try.underlying52) rfl (by first | assumption | (simp only [*]; kernel_rfl))) (by assumption) ?_
    try simp only [List.getElem_toArray, List.getElem_cons_succ, List.getElem_cons_zero, Act.put, List.setIfInBounds_toArray, List.set_cons_zero, List.set_cons_succ]
    clear hHeld
    have HI := (HA.out.f.m.withIn_ oc I.nor I.rev I.lam).with_ (f := rowL oc (decide (I.st < 0)) I.free 24) (rowL_len _ _ _ _)
    obtain ⟨M2, hM2⟩ : ∃ M2, withFree (withIn M oc I.nor I.rev I.lam) (rowL oc (decide (I.st < 0)) I.free 24) = M2 := ⟨_, rfl⟩
    rw [hM2] at HI
    have HM2 := Lib.hid hM2
    clear hM2
    refine wpAnyH_ready (rs := [5]) (by kernel_rfl) (by simp) ?_
    refine AllReadyH.cons rfl (fun K hK => ?_) AllReadyH.nil
    refine Node.wp_fn 17 [.tmp 71, .tmp 72, .tmp 74] _ [.agg L.toArray, .agg M.toArray, .agg (inV oc I.nor I.rev I.lam)] (by rfl) (by rfl) (enters Try.func17 (by kernel_rfl) rfl) (refTake_c L M I.kinds.length I.nsig I.clr I.st I.age I.A I.A1 I.c I.c1 I.free I.occ I.nor I.rev I.lam oc I.nor I.rev I.lam V2 HA.out.f.l HA.out.f.m) ?_
    rintro e V3 ⟨b, rfl⟩
    refine ⟨_, rfl, ?_⟩
    rw [HM2.out]
    replace X := X.later b
    refine hK.out _ _ ⟨range_of X.f.l, range_of X.f.m, in_range HIM X.x, range_of X.f.h⟩ (fun hHeld => ?_)
    clear hK K hHeld b
    try simp only [List.getElem_toArray, List.getElem_cons_succ, List.getElem_cons_zero, Act.put, List.setIfInBounds_toArray, List.set_cons_zero, List.set_cons_succ]
    obtain ⟨I2, hI2⟩ : ∃ I2 : IM, I2 = { I with age := 0, free := rowL oc (decide (I.st < 0)) I.free 24, occ := oc } := ⟨_, rfl⟩
    have A2 : IMA I2 L M2 V3 := by rw [hI2]; exact ⟨⟨HA.out.f.l, HI⟩, (HA.out.later X.f.bel).s⟩
    have hcl : false = clearB I2.stand I2.occB I2.litB q := (clear_steps HXM.out (by
      rw [hI2, HP.out]
      exact occ_bit _ _ _ _ _ _ (by rw [← HOC.out]; exact bitV_or _ _ (by omega)))).symm
    have HCL := Lib.hid hcl
    clear hI2 hcl
    obtain ⟨hb1, hb2, hb3⟩ := HB.out
    refine wpAnyH_ready (rs := [7]) (by kernel_rfl) (by simp) ?_
    refine AllReadyH.cons rfl (fun K hK => ?_) AllReadyH.nil
    refine Node.wp_fn 13 [.tmp 70, .tmp 75, .tmp 76] _ [.agg L.toArray, .agg M2.toArray, .agg cs.toArray] (by rfl) (by rfl) (enters Try.func13 (by kernel_rfl) rfl) (Clear_c I2 L M2 cs q false V3 HCL.out A2 (HQ.out.later X.f.bel) hb1 hb2 hb3) ?_
    rintro e V4 ⟨rfl, b⟩
    refine ⟨_, rfl, ?_⟩
    replace X := X.later b
    refine hK.out _ _ ⟨range_of X.f.l, range_of X.f.m, in_range HIM X.x, range_of X.f.h⟩ (fun hHeld => ?_)
    clear hK K hHeld b A2 HCL HI HM2 hb1 hb2 hb3
    try simp only [List.getElem_toArray, List.getElem_cons_succ, List.getElem_cons_zero, Act.put, List.setIfInBounds_toArray, List.set_cons_zero, List.set_cons_succ]
    refine wpAnyH_done (by kernel_rfl) ?_ _
    by_cases hn0 : nl = 0
    · have t0 : decide ((0 : Int) < (nl : Int)) = false := decide_eq_false (by omega)
      have t1 : decide (0 < nl) = false := decide_eq_false (by omega)
      clear hll hn0
      go_upto_region 18 with (fail)
      have RM := range_of X.f.m
      obtain ⟨Va, hVa, Xa, tha⟩ := X.fill hgb (M' := M) (by simp)
      have HVa := Lib.hid hVa
      clear hVa
      go_upto_region 19 with (first
        | refine wpList_load_g (by rfl) 35 (.tmp 5) (by rfl) (w.heap.size + 1) 0 (by rfl) M _ RM Try.underlying35 rfl szM ?_
        | (refine wpList_store_mid rfl 35 (.tmp 11) (.tmp 118) (by rfl) W5.heap.size 0 M.toArray (by rfl) (by rfl) tha (by simpa using szM) oneM ?_; rw [HVa.out])
        | fail)
      have z1 := cell_list Xa.x HA.out.f.m.lam
      have f1 := free_at Xa.x 28
      replace X := Xa.set hgb 28 (.int .u32 0)
      clear HVa tha RM
      go_upto_region 20 with (fail)
      clear z1 f1 Xa
      generalize Va.setCell ⟨W5.heap.size, 28, none⟩ (.int .u32 0) = Vc at *
      have RM := range_of X.f.m
      obtain ⟨Vo, hVo, Xo, bo, tho⟩ := newv (V := Vc) M zImg 35 (by rw [HA.out.f.m.len]; rfl)
      have HVo := Lib.hid hVo
      have hgo := lt_at X.x
      clear hVo
      go_upto_region 21 with (first
        | refine wpList_load_g (by rfl) 35 (.tmp 5) (by rfl) (w.heap.size + 1) 0 (by rfl) M _ RM Try.underlying35 rfl szM ?_
        | (refine wpList_store_mid rfl 35 (.tmp 13) (.tmp 121) (by rfl) Vc.heap.size 0 M.toArray (by rfl) (by rfl) tho (by simpa using szM) oneM ?_; rw [HVo.out])
        | fail)
      replace X := X.later bo
      clear HVo tho RM bo
      generalize Vc.heap.size = go_ at *
      have z1 := cell_list X.f.l HA.out.f.l.st
      have z2 := cell_list Xo HA.out.f.m.age
      have f2 := free_at Xo 0
      go_upto_region 22 with (fail)
      obtain ⟨z, hz⟩ : ∃ z, wrap64 (1001 + max I.st 0) = z := ⟨_, rfl⟩
      rw [hz]
      have HZ : Hid (I.st ≤ 65535 → I.st < z) := Lib.hid (fun h => by rw [← hz, IntWalk.wrap64_in _ (by omega)]; omega)
      replace X := X.far hgb hgo 0 (.int .i64 z)
      replace Xo := set_at Xo 0 (.int .i64 z)
      rw [List.setIfInBounds_toArray] at Xo
      clear z1 z2 f2 hz
      generalize Vo.setCell ⟨go_, 0, none⟩ (.int .i64 z) = Vp at *
      have RH := range_of X.f.h
      obtain ⟨Vt, hVt, Xt, bt, tht⟩ := newv (V := Vp) cs zHeld 52 (by rw [HQ.out.len]; rfl)
      have HVt := Lib.hid hVt
      have hgt := lt_at Xo
      have oneH := all_one HQ.out.one
      clear hVt
      go_upto_region 23 with (first
        | refine wpList_load_g (by rfl) 52 (.tmp 6) (by rfl) (w.heap.size + 1 + 1) 0 (by rfl) cs _ RH Try.underlying52 rfl szH ?_
        | (refine wpList_store_mid rfl 52 (.tmp 14) (.tmp 128) (by rfl) Vp.heap.size 0 cs.toArray (by rfl) (by rfl) tht (by simpa using szH) oneH ?_; rw [HVt.out])
        | fail)
      replace X := X.later bt
      replace Xo := var_later Xo bt
      clear HVt tht RH bt
      generalize Vp.heap.size = gt_ at *
      have z1 := cell_list Xt HQ.out.stage
      have f1 := free_at Xt 6
      go_upto_region 24 with (fail)
      replace X := X.far hgb (by omega) 6 (.int .u8 3) (g := gt_)
      replace Xo := set_far Xo (p := ⟨gt_, 6, none⟩) (by simp; omega) (.int .u8 3)
      replace Xt := set_at Xt 6 (.int .u8 3)
      rw [List.setIfInBounds_toArray] at Xt
      clear z1 f1
      generalize Vt.setCell ⟨gt_, 6, none⟩ (.int .u8 3) = Vq at *
      obtain ⟨hb1, hb2, hb3⟩ := HB.out
      have HL0 := HA.out.f.m.setLam 0#32
      have szB := img_size HL0.len
      have szO := img_size (HA.out.f.m.setAge z).len
      have szT := held_size (HQ.out.setStage 3).len
      obtain ⟨I6, hI6⟩ : ∃ I6 : IM, I6 = { I with lam := 0#32 } := ⟨_, rfl⟩
      have A6 : IMA I6 L (M.set 28 (.int .u32 0)) Vq := by rw [hI6]; exact ⟨⟨HA.out.f.l, HL0⟩, (HA.out.later X.f.bel).s⟩
      have HC6 : Hid (false = clearB I6.stand I6.occB I6.litB q) := Lib.hid (clearB_dark (by rw [hI6]; exact lit_dark _ _ _)).symm
      have HCO : Hid (false = clearB I.stand I.occB I.litB { q with stage := 3 }) := Lib.hid (stage_clear rfl).symm
      clear hI6 HL0
      have RL := range_of X.f.l
      have RB := range_of X.x
      have RH := range_of X.f.h
      go_wp2_with (first
        | refine wpList_load_g (by rfl) 29 (.tmp 4) (by rfl) w.heap.size 0 (by rfl) L _ RL Try.underlying29 rfl szL ?_
        | refine wpList_load_g (by rfl) 35 (.tmp 11) (by rfl) W5.heap.size 0 (by rfl) (M.set 28 (.int .u32 0)) _ RB Try.underlying35 rfl szB ?_
        | refine wpList_load_g (by rfl) 52 (.tmp 6) (by rfl) (w.heap.size + 1 + 1) 0 (by rfl) cs _ RH Try.underlying52 rfl szH ?_
        | fail)
      refine (Clear_c I6 L (M.set 28 (.int .u32 0)) cs q false _ HC6.out A6 (HQ.out.later X.f.bel) hb1 hb2 hb3).mono ?_
      rintro e Vr ⟨rfl, b⟩
      replace X := X.later b
      replace Xo := var_later Xo b
      replace Xt := var_later Xt b
      clear b RL RB RH A6 HC6 szB
      have z1 := cell_list X.f.l HA.out.f.l.st
      obtain ⟨d, hd⟩ : ∃ d, decide ((65535 : Int) < I.st) = d := ⟨_, rfl⟩
      have RL := range_of X.f.l
      have RM := range_of X.f.m
      have RO := range_of Xo
      have RH := range_of X.f.h
      have RT := range_of Xt
      cases d
      · have hst := HZ.out (by have := of_decide_eq_false hd; omega)
        obtain ⟨I7, hI7⟩ : ∃ I7 : IM, I7 = { I with age := z } := ⟨_, rfl⟩
        have A7 : IMA I7 L (M.set 0 (.int .i64 z)) Vr := by rw [hI7]; exact ⟨⟨HA.out.f.l, HA.out.f.m.setAge z⟩, (HA.out.later X.f.bel).s⟩
        have HC7 : Hid (false = clearB I7.stand I7.occB I7.litB q) := Lib.hid (clearB_dark (by
          rw [hI7]
          show litV I.nsig I.lam (decide (I.st < z)) q.sig = false
          rw [decide_eq_true hst]; simp [litV])).symm
        clear hI7 hst
        go_wp2_with (first
          | refine wpList_load_g (by rfl) 29 (.tmp 4) (by rfl) w.heap.size 0 (by rfl) L _ RL Try.underlying29 rfl szL ?_
          | refine wpList_load_g (by rfl) 35 (.tmp 13) (by rfl) go_ 0 (by rfl) (M.set 0 (.int .i64 z)) _ RO Try.underlying35 rfl szO ?_
          | refine wpList_load_g (by rfl) 52 (.tmp 6) (by rfl) (w.heap.size + 1 + 1) 0 (by rfl) cs _ RH Try.underlying52 rfl szH ?_
          | fail)
        refine (Clear_c I7 L (M.set 0 (.int .i64 z)) cs q false _ HC7.out A7 (HQ.out.later X.f.bel) hb1 hb2 hb3).mono ?_
        rintro e Vs ⟨rfl, b⟩
        replace X := X.later b
        replace Xt := var_later Xt b
        clear b RL RM RO RH RT A7 HC7 Xo z1
        have RL := range_of X.f.l
        have RM := range_of X.f.m
        have RT := range_of Xt
        go_wp2_with (first
          | refine wpList_load_g (by rfl) 29 (.tmp 4) (by rfl) w.heap.size 0 (by rfl) L _ RL Try.underlying29 rfl szL ?_
          | refine wpList_load_g (by rfl) 35 (.tmp 5) (by rfl) (w.heap.size + 1) 0 (by rfl) M _ RM Try.underlying35 rfl szM ?_
          | refine wpList_load_g (by rfl) 52 (.tmp 14) (by rfl) gt_ 0 (by rfl) (cs.set 6 (.int .u8 3)) _ RT Try.underlying52 rfl szT ?_
          | fail)
        refine (Clear_c I L M (cs.set 6 (.int .u8 3)) { q with stage := 3 } false _ HCO.out (HA.out.later X.f.bel) ((HQ.out.later X.f.bel).setStage 3) hb1 hb2 hb3).mono ?_
        rintro e Vx ⟨rfl, b⟩
        replace X := X.later b
        go_wp2_with fail
        refine (wakes_c _).mono ?_
        rintro e Vy ⟨rfl, b2⟩
        have B := below_step X.f.bel b2
        go_wp2
        go_ret
        exact ⟨rfl, B⟩
      · clear RO RH Xo
        go_wp2_with (first
          | refine wpList_load_g (by rfl) 29 (.tmp 4) (by rfl) w.heap.size 0 (by rfl) L _ RL Try.underlying29 rfl szL ?_
          | refine wpList_load_g (by rfl) 35 (.tmp 5) (by rfl) (w.heap.size + 1) 0 (by rfl) M _ RM Try.underlying35 rfl szM ?_
          | refine wpList_load_g (by rfl) 52 (.tmp 14) (by rfl) gt_ 0 (by rfl) (cs.set 6 (.int .u8 3)) _ RT Try.underlying52 rfl szT ?_
          | fail)
        refine (Clear_c I L M (cs.set 6 (.int .u8 3)) { q with stage := 3 } false _ HCO.out (HA.out.later X.f.bel) ((HQ.out.later X.f.bel).setStage 3) hb1 hb2 hb3).mono ?_
        rintro e Vx ⟨rfl, b⟩
        replace X := X.later b
        go_wp2_with fail
        refine (wakes_c _).mono ?_
        rintro e Vy ⟨rfl, b2⟩
        have B := below_step X.f.bel b2
        go_wp2
        go_ret
        exact ⟨rfl, B⟩
    · have hn1 : 0 < nl := by omega
      have t0 : decide ((0 : Int) < (nl : Int)) = true := decide_eq_true (by omega)
      have t1 : decide (0 < nl) = true := decide_eq_true hn1
      have RM := range_of X.f.m
      obtain ⟨Va, hVa, Xa, tha⟩ := X.fill hgb (M' := M) (by simp)
      have HVa := Lib.hid hVa
      clear hVa
      go_upto_region 14 with (first
        | refine wpList_load_g (by rfl) 35 (.tmp 5) (by rfl) (w.heap.size + 1) 0 (by rfl) M _ RM Try.underlying35 rfl szM ?_
        | (refine wpList_store_mid rfl 35 (.tmp 11) (.tmp 81) (by rfl) W5.heap.size 0 M.toArray (by rfl) (by rfl) tha (by simpa using szM) oneM ?_; rw [HVa.out])
        | fail)
      clear HVa tha RM X t0 t1 hn0
      have X := Xa
      clear Xa
      obtain ⟨k2, hk, hkl⟩ := tmod_at at_ nl ha0 hn1
      obtain ⟨y, hy⟩ : ∃ x, l[k2]? = some x := ⟨_, List.getElem?_eq_getElem (by rw [HNL.out]; exact hkl)⟩
      have hym : y ∈ needsL q := by rw [HL.out]; exact List.mem_of_getElem? hy
      have hyn := HND.out y (List.mem_filter.1 hym).1
      obtain ⟨hy0, hy24, hyp0, hyp1, _, _⟩ := hyn
      obtain ⟨p2, hp⟩ := Int.eq_ofNat_of_zero_le hy0
      have HYM := Lib.hid (And.intro hym (And.intro hyp0 hyp1))
      have HP2 := Lib.hid hp
      obtain ⟨bn, on, ccn, hva, x0, x1, x2⟩ := t3_cells TN hy
      obtain ⟨rfl, hdrop, rfl⟩ := Value.slice.inj hva
      rw [hp] at x0 hy24
      have hbl : bn < W5.heap.size := lt_of_cell x0
      replace x0 := cell_later x0 X.b
      have hp24' : p2 < 24 := by omega
      have hand := and31 (p2 : Int) (by omega) (by omega)
      have hu := IntWalk.u64_in (p2 : Int) (by omega)
      have i1 : (k2 : Int) < (nl : Int) := by omega
      have tz : ((nl : Int) == 0) = false := by simp; omega
      have tz2 : (nl = 0) = False := by simp; omega
      clear x1 x2 hva hdrop hy hym hy0 hp hy24 hyp0 hyp1
      go_upto_region 15 with (fail)
      clear x0 hbl hand i1 tz tz2 hk hkl
      have hmn : min p2 32 = p2 := by omega
      have hnor := or_wrap I.nor p2 (by omega)
      have hrev := or_wrap I.rev p2 (by omega)
      obtain ⟨nn, hnn⟩ : ∃ oc, I.nor ||| BitVec.twoPow 32 p2 = oc := ⟨_, rfl⟩
      obtain ⟨rr, hrr⟩ : ∃ oc, I.rev ||| BitVec.twoPow 32 p2 = oc := ⟨_, rfl⟩
      rw [hnn] at hnor
      rw [hrr] at hrev
      have HNN := Lib.hid hnn
      have HRR := Lib.hid hrr
      clear hnn hrr
      refine wp_region_held_drew (S := (fun w' => w'.cell? ⟨w.heap.size + 1, 26, none⟩ = some (.int .u32 I.nor.toNat) ∧ w'.cell? ⟨w.heap.size + 1, 27, none⟩ = some (.int .u32 I.rev.toNat))) (by kernel_rfl) ?_ (fun hHeld => ?_)
      · exact ⟨cell_list X.f.m HA.out.f.m.nor, cell_list X.f.m HA.out.f.m.rev⟩
      replace X := X.later (Below.refl _ Va).drew
      generalize Va.drew = Vd2 at *
      refine wpAnyH_take (i := 0) (v := ?_) rfl (by kernel_rfl) (by kernel_rfl) (by kernel_rfl) (fun _ _ _ h => h) (Or.inl ⟨by kernel_rfl, ?_⟩) (by assumption) ?_
      rotate_left
      · intro w hSw
        try dsimp only at hSw
        go_simp
        try with_reducible rfl
      simp only [List.getElem_toArray, List.getElem_cons_succ, List.getElem_cons_zero, Act.put, List.setIfInBounds_toArray, List.set_cons_zero, List.set_cons_succ]
      refine wpAnyH_take (i := 1) (v := ?_) rfl (by kernel_rfl) (by kernel_rfl) (by kernel_rfl) (fun _ _ _ h => h) (Or.inl ⟨by kernel_rfl, ?_⟩) (by assumption) ?_
      rotate_left
      · intro w hSw
        try dsimp only at hSw
        go_simp
        try with_reducible rfl
      simp only [List.getElem_toArray, List.getElem_cons_succ, List.getElem_cons_zero, Act.put, List.setIfInBounds_toArray, List.set_cons_zero, List.set_cons_succ]
      refine wpAnyH_take (i := 2) (v := ?_) rfl (by kernel_rfl) (by kernel_rfl) (by kernel_rfl) (fun _ _ _ h => h) (Or.inl ⟨by kernel_rfl, ?_⟩) (by assumption) ?_
      rotate_left
      · intro w hSw
        try dsimp only at hSw
        go_simp
        try with_reducible rfl
      simp only [List.getElem_toArray, List.getElem_cons_succ, List.getElem_cons_zero, Act.put, List.setIfInBounds_toArray, List.set_cons_zero, List.set_cons_succ]
      refine wpAnyH_take (i := 3) (v := ?_) rfl (by kernel_rfl) (by kernel_rfl) (by kernel_rfl) (fun _ _ _ h => h) (Or.inl ⟨by kernel_rfl, ?_⟩) (by assumption) ?_
      rotate_left
      · intro w hSw
        try dsimp only at hSw
        go_simp
        try with_reducible rfl
      simp only [List.getElem_toArray, List.getElem_cons_succ, List.getElem_cons_zero, Act.put, List.setIfInBounds_toArray, List.set_cons_zero, List.set_cons_succ]
      refine wpAnyH_take (i := 4) (v := ?_) rfl (by kernel_rfl) (by kernel_rfl) (by kernel_rfl) (fun _ _ _ h => h) (Or.inl ⟨by kernel_rfl, ?_⟩) (by assumption) ?_
      rotate_left
      · intro w hSw
        try dsimp only at hSw
        go_simp
        try with_reducible rfl
      simp only [List.getElem_toArray, List.getElem_cons_succ, List.getElem_cons_zero, Act.put, List.setIfInBounds_toArray, List.set_cons_zero, List.set_cons_succ]
      refine wpAnyH_take (i := 5) (v := ?_) rfl (by kernel_rfl) (by kernel_rfl) (by kernel_rfl) (fun _ _ _ h => h) (Or.inl ⟨by kernel_rfl, ?_⟩) (by assumption) ?_
      rotate_left
      · intro w hSw
        try dsimp only at hSw
        go_simp
        try with_reducible rfl
      simp only [List.getElem_toArray, List.getElem_cons_succ, List.getElem_cons_zero, Act.put, List.setIfInBounds_toArray, List.set_cons_zero, List.set_cons_succ]
      refine wpAnyH_take (i := 6) (v := ?_) rfl (by kernel_rfl) (by kernel_rfl) (by kernel_rfl) (fun _ _ _ h => h) (Or.inl ⟨by kernel_rfl, ?_⟩) (by assumption) ?_
      rotate_left
      · intro w hSw
        try dsimp only at hSw
        go_simp
        try with_reducible rfl
      simp only [List.getElem_toArray, List.getElem_cons_succ, List.getElem_cons_zero, Act.put, List.setIfInBounds_toArray, List.set_cons_zero, List.set_cons_succ]
      refine wpAnyH_take (i := 7) (v := ?_) rfl (by kernel_rfl) (by kernel_rfl) (by kernel_rfl) (fun _ _ _ h => h) (Or.inl ⟨by kernel_rfl, ?_⟩) (by assumption) ?_
      rotate_left
      · intro w hSw
        try dsimp only at hSw
        go_simp
        try with_reducible rfl
      simp only [List.getElem_toArray, List.getElem_cons_succ, List.getElem_cons_zero, Act.put, List.setIfInBounds_toArray, List.set_cons_zero, List.set_cons_succ]
      refine wpAnyH_take (i := 8) (v := ?_) rfl (by kernel_rfl) (by kernel_rfl) (by kernel_rfl) (fun _ _ _ h => h) (Or.inl ⟨by kernel_rfl, ?_⟩) (by assumption) ?_
      rotate_left
      · intro w hSw
        try dsimp only at hSw
        go_simp
        try with_reducible rfl
      simp only [List.getElem_toArray, List.getElem_cons_succ, List.getElem_cons_zero, Act.put, List.setIfInBounds_toArray, List.set_cons_zero, List.set_cons_succ]
      refine wpAnyH_take (i := 9) (v := ?_) rfl (by kernel_rfl) (by kernel_rfl) (by kernel_rfl) (fun _ _ _ h => h) (Or.inl ⟨by kernel_rfl, ?_⟩) (by assumption) ?_
      rotate_left
      · intro w hSw
        try dsimp only at hSw
        go_simp
        try with_reducible rfl
      simp only [List.getElem_toArray, List.getElem_cons_succ, List.getElem_cons_zero, Act.put, List.setIfInBounds_toArray, List.set_cons_zero, List.set_cons_succ]
      refine wpAnyH_take (i := 10) (v := ?_) rfl (by kernel_rfl) (by kernel_rfl) (by kernel_rfl) (fun _ _ _ h => h) (Or.inl ⟨by kernel_rfl, ?_⟩) (by assumption) ?_
      rotate_left
      · intro w hSw
        try dsimp only at hSw
        go_simp
        try with_reducible rfl
      simp only [List.getElem_toArray, List.getElem_cons_succ, List.getElem_cons_zero, Act.put, List.setIfInBounds_toArray, List.set_cons_zero, List.set_cons_succ]
      refine wpAnyH_take (i := 11) (v := ?_) rfl (by kernel_rfl) (by kernel_rfl) (by kernel_rfl) (fun _ _ _ h => h) (Or.inl ⟨by kernel_rfl, ?_⟩) (by assumption) ?_
      rotate_left
      · intro w hSw
        try dsimp only at hSw
        go_simp
        try with_reducible rfl
      simp only [List.getElem_toArray, List.getElem_cons_succ, List.getElem_cons_zero, Act.put, List.setIfInBounds_toArray, List.set_cons_zero, List.set_cons_succ]
      refine wpAnyH_take (i := 12) (v := ?_) rfl (by kernel_rfl) (by kernel_rfl) (by kernel_rfl) (fun _ _ _ h => h) (Or.inl ⟨by kernel_rfl, ?_⟩) (by assumption) ?_
      rotate_left
      · intro w hSw
        try dsimp only at hSw
        go_simp
        try with_reducible rfl
      simp only [List.getElem_toArray, List.getElem_cons_succ, List.getElem_cons_zero, Act.put, List.setIfInBounds_toArray, List.set_cons_zero, List.set_cons_succ]
      refine wpAnyH_take (i := 13) (v := ?_) rfl (by kernel_rfl) (by kernel_rfl) (by kernel_rfl) (fun _ _ _ h => h) (Or.inl ⟨by kernel_rfl, ?_⟩) (by assumption) ?_
      rotate_left
      · intro w hSw
        try dsimp only at hSw
        go_simp
        try with_reducible rfl
      simp only [List.getElem_toArray, List.getElem_cons_succ, List.getElem_cons_zero, Act.put, List.setIfInBounds_toArray, List.set_cons_zero, List.set_cons_succ]
      clear hHeld
      have g5 := cell_list X.x HA.out.f.m.nor
      have fr5 := free_at X.x 26
      replace X := X.set hgb 26 (.int .u32 nn.toNat)
      have HI1 := HA.out.f.m.setNor nn
      refine wpAnyH_ready (rs := [14]) (by kernel_rfl) (by simp) ?_
      refine AllReadyH.cons rfl (fun K hK => ?_) AllReadyH.nil
      go_simp
      refine hK.out _ _ ⟨cell_list X.f.m HA.out.f.m.nor, cell_list X.f.m HA.out.f.m.rev⟩ (fun hHeld => ?_)
      clear hK K g5 fr5
      generalize Vd2.setCell ⟨W5.heap.size, 26, none⟩ (.int .u32 nn.toNat) = Vd3 at *
      try simp only [List.getElem_toArray, List.getElem_cons_succ, List.getElem_cons_zero, Act.put, List.setIfInBounds_toArray, List.set_cons_zero, List.set_cons_succ]
      refine wpAnyH_take (i := 15) (v := ?_) rfl (by kernel_rfl) (by kernel_rfl) (by kernel_rfl) (fun _ _ _ h => h) (Or.inl ⟨by kernel_rfl, ?_⟩) (by assumption) ?_
      rotate_left
      · intro w hSw
        try dsimp only at hSw
        go_simp
        try with_reducible rfl
      simp only [List.getElem_toArray, List.getElem_cons_succ, List.getElem_cons_zero, Act.put, List.setIfInBounds_toArray, List.set_cons_zero, List.set_cons_succ]
      refine wpAnyH_take (i := 16) (v := ?_) rfl (by kernel_rfl) (by kernel_rfl) (by kernel_rfl) (fun _ _ _ h => h) (Or.inl ⟨by kernel_rfl, ?_⟩) (by assumption) ?_
      rotate_left
      · intro w hSw
        try dsimp only at hSw
        go_simp
        try with_reducible rfl
      simp only [List.getElem_toArray, List.getElem_cons_succ, List.getElem_cons_zero, Act.put, List.setIfInBounds_toArray, List.set_cons_zero, List.set_cons_succ]
      clear hHeld
      have g5 := cell_list X.x HI1.rev
      have fr5 := free_at X.x 27
      replace X := X.set hgb 27 (.int .u32 rr.toNat)
      have HI2 := HI1.setRev rr
      obtain ⟨M3, hM3⟩ : ∃ M3, (M.set 26 (.int .u32 nn.toNat)).set 27 (.int .u32 rr.toNat) = M3 := ⟨_, rfl⟩
      rw [hM3] at X HI2
      clear hM3 HI1
      refine wpAnyH_ready (rs := [17]) (by kernel_rfl) (by simp) ?_
      refine AllReadyH.cons rfl (fun K hK => ?_) AllReadyH.nil
      go_simp
      refine hK.out _ _ ⟨cell_list X.f.m HA.out.f.m.nor, cell_list X.f.m HA.out.f.m.rev⟩ (fun hHeld => ?_)
      clear hK K g5 fr5 hHeld
      generalize Vd3.setCell ⟨W5.heap.size, 27, none⟩ (.int .u32 rr.toNat) = Vd4 at *
      try simp only [List.getElem_toArray, List.getElem_cons_succ, List.getElem_cons_zero, Act.put, List.setIfInBounds_toArray, List.set_cons_zero, List.set_cons_succ]
      refine wpAnyH_done (by kernel_rfl) ?_ _
      clear hnor hrev hmn hu
      obtain ⟨I3, hI3⟩ : ∃ I3 : IM, I3 = { I with nor := nn, rev := rr } := ⟨_, rfl⟩
      have A3_ : ∀ V, Below w.heap.size w V → IMA I3 L M3 V := fun V b => by rw [hI3]; exact ⟨⟨HA.out.f.l, HI2⟩, (HA.out.later b).s⟩
      have hpr : provesB I3.stand q = false := by
        obtain ⟨ym, yp0, yp1⟩ := HYM.out
        refine provesB_bad ym ?_
        rw [hI3, HP2.out]
        have : atV I.kinds nn rr (decide (I.st < I.age)) (p2 : Int) = -1 := at_both _ _ _ _ _ (by rw [← HNN.out]; exact bitV_or _ _ (by omega)) (by rw [← HRR.out]; exact bitV_or _ _ (by omega))
        show atV I.kinds nn rr (decide (I.st < I.age)) (p2 : Int) ≠ y.2.1
        rw [this]; omega
      have HPR := Lib.hid hpr.symm
      have HCL := Lib.hid (clearB_proves (occ := I3.occB) (lit := I3.litB) hpr).symm
      have HA3 := Lib.hid A3_
      clear hI3 A3_ hpr
      obtain ⟨hb1, hb2, hb3⟩ := HB.out
      have szM3 := img_size HI2.len
      have RL := range_of X.f.l
      have RB := range_of X.x
      have RH := range_of X.f.h
      go_wp2_with (first
        | refine wpList_load_g (by rfl) 29 (.tmp 4) (by rfl) w.heap.size 0 (by rfl) L _ RL Try.underlying29 rfl szL ?_
        | refine wpList_load_g (by rfl) 35 (.tmp 11) (by rfl) W5.heap.size 0 (by rfl) M3 _ RB Try.underlying35 rfl szM3 ?_
        | refine wpList_load_g (by rfl) 52 (.tmp 6) (by rfl) (w.heap.size + 1 + 1) 0 (by rfl) cs _ RH Try.underlying52 rfl szH ?_
        | fail)
      refine (Clear_c I3 L M3 cs q false _ HCL.out (HA3.out _ X.f.bel) (HQ.out.later X.f.bel) hb1 hb2 hb3).mono ?_
      rintro e Vd5 ⟨rfl, b⟩
      replace X := X.later b
      clear b RL RB RH
      have RL := range_of X.f.l
      have RB := range_of X.x
      have RH := range_of X.f.h
      go_wp2_with (first
        | refine wpList_load_g (by rfl) 29 (.tmp 4) (by rfl) w.heap.size 0 (by rfl) L _ RL Try.underlying29 rfl szL ?_
        | refine wpList_load_g (by rfl) 35 (.tmp 11) (by rfl) W5.heap.size 0 (by rfl) M3 _ RB Try.underlying35 rfl szM3 ?_
        | refine wpList_load_g (by rfl) 52 (.tmp 6) (by rfl) (w.heap.size + 1 + 1) 0 (by rfl) cs _ RH Try.underlying52 rfl szH ?_
        | fail)
      refine (Proves_c I3 L M3 cs q false _ HPR.out (HA3.out _ X.f.bel) (HQ.out.later X.f.bel) hb1).mono ?_
      rintro e Vd6 ⟨rfl, b⟩
      replace X := X.later b
      clear b RL RB RH hb1 hb2 hb3 szM3
      go_upto_region 18 with (fail)
      have RM := range_of X.f.m
      obtain ⟨Va, hVa, Xa, tha⟩ := X.fill hgb (M' := M) (by rw [HA.out.f.m.len, HI2.len])
      have HVa := Lib.hid hVa
      clear hVa
      go_upto_region 19 with (first
        | refine wpList_load_g (by rfl) 35 (.tmp 5) (by rfl) (w.heap.size + 1) 0 (by rfl) M _ RM Try.underlying35 rfl szM ?_
        | (refine wpList_store_mid rfl 35 (.tmp 11) (.tmp 118) (by rfl) W5.heap.size 0 M.toArray (by rfl) (by rfl) tha (by simpa using szM) oneM ?_; rw [HVa.out])
        | fail)
      have z1 := cell_list Xa.x HA.out.f.m.lam
      have f1 := free_at Xa.x 28
      replace X := Xa.set hgb 28 (.int .u32 0)
      clear HVa tha RM
      go_upto_region 20 with (fail)
      clear z1 f1 Xa
      generalize Va.setCell ⟨W5.heap.size, 28, none⟩ (.int .u32 0) = Vc at *
      have RM := range_of X.f.m
      obtain ⟨Vo, hVo, Xo, bo, tho⟩ := newv (V := Vc) M zImg 35 (by rw [HA.out.f.m.len]; rfl)
      have HVo := Lib.hid hVo
      have hgo := lt_at X.x
      clear hVo
      go_upto_region 21 with (first
        | refine wpList_load_g (by rfl) 35 (.tmp 5) (by rfl) (w.heap.size + 1) 0 (by rfl) M _ RM Try.underlying35 rfl szM ?_
        | (refine wpList_store_mid rfl 35 (.tmp 13) (.tmp 121) (by rfl) Vc.heap.size 0 M.toArray (by rfl) (by rfl) tho (by simpa using szM) oneM ?_; rw [HVo.out])
        | fail)
      replace X := X.later bo
      clear HVo tho RM bo
      generalize Vc.heap.size = go_ at *
      have z1 := cell_list X.f.l HA.out.f.l.st
      have z2 := cell_list Xo HA.out.f.m.age
      have f2 := free_at Xo 0
      go_upto_region 22 with (fail)
      obtain ⟨z, hz⟩ : ∃ z, wrap64 (1001 + max I.st 0) = z := ⟨_, rfl⟩
      rw [hz]
      have HZ : Hid (I.st ≤ 65535 → I.st < z) := Lib.hid (fun h => by rw [← hz, IntWalk.wrap64_in _ (by omega)]; omega)
      replace X := X.far hgb hgo 0 (.int .i64 z)
      replace Xo := set_at Xo 0 (.int .i64 z)
      rw [List.setIfInBounds_toArray] at Xo
      clear z1 z2 f2 hz
      generalize Vo.setCell ⟨go_, 0, none⟩ (.int .i64 z) = Vp at *
      have RH := range_of X.f.h
      obtain ⟨Vt, hVt, Xt, bt, tht⟩ := newv (V := Vp) cs zHeld 52 (by rw [HQ.out.len]; rfl)
      have HVt := Lib.hid hVt
      have hgt := lt_at Xo
      have oneH := all_one HQ.out.one
      clear hVt
      go_upto_region 23 with (first
        | refine wpList_load_g (by rfl) 52 (.tmp 6) (by rfl) (w.heap.size + 1 + 1) 0 (by rfl) cs _ RH Try.underlying52 rfl szH ?_
        | (refine wpList_store_mid rfl 52 (.tmp 14) (.tmp 128) (by rfl) Vp.heap.size 0 cs.toArray (by rfl) (by rfl) tht (by simpa using szH) oneH ?_; rw [HVt.out])
        | fail)
      replace X := X.later bt
      replace Xo := var_later Xo bt
      clear HVt tht RH bt
      generalize Vp.heap.size = gt_ at *
      have z1 := cell_list Xt HQ.out.stage
      have f1 := free_at Xt 6
      go_upto_region 24 with (fail)
      replace X := X.far hgb (by omega) 6 (.int .u8 3) (g := gt_)
      replace Xo := set_far Xo (p := ⟨gt_, 6, none⟩) (by simp; omega) (.int .u8 3)
      replace Xt := set_at Xt 6 (.int .u8 3)
      rw [List.setIfInBounds_toArray] at Xt
      clear z1 f1
      generalize Vt.setCell ⟨gt_, 6, none⟩ (.int .u8 3) = Vq at *
      obtain ⟨hb1, hb2, hb3⟩ := HB.out
      have HL0 := HA.out.f.m.setLam 0#32
      have szB := img_size HL0.len
      have szO := img_size (HA.out.f.m.setAge z).len
      have szT := held_size (HQ.out.setStage 3).len
      obtain ⟨I6, hI6⟩ : ∃ I6 : IM, I6 = { I with lam := 0#32 } := ⟨_, rfl⟩
      have A6 : IMA I6 L (M.set 28 (.int .u32 0)) Vq := by rw [hI6]; exact ⟨⟨HA.out.f.l, HL0⟩, (HA.out.later X.f.bel).s⟩
      have HC6 : Hid (false = clearB I6.stand I6.occB I6.litB q) := Lib.hid (clearB_dark (by rw [hI6]; exact lit_dark _ _ _)).symm
      have HCO : Hid (false = clearB I.stand I.occB I.litB { q with stage := 3 }) := Lib.hid (stage_clear rfl).symm
      clear hI6 HL0
      have RL := range_of X.f.l
      have RB := range_of X.x
      have RH := range_of X.f.h
      go_wp2_with (first
        | refine wpList_load_g (by rfl) 29 (.tmp 4) (by rfl) w.heap.size 0 (by rfl) L _ RL Try.underlying29 rfl szL ?_
        | refine wpList_load_g (by rfl) 35 (.tmp 11) (by rfl) W5.heap.size 0 (by rfl) (M.set 28 (.int .u32 0)) _ RB Try.underlying35 rfl szB ?_
        | refine wpList_load_g (by rfl) 52 (.tmp 6) (by rfl) (w.heap.size + 1 + 1) 0 (by rfl) cs _ RH Try.underlying52 rfl szH ?_
        | fail)
      refine (Clear_c I6 L (M.set 28 (.int .u32 0)) cs q false _ HC6.out A6 (HQ.out.later X.f.bel) hb1 hb2 hb3).mono ?_
      rintro e Vr ⟨rfl, b⟩
      replace X := X.later b
      replace Xo := var_later Xo b
      replace Xt := var_later Xt b
      clear b RL RB RH A6 HC6 szB
      have z1 := cell_list X.f.l HA.out.f.l.st
      obtain ⟨d, hd⟩ : ∃ d, decide ((65535 : Int) < I.st) = d := ⟨_, rfl⟩
      have RL := range_of X.f.l
      have RM := range_of X.f.m
      have RO := range_of Xo
      have RH := range_of X.f.h
      have RT := range_of Xt
      cases d
      · have hst := HZ.out (by have := of_decide_eq_false hd; omega)
        obtain ⟨I7, hI7⟩ : ∃ I7 : IM, I7 = { I with age := z } := ⟨_, rfl⟩
        have A7 : IMA I7 L (M.set 0 (.int .i64 z)) Vr := by rw [hI7]; exact ⟨⟨HA.out.f.l, HA.out.f.m.setAge z⟩, (HA.out.later X.f.bel).s⟩
        have HC7 : Hid (false = clearB I7.stand I7.occB I7.litB q) := Lib.hid (clearB_dark (by
          rw [hI7]
          show litV I.nsig I.lam (decide (I.st < z)) q.sig = false
          rw [decide_eq_true hst]; simp [litV])).symm
        clear hI7 hst
        go_wp2_with (first
          | refine wpList_load_g (by rfl) 29 (.tmp 4) (by rfl) w.heap.size 0 (by rfl) L _ RL Try.underlying29 rfl szL ?_
          | refine wpList_load_g (by rfl) 35 (.tmp 13) (by rfl) go_ 0 (by rfl) (M.set 0 (.int .i64 z)) _ RO Try.underlying35 rfl szO ?_
          | refine wpList_load_g (by rfl) 52 (.tmp 6) (by rfl) (w.heap.size + 1 + 1) 0 (by rfl) cs _ RH Try.underlying52 rfl szH ?_
          | fail)
        refine (Clear_c I7 L (M.set 0 (.int .i64 z)) cs q false _ HC7.out A7 (HQ.out.later X.f.bel) hb1 hb2 hb3).mono ?_
        rintro e Vs ⟨rfl, b⟩
        replace X := X.later b
        replace Xt := var_later Xt b
        clear b RL RM RO RH RT A7 HC7 Xo z1
        have RL := range_of X.f.l
        have RM := range_of X.f.m
        have RT := range_of Xt
        go_wp2_with (first
          | refine wpList_load_g (by rfl) 29 (.tmp 4) (by rfl) w.heap.size 0 (by rfl) L _ RL Try.underlying29 rfl szL ?_
          | refine wpList_load_g (by rfl) 35 (.tmp 5) (by rfl) (w.heap.size + 1) 0 (by rfl) M _ RM Try.underlying35 rfl szM ?_
          | refine wpList_load_g (by rfl) 52 (.tmp 14) (by rfl) gt_ 0 (by rfl) (cs.set 6 (.int .u8 3)) _ RT Try.underlying52 rfl szT ?_
          | fail)
        refine (Clear_c I L M (cs.set 6 (.int .u8 3)) { q with stage := 3 } false _ HCO.out (HA.out.later X.f.bel) ((HQ.out.later X.f.bel).setStage 3) hb1 hb2 hb3).mono ?_
        rintro e Vx ⟨rfl, b⟩
        replace X := X.later b
        go_wp2_with fail
        refine (wakes_c _).mono ?_
        rintro e Vy ⟨rfl, b2⟩
        have B := below_step X.f.bel b2
        go_wp2
        go_ret
        exact ⟨rfl, B⟩
      · clear RO RH Xo
        go_wp2_with (first
          | refine wpList_load_g (by rfl) 29 (.tmp 4) (by rfl) w.heap.size 0 (by rfl) L _ RL Try.underlying29 rfl szL ?_
          | refine wpList_load_g (by rfl) 35 (.tmp 5) (by rfl) (w.heap.size + 1) 0 (by rfl) M _ RM Try.underlying35 rfl szM ?_
          | refine wpList_load_g (by rfl) 52 (.tmp 14) (by rfl) gt_ 0 (by rfl) (cs.set 6 (.int .u8 3)) _ RT Try.underlying52 rfl szT ?_
          | fail)
        refine (Clear_c I L M (cs.set 6 (.int .u8 3)) { q with stage := 3 } false _ HCO.out (HA.out.later X.f.bel) ((HQ.out.later X.f.bel).setStage 3) hb1 hb2 hb3).mono ?_
        rintro e Vx ⟨rfl, b⟩
        replace X := X.later b
        go_wp2_with fail
        refine (wakes_c _).mono ?_
        rintro e Vy ⟨rfl, b2⟩
        have B := below_step X.f.bel b2
        go_wp2
        go_ret
        exact ⟨rfl, B⟩

theorem own : ownKnob Try.prog.godebug = none := by kernel_rfl
theorem laidOut : laidOutB Try.prog = true := by kernel_rfl
noncomputable def wit (os : Os) : World := World.holding Try.prog os ⟨#[], #[], []⟩
set_option maxRecDepth 100000 in
theorem lifted (os : Os) (started : os.Started) (H : Type) (enc : TypeId × Value → H) (F : Stop.Interp) :
    ReturnsInHanded {} Try.checked os 4 .any ((OpenSpec.ofChange Rows.aspectFailsSpec).preRow enc Try.prog Try.f4 Rows.aspectFailsRow.domain false Rows.aspectFailsRow.laid) (((OpenSpec.ofChange Rows.aspectFailsSpec).at F).post enc Try.prog Try.f4 false true false false) := by
  obtain ⟨x, hx⟩ : ∃ x, DataW.whole enc Try.prog ((wit os).forCall (fun _ _ => 0) ⟨#[], #[.agg zLay, .agg zImg, .agg zHeld, .int .i64 0], []⟩).memory Try.f4.params.toList Rows.aspectFailsSpec.vars false (#[.agg zLay, .agg zImg, .agg zHeld, .int .i64 0] : Array Value).toList 8 = some x := Option.isSome_iff_exists.1 (by kernel_rfl)
  refine Fr.lift (C := Try.checked) (s := OpenSpec.ofChange Rows.aspectFailsSpec) own started (by kernel_rfl) Try.func4
    (witness_row_at (enc := enc) (C := Try.checked) false (wit os) #[.agg zLay, .agg zImg, .agg zHeld, .int .i64 0] rfl (by kernel_rfl) (by kernel_rfl) (by kernel_rfl)
      (OpenSpec.preRow_of_cond 8 hx rfl (fun k hk => by cases hk) (by kernel_rfl) (laidMet_of_run' 8 (by kernel_rfl) (by kernel_rfl))))
    laidOut (by kernel_rfl) rfl Try.underlying4 rfl rfl ?_ ?_
  · intro ds hds
    match ds, hds with
    | [_, _, _, _], _ => rfl
  · intro W base args ds before hval hA hlt _ hz hL
    rw [Try.params4] at hA hval
    obtain ⟨v0, vs0, d0, ds0, p0, q0, hargs, rfl, rfl, h0, r0⟩ := trodAll_cons hA
    obtain ⟨v1, vs1, d1, ds1, p1, q1, rfl, rfl, rfl, h1, r1⟩ := trodAll_cons r0
    obtain ⟨v2, vs2, d2, ds2, p2, q2, rfl, rfl, rfl, h2, r2⟩ := trodAll_cons r1
    obtain ⟨v3, vs3, d3, ds3, p3, q3, rfl, rfl, rfl, h3, r3⟩ := trodAll_cons r2
    obtain ⟨rfl, rfl, rfl⟩ := trodAll_nil r3
    obtain rfl : args = #[v0, v1, v2, v3] := by cases args; simp_all
    obtain ⟨L, kinds, ss, lens, nsig, nfl, clr, st, A, c, A1, c1, A3, c3, ve, rfl, hLA⟩ := open_layout (hval 0 _ v0 rfl rfl) h0
    obtain ⟨M, age, free, occ, nor, rev, lam, rfl, hM, hag, hfr⟩ := open_image (hval 1 _ v1 rfl rfl) h1
    obtain ⟨cs, q, rfl, hQ⟩ := open_held (hval 2 _ v2 rfl rfl) h2
    obtain ⟨n, rfl, rfl, rfl, w1⟩ := open_int Try.underlying3 (hval 3 _ v3 rfl rfl) h3
    exact walk ⟨kinds, nsig, clr, st, A, c, A1, c1, age, free, occ, nor, rev, lam⟩ L M cs q n nfl lens A3 c3 ve W ⟨⟨hLA.f, hM⟩, hLA.sa⟩ hQ hLA.ex hLA.fl hLA.ea

theorem said : Rows.AspectFailsSaid :=
  OpenClaim.holds_of_cond 4 Try.f4 rfl rfl rfl rfl rfl rfl rfl ⟨rfl, rfl, rfl, rfl, rfl⟩ rfl rfl rfl rfl rfl (by kernel_rfl) Try.func4 (by kernel_rfl)
    (of_decide_eq_true (by kernel_rfl)) (by unfold Func.isWrapper; first | (rw [if_pos (by decide +kernel)]; kernel_rfl) | (rw [if_neg (by decide +kernel)]; exact ⟨rfl, rfl⟩))
    (fun os started H enc _ F => by rw [OpenClaim.pre_eq_preRow]; exact lifted os started H enc F)
#print axioms said
end Go.Proofs.Ytkmioplegjeopaa.aspectFails
