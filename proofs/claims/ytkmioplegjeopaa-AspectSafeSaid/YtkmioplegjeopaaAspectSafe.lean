/- AspectSafe: for every argument the statement's Go text returns true and turns nothing that was there. It is proved at every argument, without a condition beyond the row. -/
import Derived.Test.YtkmioplegjeopaaAspY
import Derived.Test.YtkmioplegjeopaaSafV
import Derived.Test.YtkmioplegjeopaaAspL
import Derived.Test.YtkmioplegjeopaaFrame
import Derived.Deep.RegionHeld3
import Derived.Deep.CutRange
import Derived.Deep.DrawnRows
namespace Go.Proofs.Ytkmioplegjeopaa.aspectSafe
open Go.ChangeShapes Go.WideShapes Go.ChangeAt Go.RowKit Rf
attribute [local go_sem ↓] run_max2 run_min2
open Mem Bv AM
attribute [local go_sem ↓] run_max2 run_min2
set_option maxHeartbeats 8000000 in
set_option maxRecDepth 100000 in
theorem walk (I : IM) (L M K : List Value) (nfl : Nat) (lens : List Nat) (A3 : Option Addr) (c3 : Nat) (ve : Value) (vh : Value) (css : List (List Value)) (hs : List HeldM) (nx : Int) (ms : List (Int × Int × Bool)) (w : World) (hA : IMA I L M w) (hK : KerAt w K vh css hs nx ms) (hnl : ∀ h ∈ hs, h.needs.length ≤ 5864062014700) (h2 : L[2]? = some ve) (h3 : L[3]? = some (.slice A3 nfl c3)) (hE : ExsAt w ve lens) :
    Calls Try.prog 3 #[.agg L.toArray, .agg M.toArray, .agg K.toArray] w fun e w' => e = .returned (.bool true) ∧ Below w.heap.size w w' := by
  obtain ⟨i0, hi, hz0, hz1, hz2⟩ := info_parts info_step
  have szL := lay_size hA.f.l.len
  have szM := img_size hA.f.m.len
  have szK := ker_size hK.len
  have hll := hK.hs.len
  obtain ⟨W0, hW0⟩ : ∃ W0, ((w.alloc (.cells L.toArray 29)).alloc (.cells M.toArray 35)).alloc (.cells K.toArray 41) = W0 := ⟨_, rfl⟩
  have B0 : Below w.heap.size w W0 := by rw [← hW0]; exact below_step (below_step (below_new _ _) (below_new _ _)) (below_new _ _)
  have V : KS w W0 I L M K vh css hs nx ms := ⟨B0, by rw [← hW0]; exact ⟨old_at (old_at (new_at rfl _) _) _, old_at (new_at (by simp) _) _⟩, by rw [← hW0]; exact new_at (by simp) _, hA, hK⟩
  have HE := Lib.hid (hE.later B0)
  have HNL := Lib.hid hnl
  have HLL := Lib.hid hll
  obtain ⟨cl, hcl⟩ : ∃ cl, clearB I.stand I.occB I.litB = cl := ⟨_, rfl⟩
  have HCL := Lib.hid hcl
  clear hA hK hE B0 hnl hll hcl
  go_enter Try.func3, Try.ntmps3
  go_upto_region 1 with (fail)
  generalize ((w.alloc (.cells L.toArray 29)).alloc (.cells M.toArray 35)).alloc (.cells K.toArray 41) = W0' at *
  subst hW0
  have RL := range_of V.v.l
  go_wp2_with (first
    | refine wpList_load_g (by rfl) 29 (.tmp 3) (by rfl) w.heap.size 0 (by rfl) L _ RL Try.underlying29 rfl szL ?_
    | fail)
  refine (Great_c L I.kinds.length I.nsig nfl lens I.A I.A1 A3 I.c I.c1 c3 ve _ V.a.f.l.sec V.a.f.l.sig h2 h3 HE.out).mono ?_
  rintro e W1 ⟨he, b1⟩
  obtain ⟨g1, hg1⟩ : ∃ g, greatV I.kinds.length I.nsig nfl lens = g := ⟨_, rfl⟩
  rw [hg1] at he
  subst he
  replace V := V.later b1
  clear b1 hg1 RL HE
  cases g1
  rotate_left
  · go_wp2_with fail
    refine (wakes_c _).mono ?_
    rintro e Wk ⟨rfl, bk⟩
    have B := below_step V.bel bk
    go_wp2
    go_ret
    exact ⟨rfl, B⟩
  have RK_ := range_of V.kb
  go_wp2_with (first
    | refine wpList_load_g (by rfl) 41 (.tmp 5) (by rfl) (w.heap.size + 1 + 1) 0 (by rfl) K _ RK_ Try.underlying41 rfl szK ?_
    | fail)
  refine (refRight18_c K vh css hs nx ms _ V.k HNL.out).mono ?_
  rintro e W2 ⟨b2, r, rfl, hr⟩
  replace V := V.later b2
  clear b2 RK_
  have HR := Lib.hid hr
  clear hr
  cases r
  · go_wp2_with fail
    refine (wakes_c _).mono ?_
    rintro e Wk ⟨rfl, bk⟩
    have B := below_step V.bel bk
    go_wp2
    go_ret
    exact ⟨rfl, B⟩
  have HRK := Lib.hid (HR.out rfl)
  clear HR
  have hlen6 := HRK.out.1
  have RL := range_of V.v.l
  have RM := range_of V.v.m
  have RK_ := range_of V.kb
  obtain ⟨bits, hbits⟩ : ∃ z : Int, z = ((sigW (clearB I.stand I.occB I.litB) hs).toNat : Int) := ⟨_, rfl⟩
  have HBI := Lib.hid hbits
  clear hbits
  go_wp2_with (first
    | refine wpList_load_g (by rfl) 29 (.tmp 3) (by rfl) w.heap.size 0 (by rfl) L _ RL Try.underlying29 rfl szL ?_
    | refine wpList_load_g (by rfl) 35 (.tmp 4) (by rfl) (w.heap.size + 1) 0 (by rfl) M _ RM Try.underlying35 rfl szM ?_
    | refine wpList_load_g (by rfl) 41 (.tmp 5) (by rfl) (w.heap.size + 1 + 1) 0 (by rfl) K _ RK_ Try.underlying41 rfl szK ?_
    | fail)
  refine (s1_c I L M K vh css hs nx ms _ bits HBI.out V.a V.k (by omega) (fun h hh => by
    obtain ⟨j, hj⟩ := List.getElem?_of_mem hh
    obtain ⟨a1, a2⟩ := rightH_lens (HRK.out.2.1 j h hj)
    exact ⟨HNL.out h hh, a1, a2⟩)).mono ?_
  rintro e W3 ⟨rfl, b3⟩
  replace V := V.later b3
  clear b3 RL RM RK_
  obtain ⟨Ah, ch, rfl, _⟩ := V.k0.hs.sl.form
  obtain ⟨N, hN⟩ : ∃ n, css.length = n := ⟨_, rfl⟩
  rw [hN] at V
  have HN := Lib.hid hN
  have HH := Lib.hid V.k0.held
  have hN6 : N ≤ 6 := by have := HLL.out; omega
  clear hN hlen6
  go_wp2
  go_loopw [8, 9] (fun v i wr => ∃ k : Nat, k ≤ N ∧ i = .int .i64 k ∧ v = .int .u32 (sigW cl (hs.take k)).toNat ∧ KS w wr I L M K (.slice Ah N ch) css hs nx ms) (fun v i _ => N - (intOf i).toNat)
  case atStart => exact ⟨0, Nat.zero_le _, rfl, rfl, V⟩
  case round =>
    clear V
    obtain ⟨k, hk, rfl, rfl, V⟩ := hrel
    obtain ⟨x, hx⟩ : ∃ x, sigW cl (hs.take k) = x := ⟨_, rfl⟩
    rw [hx]
    have HX := Lib.hid hx
    clear hx
    have y1 := cell_list V.kb HH.out
    by_cases hlt : k < N
    · obtain ⟨cs, hcs⟩ : ∃ s, css[k]? = some s := ⟨_, List.getElem?_eq_getElem (by rw [HN.out]; exact hlt)⟩
      obtain ⟨q, hq⟩ : ∃ s, hs[k]? = some s := ⟨_, List.getElem?_eq_getElem (by rw [← HLL.out, HN.out]; exact hlt)⟩
      obtain ⟨b, off, c', hv, hr⟩ := V.k.hs.row hcs
      have hHq := V.k0.hs.at_ k cs q hcs hq
      obtain ⟨rfl, hdr, rfl⟩ := Value.slice.inj hv
      have szS := held_size hHq.len
      obtain ⟨Ws, hWs, k3, k4, k2⟩ := newv (V := wr) cs zHeld 52 (by rw [hHq.len]; rfl)
      have szm : (Try.prog.info? 52).map (·.size) = some cs.toArray.size := by simpa using szS
      have oneS : cs.toArray.all (·.oneCell') = true := all_one hHq.one
      have i1 : (k : Int) < (N : Int) := by omega
      have i3 : decide (k < N) = true := decide_eq_true hlt
      have HWS := Lib.hid hWs
      have HQ := Lib.hid hq
      have HHq := Lib.hid hHq
      have HTS : Hid (hs.take (k + 1) = hs.take k ++ [q]) := Lib.hid (take_snoc hq)
      have hRq := HRK.out.2.1 k q hq
      have hnq := HNL.out q (List.mem_of_getElem? hq)
      have hgk := lt_at V.kb
      have V2 : KH w Ws I L M K (.slice (some ⟨b, off, none⟩) N ch) css hs nx ms wr.heap.size cs := ⟨V.later k4, k3, hgk⟩
      clear hWs hcs hq hv hdr k3 k4 hgk
      go_upto_region 9 with (first
        | refine wpList_load_g (by rfl) 52 (.tmp 39) (by rfl) b (off + k * 23) (by rfl) cs _ hr Try.underlying52 rfl szS ?_
        | (refine wpList_store_mid rfl 52 (.tmp 10) (.tmp 40) (by rfl) wr.heap.size 0 cs.toArray (by rfl) (by rfl) k2 szm oneS ?_; rw [HWS.out])
        | fail)
      clear hr k2 szm oneS y1 i1 i3 hHq HWS V
      have V := V2
      clear V2
      generalize wr.heap.size = gh at *
      try simp only [Act.put]
      obtain ⟨f0, hf0⟩ : ∃ f, (q.stage == 2 && I.litB q.sig) = f := ⟨_, rfl⟩
      have HF0 := Lib.hid hf0
      go_cut [11] from 41 to 51 (fun v wx => v = .bool f0 ∧ KH w wx I L M K (.slice (some ⟨b, off, none⟩) N ch) css hs nx ms gh cs)
      case first =>
        have z6 := cell_list V.h HHq.out.stage
        have z1 := cell_list V.h HHq.out.sig
        obtain ⟨d1, hd1⟩ : ∃ d, (q.stage == 2) = d := ⟨_, rfl⟩
        rw [hd1] at hf0
        cases d1
        · go_wp2
          go_meet
          exact ⟨by rw [← hf0]; rfl, V⟩
        · have RL := range_of V.kv.v.l
          have RM := range_of V.kv.v.m
          have HF := Lib.hid hf0
          clear hf0
          go_wp2_with (first
            | refine wpList_load_g (by rfl) 29 (.tmp 3) (by rfl) w.heap.size 0 (by rfl) L _ RL Try.underlying29 rfl szL ?_
            | refine wpList_load_g (by rfl) 35 (.tmp 4) (by rfl) (w.heap.size + 1) 0 (by rfl) M _ RM Try.underlying35 rfl szM ?_
            | fail)
          refine (rlit_c I L M q.sig f0 _ (by rw [← HF.out]; rfl) V.kv.a0.f).mono ?_
          rintro e X1 ⟨rfl, bF⟩
          replace V := V.later bF
          go_wp2
          go_meet
          exact ⟨rfl, V⟩
      case rest =>
        obtain ⟨rfl, V⟩ := hcut
        clear hf0
        obtain ⟨v3, e3, t3⟩ := HHq.out.st
        obtain ⟨v4, e4, t4⟩ := HHq.out.ov
        obtain ⟨A3', c3', rfl⟩ := t3.form
        obtain ⟨A4, c4, rfl⟩ := t4.form
        obtain ⟨n, hn⟩ : ∃ n, q.steps.length = n := ⟨_, rfl⟩
        obtain ⟨o, ho⟩ : ∃ n, q.over.length = n := ⟨_, rfl⟩
        obtain ⟨q1, q2, q3, _, _, _⟩ := hRq
        have HN' := Lib.hid hn
        have HO := Lib.hid ho
        rw [hn] at e3 q1 q2
        rw [ho] at e4 q3
        have HE3 := Lib.hid e3
        have HE4 := Lib.hid e4
        have HT3 : Hid (SliceAt w 3 (.slice A3' n c3') n (t3s q.steps)) := Lib.hid (by rw [← hn]; exact t3)
        have HT4 : Hid (SliceAt w 3 (.slice A4 o c4) o (t3s q.over)) := Lib.hid (by rw [← ho]; exact t4)
        clear t3 t4 e3 e4 hn ho
        go_upto_region 10 with (fail)
        go_cut [12] from 52 to 59 (fun v wx => KH w wx I L M K (.slice (some ⟨b, off, none⟩) N ch) css hs nx ms gh cs ∧ TAt wx v (q.steps ++ q.over))
        case first =>
          refine wp_region_held_drew (S := (fun w' => w'.cell? ⟨gh, 3, none⟩ = some (.slice A3' n c3') ∧ w'.cell? ⟨gh, 4, none⟩ = some (.slice A4 o c4))) (by kernel_rfl) ?_ (fun hHeld => ?_)
          · exact ⟨cell_list V.h HE3.out, cell_list V.h HE4.out⟩
          replace V := V.later (Below.refl _ wc).drew
          generalize wc.drew = V0 at *
          refine wpAnyH_take (i := 1) (v := ?_) rfl (by kernel_rfl) (by kernel_rfl) (by kernel_rfl) (fun _ _ _ h => h) (Or.inl ⟨by kernel_rfl, ?_⟩) (by assumption) ?_
          rotate_left
          · intro w hSw
            try dsimp only at hSw
            go_simp
            try with_reducible rfl
          simp only [List.getElem_toArray, List.getElem_cons_succ, List.getElem_cons_zero, Act.put, List.setIfInBounds_toArray, List.set_cons_zero, List.set_cons_succ]
          refine wpAnyH_take (i := 2) (v := ?_) rfl (by kernel_rfl) (by kernel_rfl) (by kernel_rfl) (fun _ _ _ h => h) (Or.inl ⟨by kernel_rfl, ?_⟩) (by assumption) ?_
          rotate_left
          · intro w hSw
            try dsimp only at hSw
            go_simp
            try with_reducible rfl
          simp only [List.getElem_toArray, List.getElem_cons_succ, List.getElem_cons_zero, Act.put, List.setIfInBounds_toArray, List.set_cons_zero, List.set_cons_succ]
          refine wpAnyH_take (i := 3) (v := ?_) rfl (by kernel_rfl) (by kernel_rfl) (by kernel_rfl) (fun _ _ _ h => h) (Or.inl ⟨by kernel_rfl, ?_⟩) (by assumption) ?_
          rotate_left
          · intro w hSw
            try dsimp only at hSw
            go_simp
            try with_reducible rfl
          simp only [List.getElem_toArray, List.getElem_cons_succ, List.getElem_cons_zero, Act.put, List.setIfInBounds_toArray, List.set_cons_zero, List.set_cons_succ]
          refine wpAnyH_take (i := 5) (v := ?_) rfl (by kernel_rfl) (by kernel_rfl) (by kernel_rfl) (fun _ _ _ h => h) (Or.inl ⟨by kernel_rfl, ?_⟩) (by assumption) ?_
          rotate_left
          · intro w hSw
            try dsimp only at hSw
            go_simp
            try with_reducible rfl
          simp only [List.getElem_toArray, List.getElem_cons_succ, List.getElem_cons_zero, Act.put, List.setIfInBounds_toArray, List.set_cons_zero, List.set_cons_succ]
          refine wpAnyH_take (i := 6) (v := ?_) rfl (by kernel_rfl) (by kernel_rfl) (by kernel_rfl) (fun _ _ _ h => h) (Or.inl ⟨by kernel_rfl, ?_⟩) (by assumption) ?_
          rotate_left
          · intro w hSw
            try dsimp only at hSw
            go_simp
            try with_reducible rfl
          simp only [List.getElem_toArray, List.getElem_cons_succ, List.getElem_cons_zero, Act.put, List.setIfInBounds_toArray, List.set_cons_zero, List.set_cons_succ]
          clear hHeld
          have hown := own_empty V0 55 3
          have bA := below_new V0 (.cells #[] 55)
          have hgl := lt_at V.h
          replace V := V.later bA
          clear bA
          refine wpAnyH_ready (rs := [0]) (by kernel_rfl) (by simp) ?_
          refine AllReadyH.cons rfl (fun K hK => ?_) AllReadyH.nil
          refine Node.wp_bs 46 0 [] [] _ (by rfl) (by rfl) (run_bs0 V0) ?_
          generalize V0.alloc (.cells #[] 55) = V1 at *
          generalize V0.heap.size = ga at *
          refine hK.out _ _ ⟨cell_list V.h HE3.out, cell_list V.h HE4.out⟩ (fun hHeld => ?_)
          clear hK K hHeld
          simp only [List.getElem_toArray, List.getElem_cons_succ, List.getElem_cons_zero, Act.put, List.setIfInBounds_toArray, List.set_cons_zero, List.set_cons_succ]
          have hgV := (own_base hown rfl).2
          refine wpAnyH_ready (rs := [4]) (by kernel_rfl) (by simp) ?_
          refine AllReadyH.cons rfl (fun K hK => ?_) AllReadyH.nil
          refine wp_app (.tmp 52) (.tmp 55) _ (by rfl) ga 55 i0 _ 3 24 Try.underlying46 hi hz0 hz1 hz2 rfl (by omega) (.slice (some ⟨ga, 0, none⟩) 0 0) 0 [] (by rfl) hown (.slice A3' n c3') n (t3s q.steps) (by rfl) (HT3.out.later V.bel) (t3s_one _) (by simp only [maxLen]; omega) (by omega) (Nat.le_of_lt hgV) ?_
          intro v1 V2 ho1 hg1 hw1
          rw [Nat.zero_add, List.nil_append] at ho1
          replace V := V.grown hgl hg1 (fun g hg => by have := Option.some.inj hg; simp at this; omega)
          have hgV2 := Nat.le_trans (Nat.le_of_lt hgV) hg1.size
          clear hown hg1 hw1 hgV
          refine hK.out _ _ ⟨cell_list V.h HE3.out, cell_list V.h HE4.out⟩ (fun hHeld => ?_)
          clear hK K hHeld V1
          simp only [List.getElem_toArray, List.getElem_cons_succ, List.getElem_cons_zero, Act.put, List.setIfInBounds_toArray, List.set_cons_zero, List.set_cons_succ]
          refine wpAnyH_ready (rs := [7]) (by kernel_rfl) (by simp) ?_
          refine AllReadyH.cons rfl (fun K hK => ?_) AllReadyH.nil
          refine wp_app (.tmp 56) (.tmp 58) _ (by rfl) ga 55 i0 _ 3 24 Try.underlying46 hi hz0 hz1 hz2 rfl (by omega) v1 n (t3s q.steps) (by rfl) ho1 (.slice A4 o c4) o (t3s q.over) (by rfl) (HT4.out.later V.bel) (t3s_one _) (by simp only [maxLen]; omega) (by omega) hgV2 ?_
          intro v2 V3 ho2 hg2 hw2
          replace V := V.grown hgl hg2 (fun g hg => (own_base ho1 hg).1)
          have T : TAt V3 v2 (q.steps ++ q.over) := by
            have := sliceAt_of_own ho2
            unfold TAt
            rw [List.length_append, HN'.out, HO.out]
            rw [show t3s (q.steps ++ q.over) = t3s q.steps ++ t3s q.over by simp [t3s]]
            exact this
          clear ho1 ho2 hg2 hw2 hgV2
          refine hK.out _ _ ⟨cell_list V.h HE3.out, cell_list V.h HE4.out⟩ (fun hHeld => ?_)
          clear hK K
          simp only [List.getElem_toArray, List.getElem_cons_succ, List.getElem_cons_zero, Act.put, List.setIfInBounds_toArray, List.set_cons_zero, List.set_cons_succ]
          refine wpAnyH_take (i := 8) (v := ?_) rfl (by kernel_rfl) (by kernel_rfl) (by kernel_rfl) (fun _ _ _ h => h) (Or.inl ⟨by kernel_rfl, ?_⟩) (by assumption) ?_
          rotate_left
          · intro w hSw
            try dsimp only at hSw
            go_simp
            try with_reducible rfl
          simp only [List.getElem_toArray, List.getElem_cons_succ, List.getElem_cons_zero, Act.put, List.setIfInBounds_toArray, List.set_cons_zero, List.set_cons_succ]
          clear hHeld
          refine wpAnyH_done (by kernel_rfl) ?_ _
          go_wp2
          go_meet
          exact ⟨V, T⟩
        case rest =>
          obtain ⟨V, TA⟩ := hcut
          obtain ⟨all, hall⟩ : ∃ l, q.steps ++ q.over = l := ⟨_, rfl⟩
          rw [hall] at TA
          have HAL := Lib.hid hall
          obtain ⟨Aa, ca, rfl⟩ := TA.form
          obtain ⟨ml, hml⟩ : ∃ l, all.length = l := ⟨_, rfl⟩
          rw [hml] at TA
          rw [hml]
          have HML := Lib.hid hml
          have hm2 : ml ≤ 14 := by rw [← hml, ← hall, List.length_append, HN'.out, HO.out]; omega
          have HTA := Lib.hid (And.intro TA (Below.refl wc.heap.size wc))
          clear hall hml HT3 HT4 HE3 HE4
          go_wp2
          go_loopw [11, 13] (fun v i wj => ∃ s : Nat, s ≤ ml ∧ i = .int .i64 s ∧ v = .bool (f0 && (all.take s).all (fun x => !I.occB x.1)) ∧ KH w wj I L M K (.slice (some ⟨b, off, none⟩) N ch) css hs nx ms gh cs ∧ Below wc.heap.size wc wj) (fun v i _ => ml - (intOf i).toNat)
          case atStart => exact ⟨0, Nat.zero_le _, rfl, by simp, V, Below.refl _ _⟩
          case round =>
            clear V TA
            obtain ⟨s, hsl, rfl, rfl, V, bel⟩ := hrel
            obtain ⟨f, hf⟩ : ∃ f, (f0 && (all.take s).all (fun x => !I.occB x.1)) = f := ⟨_, rfl⟩
            rw [hf]
            have HF := Lib.hid hf
            clear hf
            by_cases hsm : s < ml
            · have j1 : (s : Int) < (ml : Int) := by omega
              have j2 : decide (s < ml) = true := decide_eq_true hsm
              obtain ⟨y, hy⟩ : ∃ x, all[s]? = some x := ⟨_, List.getElem?_eq_getElem (by rw [HML.out]; exact hsm)⟩
              have HST : Hid ((f0 && (all.take (s + 1)).all (fun x => !I.occB x.1)) = (f && !I.occB y.1)) := Lib.hid (by rw [all_and _ _ _ _ _ hy, HF.out])
              obtain ⟨ba, oa, cca, hva, x0, x1, x2⟩ := t3_cells HTA.out.1 hy
              obtain ⟨rfl, hdr, rfl⟩ := Value.slice.inj hva
              replace x0 := cell_later x0 bel
              obtain ⟨ya, yb, yc⟩ := y
              simp only at x0
              have HST2 : Hid ((f0 && (all.take (s + 1)).all (fun x => !I.occB x.1)) = (f && !I.occB ya)) := Lib.hid HST.out
              clear hva hdr x1 x2 hy HST
              go_upto_region 14 with (fail)
              cases f
              · refine wp_region_held_drew (S := (fun _ => True)) (by kernel_rfl) ?_ (fun hHeld => ?_)
                · trivial
                replace V := V.later (Below.refl _ wr).drew
                replace bel := below_step bel (Below.refl _ wr).drew
                clear x0
                generalize wr.drew = X at *
                refine wpAnyH_take (i := 0) (v := ?_) rfl (by kernel_rfl) (by kernel_rfl) (by kernel_rfl) (fun _ _ _ h => h) (Or.inl ⟨by kernel_rfl, ?_⟩) (by assumption) ?_
                rotate_left
                · intro w hSw
                  try dsimp only at hSw
                  go_simp
                  try with_reducible rfl
                simp only [List.getElem_toArray, List.getElem_cons_succ, List.getElem_cons_zero, Act.put, List.setIfInBounds_toArray, List.set_cons_zero, List.set_cons_succ]
                refine wpAnyH_take (i := 1) (v := ?_) rfl (by kernel_rfl) (by kernel_rfl) (by kernel_rfl) (fun _ _ _ h => h) (Or.inl ⟨by kernel_rfl, ?_⟩) (by assumption) ?_
                rotate_left
                · intro w hSw
                  try dsimp only at hSw
                  go_simp
                  try with_reducible rfl
                simp only [List.getElem_toArray, List.getElem_cons_succ, List.getElem_cons_zero, Act.put, List.setIfInBounds_toArray, List.set_cons_zero, List.set_cons_succ]
                refine wpAnyH_take (i := 2) (v := undef) rfl (by kernel_rfl) (by kernel_rfl) (by kernel_rfl) (fun _ _ _ h => h) (Or.inr ⟨by kernel_rfl, rfl⟩) (by assumption) ?_
                refine wpAnyH_take (i := 3) (v := undef) rfl (by kernel_rfl) (by kernel_rfl) (by kernel_rfl) (fun _ _ _ h => h) (Or.inr ⟨by kernel_rfl, rfl⟩) (by assumption) ?_
                refine wpAnyH_take (i := 4) (v := undef) rfl (by kernel_rfl) (by kernel_rfl) (by kernel_rfl) (fun _ _ _ h => h) (Or.inr ⟨by kernel_rfl, rfl⟩) (by assumption) ?_
                refine wpAnyH_take (i := 5) (v := undef) rfl (by kernel_rfl) (by kernel_rfl) (by kernel_rfl) (fun _ _ _ h => h) (Or.inr ⟨by kernel_rfl, rfl⟩) (by assumption) ?_
                refine wpAnyH_take (i := 6) (v := undef) rfl (by kernel_rfl) (by kernel_rfl) (by kernel_rfl) (fun _ _ _ h => h) (Or.inr ⟨by kernel_rfl, rfl⟩) (by assumption) ?_
                refine wpAnyH_take (i := 7) (v := undef) rfl (by kernel_rfl) (by kernel_rfl) (by kernel_rfl) (fun _ _ _ h => h) (Or.inr ⟨by kernel_rfl, rfl⟩) (by assumption) ?_
                refine wpAnyH_take (i := 8) (v := undef) rfl (by kernel_rfl) (by kernel_rfl) (by kernel_rfl) (fun _ _ _ h => h) (Or.inr ⟨by kernel_rfl, rfl⟩) (by assumption) ?_
                refine wpAnyH_take (i := 9) (v := undef) rfl (by kernel_rfl) (by kernel_rfl) (by kernel_rfl) (fun _ _ _ h => h) (Or.inr ⟨by kernel_rfl, rfl⟩) (by assumption) ?_
                refine wpAnyH_take (i := 10) (v := undef) rfl (by kernel_rfl) (by kernel_rfl) (by kernel_rfl) (fun _ _ _ h => h) (Or.inr ⟨by kernel_rfl, rfl⟩) (by assumption) ?_
                simp only [List.getElem_toArray, List.getElem_cons_succ, List.getElem_cons_zero, Act.put, List.setIfInBounds_toArray, List.set_cons_zero, List.set_cons_succ]
                refine wpAnyH_take (i := 11) (v := ?_) rfl (by kernel_rfl) (by kernel_rfl) (by kernel_rfl) (fun _ _ _ h => h) (Or.inl ⟨by kernel_rfl, ?_⟩) (by assumption) ?_
                rotate_left
                · intro w hSw
                  try dsimp only at hSw
                  go_simp
                  try with_reducible rfl
                simp only [List.getElem_toArray, List.getElem_cons_succ, List.getElem_cons_zero, Act.put, List.setIfInBounds_toArray, List.set_cons_zero, List.set_cons_succ]
                refine wpAnyH_take (i := 12) (v := ?_) rfl (by kernel_rfl) (by kernel_rfl) (by kernel_rfl) (fun _ _ _ h => h) (Or.inl ⟨by kernel_rfl, ?_⟩) (by assumption) ?_
                rotate_left
                · intro w hSw
                  try dsimp only at hSw
                  go_simp
                  try with_reducible rfl
                simp only [List.getElem_toArray, List.getElem_cons_succ, List.getElem_cons_zero, Act.put, List.setIfInBounds_toArray, List.set_cons_zero, List.set_cons_succ]
                clear hHeld
                refine wpAnyH_done (by kernel_rfl) ?_ _
                go_wp2
                go_roundw
                case rel => exact ⟨s + 1, by omega, by go_num, by rw [HST2.out]; rfl, V, bel⟩
                case measure => simp [intOf]; omega
              · refine wp_region_held_drew (S := (fun w' => w'.rangeAt w.heap.size 0 L ∧ w'.rangeAt (w.heap.size + 1) 0 M ∧ w'.cell? ⟨ba, oa + s * 3, none⟩ = some (.int .i64 ya))) (by kernel_rfl) ?_ (fun hHeld => ?_)
                · exact ⟨range_of V.kv.v.l, range_of V.kv.v.m, x0⟩
                replace V := V.later (Below.refl _ wr).drew
                replace bel := below_step bel (Below.refl _ wr).drew
                replace x0 := cell_later x0 (Below.refl _ wr).drew
                generalize wr.drew = X at *
                obtain ⟨d, hd⟩ : ∃ d, I.occB ya = d := ⟨_, rfl⟩
                have HD := Lib.hid hd
                clear hd
                refine wpAnyH_take (i := 0) (v := ?_) rfl (by kernel_rfl) (by kernel_rfl) (by kernel_rfl) (fun _ _ _ h => h) (Or.inl ⟨by kernel_rfl, ?_⟩) (by assumption) ?_
                rotate_left
                · intro w hSw
                  try dsimp only at hSw
                  go_simp
                  try with_reducible rfl
                simp only [List.getElem_toArray, List.getElem_cons_succ, List.getElem_cons_zero, Act.put, List.setIfInBounds_toArray, List.set_cons_zero, List.set_cons_succ]
                refine wpAnyH_take (i := 1) (v := ?_) rfl (by kernel_rfl) (by kernel_rfl) (by kernel_rfl) (fun _ _ _ h => h) (Or.inl ⟨by kernel_rfl, ?_⟩) (by assumption) ?_
                rotate_left
                · intro w hSw
                  try dsimp only at hSw
                  go_simp
                  try with_reducible rfl
                simp only [List.getElem_toArray, List.getElem_cons_succ, List.getElem_cons_zero, Act.put, List.setIfInBounds_toArray, List.set_cons_zero, List.set_cons_succ]
                refine wpAnyH_take (i := 2) (v := .agg (L : List Value).toArray) rfl (by kernel_rfl) (by kernel_rfl) (by kernel_rfl) (fun _ _ _ h => h) (yieldsIf_load_mid (by kernel_rfl) 29 (.tmp 3) (by kernel_rfl) (w.heap.size) 0 (by kernel_rfl) L _ (fun w' h => h.1) (by first | exact Try.underlying29) rfl (by first | assumption | (simp only [*]; kernel_rfl))) (by assumption) ?_
                try simp only [List.getElem_toArray, List.getElem_cons_succ, List.getElem_cons_zero, Act.put, List.setIfInBounds_toArray, List.set_cons_zero, List.set_cons_succ]
                refine wpAnyH_take (i := 3) (v := .agg (M : List Value).toArray) rfl (by kernel_rfl) (by kernel_rfl) (by kernel_rfl) (fun _ _ _ h => h) (yieldsIf_load_mid (by kernel_rfl) 35 (.tmp 4) (by kernel_rfl) (w.heap.size + 1) 0 (by kernel_rfl) M _ (fun w' h => h.2.1) (by first | exact Try.underlying35) rfl (by first | assumption | (simp only [*]; kernel_rfl))) (by assumption) ?_
                try simp only [List.getElem_toArray, List.getElem_cons_succ, List.getElem_cons_zero, Act.put, List.setIfInBounds_toArray, List.set_cons_zero, List.set_cons_succ]
                refine wpAnyH_take (i := 4) (v := ?_) rfl (by kernel_rfl) (by kernel_rfl) (by kernel_rfl) (fun _ _ _ h => h) (Or.inl ⟨by kernel_rfl, ?_⟩) (by assumption) ?_
                rotate_left
                · intro w hSw
                  try dsimp only at hSw
                  go_simp
                  try with_reducible rfl
                simp only [List.getElem_toArray, List.getElem_cons_succ, List.getElem_cons_zero, Act.put, List.setIfInBounds_toArray, List.set_cons_zero, List.set_cons_succ]
                refine wpAnyH_take (i := 5) (v := ?_) rfl (by kernel_rfl) (by kernel_rfl) (by kernel_rfl) (fun _ _ _ h => h) (Or.inl ⟨by kernel_rfl, ?_⟩) (by assumption) ?_
                rotate_left
                · intro w hSw
                  try dsimp only at hSw
                  go_simp
                  try with_reducible rfl
                simp only [List.getElem_toArray, List.getElem_cons_succ, List.getElem_cons_zero, Act.put, List.setIfInBounds_toArray, List.set_cons_zero, List.set_cons_succ]
                refine wpAnyH_take (i := 6) (v := ?_) rfl (by kernel_rfl) (by kernel_rfl) (by kernel_rfl) (fun _ _ _ h => h) (Or.inl ⟨by kernel_rfl, ?_⟩) (by assumption) ?_
                rotate_left
                · intro w hSw
                  try dsimp only at hSw
                  go_simp
                  try with_reducible rfl
                simp only [List.getElem_toArray, List.getElem_cons_succ, List.getElem_cons_zero, Act.put, List.setIfInBounds_toArray, List.set_cons_zero, List.set_cons_succ]
                refine wpAnyH_take (i := 7) (v := ?_) rfl (by kernel_rfl) (by kernel_rfl) (by kernel_rfl) (fun _ _ _ h => h) (Or.inl ⟨by kernel_rfl, ?_⟩) (by assumption) ?_
                rotate_left
                · intro w hSw
                  try dsimp only at hSw
                  go_simp
                  try with_reducible rfl
                simp only [List.getElem_toArray, List.getElem_cons_succ, List.getElem_cons_zero, Act.put, List.setIfInBounds_toArray, List.set_cons_zero, List.set_cons_succ]
                refine wpAnyH_take (i := 8) (v := ?_) rfl (by kernel_rfl) (by kernel_rfl) (by kernel_rfl) (fun _ _ _ h => h) (Or.inl ⟨by kernel_rfl, ?_⟩) (by assumption) ?_
                rotate_left
                · intro w hSw
                  try dsimp only at hSw
                  go_simp
                  try with_reducible rfl
                simp only [List.getElem_toArray, List.getElem_cons_succ, List.getElem_cons_zero, Act.put, List.setIfInBounds_toArray, List.set_cons_zero, List.set_cons_succ]
                clear hHeld
                refine ready1 (i := 9) rfl (by kernel_rfl) (by kernel_rfl) (fun K_ hK => ?_)
                refine Node.wp_fn 10 [.tmp 68, .tmp 69, .tmp 74] _ [.agg L.toArray, .agg M.toArray, .int .i64 ya] (by rfl) (by rfl) (enters Try.func10 (by kernel_rfl) rfl) (rocc_c I L M ya d X HD.out.symm V.kv.a0.f) ?_
                rintro e X1 ⟨rfl, bF⟩
                refine ⟨_, rfl, ?_⟩
                replace V := V.later bF
                replace bel := below_step bel bF
                replace x0 := cell_later x0 bF
                refine hK.out _ _ ⟨range_of V.kv.v.l, range_of V.kv.v.m, x0⟩ (fun hHeld => ?_)
                clear hK K_ bF x0
                try simp only [List.getElem_toArray, List.getElem_cons_succ, List.getElem_cons_zero, Act.put, List.setIfInBounds_toArray, List.set_cons_zero, List.set_cons_succ]
                refine wpAnyH_take (i := 10) (v := ?_) rfl (by kernel_rfl) (by kernel_rfl) (by kernel_rfl) (fun _ _ _ h => h) (Or.inl ⟨by kernel_rfl, ?_⟩) (by assumption) ?_
                rotate_left
                · intro w hSw
                  try dsimp only at hSw
                  go_simp
                  try with_reducible rfl
                simp only [List.getElem_toArray, List.getElem_cons_succ, List.getElem_cons_zero, Act.put, List.setIfInBounds_toArray, List.set_cons_zero, List.set_cons_succ]
                refine wpAnyH_take (i := 11) (v := ?_) rfl (by kernel_rfl) (by kernel_rfl) (by kernel_rfl) (fun _ _ _ h => h) (Or.inl ⟨by kernel_rfl, ?_⟩) (by assumption) ?_
                rotate_left
                · intro w hSw
                  try dsimp only at hSw
                  go_simp
                  try with_reducible rfl
                simp only [List.getElem_toArray, List.getElem_cons_succ, List.getElem_cons_zero, Act.put, List.setIfInBounds_toArray, List.set_cons_zero, List.set_cons_succ]
                refine wpAnyH_take (i := 12) (v := ?_) rfl (by kernel_rfl) (by kernel_rfl) (by kernel_rfl) (fun _ _ _ h => h) (Or.inl ⟨by kernel_rfl, ?_⟩) (by assumption) ?_
                rotate_left
                · intro w hSw
                  try dsimp only at hSw
                  go_simp
                  try with_reducible rfl
                simp only [List.getElem_toArray, List.getElem_cons_succ, List.getElem_cons_zero, Act.put, List.setIfInBounds_toArray, List.set_cons_zero, List.set_cons_succ]
                clear hHeld
                refine wpAnyH_done (by kernel_rfl) ?_ _
                go_wp2
                go_roundw
                case rel => exact ⟨s + 1, by omega, by go_num, by rw [HST2.out, HD.out]; rfl, V, bel⟩
                case measure => simp [intOf]; omega
            · obtain rfl : s = ml := by omega
              have j2 : decide (s < s) = false := decide_eq_false (by omega)
              have HF1 : Hid ((f0 && all.all (fun x => !I.occB x.1)) = f) := Lib.hid (by rw [← HF.out, List.take_of_length_le (by rw [HML.out]; exact Nat.le_refl _)])
              clear HF hsm bel HTA
              have RH := range_of V.h
              go_wp2_with (first
                | refine wpList_load_g (by rfl) 52 (.tmp 10) (by rfl) gh 0 (by rfl) cs _ RH Try.underlying52 rfl szS ?_
                | fail)
              refine (refNeeds_c cs q _ (HHq.out.later V.bel) hnq).mono ?_
              rintro e W5 ⟨vn, rfl, b5, TN⟩
              replace V := V.later b5
              clear b5 RH
              obtain ⟨l, hl⟩ : ∃ l, needsL q = l := ⟨_, rfl⟩
              have hll : l.length ≤ 5864062014700 := by rw [← hl]; exact Nat.le_trans (List.length_filter_le _ _) hnq
              rw [hl] at TN
              have HL := Lib.hid hl
              obtain ⟨An, cn, rfl⟩ := TN.form
              obtain ⟨nl, hnl⟩ : ∃ n, l.length = n := ⟨_, rfl⟩
              rw [hnl] at TN hll
              rw [hnl]
              have HNL2 := Lib.hid hnl
              have HTN := Lib.hid TN
              clear hl hnl TN
              go_wp2
              go_loopw [11, 15] (fun v i wj => ∃ s : Nat, s ≤ nl ∧ i = .int .i64 s ∧ v = .bool (f && (l.take s).all (fun x => I.stand x.1 == x.2.1)) ∧ KH w wj I L M K (.slice (some ⟨b, off, none⟩) N ch) css hs nx ms gh cs ∧ Below W5.heap.size W5 wj) (fun v i _ => nl - (intOf i).toNat)
              case atStart => exact ⟨0, Nat.zero_le _, rfl, by simp, V, Below.refl _ _⟩
              case round =>
                clear V
                obtain ⟨t, htl, rfl, rfl, V, bel⟩ := hrel
                obtain ⟨g, hg⟩ : ∃ g, (f && (l.take t).all (fun x => I.stand x.1 == x.2.1)) = g := ⟨_, rfl⟩
                rw [hg]
                have HG := Lib.hid hg
                clear hg
                by_cases htm : t < nl
                · have j1 : (t : Int) < (nl : Int) := by omega
                  have j2 : decide (t < nl) = true := decide_eq_true htm
                  obtain ⟨y, hy⟩ : ∃ x, l[t]? = some x := ⟨_, List.getElem?_eq_getElem (by rw [HNL2.out]; exact htm)⟩
                  have HST : Hid ((f && (l.take (t + 1)).all (fun x => I.stand x.1 == x.2.1)) = (g && (I.stand y.1 == y.2.1))) := Lib.hid (by rw [all_and _ _ _ _ _ hy, HG.out])
                  obtain ⟨ba, oa, cca, hva, x0, x1, x2⟩ := t3_cells HTN.out hy
                  obtain ⟨rfl, hdr, rfl⟩ := Value.slice.inj hva
                  replace x0 := cell_later x0 bel
                  replace x1 := cell_later x1 bel
                  obtain ⟨ya, yb, yc⟩ := y
                  simp only at x0 x1
                  have HST2 : Hid ((f && (l.take (t + 1)).all (fun x => I.stand x.1 == x.2.1)) = (g && (I.stand ya == yb))) := Lib.hid HST.out
                  clear hva hdr x2 hy HST
                  go_upto_region 19 with (fail)
                  cases g
                  · refine wp_region_held_drew (S := (fun _ => True)) (by kernel_rfl) ?_ (fun hHeld => ?_)
                    · trivial
                    replace V := V.later (Below.refl _ wr).drew
                    replace bel := below_step bel (Below.refl _ wr).drew
                    clear x0 x1
                    generalize wr.drew = X at *
                    refine wpAnyH_take (i := 0) (v := ?_) rfl (by kernel_rfl) (by kernel_rfl) (by kernel_rfl) (fun _ _ _ h => h) (Or.inl ⟨by kernel_rfl, ?_⟩) (by assumption) ?_
                    rotate_left
                    · intro w hSw
                      try dsimp only at hSw
                      go_simp
                      try with_reducible rfl
                    simp only [List.getElem_toArray, List.getElem_cons_succ, List.getElem_cons_zero, Act.put, List.setIfInBounds_toArray, List.set_cons_zero, List.set_cons_succ]
                    refine wpAnyH_take (i := 1) (v := ?_) rfl (by kernel_rfl) (by kernel_rfl) (by kernel_rfl) (fun _ _ _ h => h) (Or.inl ⟨by kernel_rfl, ?_⟩) (by assumption) ?_
                    rotate_left
                    · intro w hSw
                      try dsimp only at hSw
                      go_simp
                      try with_reducible rfl
                    simp only [List.getElem_toArray, List.getElem_cons_succ, List.getElem_cons_zero, Act.put, List.setIfInBounds_toArray, List.set_cons_zero, List.set_cons_succ]
                    refine wpAnyH_take (i := 2) (v := undef) rfl (by kernel_rfl) (by kernel_rfl) (by kernel_rfl) (fun _ _ _ h => h) (Or.inr ⟨by kernel_rfl, rfl⟩) (by assumption) ?_
                    refine wpAnyH_take (i := 3) (v := undef) rfl (by kernel_rfl) (by kernel_rfl) (by kernel_rfl) (fun _ _ _ h => h) (Or.inr ⟨by kernel_rfl, rfl⟩) (by assumption) ?_
                    refine wpAnyH_take (i := 4) (v := undef) rfl (by kernel_rfl) (by kernel_rfl) (by kernel_rfl) (fun _ _ _ h => h) (Or.inr ⟨by kernel_rfl, rfl⟩) (by assumption) ?_
                    refine wpAnyH_take (i := 5) (v := undef) rfl (by kernel_rfl) (by kernel_rfl) (by kernel_rfl) (fun _ _ _ h => h) (Or.inr ⟨by kernel_rfl, rfl⟩) (by assumption) ?_
                    refine wpAnyH_take (i := 6) (v := undef) rfl (by kernel_rfl) (by kernel_rfl) (by kernel_rfl) (fun _ _ _ h => h) (Or.inr ⟨by kernel_rfl, rfl⟩) (by assumption) ?_
                    refine wpAnyH_take (i := 7) (v := undef) rfl (by kernel_rfl) (by kernel_rfl) (by kernel_rfl) (fun _ _ _ h => h) (Or.inr ⟨by kernel_rfl, rfl⟩) (by assumption) ?_
                    refine wpAnyH_take (i := 8) (v := undef) rfl (by kernel_rfl) (by kernel_rfl) (by kernel_rfl) (fun _ _ _ h => h) (Or.inr ⟨by kernel_rfl, rfl⟩) (by assumption) ?_
                    refine wpAnyH_take (i := 9) (v := undef) rfl (by kernel_rfl) (by kernel_rfl) (by kernel_rfl) (fun _ _ _ h => h) (Or.inr ⟨by kernel_rfl, rfl⟩) (by assumption) ?_
                    refine wpAnyH_take (i := 10) (v := undef) rfl (by kernel_rfl) (by kernel_rfl) (by kernel_rfl) (fun _ _ _ h => h) (Or.inr ⟨by kernel_rfl, rfl⟩) (by assumption) ?_
                    refine wpAnyH_take (i := 11) (v := undef) rfl (by kernel_rfl) (by kernel_rfl) (by kernel_rfl) (fun _ _ _ h => h) (Or.inr ⟨by kernel_rfl, rfl⟩) (by assumption) ?_
                    refine wpAnyH_take (i := 12) (v := undef) rfl (by kernel_rfl) (by kernel_rfl) (by kernel_rfl) (fun _ _ _ h => h) (Or.inr ⟨by kernel_rfl, rfl⟩) (by assumption) ?_
                    refine wpAnyH_take (i := 13) (v := undef) rfl (by kernel_rfl) (by kernel_rfl) (by kernel_rfl) (fun _ _ _ h => h) (Or.inr ⟨by kernel_rfl, rfl⟩) (by assumption) ?_
                    refine wpAnyH_take (i := 14) (v := undef) rfl (by kernel_rfl) (by kernel_rfl) (by kernel_rfl) (fun _ _ _ h => h) (Or.inr ⟨by kernel_rfl, rfl⟩) (by assumption) ?_
                    refine wpAnyH_take (i := 15) (v := undef) rfl (by kernel_rfl) (by kernel_rfl) (by kernel_rfl) (fun _ _ _ h => h) (Or.inr ⟨by kernel_rfl, rfl⟩) (by assumption) ?_
                    simp only [List.getElem_toArray, List.getElem_cons_succ, List.getElem_cons_zero, Act.put, List.setIfInBounds_toArray, List.set_cons_zero, List.set_cons_succ]
                    refine wpAnyH_take (i := 16) (v := ?_) rfl (by kernel_rfl) (by kernel_rfl) (by kernel_rfl) (fun _ _ _ h => h) (Or.inl ⟨by kernel_rfl, ?_⟩) (by assumption) ?_
                    rotate_left
                    · intro w hSw
                      try dsimp only at hSw
                      go_simp
                      try with_reducible rfl
                    simp only [List.getElem_toArray, List.getElem_cons_succ, List.getElem_cons_zero, Act.put, List.setIfInBounds_toArray, List.set_cons_zero, List.set_cons_succ]
                    refine wpAnyH_take (i := 17) (v := ?_) rfl (by kernel_rfl) (by kernel_rfl) (by kernel_rfl) (fun _ _ _ h => h) (Or.inl ⟨by kernel_rfl, ?_⟩) (by assumption) ?_
                    rotate_left
                    · intro w hSw
                      try dsimp only at hSw
                      go_simp
                      try with_reducible rfl
                    simp only [List.getElem_toArray, List.getElem_cons_succ, List.getElem_cons_zero, Act.put, List.setIfInBounds_toArray, List.set_cons_zero, List.set_cons_succ]
                    clear hHeld
                    refine wpAnyH_done (by kernel_rfl) ?_ _
                    go_wp2
                    go_roundw
                    case rel => exact ⟨t + 1, by omega, by go_num, by rw [HST2.out]; rfl, V, bel⟩
                    case measure => simp [intOf]; omega
                  · refine wp_region_held_drew (S := (fun w' => w'.rangeAt w.heap.size 0 L ∧ w'.rangeAt (w.heap.size + 1) 0 M ∧ w'.cell? ⟨ba, oa + t * 3, none⟩ = some (.int .i64 ya) ∧ w'.cell? ⟨ba, oa + t * 3 + 1, none⟩ = some (.int .i64 yb))) (by kernel_rfl) ?_ (fun hHeld => ?_)
                    · exact ⟨range_of V.kv.v.l, range_of V.kv.v.m, x0, x1⟩
                    replace V := V.later (Below.refl _ wr).drew
                    replace bel := below_step bel (Below.refl _ wr).drew
                    replace x0 := cell_later x0 (Below.refl _ wr).drew
                    replace x1 := cell_later x1 (Below.refl _ wr).drew
                    generalize wr.drew = X at *
                    obtain ⟨d, hd⟩ : ∃ d, I.stand ya = d := ⟨_, rfl⟩
                    have HD := Lib.hid hd
                    clear hd
                    refine wpAnyH_take (i := 0) (v := ?_) rfl (by kernel_rfl) (by kernel_rfl) (by kernel_rfl) (fun _ _ _ h => h) (Or.inl ⟨by kernel_rfl, ?_⟩) (by assumption) ?_
                    rotate_left
                    · intro w hSw
                      try dsimp only at hSw
                      go_simp
                      try with_reducible rfl
                    simp only [List.getElem_toArray, List.getElem_cons_succ, List.getElem_cons_zero, Act.put, List.setIfInBounds_toArray, List.set_cons_zero, List.set_cons_succ]
                    refine wpAnyH_take (i := 1) (v := ?_) rfl (by kernel_rfl) (by kernel_rfl) (by kernel_rfl) (fun _ _ _ h => h) (Or.inl ⟨by kernel_rfl, ?_⟩) (by assumption) ?_
                    rotate_left
                    · intro w hSw
                      try dsimp only at hSw
                      go_simp
                      try with_reducible rfl
                    simp only [List.getElem_toArray, List.getElem_cons_succ, List.getElem_cons_zero, Act.put, List.setIfInBounds_toArray, List.set_cons_zero, List.set_cons_succ]
                    refine wpAnyH_take (i := 2) (v := .agg (L : List Value).toArray) rfl (by kernel_rfl) (by kernel_rfl) (by kernel_rfl) (fun _ _ _ h => h) (yieldsIf_load_mid (by kernel_rfl) 29 (.tmp 3) (by kernel_rfl) (w.heap.size) 0 (by kernel_rfl) L _ (fun w' h => h.1) (by first | exact Try.underlying29) rfl (by first | assumption | (simp only [*]; kernel_rfl))) (by assumption) ?_
                    try simp only [List.getElem_toArray, List.getElem_cons_succ, List.getElem_cons_zero, Act.put, List.setIfInBounds_toArray, List.set_cons_zero, List.set_cons_succ]
                    refine wpAnyH_take (i := 3) (v := .agg (M : List Value).toArray) rfl (by kernel_rfl) (by kernel_rfl) (by kernel_rfl) (fun _ _ _ h => h) (yieldsIf_load_mid (by kernel_rfl) 35 (.tmp 4) (by kernel_rfl) (w.heap.size + 1) 0 (by kernel_rfl) M _ (fun w' h => h.2.1) (by first | exact Try.underlying35) rfl (by first | assumption | (simp only [*]; kernel_rfl))) (by assumption) ?_
                    try simp only [List.getElem_toArray, List.getElem_cons_succ, List.getElem_cons_zero, Act.put, List.setIfInBounds_toArray, List.set_cons_zero, List.set_cons_succ]
                    refine wpAnyH_take (i := 4) (v := ?_) rfl (by kernel_rfl) (by kernel_rfl) (by kernel_rfl) (fun _ _ _ h => h) (Or.inl ⟨by kernel_rfl, ?_⟩) (by assumption) ?_
                    rotate_left
                    · intro w hSw
                      try dsimp only at hSw
                      go_simp
                      try with_reducible rfl
                    simp only [List.getElem_toArray, List.getElem_cons_succ, List.getElem_cons_zero, Act.put, List.setIfInBounds_toArray, List.set_cons_zero, List.set_cons_succ]
                    refine wpAnyH_take (i := 5) (v := ?_) rfl (by kernel_rfl) (by kernel_rfl) (by kernel_rfl) (fun _ _ _ h => h) (Or.inl ⟨by kernel_rfl, ?_⟩) (by assumption) ?_
                    rotate_left
                    · intro w hSw
                      try dsimp only at hSw
                      go_simp
                      try with_reducible rfl
                    simp only [List.getElem_toArray, List.getElem_cons_succ, List.getElem_cons_zero, Act.put, List.setIfInBounds_toArray, List.set_cons_zero, List.set_cons_succ]
                    refine wpAnyH_take (i := 6) (v := ?_) rfl (by kernel_rfl) (by kernel_rfl) (by kernel_rfl) (fun _ _ _ h => h) (Or.inl ⟨by kernel_rfl, ?_⟩) (by assumption) ?_
                    rotate_left
                    · intro w hSw
                      try dsimp only at hSw
                      go_simp
                      try with_reducible rfl
                    simp only [List.getElem_toArray, List.getElem_cons_succ, List.getElem_cons_zero, Act.put, List.setIfInBounds_toArray, List.set_cons_zero, List.set_cons_succ]
                    refine wpAnyH_take (i := 7) (v := ?_) rfl (by kernel_rfl) (by kernel_rfl) (by kernel_rfl) (fun _ _ _ h => h) (Or.inl ⟨by kernel_rfl, ?_⟩) (by assumption) ?_
                    rotate_left
                    · intro w hSw
                      try dsimp only at hSw
                      go_simp
                      try with_reducible rfl
                    simp only [List.getElem_toArray, List.getElem_cons_succ, List.getElem_cons_zero, Act.put, List.setIfInBounds_toArray, List.set_cons_zero, List.set_cons_succ]
                    refine wpAnyH_take (i := 8) (v := ?_) rfl (by kernel_rfl) (by kernel_rfl) (by kernel_rfl) (fun _ _ _ h => h) (Or.inl ⟨by kernel_rfl, ?_⟩) (by assumption) ?_
                    rotate_left
                    · intro w hSw
                      try dsimp only at hSw
                      go_simp
                      try with_reducible rfl
                    simp only [List.getElem_toArray, List.getElem_cons_succ, List.getElem_cons_zero, Act.put, List.setIfInBounds_toArray, List.set_cons_zero, List.set_cons_succ]
                    refine wpAnyH_take (i := 10) (v := ?_) rfl (by kernel_rfl) (by kernel_rfl) (by kernel_rfl) (fun _ _ _ h => h) (Or.inl ⟨by kernel_rfl, ?_⟩) (by assumption) ?_
                    rotate_left
                    · intro w hSw
                      try dsimp only at hSw
                      go_simp
                      try with_reducible rfl
                    simp only [List.getElem_toArray, List.getElem_cons_succ, List.getElem_cons_zero, Act.put, List.setIfInBounds_toArray, List.set_cons_zero, List.set_cons_succ]
                    refine wpAnyH_take (i := 11) (v := ?_) rfl (by kernel_rfl) (by kernel_rfl) (by kernel_rfl) (fun _ _ _ h => h) (Or.inl ⟨by kernel_rfl, ?_⟩) (by assumption) ?_
                    rotate_left
                    · intro w hSw
                      try dsimp only at hSw
                      go_simp
                      try with_reducible rfl
                    simp only [List.getElem_toArray, List.getElem_cons_succ, List.getElem_cons_zero, Act.put, List.setIfInBounds_toArray, List.set_cons_zero, List.set_cons_succ]
                    refine wpAnyH_take (i := 12) (v := ?_) rfl (by kernel_rfl) (by kernel_rfl) (by kernel_rfl) (fun _ _ _ h => h) (Or.inl ⟨by kernel_rfl, ?_⟩) (by assumption) ?_
                    rotate_left
                    · intro w hSw
                      try dsimp only at hSw
                      go_simp
                      try with_reducible rfl
                    simp only [List.getElem_toArray, List.getElem_cons_succ, List.getElem_cons_zero, Act.put, List.setIfInBounds_toArray, List.set_cons_zero, List.set_cons_succ]
                    refine wpAnyH_take (i := 13) (v := ?_) rfl (by kernel_rfl) (by kernel_rfl) (by kernel_rfl) (fun _ _ _ h => h) (Or.inl ⟨by kernel_rfl, ?_⟩) (by assumption) ?_
                    rotate_left
                    · intro w hSw
                      try dsimp only at hSw
                      go_simp
                      try with_reducible rfl
                    simp only [List.getElem_toArray, List.getElem_cons_succ, List.getElem_cons_zero, Act.put, List.setIfInBounds_toArray, List.set_cons_zero, List.set_cons_succ]
                    refine wpAnyH_take (i := 14) (v := ?_) rfl (by kernel_rfl) (by kernel_rfl) (by kernel_rfl) (fun _ _ _ h => h) (Or.inl ⟨by kernel_rfl, ?_⟩) (by assumption) ?_
                    rotate_left
                    · intro w hSw
                      try dsimp only at hSw
                      go_simp
                      try with_reducible rfl
                    simp only [List.getElem_toArray, List.getElem_cons_succ, List.getElem_cons_zero, Act.put, List.setIfInBounds_toArray, List.set_cons_zero, List.set_cons_succ]
                    clear hHeld
                    refine ready1 (i := 9) rfl (by kernel_rfl) (by kernel_rfl) (fun K_ hK => ?_)
                    refine Node.wp_fn 12 [.tmp 88, .tmp 89, .tmp 94] _ [.agg L.toArray, .agg M.toArray, .int .i64 ya] (by rfl) (by rfl) (enters Try.func12 (by kernel_rfl) rfl) (rstand_c I L M ya d X HD.out.symm V.kv.a) ?_
                    rintro e X1 ⟨rfl, bF⟩
                    refine ⟨_, rfl, ?_⟩
                    replace V := V.later bF
                    replace bel := below_step bel bF
                    replace x0 := cell_later x0 bF
                    replace x1 := cell_later x1 bF
                    refine hK.out _ _ ⟨range_of V.kv.v.l, range_of V.kv.v.m, x0, x1⟩ (fun hHeld => ?_)
                    clear hK K_ bF x0 x1
                    try simp only [List.getElem_toArray, List.getElem_cons_succ, List.getElem_cons_zero, Act.put, List.setIfInBounds_toArray, List.set_cons_zero, List.set_cons_succ]
                    obtain ⟨d2, hd2⟩ : ∃ d2, (d == yb) = d2 := ⟨_, rfl⟩
                    have HD2 := Lib.hid hd2
                    refine wpAnyH_take (i := 15) (v := ?_) rfl (by kernel_rfl) (by kernel_rfl) (by kernel_rfl) (fun _ _ _ h => h) (Or.inl ⟨by kernel_rfl, ?_⟩) (by assumption) ?_
                    rotate_left
                    · intro w hSw
                      try dsimp only at hSw
                      go_simp
                      try with_reducible rfl
                    simp only [List.getElem_toArray, List.getElem_cons_succ, List.getElem_cons_zero, Act.put, List.setIfInBounds_toArray, List.set_cons_zero, List.set_cons_succ]
                    refine wpAnyH_take (i := 16) (v := ?_) rfl (by kernel_rfl) (by kernel_rfl) (by kernel_rfl) (fun _ _ _ h => h) (Or.inl ⟨by kernel_rfl, ?_⟩) (by assumption) ?_
                    rotate_left
                    · intro w hSw
                      try dsimp only at hSw
                      go_simp
                      try with_reducible rfl
                    simp only [List.getElem_toArray, List.getElem_cons_succ, List.getElem_cons_zero, Act.put, List.setIfInBounds_toArray, List.set_cons_zero, List.set_cons_succ]
                    refine wpAnyH_take (i := 17) (v := ?_) rfl (by kernel_rfl) (by kernel_rfl) (by kernel_rfl) (fun _ _ _ h => h) (Or.inl ⟨by kernel_rfl, ?_⟩) (by assumption) ?_
                    rotate_left
                    · intro w hSw
                      try dsimp only at hSw
                      go_simp
                      try with_reducible rfl
                    simp only [List.getElem_toArray, List.getElem_cons_succ, List.getElem_cons_zero, Act.put, List.setIfInBounds_toArray, List.set_cons_zero, List.set_cons_succ]
                    clear hHeld hd2
                    refine wpAnyH_done (by kernel_rfl) ?_ _
                    go_wp2
                    go_roundw
                    case rel => exact ⟨t + 1, by omega, by go_num, by rw [HST2.out, HD.out, HD2.out]; rfl, V, bel⟩
                    case measure => simp [intOf]; omega
                · obtain rfl : t = nl := by omega
                  have j2 : decide (t < t) = false := decide_eq_false (by omega)
                  have HFIN : Hid (g = clearB I.stand I.occB I.litB q) := Lib.hid (by rw [← clear_is, HF0.out, HAL.out, HF1.out, HL.out, ← HG.out, List.take_of_length_le (by rw [HNL2.out]; exact Nat.le_refl _)])
                  clear HG htm bel HTN HF1 HL HAL HF0
                  have RL := range_of V.kv.v.l
                  have RM := range_of V.kv.v.m
                  have RH := range_of V.h
                  obtain ⟨hl1, hl2⟩ : q.steps.length ≤ 5864062014700 ∧ q.over.length ≤ 5864062014700 := by rw [HN'.out, HO.out]; omega
                  go_wp2_with (first
                    | refine wpList_load_g (by rfl) 29 (.tmp 3) (by rfl) w.heap.size 0 (by rfl) L _ RL Try.underlying29 rfl szL ?_
                    | refine wpList_load_g (by rfl) 35 (.tmp 4) (by rfl) (w.heap.size + 1) 0 (by rfl) M _ RM Try.underlying35 rfl szM ?_
                    | refine wpList_load_g (by rfl) 52 (.tmp 10) (by rfl) gh 0 (by rfl) cs _ RH Try.underlying52 rfl szS ?_
                    | fail)
                  refine (Clear_c I L M cs q g _ HFIN.out V.kv.a (HHq.out.later V.bel) hnq hl1 hl2).mono ?_
                  rintro e W6 ⟨rfl, b6⟩
                  replace V := V.later b6
                  clear b6 RL RM RH hl1 hl2
                  have z1 := cell_list V.h HHq.out.sig
                  obtain ⟨sg, hsg⟩ : ∃ z, q.sig = z := ⟨_, rfl⟩
                  rw [hsg] at z1
                  have HSG := Lib.hid hsg
                  have heq : (g == g) = true := by simp
                  have hne : (g != g) = false := by simp
                  clear hsg
                  go_upto_region 22 with (fail)
                  go_cut [121] from 109 to 120 (fun v wx => v = .bool (g && (decide (0 ≤ sg) && decide (sg < 12))) ∧ wx = W6)
                  case first =>
                    cases g
                    · go_wp2
                      go_meet
                      exact ⟨rfl, rfl⟩
                    · obtain ⟨d1, hd1⟩ : ∃ d, decide (0 ≤ sg) = d := ⟨_, rfl⟩
                      obtain ⟨d2, hd2⟩ : ∃ d, decide (sg < 12) = d := ⟨_, rfl⟩
                      have HD1 := Lib.hid hd1
                      have HD2 := Lib.hid hd2
                      cases d1
                      · go_wp2
                        go_meet
                        exact ⟨by rw [HD1.out]; rfl, rfl⟩
                      · go_wp2
                        go_meet
                        exact ⟨by rw [HD1.out, HD2.out]; rfl, rfl⟩
                  case rest =>
                    obtain ⟨rfl, rfl⟩ := hcut
                    obtain ⟨u, hu⟩ : ∃ u, (g && (decide (0 ≤ sg) && decide (sg < 12))) = u := ⟨_, rfl⟩
                    rw [hu]
                    have HU := Lib.hid hu
                    have HSB : Hid (sigW cl (hs.take (k + 1)) = x ||| sigBit g sg) := Lib.hid (by rw [HTS.out, sigW_snoc, HX.out, HSG.out, ← HCL.out, ← HFIN.out])
                    clear hu heq hne
                    cases u
                    · have HY : Hid (sigW cl (hs.take (k + 1)) = x) := Lib.hid (by rw [HSB.out]; unfold sigBit; rw [HU.out]; simp)
                      clear HSB HU
                      go_wp2
                      go_loopw [16] (fun i wj => ∃ j : Nat, j ≤ k ∧ i = .int .i64 j ∧ KH w wj I L M K (.slice (some ⟨b, off, none⟩) N ch) css hs nx ms gh cs) (fun i _ => k - (intOf i).toNat)
                      case atStart => exact ⟨0, Nat.zero_le _, rfl, V⟩
                      case round =>
                        clear V
                        obtain ⟨j, hj, rfl, V⟩ := hrel
                        by_cases hjk : j < k
                        · have j1 : (j : Int) < (k : Int) := by omega
                          have j2 : decide (j < k) = true := decide_eq_true hjk
                          have j3 : (j : Int) < (N : Int) := by omega
                          obtain ⟨csp, hcp⟩ : ∃ s, css[j]? = some s := ⟨_, List.getElem?_eq_getElem (by rw [HN.out]; omega)⟩
                          obtain ⟨qp, hqp⟩ : ∃ s, hs[j]? = some s := ⟨_, List.getElem?_eq_getElem (by rw [← HLL.out, HN.out]; omega)⟩
                          obtain ⟨b', off', c2, hv, hrp⟩ := V.kv.k.hs.row hcp
                          obtain ⟨hv1, hv2, hv3⟩ := Value.slice.inj hv
                          obtain ⟨rfl, rfl⟩ : b = b' ∧ off = off' := by cases hv1; exact ⟨rfl, rfl⟩
                          have hqp0 := V.kv.k0.hs.at_ j csp qp hcp hqp
                          have szP := held_size hqp0.len
                          have hbl := World.block_lt_of_cell? _ _ (hrp 0 _ hqp0.id)
                          have HQP := Lib.hid hqp0
                          obtain ⟨l1, l2⟩ := rightH_lens (HRK.out.2.1 k q HQ.out)
                          obtain ⟨l3, l4⟩ := rightH_lens (HRK.out.2.1 j qp hqp)
                          have l6 := HNL.out qp (List.mem_of_getElem? hqp)
                          have HLN := Lib.hid (And.intro l1 (And.intro l2 (And.intro l3 (And.intro l4 l6))))
                          have HD := Lib.hid (HRK.out.2.2 k j q qp hjk HQ.out hqp)
                          clear hv hv1 hv2 hv3 hcp hqp l1 l2 l3 l4 l6 hqp0
                          go_upto_region 27 with (fail)
                          refine wp_region_held_drew (S := (fun w' => w'.rangeAt gh 0 cs ∧ w'.cell? ⟨w.heap.size + 1 + 1, 1, none⟩ = some (.slice (some ⟨b, off, none⟩) N ch) ∧ w'.rangeAt b (off + j * 23) csp)) (by kernel_rfl) ?_ (fun hHeld => ?_)
                          · exact ⟨range_of V.h, cell_list V.kv.kb HH.out, hrp⟩
                          have hr' : wr.drew.rangeAt b (off + j * 23) csp := hrp
                          replace V := V.later (Below.refl _ wr).drew
                          have hbl' : b < wr.drew.heap.size := hbl
                          clear hrp hbl
                          generalize wr.drew = X at *
                          refine wpAnyH_take (i := 0) (v := .agg (cs : List Value).toArray) rfl (by kernel_rfl) (by kernel_rfl) (by kernel_rfl) (fun _ _ _ h => h) (yieldsIf_load_mid (by kernel_rfl) 52 (.tmp 10) (by kernel_rfl) (gh) 0 (by kernel_rfl) cs _ (fun w' h => h.1) (by first | exact Try.underlying52) rfl (by first | assumption | (simp only [*]; kernel_rfl))) (by assumption) ?_
                          try simp only [List.getElem_toArray, List.getElem_cons_succ, List.getElem_cons_zero, Act.put, List.setIfInBounds_toArray, List.set_cons_zero, List.set_cons_succ]
                          refine wpAnyH_take (i := 1) (v := ?_) rfl (by kernel_rfl) (by kernel_rfl) (by kernel_rfl) (fun _ _ _ h => h) (Or.inl ⟨by kernel_rfl, ?_⟩) (by assumption) ?_
                          rotate_left
                          · intro w hSw
                            try dsimp only at hSw
                            go_simp
                            try with_reducible rfl
                          simp only [List.getElem_toArray, List.getElem_cons_succ, List.getElem_cons_zero, Act.put, List.setIfInBounds_toArray, List.set_cons_zero, List.set_cons_succ]
                          refine wpAnyH_take (i := 2) (v := ?_) rfl (by kernel_rfl) (by kernel_rfl) (by kernel_rfl) (fun _ _ _ h => h) (Or.inl ⟨by kernel_rfl, ?_⟩) (by assumption) ?_
                          rotate_left
                          · intro w hSw
                            try dsimp only at hSw
                            go_simp
                            try with_reducible rfl
                          simp only [List.getElem_toArray, List.getElem_cons_succ, List.getElem_cons_zero, Act.put, List.setIfInBounds_toArray, List.set_cons_zero, List.set_cons_succ]
                          refine wpAnyH_take (i := 3) (v := ?_) rfl (by kernel_rfl) (by kernel_rfl) (by kernel_rfl) (fun _ _ _ h => h) (Or.inl ⟨by kernel_rfl, ?_⟩) (by assumption) ?_
                          rotate_left
                          · intro w hSw
                            try dsimp only at hSw
                            go_simp
                            try with_reducible rfl
                          simp only [List.getElem_toArray, List.getElem_cons_succ, List.getElem_cons_zero, Act.put, List.setIfInBounds_toArray, List.set_cons_zero, List.set_cons_succ]
                          refine wpAnyH_take (i := 4) (v := ?_) rfl (by kernel_rfl) (by kernel_rfl) (by kernel_rfl) (fun _ _ _ h => h) (Or.inl ⟨by kernel_rfl, ?_⟩) (by assumption) ?_
                          rotate_left
                          · intro w hSw
                            try dsimp only at hSw
                            go_simp
                            try with_reducible rfl
                          simp only [List.getElem_toArray, List.getElem_cons_succ, List.getElem_cons_zero, Act.put, List.setIfInBounds_toArray, List.set_cons_zero, List.set_cons_succ]
                          refine wpAnyH_take (i := 5) (v := .agg (csp : List Value).toArray) rfl (by kernel_rfl) (by kernel_rfl) (by kernel_rfl) (fun _ _ _ h => h) (yieldsIf_load_mid (by kernel_rfl) 52 (.tmp 138) (by kernel_rfl) (b) (off + j * 23) (by kernel_rfl) csp _ (fun w' h => h.2.2) (by first | exact Try.underlying52) rfl (by first | assumption | (simp only [*]; kernel_rfl) | kernel_rfl)) (by assumption) ?_
                          simp only [List.getElem_toArray, List.getElem_cons_succ, List.getElem_cons_zero, Act.put, List.setIfInBounds_toArray, List.set_cons_zero, List.set_cons_succ]
                          clear hHeld
                          obtain ⟨l1, l2, l3, l4, l6⟩ := HLN.out
                          refine ready1 (i := 6) rfl (by kernel_rfl) (by kernel_rfl) (fun K_ hK => ?_)
                          refine Node.wp_fn 14 [.tmp 134, .tmp 139] _ [.agg cs.toArray, .agg csp.toArray] (by rfl) (by rfl) (enters Try.func14 (by kernel_rfl) rfl) (refApart_c cs csp q qp true X HD.out.symm (HHq.out.later V.bel) (HQP.out.later V.bel) l1 l2 hnq l3 l4 l6) ?_
                          rintro e X1 ⟨rfl, bF⟩
                          refine ⟨_, rfl, ?_⟩
                          replace V := V.later bF
                          have hr2 := range_below hr' bF hbl'
                          refine hK.out _ _ ⟨range_of V.h, cell_list V.kv.kb HH.out, hr2⟩ (fun hHeld => ?_)
                          clear hK K_ bF hr' hbl' hr2 l1 l2 l3 l4 l6
                          try simp only [List.getElem_toArray, List.getElem_cons_succ, List.getElem_cons_zero, Act.put, List.setIfInBounds_toArray, List.set_cons_zero, List.set_cons_succ]
                          refine wpAnyH_take (i := 7) (v := ?_) rfl (by kernel_rfl) (by kernel_rfl) (by kernel_rfl) (fun _ _ _ h => h) (Or.inl ⟨by kernel_rfl, ?_⟩) (by assumption) ?_
                          rotate_left
                          · intro w hSw
                            try dsimp only at hSw
                            go_simp
                            try with_reducible rfl
                          simp only [List.getElem_toArray, List.getElem_cons_succ, List.getElem_cons_zero, Act.put, List.setIfInBounds_toArray, List.set_cons_zero, List.set_cons_succ]
                          clear hHeld
                          refine wpAnyH_done (by kernel_rfl) ?_ _
                          go_wp2
                          go_roundw
                          case rel => exact ⟨j + 1, by omega, by go_num, V⟩
                          case measure => simp [intOf]; omega
                        · obtain rfl : j = k := by omega
                          have j2 : decide (j < j) = false := decide_eq_false (by omega)
                          go_wp2
                          go_roundw
                          case rel => exact ⟨j + 1, by omega, by go_num, by rw [HY.out], V.kv⟩
                          case measure => simp [intOf]; omega
                    · have hsg := HU.out
                      simp only [Bool.and_eq_true, decide_eq_true_eq] at hsg
                      obtain ⟨hg1, hs0, hs12⟩ := hsg
                      subst hg1
                      obtain ⟨m, rfl⟩ := Int.eq_ofNat_of_zero_le hs0
                      have m12 : m < 12 := by omega
                      obtain ⟨y, hy⟩ : ∃ y, x ||| BitVec.twoPow 32 m = y := ⟨_, rfl⟩
                      have HY : Hid (sigW cl (hs.take (k + 1)) = y) := Lib.hid (by rw [HSB.out]; unfold sigBit; rw [HU.out, ← hy]; rfl)
                      have hn1 := or_wrap x m (by omega)
                      have hn2 := or_pow x m (by omega)
                      rw [hy] at hn1 hn2
                      have hu64 := IntWalk.u64_in (m : Int) (by omega)
                      have hmn : min m 32 = m := by omega
                      have i32 : (m : Int) < 32 := by omega
                      clear HSB HU hy hs0 hs12
                      go_upto_region 24 with (fail)
                      clear hn1 hn2 hu64 hmn i32 m12 z1
                      go_wp2
                      go_loopw [16] (fun i wj => ∃ j : Nat, j ≤ k ∧ i = .int .i64 j ∧ KH w wj I L M K (.slice (some ⟨b, off, none⟩) N ch) css hs nx ms gh cs) (fun i _ => k - (intOf i).toNat)
                      case atStart => exact ⟨0, Nat.zero_le _, rfl, V⟩
                      case round =>
                        clear V
                        obtain ⟨j, hj, rfl, V⟩ := hrel
                        by_cases hjk : j < k
                        · have j1 : (j : Int) < (k : Int) := by omega
                          have j2 : decide (j < k) = true := decide_eq_true hjk
                          have j3 : (j : Int) < (N : Int) := by omega
                          obtain ⟨csp, hcp⟩ : ∃ s, css[j]? = some s := ⟨_, List.getElem?_eq_getElem (by rw [HN.out]; omega)⟩
                          obtain ⟨qp, hqp⟩ : ∃ s, hs[j]? = some s := ⟨_, List.getElem?_eq_getElem (by rw [← HLL.out, HN.out]; omega)⟩
                          obtain ⟨b', off', c2, hv, hrp⟩ := V.kv.k.hs.row hcp
                          obtain ⟨hv1, hv2, hv3⟩ := Value.slice.inj hv
                          obtain ⟨rfl, rfl⟩ : b = b' ∧ off = off' := by cases hv1; exact ⟨rfl, rfl⟩
                          have hqp0 := V.kv.k0.hs.at_ j csp qp hcp hqp
                          have szP := held_size hqp0.len
                          have hbl := World.block_lt_of_cell? _ _ (hrp 0 _ hqp0.id)
                          have HQP := Lib.hid hqp0
                          obtain ⟨l1, l2⟩ := rightH_lens (HRK.out.2.1 k q HQ.out)
                          obtain ⟨l3, l4⟩ := rightH_lens (HRK.out.2.1 j qp hqp)
                          have l6 := HNL.out qp (List.mem_of_getElem? hqp)
                          have HLN := Lib.hid (And.intro l1 (And.intro l2 (And.intro l3 (And.intro l4 l6))))
                          have HD := Lib.hid (HRK.out.2.2 k j q qp hjk HQ.out hqp)
                          clear hv hv1 hv2 hv3 hcp hqp l1 l2 l3 l4 l6 hqp0
                          go_upto_region 27 with (fail)
                          refine wp_region_held_drew (S := (fun w' => w'.rangeAt gh 0 cs ∧ w'.cell? ⟨w.heap.size + 1 + 1, 1, none⟩ = some (.slice (some ⟨b, off, none⟩) N ch) ∧ w'.rangeAt b (off + j * 23) csp)) (by kernel_rfl) ?_ (fun hHeld => ?_)
                          · exact ⟨range_of V.h, cell_list V.kv.kb HH.out, hrp⟩
                          have hr' : wr.drew.rangeAt b (off + j * 23) csp := hrp
                          replace V := V.later (Below.refl _ wr).drew
                          have hbl' : b < wr.drew.heap.size := hbl
                          clear hrp hbl
                          generalize wr.drew = X at *
                          refine wpAnyH_take (i := 0) (v := .agg (cs : List Value).toArray) rfl (by kernel_rfl) (by kernel_rfl) (by kernel_rfl) (fun _ _ _ h => h) (yieldsIf_load_mid (by kernel_rfl) 52 (.tmp 10) (by kernel_rfl) (gh) 0 (by kernel_rfl) cs _ (fun w' h => h.1) (by first | exact Try.underlying52) rfl (by first | assumption | (simp only [*]; kernel_rfl))) (by assumption) ?_
                          try simp only [List.getElem_toArray, List.getElem_cons_succ, List.getElem_cons_zero, Act.put, List.setIfInBounds_toArray, List.set_cons_zero, List.set_cons_succ]
                          refine wpAnyH_take (i := 1) (v := ?_) rfl (by kernel_rfl) (by kernel_rfl) (by kernel_rfl) (fun _ _ _ h => h) (Or.inl ⟨by kernel_rfl, ?_⟩) (by assumption) ?_
                          rotate_left
                          · intro w hSw
                            try dsimp only at hSw
                            go_simp
                            try with_reducible rfl
                          simp only [List.getElem_toArray, List.getElem_cons_succ, List.getElem_cons_zero, Act.put, List.setIfInBounds_toArray, List.set_cons_zero, List.set_cons_succ]
                          refine wpAnyH_take (i := 2) (v := ?_) rfl (by kernel_rfl) (by kernel_rfl) (by kernel_rfl) (fun _ _ _ h => h) (Or.inl ⟨by kernel_rfl, ?_⟩) (by assumption) ?_
                          rotate_left
                          · intro w hSw
                            try dsimp only at hSw
                            go_simp
                            try with_reducible rfl
                          simp only [List.getElem_toArray, List.getElem_cons_succ, List.getElem_cons_zero, Act.put, List.setIfInBounds_toArray, List.set_cons_zero, List.set_cons_succ]
                          refine wpAnyH_take (i := 3) (v := ?_) rfl (by kernel_rfl) (by kernel_rfl) (by kernel_rfl) (fun _ _ _ h => h) (Or.inl ⟨by kernel_rfl, ?_⟩) (by assumption) ?_
                          rotate_left
                          · intro w hSw
                            try dsimp only at hSw
                            go_simp
                            try with_reducible rfl
                          simp only [List.getElem_toArray, List.getElem_cons_succ, List.getElem_cons_zero, Act.put, List.setIfInBounds_toArray, List.set_cons_zero, List.set_cons_succ]
                          refine wpAnyH_take (i := 4) (v := ?_) rfl (by kernel_rfl) (by kernel_rfl) (by kernel_rfl) (fun _ _ _ h => h) (Or.inl ⟨by kernel_rfl, ?_⟩) (by assumption) ?_
                          rotate_left
                          · intro w hSw
                            try dsimp only at hSw
                            go_simp
                            try with_reducible rfl
                          simp only [List.getElem_toArray, List.getElem_cons_succ, List.getElem_cons_zero, Act.put, List.setIfInBounds_toArray, List.set_cons_zero, List.set_cons_succ]
                          refine wpAnyH_take (i := 5) (v := .agg (csp : List Value).toArray) rfl (by kernel_rfl) (by kernel_rfl) (by kernel_rfl) (fun _ _ _ h => h) (yieldsIf_load_mid (by kernel_rfl) 52 (.tmp 138) (by kernel_rfl) (b) (off + j * 23) (by kernel_rfl) csp _ (fun w' h => h.2.2) (by first | exact Try.underlying52) rfl (by first | assumption | (simp only [*]; kernel_rfl) | kernel_rfl)) (by assumption) ?_
                          simp only [List.getElem_toArray, List.getElem_cons_succ, List.getElem_cons_zero, Act.put, List.setIfInBounds_toArray, List.set_cons_zero, List.set_cons_succ]
                          clear hHeld
                          obtain ⟨l1, l2, l3, l4, l6⟩ := HLN.out
                          refine ready1 (i := 6) rfl (by kernel_rfl) (by kernel_rfl) (fun K_ hK => ?_)
                          refine Node.wp_fn 14 [.tmp 134, .tmp 139] _ [.agg cs.toArray, .agg csp.toArray] (by rfl) (by rfl) (enters Try.func14 (by kernel_rfl) rfl) (refApart_c cs csp q qp true X HD.out.symm (HHq.out.later V.bel) (HQP.out.later V.bel) l1 l2 hnq l3 l4 l6) ?_
                          rintro e X1 ⟨rfl, bF⟩
                          refine ⟨_, rfl, ?_⟩
                          replace V := V.later bF
                          have hr2 := range_below hr' bF hbl'
                          refine hK.out _ _ ⟨range_of V.h, cell_list V.kv.kb HH.out, hr2⟩ (fun hHeld => ?_)
                          clear hK K_ bF hr' hbl' hr2 l1 l2 l3 l4 l6
                          try simp only [List.getElem_toArray, List.getElem_cons_succ, List.getElem_cons_zero, Act.put, List.setIfInBounds_toArray, List.set_cons_zero, List.set_cons_succ]
                          refine wpAnyH_take (i := 7) (v := ?_) rfl (by kernel_rfl) (by kernel_rfl) (by kernel_rfl) (fun _ _ _ h => h) (Or.inl ⟨by kernel_rfl, ?_⟩) (by assumption) ?_
                          rotate_left
                          · intro w hSw
                            try dsimp only at hSw
                            go_simp
                            try with_reducible rfl
                          simp only [List.getElem_toArray, List.getElem_cons_succ, List.getElem_cons_zero, Act.put, List.setIfInBounds_toArray, List.set_cons_zero, List.set_cons_succ]
                          clear hHeld
                          refine wpAnyH_done (by kernel_rfl) ?_ _
                          go_wp2
                          go_roundw
                          case rel => exact ⟨j + 1, by omega, by go_num, V⟩
                          case measure => simp [intOf]; omega
                        · obtain rfl : j = k := by omega
                          have j2 : decide (j < j) = false := decide_eq_false (by omega)
                          go_wp2
                          go_roundw
                          case rel => exact ⟨j + 1, by omega, by go_num, by rw [HY.out], V.kv⟩
                          case measure => simp [intOf]; omega
    · obtain rfl : k = N := by omega
      have i3 : decide (k < k) = false := decide_eq_false (by omega)
      have hbx : bits = (x.toNat : Int) := by rw [HBI.out, ← HX.out, HCL.out, List.take_of_length_le (by rw [← HLL.out, HN.out]; exact Nat.le_refl _)]
      subst hbx
      have hxs : x.toNat < 4096 := by rw [← HX.out]; exact sigW_small _ _
      have heq : ((x.toNat : Int) == (x.toNat : Int)) = true := by simp
      have hd1 : (x.toNat : Int) / 4096 = 0 := by omega
      have hd2 : (x.toNat : Int) / 2 ^ 12 = 0 := by omega
      clear HBI
      go_wp2_with fail
      refine (wakes_c _).mono ?_
      rintro e Wk ⟨rfl, bk⟩
      have B := below_step V.bel bk
      go_wp2
      go_ret
      exact ⟨rfl, B⟩

theorem own : ownKnob Try.prog.godebug = none := by kernel_rfl
theorem laidOut : laidOutB Try.prog = true := by kernel_rfl
noncomputable def wit (os : Os) : World := World.holding Try.prog os ⟨#[], #[], []⟩
set_option maxRecDepth 100000 in
theorem lifted (os : Os) (started : os.Started) (H : Type) (enc : TypeId × Value → H) (F : Stop.Interp) :
    ReturnsInHanded {} Try.checked os 3 .any ((OpenSpec.ofChange Rows.aspectSafeSpec).preRow enc Try.prog Try.f3 Rows.aspectSafeRow.domain false Rows.aspectSafeRow.laid) (((OpenSpec.ofChange Rows.aspectSafeSpec).at F).post enc Try.prog Try.f3 false true false false) := by
  obtain ⟨x, hx⟩ : ∃ x, DataW.whole enc Try.prog ((wit os).forCall (fun _ _ => 0) ⟨#[], #[.agg zLay, .agg zImg, .agg (kcL 0 (.slice none 0 0) machL).toArray], []⟩).memory Try.f3.params.toList Rows.aspectSafeSpec.vars false (#[.agg zLay, .agg zImg, .agg (kcL 0 (.slice none 0 0) machL).toArray] : Array Value).toList 8 = some x := Option.isSome_iff_exists.1 (by kernel_rfl)
  refine Fr.lift (C := Try.checked) (s := OpenSpec.ofChange Rows.aspectSafeSpec) own started (by kernel_rfl) Try.func3
    (witness_row_at (enc := enc) (C := Try.checked) false (wit os) #[.agg zLay, .agg zImg, .agg (kcL 0 (.slice none 0 0) machL).toArray] rfl (by kernel_rfl) (by kernel_rfl) (by kernel_rfl)
      (OpenSpec.preRow_of_cond 8 hx rfl (fun k hk => by cases hk) (by kernel_rfl) (laidMet_of_run' 8 (by kernel_rfl) (by kernel_rfl))))
    laidOut (by kernel_rfl) rfl Try.underlying4 rfl rfl ?_ ?_
  · intro ds hds
    match ds, hds with
    | [_, _, _], _ => rfl
  · intro W base args ds before hval hA hlt _ hz hL
    rw [Try.params3] at hA hval
    obtain ⟨v0, vs0, d0, ds0, p0, q0, hargs, rfl, rfl, h0, r0⟩ := trodAll_cons hA
    obtain ⟨v1, vs1, d1, ds1, p1, q1, rfl, rfl, rfl, h1, r1⟩ := trodAll_cons r0
    obtain ⟨v2, vs2, d2, ds2, p2, q2, rfl, rfl, rfl, h2, r2⟩ := trodAll_cons r1
    obtain ⟨rfl, rfl, rfl⟩ := trodAll_nil r2
    obtain rfl : args = #[v0, v1, v2] := by cases args; simp_all
    obtain ⟨L, kinds, ss, lens, nsig, nfl, clr, st, A, c, A1, c1, A3, c3, ve, rfl, hLA⟩ := open_layout (hval 0 _ v0 rfl rfl) h0
    obtain ⟨M, age, free, occ, nor, rev, lam, rfl, hM, hag, hfr⟩ := open_image (hval 1 _ v1 rfl rfl) h1
    obtain ⟨K, vh, css, hs, nx, ms, rfl, hK⟩ := open_kernel (hval 2 _ v2 rfl rfl) h2
    have hnl := ker_bound h2 hK (fun x hx => by
      have hx2 := wse_get (P := Try.prog) Try.f3.params.toList [d0, d1, d2] 2 41 d2 x (by rw [Try.params3]; rfl) rfl hx
      exact of_decide_eq_true (List.all_eq_true.1 hz x hx2))
    exact walk ⟨kinds, nsig, clr, st, A, c, A1, c1, age, free, occ, nor, rev, lam⟩ L M K nfl lens A3 c3 ve vh css hs nx ms W ⟨⟨hLA.f, hM⟩, hLA.sa⟩ hK hnl hLA.ex hLA.fl hLA.ea

theorem said : Rows.AspectSafeSaid :=
  OpenClaim.holds_of_cond 3 Try.f3 rfl rfl rfl rfl rfl rfl rfl ⟨rfl, rfl, rfl, rfl, rfl⟩ rfl rfl rfl rfl rfl (by kernel_rfl) Try.func3 (by kernel_rfl)
    (of_decide_eq_true (by kernel_rfl)) (by unfold Func.isWrapper; first | (rw [if_pos (by decide +kernel)]; kernel_rfl) | (rw [if_neg (by decide +kernel)]; exact ⟨rfl, rfl⟩))
    (fun os started H enc _ F => by rw [OpenClaim.pre_eq_preRow]; exact lifted os started H enc F)
#print axioms said
end Go.Proofs.Ytkmioplegjeopaa.aspectSafe
