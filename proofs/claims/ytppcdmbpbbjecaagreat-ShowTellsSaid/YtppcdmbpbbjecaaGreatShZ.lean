/- Shows: the contract of the law's wakes. Nothing that was there is turned. -/
import Derived.Test.YtppcdmbpbbjecaaGreatShFin
namespace Go.Proofs.YtppcdmbpbbjecaaGreat
open List renaming getElem_toArray → zA, getElem_cons_succ → zS, getElem_cons_zero → zZ, setIfInBounds_toArray → zP, set_cons_zero → zQ, set_cons_succ → zR
open Go.RowKit Rf Mem Bv AM SM Bits
attribute [local go_sem ↓] run_max2 run_min2
section
variable {P : Program} {w : World} {ops : Array Oper} {rest : List Oper} {o : Oper} {a : Act} {Q : Exit → Act → World → Prop}
theorem wpList_bs28 {w' : World} (hgd : o.guard = none) (t : TypeId) (n : Nat) (ps : List (Nat × Operand)) (vs : List (Nat × Value)) (v : Value) (ho : o.op = .buildSlice t n ps.toArray) (hp : ps.map (fun p => (p.1, a.eval p.2)) = vs)
    (hr : (Instr.buildSlice t n vs.toArray).run P w = .ok v w') (h : wpList P ops Q rest (a.put o.dst v) w') : wpList P ops Q (o :: rest) a w :=
  wpList_plain hgd fun _ hK => Node.wp_val v (by subst hp; unfold execOp; simp [ho, hr]) (hK _ _ h)
end
set_option maxRecDepth 100000 in
set_option maxHeartbeats 1000000 in
theorem run_bsH28 (W : World) (v3 v5 : Value) : (Instr.buildSlice 36 1 #[(0, .agg (hcL 2 v3 (.slice none 0 0) v5 false).toArray)]).run Tryz.prog W = .ok (.slice (some ⟨W.heap.size, 0, none⟩) 1 1) (W.alloc (.cells (hcL 2 v3 (.slice none 0 0) v5 false).toArray 75)) := by
  go_simp
set_option maxHeartbeats 40000000 in
set_option maxRecDepth 100000 in
theorem wakes28_c (w : World) : Calls Tryz.prog 7 #[] w fun e w' => e = .returned (.bool true) ∧ Below w.heap.size w w' := by
  go_enter Tryz.func7, Tryz.ntmps7
  go_upto_region 1 with (fail)
  go_cut [1, 2] from 13 to 16 (fun x1 x2 wx => ∃ (g1 g2 : Nat) (L M : List Value) (gS gG : Nat), x1 = .pointer (some ⟨g1, 0, none⟩) ∧ x2 = .pointer (some ⟨g2, 0, none⟩) ∧
    Below w.heap.size w wx ∧ LayF L 1 1 1 9 (some ⟨gS, 0, none⟩) 1 (some ⟨gG, 0, none⟩) 1 ∧ ImgF M 0 (List.replicate 24 1) 0#32 0#32 1#32 1#32 ∧ wx.heap[gS]? = some (.cells sec1.toArray 96 (0, 0)) ∧
    wx.heap[g1]? = some (.cells L.toArray 29 (0, 0)) ∧ wx.heap[g2]? = some (.cells M.toArray 35 (0, 0)))
  case first =>
    go_wp2_with fail
    refine (point28_c w).mono ?_
    rintro e W1 ⟨b1, L, M, gS, gG, rfl, FL, VS, FI, oneL⟩
    obtain ⟨V, hV⟩ : ∃ V, (W1.alloc (.cells zLayP 29)).alloc (.cells zImg 35) = V := ⟨_, rfl⟩
    have B0 : Below W1.heap.size W1 V := by rw [← hV]; exact below_step (below_new _ _) (below_new _ _)
    have z0 : V.heap[W1.heap.size]? = some (.cells zLayP 29 (0, 0)) := by rw [← hV]; exact old_at (new_at rfl _) _
    have z1 : V.heap[W1.heap.size + 1]? = some (.cells zImg 35 (0, 0)) := by rw [← hV]; exact new_at (by simp) _
    obtain ⟨V1, e1, X1, B1, far1, th1⟩ := fill_new L z0 (by rw [FL.len]; rfl) B0 (Nat.le_refl _)
    obtain ⟨V2, e2, X2, B2, far2, th2⟩ := fill_new M ((far1 _ (by omega)).trans z1) (by rw [FI.len]; rfl) B1 (by omega)
    have E1 := Lib.hid e1
    have E2 := Lib.hid e2
    have HV := Lib.hid hV
    have szL := lay_size FL.len
    have szM := img_size FI.len
    have oL := all_one oneL
    have oM := all_one FI.one
    have F1 := Lib.hid ((far2 _ (by omega)).trans X1)
    have VS2 := Lib.hid (var_later VS B2)
    clear hV e1 e2 z0 z1 far1 far2 B0 B1
    go_wp2_with (first
      | (rw [HV.out]; refine wpList_store_mid rfl 29 (.tmp 1) (.tmp 15) (by rfl) W1.heap.size 0 L.toArray (by rfl) (by rfl) th1 (by simpa using szL) oL ?_; rw [E1.out])
      | (refine wpList_store_mid rfl 35 (.tmp 2) (.tmp 16) (by rfl) (W1.heap.size + 1) 0 M.toArray (by rfl) (by rfl) th2 (by simpa using szM) oM ?_; rw [E2.out])
      | fail)
    go_meet
    exact ⟨_, _, L, M, gS, gG, rfl, rfl, below_step b1 B2, FL, FI, VS2.out, F1.out, X2⟩
  case rest =>
    obtain ⟨g1, g2, L, M, gS, gG, rfl, rfl, bw, FL, FI, VS, h1, h2⟩ := hcut
    go_upto_region 2 with (fail)
    obtain ⟨zv, hzi, hzs⟩ := ker_zero
    obtain ⟨zk, hzk⟩ : ∃ zk, zv.cells = zk := ⟨_, rfl⟩
    rw [hzk] at hzs
    go_cut [3] from 17 to 24 (fun x3 wx => ∃ (g3 : Nat) (vk : Value) (H : List Value), x3 = .pointer (some ⟨g3, 0, none⟩) ∧ Below wc.heap.size wc wx ∧ wx.heap[g3]? = some (.cells (kcL 2 vk machL).toArray 41 (0, 0)) ∧ HsAt wx vk [H] [qS])
    case first =>
      obtain ⟨V0, hV0⟩ : ∃ V0, (wc.alloc (.cells #[.int .i64 0, .int .i64 0, .int .i64 2] 79)).alloc (.cells #[.int .i64 0, .int .i64 1, .int .i64 0] 81) = V0 := ⟨_, rfl⟩
      have b0 : Below wc.heap.size wc V0 := by rw [← hV0]; exact below_step (below_new _ _) (below_new _ _)
      have t3 : TAt V0 (.slice (some ⟨wc.heap.size, 0, none⟩) 1 1) [(0, 0, 2)] := tat_of (l := [(0, 0, 2)]) (by rw [← hV0]; exact old_at (new_at rfl _) _) rfl (by simp)
      have t5 : TAt V0 (.slice (some ⟨wc.heap.size + 1, 0, none⟩) 1 1) [(0, 1, 0)] := tat_of (l := [(0, 1, 0)]) (by rw [← hV0]; exact new_at (by simp) _) rfl (by simp)
      obtain ⟨H, hH⟩ : ∃ H, hcL 2 (.slice (some ⟨wc.heap.size, 0, none⟩) 1 1) (.slice none 0 0) (.slice (some ⟨wc.heap.size + 1, 0, none⟩) 1 1) false = H := ⟨_, rfl⟩
      have sV : V0.heap.size = wc.heap.size + 1 + 1 := by rw [← hV0]; simp
      have bH := below_new V0 (.cells H.toArray 75)
      have VH := new_at (w := V0) sV (.cells H.toArray 75)
      have hq : HeldAt (V0.alloc (.cells H.toArray 75)) H qS := by rw [← hH]; exact hc_held (t3.later (below_new _ _)) (t5.later (below_new _ _))
      obtain ⟨Wk, hWk, X, bV, ths⟩ := newv (V := V0.alloc (.cells H.toArray 75)) (kcL 2 (.slice (some ⟨wc.heap.size + 1 + 1, 0, none⟩) 1 1) machL) zk 41 (by simp [machL_len, hzs])
      have szk : (Tryz.prog.info? 41).map (·.size) = some (kcL 2 (.slice (some ⟨wc.heap.size + 1 + 1, 0, none⟩) 1 1) machL).length := ker_size (by simp [machL_len])
      have ok : (kcL 2 (.slice (some ⟨wc.heap.size + 1 + 1, 0, none⟩) 1 1) machL).toArray.all (·.oneCell') = true := all_one (fun u hu => by
        simp only [List.mem_cons] at hu
        rcases hu with rfl | rfl | hu
        · rfl
        · rfl
        · exact machL_one u hu)
      have hsl : SliceAt (V0.alloc (.cells H.toArray 75)) 23 (.slice (some ⟨wc.heap.size + 1 + 1, 0, none⟩) 1 1) 1 H := ⟨_, 1, rfl, Nat.le_refl _, by simp [maxLen], by rw [hq.len], .inr ⟨_, 0, rfl, lt_at VH, fun i u hu => by rw [Nat.zero_add]; exact cell_list VH hu⟩⟩
      have HHS := Lib.hid (hs_one (hsl.later bV) (hq.later bV))
      have HBV := Lib.hid (below_step (below_step b0 bH) bV)
      rw [show (V0.alloc (.cells H.toArray 75)).heap.size = wc.heap.size + 1 + 1 + 1 by simp [sV]] at X ths hWk
      have HX := Lib.hid X
      have HWK := Lib.hid hWk
      have hV := Lib.hid hV0
      have HHH := Lib.hid hH
      have SVK : Hid ((V0.alloc (.cells H.toArray 75)).heap.size = wc.heap.size + 1 + 1 + 1) := Lib.hid (by simp [sV])
      have SV := Lib.hid sV
      clear hV0 hWk X hsl hq VH bH bV t3 t5 hH sV
      go_wp2_with (first
        | refine wpList_bld (by rfl) 75 [(0, .const (.int .i64 1)), (1, .tmp 19), (3, .tmp 21), (4, .const (.int .u8 2))] _ _ (by rfl) (by rfl) (run_hc _ _ _ _ _ _ _) ?_
        | refine wpList_bs28 (by rfl) 36 1 [(0, .tmp 22)] _ _ (by rfl) (by rfl) (run_bsH28 _ _ _) ?_
        | refine wpList_bld (by rfl) 41 [(0, .const (.int .i64 2)), (1, .tmp 23)] _ _ (by rfl) (by rfl) (run_k2 _ _ _ _) ?_
        | refine wpList_new (by rfl) 41 zv zk hzi hzk (by rfl) ?_
        | (rw [hV.out, HHH.out, SVK.out, SV.out]; refine wpList_store_mid rfl 41 (.tmp 3) (.tmp 24) (by rfl) (wc.heap.size + 1 + 1 + 1) 0 (kcL 2 (.slice (some ⟨wc.heap.size + 1 + 1, 0, none⟩) 1 1) machL).toArray (by rfl) (by rfl) ths (by simpa using szk) ok ?_; rw [HWK.out])
        | fail)
      go_meet
      exact ⟨_, _, H, rfl, HBV.out, HX.out, HHS.out⟩
    case rest =>
      obtain ⟨g3, vk, H, rfl, bF, h3, hk⟩ := hcut
      replace h1 := var_later h1 bF
      replace h2 := var_later h2 bF
      replace VS := var_later VS bF
      replace bw := below_step bw bF
      clear bF hzs hzk hzi
      go_upto_region 3 with (fail)
      obtain ⟨zw, hzi, hzs⟩ := nx_zero
      obtain ⟨zn, hzn⟩ : ∃ zn, zw.cells = zn := ⟨_, rfl⟩
      rw [hzn] at hzs
      go_cut [4] from 25 to 25 (fun x4 wx => ∃ (g4 : Nat) (N : List Value), x4 = .pointer (some ⟨g4, 0, none⟩) ∧ Below wc.heap.size wc wx ∧ wc.heap.size ≤ g4 ∧ N = nxL (-1) (.slice none 0 0) 0 ∧ wx.heap[g4]? = some (.cells N.toArray 50 (0, 0)))
      case first =>
        obtain ⟨N, hN⟩ : ∃ N, nxL (-1) (.slice none 0 0) 0 = N := ⟨_, rfl⟩
        have lN : N.length = 45 := by rw [← hN]; rfl
        have oN : N.toArray.all (·.oneCell') = true := all_one (by rw [← hN]; exact (nx_at w (-1) (.slice none 0 0) [] [] 0 rfl (rqs_nil w)).one)
        have C27 : ∀ W, Calls Tryz.prog 17 #[] W fun e w' => Below W.heap.size W w' ∧ e = .returned (.agg N.toArray) := fun W => hN ▸ New27_c W
        have HN := Lib.hid hN
        have szn := nx_size lN
        clear hN
        go_wp2_with fail
        refine (C27 _).mono ?_
        rintro e W1 ⟨b1, rfl⟩
        obtain ⟨Wn, hWn, X, bV, ths⟩ := newv (V := W1) N zn 50 (by rw [lN, hzs])
        have HWN := Lib.hid hWn
        have HX := Lib.hid X
        have HBV := Lib.hid (below_step b1 bV)
        have HLE := Lib.hid b1.size
        clear hWn X bV C27
        go_wp2_with (first
          | refine wpList_new (by rfl) 50 zw zn hzi hzn (by rfl) ?_
          | (refine wpList_store_mid rfl 50 (.tmp 4) (.tmp 25) (by rfl) W1.heap.size 0 N.toArray (by rfl) (by rfl) ths (by simpa using szn) oN ?_; rw [HWN.out])
          | fail)
        go_meet
        exact ⟨_, N, rfl, HBV.out, HLE.out, HN.out.symm, HX.out⟩
      case rest =>
        obtain ⟨g4, N, rfl, bF, hg4, hN, h4⟩ := hcut
        clear hzi hzs hzn
        have HN := Lib.hid hN
        have y44 := cell_list h4 (i := 44) (v := .int .u8 0) (by rw [hN]; rfl)
        have f44 := free_at h4 44
        clear hN
        go_upto_region 5 with (fail)
        clear y44 f44
        replace h4 := set_at h4 44 (.int .u8 1)
        rw [List.setIfInBounds_toArray] at h4
        replace bF := below_set bF hg4 44 (.int .u8 1)
        obtain ⟨N1, hN1⟩ : ∃ N1, N.set 44 (.int .u8 1) = N1 := ⟨_, rfl⟩
        rw [hN1] at h4
        generalize wc.setCell ⟨g4, 44, none⟩ (.int .u8 1) = W5 at *
        replace HN : Hid (N1 = nxL (-1) (.slice none 0 0) 1) := Lib.hid (by rw [← hN1, HN.out]; rfl)
        clear hN1
        have bR := below_new W5 (.cells zRq.toArray 47)
        have VR := new_at (w := W5) rfl (.cells zRq.toArray 47)
        have h4' := var_later h4 bR
        have y5 := cell_list h4' (i := 5) (v := .slice none 0 0) (by rw [HN.out]; rfl)
        have f5 := free_at h4' 5
        go_upto_region 6 with (fail)
        clear y5 f5 h4
        have hg5 : W5.heap.size ≠ g4 := by have := lt_at h4'; have := bR.size; intro e; have hh := h4'; rw [← e, VR] at hh; cases hh
        have eS : (W5.alloc (.cells zRq.toArray 47)).heap.size = W5.heap.size + 1 := by simp
        have h4 := set_at h4' 5 (.slice (some ⟨W5.heap.size, 0, none⟩) 1 1)
        rw [List.setIfInBounds_toArray] at h4
        obtain ⟨N2, hN2⟩ : ∃ N2, N1.set 5 (.slice (some ⟨W5.heap.size, 0, none⟩) 1 1) = N2 := ⟨_, rfl⟩
        rw [hN2] at h4
        have VQ := set_far (p := ⟨g4, 5, none⟩) VR hg5 (.slice (some ⟨W5.heap.size, 0, none⟩) 1 1)
        have bQ := below_set (below_step bF bR) hg4 5 (.slice (some ⟨W5.heap.size, 0, none⟩) 1 1)
        have e2 : N2 = nxL (-1) (.slice (some ⟨W5.heap.size, 0, none⟩) 1 1) 1 := by rw [← hN2, HN.out]; rfl
        clear bF bR h4' VR hN2 HN eS hg5
        obtain ⟨Kn, hKn⟩ : ∃ Kn, kcL 2 vk machL = Kn := ⟨_, rfl⟩
        rw [hKn] at h3
        generalize (W5.alloc (.cells zRq.toArray 47)).setCell ⟨g4, 5, none⟩ (.slice (some ⟨W5.heap.size, 0, none⟩) 1 1) = W6 at *
        obtain ⟨vn, hvn⟩ : ∃ v, Value.slice (some ⟨W5.heap.size, 0, none⟩) 1 1 = v := ⟨_, rfl⟩
        have rq := rqs_one VQ
        have Z0 : Z28 w W6 g1 g2 g3 g4 gS gG L M Kn N2 H vk vn :=
          ⟨below_step bw bQ, FL, FI, var_later VS bQ, var_later h1 bQ, var_later h2 bQ, var_later h3 bQ, h4, hKn ▸ ker_at _ 2 _ _ _ (hk.later bQ), by rw [e2, hvn]; exact nx_at _ _ _ _ _ _ (by rw [← hvn]; rfl) (hvn ▸ rq)⟩
        clear bw FL FI VS h1 h2 h3 h4 hKn hk bQ e2 VQ hvn rq hg4
        have szL := lay_size Z0.fl.len
        have szM := img_size Z0.fi.len
        have szK := ker_size Z0.ker.len
        have szN := nx_size Z0.nx.len
        obtain ⟨zs, hzi, hzs⟩ := show_zero
        obtain ⟨zc, hzc⟩ : ∃ zc, zs.cells = zc := ⟨_, rfl⟩
        rw [hzc] at hzs
        obtain ⟨S1, hS1⟩ : ∃ S, showL wantS = S := ⟨_, rfl⟩
        have szs : (Tryz.prog.info? 52).map (·.size) = some S1.length := by rw [← hS1]; exact show_size _
        have oS : S1.toArray.all (·.oneCell') = true := all_one (by rw [← hS1]; exact show_one _)
        have lS : S1.length = zc.size := by rw [hzs, ← hS1]; rfl
        go_cut [5] from 30 to 34 (fun x5 wx => ∃ (g5 : Nat), x5 = .pointer (some ⟨g5, 0, none⟩) ∧ Below W6.heap.size W6 wx ∧ wx.heap[g5]? = some (.cells S1.toArray 52 (0, 0)))
        case first =>
          have RL := range_of Z0.l
          have RM := range_of Z0.m
          have RK := range_of Z0.k
          have RN := range_of Z0.n
          go_wp2_with (first
            | refine wpList_load_g (by rfl) 29 (.tmp 1) (by rfl) g1 0 (by rfl) L _ RL Tryz.underlying29 rfl szL ?_
            | refine wpList_load_g (by rfl) 35 (.tmp 2) (by rfl) g2 0 (by rfl) M _ RM Tryz.underlying35 rfl szM ?_
            | refine wpList_load_g (by rfl) 41 (.tmp 3) (by rfl) g3 0 (by rfl) Kn _ RK Tryz.underlying41 rfl szK ?_
            | refine wpList_load_g (by rfl) 50 (.tmp 4) (by rfl) g4 0 (by rfl) N2 _ RN Tryz.underlying50 rfl szN ?_
            | fail)
          have C9 := Z0.of
          rw [hS1] at C9
          refine C9.mono ?_
          rintro e W1 ⟨rfl, b1⟩
          obtain ⟨Wn, hWn, X, bV, ths⟩ := newv (V := W1) S1 zc 52 lS
          have HWN := Lib.hid hWn
          have HX := Lib.hid X
          have HBV := Lib.hid (below_step b1 bV)
          clear hWn X bV C9 RL RM RK RN
          go_wp2_with (first
            | refine wpList_new (by rfl) 52 zs zc hzi hzc (by rfl) ?_
            | (refine wpList_store_mid rfl 52 (.tmp 5) (.tmp 34) (by rfl) W1.heap.size 0 S1.toArray (by rfl) (by rfl) ths (by simpa using szs) oS ?_; rw [HWN.out])
            | fail)
          go_meet
          exact ⟨_, rfl, HBV.out, HX.out⟩
        case rest =>
          obtain ⟨g5, rfl, bF, h5⟩ := hcut
          replace Z0 := Z0.later bF
          clear bF
          have HS1 := Lib.hid hS1
          clear hS1
          obtain ⟨K0, hK0⟩ : ∃ K, kcL 0 (.slice none 0 0) machL = K := ⟨_, rfl⟩
          obtain ⟨S2, hS2⟩ : ∃ S, showL flashS = S := ⟨_, rfl⟩
          have HS2 := Lib.hid hS2
          have szs2 : (Tryz.prog.info? 52).map (·.size) = some S2.length := by rw [← hS2]; exact show_size _
          have oS2 : S2.toArray.all (·.oneCell') = true := all_one (by rw [← hS2]; exact show_one _)
          have lS2 : S2.length = zc.size := by rw [hzs, ← hS2]; rfl
          have k0 : ∀ W : World, (Instr.build 41 #[]).run Tryz.prog W = .ok (.agg K0.toArray) W := fun W => hK0 ▸ run_k0 W
          have C9 := Z0.of2
          rw [hS2, hK0] at C9
          clear hS2 hK0
          go_upto_region 7 with (fail)
          go_cut [6] from 35 to 39 (fun x6 wx => ∃ (g6 : Nat), x6 = .pointer (some ⟨g6, 0, none⟩) ∧ Below wc.heap.size wc wx ∧ wx.heap[g6]? = some (.cells S2.toArray 52 (0, 0)))
          case first =>
            have RL := range_of Z0.l
            have RM := range_of Z0.m
            have RN := range_of Z0.n
            go_wp2_with (first
              | refine wpList_load_g (by rfl) 29 (.tmp 1) (by rfl) g1 0 (by rfl) L _ RL Tryz.underlying29 rfl szL ?_
              | refine wpList_load_g (by rfl) 35 (.tmp 2) (by rfl) g2 0 (by rfl) M _ RM Tryz.underlying35 rfl szM ?_
              | refine wpList_bld (by rfl) 41 [] _ _ (by rfl) (by rfl) (k0 _) ?_
              | refine wpList_load_g (by rfl) 50 (.tmp 4) (by rfl) g4 0 (by rfl) N2 _ RN Tryz.underlying50 rfl szN ?_
              | fail)
            refine C9.mono ?_
            rintro e W1 ⟨rfl, b1⟩
            obtain ⟨Wn, hWn, X, bV, ths⟩ := newv (V := W1) S2 zc 52 lS2
            have HWN := Lib.hid hWn
            have HX := Lib.hid X
            have HBV := Lib.hid (below_step b1 bV)
            clear hWn X bV C9 RL RM RN
            go_wp2_with (first
              | refine wpList_new (by rfl) 52 zs zc hzi hzc (by rfl) ?_
              | (refine wpList_store_mid rfl 52 (.tmp 6) (.tmp 39) (by rfl) W1.heap.size 0 S2.toArray (by rfl) (by rfl) ths (by simpa using szs2) oS2 ?_; rw [HWN.out])
              | fail)
            go_meet
            exact ⟨_, rfl, HBV.out, HX.out⟩
          case rest =>
            obtain ⟨g6, rfl, bF, h6⟩ := hcut
            replace Z0 := Z0.later bF
            replace h5 := var_later h5 bF
            clear bF C9 k0 szs2 oS2 lS2
            go_upto_region 8 with (fail)
            go_cut [7] from 40 to 42 (fun x7 wx => ∃ (A' : Option Addr) (c' : Nat), x7 = .slice A' 3 c' ∧ Below wc.heap.size wc wx ∧ SliceAt wx 1 (.slice A' 3 c') 3 (u8s wkB))
            case first =>
              have RL := range_of Z0.l
              have RS := range_of h5
              have CP := Z0.put
              rw [HS1.out] at CP
              go_wp2_with (first
                | refine wpList_load_g (by rfl) 29 (.tmp 1) (by rfl) g1 0 (by rfl) L _ RL Tryz.underlying29 rfl szL ?_
                | refine wpList_load_g (by rfl) 52 (.tmp 5) (by rfl) g5 0 (by rfl) S1 _ RS Tryz.underlying52 rfl szs ?_
                | fail)
              refine CP.mono ?_
              rintro e W1 ⟨b1, A', c', rfl, ho⟩
              have HO := Lib.hid (sliceAt_of_own ho)
              have HBV := Lib.hid b1
              clear ho b1 CP RL RS
              go_wp2_with fail
              go_meet
              exact ⟨_, _, rfl, HBV.out, HO.out⟩
            case rest =>
              obtain ⟨A', c', rfl, bF, hb⟩ := hcut
              replace Z0 := Z0.later bF
              replace h5 := var_later h5 bF
              replace h6 := var_later h6 bF
              clear bF
              go_upto_region 9 with (fail)
              go_cut [8, 9] from 43 to 48 (fun x8 x9 wx => ∃ (g8 : Nat), x8 = .pointer (some ⟨g8, 0, none⟩) ∧ x9 = .int .i64 0 ∧ Below wc.heap.size wc wx ∧ wx.heap[g8]? = some (.cells S1.toArray 52 (0, 0)))
              case first =>
                have RL := range_of Z0.l
                have CP := Z0.take hb
                rw [HS1.out] at CP
                go_wp2_with (first
                  | refine wpList_load_g (by rfl) 29 (.tmp 1) (by rfl) g1 0 (by rfl) L _ RL Tryz.underlying29 rfl szL ?_
                  | fail)
                refine CP.mono ?_
                rintro e W1 ⟨b1, rfl⟩
                obtain ⟨Wn, hWn, X, bV, ths⟩ := newv (V := W1) S1 zc 52 lS
                have HWN := Lib.hid hWn
                have HX := Lib.hid X
                have HBV := Lib.hid (below_step b1 bV)
                clear hWn X bV CP RL b1
                go_wp2_with (first
                  | refine wpList_new (by rfl) 52 zs zc hzi hzc (by rfl) ?_
                  | (refine wpList_store_mid rfl 52 (.tmp 8) (.tmp 47) (by rfl) W1.heap.size 0 S1.toArray (by rfl) (by rfl) ths (by simpa using szs) oS ?_; rw [HWN.out])
                  | fail)
                go_meet
                exact ⟨_, rfl, rfl, HBV.out, HX.out⟩
              case rest =>
                obtain ⟨g8, rfl, rfl, bF, h8⟩ := hcut
                replace Z0 := Z0.later bF
                replace h5 := var_later h5 bF
                replace h6 := var_later h6 bF
                replace hb := hb.later bF
                clear bF
                go_upto_region 10 with (fail)
                go_cut [11] from 49 to 58 (fun x11 wx => x11 = .int .i64 41 ∧ Below wc.heap.size wc wx)
                case first =>
                  obtain ⟨i0, hi, hz0, hz1, hz2⟩ := info_parts info_u8
                  obtain ⟨S3, hS3⟩ : ∃ S, showL s0 = S := ⟨_, rfl⟩
                  have szs3 : (Tryz.prog.info? 52).map (·.size) = some S3.toArray.size := by rw [← hS3]; exact show_size _
                  have oS3 : S3.toArray.all (·.oneCell') = true := all_one (by rw [← hS3]; exact show_one _)
                  have lS3 : S3.length = zc.size := by rw [hzs, ← hS3]; rfl
                  have ent := enters Tryz.func8 (by kernel_rfl) rfl
                  refine wp_region_held_drew (S := (fun w' => w'.rangeAt g1 0 L)) (by kernel_rfl) ?_ (fun hHeld => ?_)
                  · exact range_of Z0.l
                  have Bb : Below wc.heap.size wc wc.drew := (Below.refl _ wc).drew
                  generalize wc.drew = V at *
                  refine wpAnyH_take (i := 0) (v := .agg (L : List Value).toArray) rfl (by kernel_rfl) (by kernel_rfl) (by kernel_rfl) (fun _ _ _ h => h) (yieldsIf_load_mid (by kernel_rfl) 29 (.tmp 1) (by kernel_rfl) (g1) 0 (by kernel_rfl) L _ (fun w' h => h) (by first | exact Tryz.underlying29) rfl (by first | assumption | (simp only [*]; kernel_rfl))) (by assumption) ?_
                  try simp only [zA, zS, zZ, Act.put, zP, zQ, zR]
                  refine Node.tk 2 ?_ rfl ?_ ?_
                  rotate_left
                  · intro w hSw; (try dsimp only at hSw); go_simp; try with_reducible rfl
                  simp only [zA, zS, zZ, Act.put, zP, zQ, zR]
                  clear hHeld
                  refine wpAnyH_ready (rs := [1, 4, 10]) (by kernel_rfl) (by simp) ?_
                  refine AllReadyH.cons rfl (fun K hK => ?_) (AllReadyH.cons rfl (fun K hK => ?_) (AllReadyH.cons rfl (fun K hK => ?_) AllReadyH.nil))
                  · skip
                    have O1 := own_empty V 5 1
                    have b := below_new V (.cells #[] 5)
                    have hga : wc.heap.size ≤ V.heap.size := Bb.size
                    try have hne : g4' ≠ V.heap.size := by have := (Array.getElem?_eq_some_iff.1 G4).1; omega
                    refine Node.wp_bs 53 0 [] [] _ (by rfl) (by rfl) (run_bs028 V) ?_
                    replace Bb := below_step Bb b
                    try replace G4 := var_later G4 b
                    try replace GZ := var_later GZ b
                    clear b
                    generalize V.heap.size = ga at *
                    generalize V.alloc (.cells #[] 5) = V at *
                    refine hK.out _ _ (range_of (Z0.later Bb).l) (fun _ => ?_)
                    clear hK K
                    try simp only [zA, zS, zZ, Act.put, zP, zQ, zR]
                    refine wpAnyH_ready (rs := [3, 4, 10]) (by kernel_rfl) (by simp) ?_
                    refine AllReadyH.cons rfl (fun K hK => ?_) (AllReadyH.cons rfl (fun K hK => ?_) (AllReadyH.cons rfl (fun K hK => ?_) AllReadyH.nil))
                    · skip
                      have hgaV := (own_base O1 rfl).2
                      refine wp_app28 (.tmp 51) (.tmp 52) _ (by rfl) ga 5 i0 _ 1 1 Tryz.underlying53 hi hz0 hz1 hz2 rfl (by omega) (.slice (some ⟨ga, 0, none⟩) 0 0) 0 [] (by rfl) O1 (.slice A' 3 c') 3 (u8s wkB) (by rfl) (hb.later Bb) (u8s_one wkB) (by simp [maxLen]) (by omega) (Nat.le_of_lt hgaV) ?_
                      intro v1 V' ho1 hg1 hw1
                      simp only [Nat.zero_add, List.nil_append] at ho1
                      obtain ⟨Aa, ca, rfl, _, _⟩ := (sliceAt_of_own ho1).form
                      have b := below_own Bb hg1 Bb.size (fun g hg => by cases hg; exact hga)
                      try replace G4 := (hg1.block g4' (Array.getElem?_eq_some_iff.1 G4).1 (fun e => hne (Option.some.inj e))).trans G4
                      try replace GZ := (hg1.block gz (Array.getElem?_eq_some_iff.1 GZ).1 (fun e => by obtain ⟨cur, hc⟩ := own_type28 O1 e.symm; rw [GZ] at hc; cases hc)).trans GZ
                      clear hgaV hg1 hw1 Bb O1
                      have O1 := ho1
                      have Bb := b
                      clear b ho1
                      generalize V' = V at *
                      refine hK.out _ _ (range_of (Z0.later Bb).l) (fun _ => ?_)
                      clear hK K
                      try simp only [zA, zS, zZ, Act.put, zP, zQ, zR]
                      refine wpAnyH_ready (rs := [4, 10]) (by kernel_rfl) (by simp) ?_
                      refine AllReadyH.cons rfl (fun K hK => ?_) (AllReadyH.cons rfl (fun K hK => ?_) AllReadyH.nil)
                      · skip
                        have G4 := new_at (w := V) rfl (.cells ([.int .u8 0] : List Value).toArray 5)
                        have b := below_new V (.cells ([.int .u8 0] : List Value).toArray 5)
                        try have hne : V.heap.size ≠ ga := by have h : ga < V.heap.size := (own_base O1 rfl).2; omega
                        refine Node.wp_bs 53 1 [(0, .const (.int .u8 0))] [(0, .int .u8 0)] _ (by rfl) (by rfl) (run_bs128 V) ?_
                        replace Bb := below_step Bb b
                        try replace O1 := own_bel O1 b
                        try replace GZ := var_later GZ b
                        clear b
                        generalize V.heap.size = g4' at *
                        generalize V.alloc (.cells ([.int .u8 0] : List Value).toArray 5) = V at *
                        refine hK.out _ _ (range_of (Z0.later Bb).l) (fun _ => ?_)
                        clear hK K
                        try simp only [zA, zS, zZ, Act.put, zP, zQ, zR]
                        refine wpAnyH_ready (rs := [5, 10]) (by kernel_rfl) (by simp) ?_
                        refine AllReadyH.cons rfl (fun K hK => ?_) (AllReadyH.cons rfl (fun K hK => ?_) AllReadyH.nil)
                        · skip
                          refine wp_app28 (.tmp 53) (.tmp 54) _ (by rfl) wc.heap.size 5 i0 _ 1 1 Tryz.underlying53 hi hz0 hz1 hz2 rfl (by omega) (.slice Aa 3 ca) 3 (u8s wkB) (by rfl) (own_mono28 O1 hga) (.slice (some ⟨g4', 0, none⟩) 1 1) 1 [.int .u8 0] (by rfl) (sliceAt_blk G4 rfl (by decide)) (by simp [Value.oneCell']) (by simp [maxLen]) (by omega) Bb.size ?_
                          intro v1 V' ho1 hg1 hw1
                          obtain ⟨A5, c5, rfl, _, _⟩ := (sliceAt_of_own ho1).form
                          have b := below_own Bb hg1 Bb.size (fun g hg => Nat.le_trans hga (own_base O1 hg).1)
                          try replace GZ := (hg1.block gz (Array.getElem?_eq_some_iff.1 GZ).1 (fun e => by obtain ⟨cur, hc⟩ := own_type28 O1 e.symm; rw [GZ] at hc; cases hc)).trans GZ
                          clear hg1 hw1 Bb O1 G4
                          have O5 : SliceAt V' 1 (.slice A5 (3 + 1) c5) 4 (u8s (wkB ++ [0#8])) := sliceAt_of_own ho1
                          have Bb := b
                          clear b ho1
                          generalize V' = V at *
                          refine hK.out _ _ (range_of (Z0.later Bb).l) (fun _ => ?_)
                          clear hK K
                          try simp only [zA, zS, zZ, Act.put, zP, zQ, zR]
                          refine wpAnyH_ready (rs := [6, 10]) (by kernel_rfl) (by simp) ?_
                          refine AllReadyH.cons rfl (fun K hK => ?_) (AllReadyH.cons rfl (fun K hK => ?_) AllReadyH.nil)
                          · skip
                            refine Node.wp_fn 8 [.tmp 50, .tmp 55] _ [.agg L.toArray, .slice A5 (3 + 1) c5] (by rfl) (by rfl) ent ((Z0.later Bb).take4 O5) ?_
                            rintro e V ⟨b, rfl⟩
                            refine ⟨_, rfl, ?_⟩
                            rw [hS3]
                            replace Bb := below_step Bb b
                            try replace GZ := var_later GZ b
                            clear b O5
                            refine hK.out _ _ (range_of (Z0.later Bb).l) (fun _ => ?_)
                            clear hK K
                            try simp only [zA, zS, zZ, Act.put, zP, zQ, zR]
                            have hHeld : V.rangeAt g1 0 L := range_of (Z0.later Bb).l
                            refine Node.tk 7 ?_ rfl ?_ ?_
                            rotate_left
                            · intro w hSw; (try dsimp only at hSw); go_simp; try with_reducible rfl
                            simp only [zA, zS, zZ, Act.put, zP, zQ, zR]
                            refine Node.tk 8 ?_ rfl ?_ ?_
                            rotate_left
                            · intro w hSw; (try dsimp only at hSw); go_simp; try with_reducible rfl
                            simp only [zA, zS, zZ, Act.put, zP, zQ, zR]
                            refine Node.tk 9 ?_ rfl ?_ ?_
                            rotate_left
                            · intro w hSw; (try dsimp only at hSw); go_simp; try with_reducible rfl
                            simp only [zA, zS, zZ, Act.put, zP, zQ, zR]
                            clear hHeld
                            refine Node.on 10 rfl (fun K hK => ?_)
                            have GZ := new_at (w := V) rfl (.cells zc 52)
                            have b := below_new V (.cells zc 52)
                            have hgz : wc.heap.size ≤ V.heap.size := Bb.size
                            refine Node.wp_new 52 zs zc hzi hzc (by rfl) ?_
                            replace Bb := below_step Bb b
                            try replace O1 := own_bel O1 b
                            try replace G4 := var_later G4 b
                            try replace O5 := O5.later b
                            clear b
                            generalize V.heap.size = gz at *
                            generalize V.alloc (.cells zc 52) = V at *
                            refine hK.out _ _ (range_of (Z0.later Bb).l) (fun _ => ?_)
                            clear hK K
                            try simp only [zA, zS, zZ, Act.put, zP, zQ, zR]
                            refine Node.on 11 rfl (fun K hK => ?_)
                            obtain ⟨V', hW, F, b, far, ths⟩ := fill_new S3 GZ lS3 Bb hgz
                            refine wp_store_mid 52 (.tmp 10) (.tmp 57) (by rfl) gz 0 S3.toArray (by rfl) (by rfl) ths szs3 oS3 ?_
                            rw [hW]
                            clear hW ths far F Bb GZ
                            have Bb := b
                            clear b
                            generalize V' = V at *
                            refine hK.out _ _ (range_of (Z0.later Bb).l) (fun _ => ?_)
                            clear hK K
                            try simp only [zA, zS, zZ, Act.put, zP, zQ, zR]
                            refine Node.on 12 rfl (fun K hK => ?_)
                            refine Node.wp_set (.int .i64 41) (.tmp 58) (.inr rfl) (by rfl) ?_
                            refine hK.out _ _ (range_of (Z0.later Bb).l) (fun _ => ?_)
                            clear hK K
                            try simp only [zA, zS, zZ, Act.put, zP, zQ, zR]
                            refine wpAnyH_done (by kernel_rfl) ?_ _
                            go_wp2
                            go_meet
                            exact ⟨rfl, Bb⟩
                          · skip
                            have GZ := new_at (w := V) rfl (.cells zc 52)
                            have b := below_new V (.cells zc 52)
                            have hgz : wc.heap.size ≤ V.heap.size := Bb.size
                            refine Node.wp_new 52 zs zc hzi hzc (by rfl) ?_
                            replace Bb := below_step Bb b
                            try replace O1 := own_bel O1 b
                            try replace G4 := var_later G4 b
                            try replace O5 := O5.later b
                            clear b
                            generalize V.heap.size = gz at *
                            generalize V.alloc (.cells zc 52) = V at *
                            refine hK.out _ _ (range_of (Z0.later Bb).l) (fun _ => ?_)
                            clear hK K
                            try simp only [zA, zS, zZ, Act.put, zP, zQ, zR]
                            refine Node.on 6 rfl (fun K hK => ?_)
                            refine Node.wp_fn 8 [.tmp 50, .tmp 55] _ [.agg L.toArray, .slice A5 (3 + 1) c5] (by rfl) (by rfl) ent ((Z0.later Bb).take4 O5) ?_
                            rintro e V ⟨b, rfl⟩
                            refine ⟨_, rfl, ?_⟩
                            rw [hS3]
                            replace Bb := below_step Bb b
                            try replace GZ := var_later GZ b
                            clear b O5
                            refine hK.out _ _ (range_of (Z0.later Bb).l) (fun _ => ?_)
                            clear hK K
                            try simp only [zA, zS, zZ, Act.put, zP, zQ, zR]
                            have hHeld : V.rangeAt g1 0 L := range_of (Z0.later Bb).l
                            refine Node.tk 7 ?_ rfl ?_ ?_
                            rotate_left
                            · intro w hSw; (try dsimp only at hSw); go_simp; try with_reducible rfl
                            simp only [zA, zS, zZ, Act.put, zP, zQ, zR]
                            refine Node.tk 8 ?_ rfl ?_ ?_
                            rotate_left
                            · intro w hSw; (try dsimp only at hSw); go_simp; try with_reducible rfl
                            simp only [zA, zS, zZ, Act.put, zP, zQ, zR]
                            refine Node.tk 9 ?_ rfl ?_ ?_
                            rotate_left
                            · intro w hSw; (try dsimp only at hSw); go_simp; try with_reducible rfl
                            simp only [zA, zS, zZ, Act.put, zP, zQ, zR]
                            clear hHeld
                            refine Node.on 11 rfl (fun K hK => ?_)
                            obtain ⟨V', hW, F, b, far, ths⟩ := fill_new S3 GZ lS3 Bb hgz
                            refine wp_store_mid 52 (.tmp 10) (.tmp 57) (by rfl) gz 0 S3.toArray (by rfl) (by rfl) ths szs3 oS3 ?_
                            rw [hW]
                            clear hW ths far F Bb GZ
                            have Bb := b
                            clear b
                            generalize V' = V at *
                            refine hK.out _ _ (range_of (Z0.later Bb).l) (fun _ => ?_)
                            clear hK K
                            try simp only [zA, zS, zZ, Act.put, zP, zQ, zR]
                            refine Node.on 12 rfl (fun K hK => ?_)
                            refine Node.wp_set (.int .i64 41) (.tmp 58) (.inr rfl) (by rfl) ?_
                            refine hK.out _ _ (range_of (Z0.later Bb).l) (fun _ => ?_)
                            clear hK K
                            try simp only [zA, zS, zZ, Act.put, zP, zQ, zR]
                            refine wpAnyH_done (by kernel_rfl) ?_ _
                            go_wp2
                            go_meet
                            exact ⟨rfl, Bb⟩
                        · skip
                          have GZ := new_at (w := V) rfl (.cells zc 52)
                          have b := below_new V (.cells zc 52)
                          have hgz : wc.heap.size ≤ V.heap.size := Bb.size
                          refine Node.wp_new 52 zs zc hzi hzc (by rfl) ?_
                          replace Bb := below_step Bb b
                          try replace O1 := own_bel O1 b
                          try replace G4 := var_later G4 b
                          try replace O5 := O5.later b
                          clear b
                          generalize V.heap.size = gz at *
                          generalize V.alloc (.cells zc 52) = V at *
                          refine hK.out _ _ (range_of (Z0.later Bb).l) (fun _ => ?_)
                          clear hK K
                          try simp only [zA, zS, zZ, Act.put, zP, zQ, zR]
                          refine Node.on 5 rfl (fun K hK => ?_)
                          refine wp_app28 (.tmp 53) (.tmp 54) _ (by rfl) wc.heap.size 5 i0 _ 1 1 Tryz.underlying53 hi hz0 hz1 hz2 rfl (by omega) (.slice Aa 3 ca) 3 (u8s wkB) (by rfl) (own_mono28 O1 hga) (.slice (some ⟨g4', 0, none⟩) 1 1) 1 [.int .u8 0] (by rfl) (sliceAt_blk G4 rfl (by decide)) (by simp [Value.oneCell']) (by simp [maxLen]) (by omega) Bb.size ?_
                          intro v1 V' ho1 hg1 hw1
                          obtain ⟨A5, c5, rfl, _, _⟩ := (sliceAt_of_own ho1).form
                          have b := below_own Bb hg1 Bb.size (fun g hg => Nat.le_trans hga (own_base O1 hg).1)
                          try replace GZ := (hg1.block gz (Array.getElem?_eq_some_iff.1 GZ).1 (fun e => by obtain ⟨cur, hc⟩ := own_type28 O1 e.symm; rw [GZ] at hc; cases hc)).trans GZ
                          clear hg1 hw1 Bb O1 G4
                          have O5 : SliceAt V' 1 (.slice A5 (3 + 1) c5) 4 (u8s (wkB ++ [0#8])) := sliceAt_of_own ho1
                          have Bb := b
                          clear b ho1
                          generalize V' = V at *
                          refine hK.out _ _ (range_of (Z0.later Bb).l) (fun _ => ?_)
                          clear hK K
                          try simp only [zA, zS, zZ, Act.put, zP, zQ, zR]
                          refine Node.on 6 rfl (fun K hK => ?_)
                          refine Node.wp_fn 8 [.tmp 50, .tmp 55] _ [.agg L.toArray, .slice A5 (3 + 1) c5] (by rfl) (by rfl) ent ((Z0.later Bb).take4 O5) ?_
                          rintro e V ⟨b, rfl⟩
                          refine ⟨_, rfl, ?_⟩
                          rw [hS3]
                          replace Bb := below_step Bb b
                          try replace GZ := var_later GZ b
                          clear b O5
                          refine hK.out _ _ (range_of (Z0.later Bb).l) (fun _ => ?_)
                          clear hK K
                          try simp only [zA, zS, zZ, Act.put, zP, zQ, zR]
                          have hHeld : V.rangeAt g1 0 L := range_of (Z0.later Bb).l
                          refine Node.tk 7 ?_ rfl ?_ ?_
                          rotate_left
                          · intro w hSw; (try dsimp only at hSw); go_simp; try with_reducible rfl
                          simp only [zA, zS, zZ, Act.put, zP, zQ, zR]
                          refine Node.tk 8 ?_ rfl ?_ ?_
                          rotate_left
                          · intro w hSw; (try dsimp only at hSw); go_simp; try with_reducible rfl
                          simp only [zA, zS, zZ, Act.put, zP, zQ, zR]
                          refine Node.tk 9 ?_ rfl ?_ ?_
                          rotate_left
                          · intro w hSw; (try dsimp only at hSw); go_simp; try with_reducible rfl
                          simp only [zA, zS, zZ, Act.put, zP, zQ, zR]
                          clear hHeld
                          refine Node.on 11 rfl (fun K hK => ?_)
                          obtain ⟨V', hW, F, b, far, ths⟩ := fill_new S3 GZ lS3 Bb hgz
                          refine wp_store_mid 52 (.tmp 10) (.tmp 57) (by rfl) gz 0 S3.toArray (by rfl) (by rfl) ths szs3 oS3 ?_
                          rw [hW]
                          clear hW ths far F Bb GZ
                          have Bb := b
                          clear b
                          generalize V' = V at *
                          refine hK.out _ _ (range_of (Z0.later Bb).l) (fun _ => ?_)
                          clear hK K
                          try simp only [zA, zS, zZ, Act.put, zP, zQ, zR]
                          refine Node.on 12 rfl (fun K hK => ?_)
                          refine Node.wp_set (.int .i64 41) (.tmp 58) (.inr rfl) (by rfl) ?_
                          refine hK.out _ _ (range_of (Z0.later Bb).l) (fun _ => ?_)
                          clear hK K
                          try simp only [zA, zS, zZ, Act.put, zP, zQ, zR]
                          refine wpAnyH_done (by kernel_rfl) ?_ _
                          go_wp2
                          go_meet
                          exact ⟨rfl, Bb⟩
                      · skip
                        have GZ := new_at (w := V) rfl (.cells zc 52)
                        have b := below_new V (.cells zc 52)
                        have hgz : wc.heap.size ≤ V.heap.size := Bb.size
                        refine Node.wp_new 52 zs zc hzi hzc (by rfl) ?_
                        replace Bb := below_step Bb b
                        try replace O1 := own_bel O1 b
                        try replace G4 := var_later G4 b
                        try replace O5 := O5.later b
                        clear b
                        generalize V.heap.size = gz at *
                        generalize V.alloc (.cells zc 52) = V at *
                        refine hK.out _ _ (range_of (Z0.later Bb).l) (fun _ => ?_)
                        clear hK K
                        try simp only [zA, zS, zZ, Act.put, zP, zQ, zR]
                        refine Node.on 4 rfl (fun K hK => ?_)
                        have G4 := new_at (w := V) rfl (.cells ([.int .u8 0] : List Value).toArray 5)
                        have b := below_new V (.cells ([.int .u8 0] : List Value).toArray 5)
                        try have hne : V.heap.size ≠ ga := by have h : ga < V.heap.size := (own_base O1 rfl).2; omega
                        refine Node.wp_bs 53 1 [(0, .const (.int .u8 0))] [(0, .int .u8 0)] _ (by rfl) (by rfl) (run_bs128 V) ?_
                        replace Bb := below_step Bb b
                        try replace O1 := own_bel O1 b
                        try replace GZ := var_later GZ b
                        clear b
                        generalize V.heap.size = g4' at *
                        generalize V.alloc (.cells ([.int .u8 0] : List Value).toArray 5) = V at *
                        refine hK.out _ _ (range_of (Z0.later Bb).l) (fun _ => ?_)
                        clear hK K
                        try simp only [zA, zS, zZ, Act.put, zP, zQ, zR]
                        refine Node.on 5 rfl (fun K hK => ?_)
                        refine wp_app28 (.tmp 53) (.tmp 54) _ (by rfl) wc.heap.size 5 i0 _ 1 1 Tryz.underlying53 hi hz0 hz1 hz2 rfl (by omega) (.slice Aa 3 ca) 3 (u8s wkB) (by rfl) (own_mono28 O1 hga) (.slice (some ⟨g4', 0, none⟩) 1 1) 1 [.int .u8 0] (by rfl) (sliceAt_blk G4 rfl (by decide)) (by simp [Value.oneCell']) (by simp [maxLen]) (by omega) Bb.size ?_
                        intro v1 V' ho1 hg1 hw1
                        obtain ⟨A5, c5, rfl, _, _⟩ := (sliceAt_of_own ho1).form
                        have b := below_own Bb hg1 Bb.size (fun g hg => Nat.le_trans hga (own_base O1 hg).1)
                        try replace GZ := (hg1.block gz (Array.getElem?_eq_some_iff.1 GZ).1 (fun e => by obtain ⟨cur, hc⟩ := own_type28 O1 e.symm; rw [GZ] at hc; cases hc)).trans GZ
                        clear hg1 hw1 Bb O1 G4
                        have O5 : SliceAt V' 1 (.slice A5 (3 + 1) c5) 4 (u8s (wkB ++ [0#8])) := sliceAt_of_own ho1
                        have Bb := b
                        clear b ho1
                        generalize V' = V at *
                        refine hK.out _ _ (range_of (Z0.later Bb).l) (fun _ => ?_)
                        clear hK K
                        try simp only [zA, zS, zZ, Act.put, zP, zQ, zR]
                        refine Node.on 6 rfl (fun K hK => ?_)
                        refine Node.wp_fn 8 [.tmp 50, .tmp 55] _ [.agg L.toArray, .slice A5 (3 + 1) c5] (by rfl) (by rfl) ent ((Z0.later Bb).take4 O5) ?_
                        rintro e V ⟨b, rfl⟩
                        refine ⟨_, rfl, ?_⟩
                        rw [hS3]
                        replace Bb := below_step Bb b
                        try replace GZ := var_later GZ b
                        clear b O5
                        refine hK.out _ _ (range_of (Z0.later Bb).l) (fun _ => ?_)
                        clear hK K
                        try simp only [zA, zS, zZ, Act.put, zP, zQ, zR]
                        have hHeld : V.rangeAt g1 0 L := range_of (Z0.later Bb).l
                        refine Node.tk 7 ?_ rfl ?_ ?_
                        rotate_left
                        · intro w hSw; (try dsimp only at hSw); go_simp; try with_reducible rfl
                        simp only [zA, zS, zZ, Act.put, zP, zQ, zR]
                        refine Node.tk 8 ?_ rfl ?_ ?_
                        rotate_left
                        · intro w hSw; (try dsimp only at hSw); go_simp; try with_reducible rfl
                        simp only [zA, zS, zZ, Act.put, zP, zQ, zR]
                        refine Node.tk 9 ?_ rfl ?_ ?_
                        rotate_left
                        · intro w hSw; (try dsimp only at hSw); go_simp; try with_reducible rfl
                        simp only [zA, zS, zZ, Act.put, zP, zQ, zR]
                        clear hHeld
                        refine Node.on 11 rfl (fun K hK => ?_)
                        obtain ⟨V', hW, F, b, far, ths⟩ := fill_new S3 GZ lS3 Bb hgz
                        refine wp_store_mid 52 (.tmp 10) (.tmp 57) (by rfl) gz 0 S3.toArray (by rfl) (by rfl) ths szs3 oS3 ?_
                        rw [hW]
                        clear hW ths far F Bb GZ
                        have Bb := b
                        clear b
                        generalize V' = V at *
                        refine hK.out _ _ (range_of (Z0.later Bb).l) (fun _ => ?_)
                        clear hK K
                        try simp only [zA, zS, zZ, Act.put, zP, zQ, zR]
                        refine Node.on 12 rfl (fun K hK => ?_)
                        refine Node.wp_set (.int .i64 41) (.tmp 58) (.inr rfl) (by rfl) ?_
                        refine hK.out _ _ (range_of (Z0.later Bb).l) (fun _ => ?_)
                        clear hK K
                        try simp only [zA, zS, zZ, Act.put, zP, zQ, zR]
                        refine wpAnyH_done (by kernel_rfl) ?_ _
                        go_wp2
                        go_meet
                        exact ⟨rfl, Bb⟩
                    · skip
                      have G4 := new_at (w := V) rfl (.cells ([.int .u8 0] : List Value).toArray 5)
                      have b := below_new V (.cells ([.int .u8 0] : List Value).toArray 5)
                      try have hne : V.heap.size ≠ ga := by have h : ga < V.heap.size := (own_base O1 rfl).2; omega
                      refine Node.wp_bs 53 1 [(0, .const (.int .u8 0))] [(0, .int .u8 0)] _ (by rfl) (by rfl) (run_bs128 V) ?_
                      replace Bb := below_step Bb b
                      try replace O1 := own_bel O1 b
                      try replace GZ := var_later GZ b
                      clear b
                      generalize V.heap.size = g4' at *
                      generalize V.alloc (.cells ([.int .u8 0] : List Value).toArray 5) = V at *
                      refine hK.out _ _ (range_of (Z0.later Bb).l) (fun _ => ?_)
                      clear hK K
                      try simp only [zA, zS, zZ, Act.put, zP, zQ, zR]
                      refine wpAnyH_ready (rs := [3, 10]) (by kernel_rfl) (by simp) ?_
                      refine AllReadyH.cons rfl (fun K hK => ?_) (AllReadyH.cons rfl (fun K hK => ?_) AllReadyH.nil)
                      · skip
                        have hgaV := (own_base O1 rfl).2
                        refine wp_app28 (.tmp 51) (.tmp 52) _ (by rfl) ga 5 i0 _ 1 1 Tryz.underlying53 hi hz0 hz1 hz2 rfl (by omega) (.slice (some ⟨ga, 0, none⟩) 0 0) 0 [] (by rfl) O1 (.slice A' 3 c') 3 (u8s wkB) (by rfl) (hb.later Bb) (u8s_one wkB) (by simp [maxLen]) (by omega) (Nat.le_of_lt hgaV) ?_
                        intro v1 V' ho1 hg1 hw1
                        simp only [Nat.zero_add, List.nil_append] at ho1
                        obtain ⟨Aa, ca, rfl, _, _⟩ := (sliceAt_of_own ho1).form
                        have b := below_own Bb hg1 Bb.size (fun g hg => by cases hg; exact hga)
                        try replace G4 := (hg1.block g4' (Array.getElem?_eq_some_iff.1 G4).1 (fun e => hne (Option.some.inj e))).trans G4
                        try replace GZ := (hg1.block gz (Array.getElem?_eq_some_iff.1 GZ).1 (fun e => by obtain ⟨cur, hc⟩ := own_type28 O1 e.symm; rw [GZ] at hc; cases hc)).trans GZ
                        clear hgaV hg1 hw1 Bb O1
                        have O1 := ho1
                        have Bb := b
                        clear b ho1
                        generalize V' = V at *
                        refine hK.out _ _ (range_of (Z0.later Bb).l) (fun _ => ?_)
                        clear hK K
                        try simp only [zA, zS, zZ, Act.put, zP, zQ, zR]
                        refine wpAnyH_ready (rs := [5, 10]) (by kernel_rfl) (by simp) ?_
                        refine AllReadyH.cons rfl (fun K hK => ?_) (AllReadyH.cons rfl (fun K hK => ?_) AllReadyH.nil)
                        · skip
                          refine wp_app28 (.tmp 53) (.tmp 54) _ (by rfl) wc.heap.size 5 i0 _ 1 1 Tryz.underlying53 hi hz0 hz1 hz2 rfl (by omega) (.slice Aa 3 ca) 3 (u8s wkB) (by rfl) (own_mono28 O1 hga) (.slice (some ⟨g4', 0, none⟩) 1 1) 1 [.int .u8 0] (by rfl) (sliceAt_blk G4 rfl (by decide)) (by simp [Value.oneCell']) (by simp [maxLen]) (by omega) Bb.size ?_
                          intro v1 V' ho1 hg1 hw1
                          obtain ⟨A5, c5, rfl, _, _⟩ := (sliceAt_of_own ho1).form
                          have b := below_own Bb hg1 Bb.size (fun g hg => Nat.le_trans hga (own_base O1 hg).1)
                          try replace GZ := (hg1.block gz (Array.getElem?_eq_some_iff.1 GZ).1 (fun e => by obtain ⟨cur, hc⟩ := own_type28 O1 e.symm; rw [GZ] at hc; cases hc)).trans GZ
                          clear hg1 hw1 Bb O1 G4
                          have O5 : SliceAt V' 1 (.slice A5 (3 + 1) c5) 4 (u8s (wkB ++ [0#8])) := sliceAt_of_own ho1
                          have Bb := b
                          clear b ho1
                          generalize V' = V at *
                          refine hK.out _ _ (range_of (Z0.later Bb).l) (fun _ => ?_)
                          clear hK K
                          try simp only [zA, zS, zZ, Act.put, zP, zQ, zR]
                          refine wpAnyH_ready (rs := [6, 10]) (by kernel_rfl) (by simp) ?_
                          refine AllReadyH.cons rfl (fun K hK => ?_) (AllReadyH.cons rfl (fun K hK => ?_) AllReadyH.nil)
                          · skip
                            refine Node.wp_fn 8 [.tmp 50, .tmp 55] _ [.agg L.toArray, .slice A5 (3 + 1) c5] (by rfl) (by rfl) ent ((Z0.later Bb).take4 O5) ?_
                            rintro e V ⟨b, rfl⟩
                            refine ⟨_, rfl, ?_⟩
                            rw [hS3]
                            replace Bb := below_step Bb b
                            try replace GZ := var_later GZ b
                            clear b O5
                            refine hK.out _ _ (range_of (Z0.later Bb).l) (fun _ => ?_)
                            clear hK K
                            try simp only [zA, zS, zZ, Act.put, zP, zQ, zR]
                            have hHeld : V.rangeAt g1 0 L := range_of (Z0.later Bb).l
                            refine Node.tk 7 ?_ rfl ?_ ?_
                            rotate_left
                            · intro w hSw; (try dsimp only at hSw); go_simp; try with_reducible rfl
                            simp only [zA, zS, zZ, Act.put, zP, zQ, zR]
                            refine Node.tk 8 ?_ rfl ?_ ?_
                            rotate_left
                            · intro w hSw; (try dsimp only at hSw); go_simp; try with_reducible rfl
                            simp only [zA, zS, zZ, Act.put, zP, zQ, zR]
                            refine Node.tk 9 ?_ rfl ?_ ?_
                            rotate_left
                            · intro w hSw; (try dsimp only at hSw); go_simp; try with_reducible rfl
                            simp only [zA, zS, zZ, Act.put, zP, zQ, zR]
                            clear hHeld
                            refine Node.on 10 rfl (fun K hK => ?_)
                            have GZ := new_at (w := V) rfl (.cells zc 52)
                            have b := below_new V (.cells zc 52)
                            have hgz : wc.heap.size ≤ V.heap.size := Bb.size
                            refine Node.wp_new 52 zs zc hzi hzc (by rfl) ?_
                            replace Bb := below_step Bb b
                            try replace O1 := own_bel O1 b
                            try replace G4 := var_later G4 b
                            try replace O5 := O5.later b
                            clear b
                            generalize V.heap.size = gz at *
                            generalize V.alloc (.cells zc 52) = V at *
                            refine hK.out _ _ (range_of (Z0.later Bb).l) (fun _ => ?_)
                            clear hK K
                            try simp only [zA, zS, zZ, Act.put, zP, zQ, zR]
                            refine Node.on 11 rfl (fun K hK => ?_)
                            obtain ⟨V', hW, F, b, far, ths⟩ := fill_new S3 GZ lS3 Bb hgz
                            refine wp_store_mid 52 (.tmp 10) (.tmp 57) (by rfl) gz 0 S3.toArray (by rfl) (by rfl) ths szs3 oS3 ?_
                            rw [hW]
                            clear hW ths far F Bb GZ
                            have Bb := b
                            clear b
                            generalize V' = V at *
                            refine hK.out _ _ (range_of (Z0.later Bb).l) (fun _ => ?_)
                            clear hK K
                            try simp only [zA, zS, zZ, Act.put, zP, zQ, zR]
                            refine Node.on 12 rfl (fun K hK => ?_)
                            refine Node.wp_set (.int .i64 41) (.tmp 58) (.inr rfl) (by rfl) ?_
                            refine hK.out _ _ (range_of (Z0.later Bb).l) (fun _ => ?_)
                            clear hK K
                            try simp only [zA, zS, zZ, Act.put, zP, zQ, zR]
                            refine wpAnyH_done (by kernel_rfl) ?_ _
                            go_wp2
                            go_meet
                            exact ⟨rfl, Bb⟩
                          · skip
                            have GZ := new_at (w := V) rfl (.cells zc 52)
                            have b := below_new V (.cells zc 52)
                            have hgz : wc.heap.size ≤ V.heap.size := Bb.size
                            refine Node.wp_new 52 zs zc hzi hzc (by rfl) ?_
                            replace Bb := below_step Bb b
                            try replace O1 := own_bel O1 b
                            try replace G4 := var_later G4 b
                            try replace O5 := O5.later b
                            clear b
                            generalize V.heap.size = gz at *
                            generalize V.alloc (.cells zc 52) = V at *
                            refine hK.out _ _ (range_of (Z0.later Bb).l) (fun _ => ?_)
                            clear hK K
                            try simp only [zA, zS, zZ, Act.put, zP, zQ, zR]
                            refine Node.on 6 rfl (fun K hK => ?_)
                            refine Node.wp_fn 8 [.tmp 50, .tmp 55] _ [.agg L.toArray, .slice A5 (3 + 1) c5] (by rfl) (by rfl) ent ((Z0.later Bb).take4 O5) ?_
                            rintro e V ⟨b, rfl⟩
                            refine ⟨_, rfl, ?_⟩
                            rw [hS3]
                            replace Bb := below_step Bb b
                            try replace GZ := var_later GZ b
                            clear b O5
                            refine hK.out _ _ (range_of (Z0.later Bb).l) (fun _ => ?_)
                            clear hK K
                            try simp only [zA, zS, zZ, Act.put, zP, zQ, zR]
                            have hHeld : V.rangeAt g1 0 L := range_of (Z0.later Bb).l
                            refine Node.tk 7 ?_ rfl ?_ ?_
                            rotate_left
                            · intro w hSw; (try dsimp only at hSw); go_simp; try with_reducible rfl
                            simp only [zA, zS, zZ, Act.put, zP, zQ, zR]
                            refine Node.tk 8 ?_ rfl ?_ ?_
                            rotate_left
                            · intro w hSw; (try dsimp only at hSw); go_simp; try with_reducible rfl
                            simp only [zA, zS, zZ, Act.put, zP, zQ, zR]
                            refine Node.tk 9 ?_ rfl ?_ ?_
                            rotate_left
                            · intro w hSw; (try dsimp only at hSw); go_simp; try with_reducible rfl
                            simp only [zA, zS, zZ, Act.put, zP, zQ, zR]
                            clear hHeld
                            refine Node.on 11 rfl (fun K hK => ?_)
                            obtain ⟨V', hW, F, b, far, ths⟩ := fill_new S3 GZ lS3 Bb hgz
                            refine wp_store_mid 52 (.tmp 10) (.tmp 57) (by rfl) gz 0 S3.toArray (by rfl) (by rfl) ths szs3 oS3 ?_
                            rw [hW]
                            clear hW ths far F Bb GZ
                            have Bb := b
                            clear b
                            generalize V' = V at *
                            refine hK.out _ _ (range_of (Z0.later Bb).l) (fun _ => ?_)
                            clear hK K
                            try simp only [zA, zS, zZ, Act.put, zP, zQ, zR]
                            refine Node.on 12 rfl (fun K hK => ?_)
                            refine Node.wp_set (.int .i64 41) (.tmp 58) (.inr rfl) (by rfl) ?_
                            refine hK.out _ _ (range_of (Z0.later Bb).l) (fun _ => ?_)
                            clear hK K
                            try simp only [zA, zS, zZ, Act.put, zP, zQ, zR]
                            refine wpAnyH_done (by kernel_rfl) ?_ _
                            go_wp2
                            go_meet
                            exact ⟨rfl, Bb⟩
                        · skip
                          have GZ := new_at (w := V) rfl (.cells zc 52)
                          have b := below_new V (.cells zc 52)
                          have hgz : wc.heap.size ≤ V.heap.size := Bb.size
                          refine Node.wp_new 52 zs zc hzi hzc (by rfl) ?_
                          replace Bb := below_step Bb b
                          try replace O1 := own_bel O1 b
                          try replace G4 := var_later G4 b
                          try replace O5 := O5.later b
                          clear b
                          generalize V.heap.size = gz at *
                          generalize V.alloc (.cells zc 52) = V at *
                          refine hK.out _ _ (range_of (Z0.later Bb).l) (fun _ => ?_)
                          clear hK K
                          try simp only [zA, zS, zZ, Act.put, zP, zQ, zR]
                          refine Node.on 5 rfl (fun K hK => ?_)
                          refine wp_app28 (.tmp 53) (.tmp 54) _ (by rfl) wc.heap.size 5 i0 _ 1 1 Tryz.underlying53 hi hz0 hz1 hz2 rfl (by omega) (.slice Aa 3 ca) 3 (u8s wkB) (by rfl) (own_mono28 O1 hga) (.slice (some ⟨g4', 0, none⟩) 1 1) 1 [.int .u8 0] (by rfl) (sliceAt_blk G4 rfl (by decide)) (by simp [Value.oneCell']) (by simp [maxLen]) (by omega) Bb.size ?_
                          intro v1 V' ho1 hg1 hw1
                          obtain ⟨A5, c5, rfl, _, _⟩ := (sliceAt_of_own ho1).form
                          have b := below_own Bb hg1 Bb.size (fun g hg => Nat.le_trans hga (own_base O1 hg).1)
                          try replace GZ := (hg1.block gz (Array.getElem?_eq_some_iff.1 GZ).1 (fun e => by obtain ⟨cur, hc⟩ := own_type28 O1 e.symm; rw [GZ] at hc; cases hc)).trans GZ
                          clear hg1 hw1 Bb O1 G4
                          have O5 : SliceAt V' 1 (.slice A5 (3 + 1) c5) 4 (u8s (wkB ++ [0#8])) := sliceAt_of_own ho1
                          have Bb := b
                          clear b ho1
                          generalize V' = V at *
                          refine hK.out _ _ (range_of (Z0.later Bb).l) (fun _ => ?_)
                          clear hK K
                          try simp only [zA, zS, zZ, Act.put, zP, zQ, zR]
                          refine Node.on 6 rfl (fun K hK => ?_)
                          refine Node.wp_fn 8 [.tmp 50, .tmp 55] _ [.agg L.toArray, .slice A5 (3 + 1) c5] (by rfl) (by rfl) ent ((Z0.later Bb).take4 O5) ?_
                          rintro e V ⟨b, rfl⟩
                          refine ⟨_, rfl, ?_⟩
                          rw [hS3]
                          replace Bb := below_step Bb b
                          try replace GZ := var_later GZ b
                          clear b O5
                          refine hK.out _ _ (range_of (Z0.later Bb).l) (fun _ => ?_)
                          clear hK K
                          try simp only [zA, zS, zZ, Act.put, zP, zQ, zR]
                          have hHeld : V.rangeAt g1 0 L := range_of (Z0.later Bb).l
                          refine Node.tk 7 ?_ rfl ?_ ?_
                          rotate_left
                          · intro w hSw; (try dsimp only at hSw); go_simp; try with_reducible rfl
                          simp only [zA, zS, zZ, Act.put, zP, zQ, zR]
                          refine Node.tk 8 ?_ rfl ?_ ?_
                          rotate_left
                          · intro w hSw; (try dsimp only at hSw); go_simp; try with_reducible rfl
                          simp only [zA, zS, zZ, Act.put, zP, zQ, zR]
                          refine Node.tk 9 ?_ rfl ?_ ?_
                          rotate_left
                          · intro w hSw; (try dsimp only at hSw); go_simp; try with_reducible rfl
                          simp only [zA, zS, zZ, Act.put, zP, zQ, zR]
                          clear hHeld
                          refine Node.on 11 rfl (fun K hK => ?_)
                          obtain ⟨V', hW, F, b, far, ths⟩ := fill_new S3 GZ lS3 Bb hgz
                          refine wp_store_mid 52 (.tmp 10) (.tmp 57) (by rfl) gz 0 S3.toArray (by rfl) (by rfl) ths szs3 oS3 ?_
                          rw [hW]
                          clear hW ths far F Bb GZ
                          have Bb := b
                          clear b
                          generalize V' = V at *
                          refine hK.out _ _ (range_of (Z0.later Bb).l) (fun _ => ?_)
                          clear hK K
                          try simp only [zA, zS, zZ, Act.put, zP, zQ, zR]
                          refine Node.on 12 rfl (fun K hK => ?_)
                          refine Node.wp_set (.int .i64 41) (.tmp 58) (.inr rfl) (by rfl) ?_
                          refine hK.out _ _ (range_of (Z0.later Bb).l) (fun _ => ?_)
                          clear hK K
                          try simp only [zA, zS, zZ, Act.put, zP, zQ, zR]
                          refine wpAnyH_done (by kernel_rfl) ?_ _
                          go_wp2
                          go_meet
                          exact ⟨rfl, Bb⟩
                      · skip
                        have GZ := new_at (w := V) rfl (.cells zc 52)
                        have b := below_new V (.cells zc 52)
                        have hgz : wc.heap.size ≤ V.heap.size := Bb.size
                        refine Node.wp_new 52 zs zc hzi hzc (by rfl) ?_
                        replace Bb := below_step Bb b
                        try replace O1 := own_bel O1 b
                        try replace G4 := var_later G4 b
                        try replace O5 := O5.later b
                        clear b
                        generalize V.heap.size = gz at *
                        generalize V.alloc (.cells zc 52) = V at *
                        refine hK.out _ _ (range_of (Z0.later Bb).l) (fun _ => ?_)
                        clear hK K
                        try simp only [zA, zS, zZ, Act.put, zP, zQ, zR]
                        refine Node.on 3 rfl (fun K hK => ?_)
                        have hgaV := (own_base O1 rfl).2
                        refine wp_app28 (.tmp 51) (.tmp 52) _ (by rfl) ga 5 i0 _ 1 1 Tryz.underlying53 hi hz0 hz1 hz2 rfl (by omega) (.slice (some ⟨ga, 0, none⟩) 0 0) 0 [] (by rfl) O1 (.slice A' 3 c') 3 (u8s wkB) (by rfl) (hb.later Bb) (u8s_one wkB) (by simp [maxLen]) (by omega) (Nat.le_of_lt hgaV) ?_
                        intro v1 V' ho1 hg1 hw1
                        simp only [Nat.zero_add, List.nil_append] at ho1
                        obtain ⟨Aa, ca, rfl, _, _⟩ := (sliceAt_of_own ho1).form
                        have b := below_own Bb hg1 Bb.size (fun g hg => by cases hg; exact hga)
                        try replace G4 := (hg1.block g4' (Array.getElem?_eq_some_iff.1 G4).1 (fun e => hne (Option.some.inj e))).trans G4
                        try replace GZ := (hg1.block gz (Array.getElem?_eq_some_iff.1 GZ).1 (fun e => by obtain ⟨cur, hc⟩ := own_type28 O1 e.symm; rw [GZ] at hc; cases hc)).trans GZ
                        clear hgaV hg1 hw1 Bb O1
                        have O1 := ho1
                        have Bb := b
                        clear b ho1
                        generalize V' = V at *
                        refine hK.out _ _ (range_of (Z0.later Bb).l) (fun _ => ?_)
                        clear hK K
                        try simp only [zA, zS, zZ, Act.put, zP, zQ, zR]
                        refine Node.on 5 rfl (fun K hK => ?_)
                        refine wp_app28 (.tmp 53) (.tmp 54) _ (by rfl) wc.heap.size 5 i0 _ 1 1 Tryz.underlying53 hi hz0 hz1 hz2 rfl (by omega) (.slice Aa 3 ca) 3 (u8s wkB) (by rfl) (own_mono28 O1 hga) (.slice (some ⟨g4', 0, none⟩) 1 1) 1 [.int .u8 0] (by rfl) (sliceAt_blk G4 rfl (by decide)) (by simp [Value.oneCell']) (by simp [maxLen]) (by omega) Bb.size ?_
                        intro v1 V' ho1 hg1 hw1
                        obtain ⟨A5, c5, rfl, _, _⟩ := (sliceAt_of_own ho1).form
                        have b := below_own Bb hg1 Bb.size (fun g hg => Nat.le_trans hga (own_base O1 hg).1)
                        try replace GZ := (hg1.block gz (Array.getElem?_eq_some_iff.1 GZ).1 (fun e => by obtain ⟨cur, hc⟩ := own_type28 O1 e.symm; rw [GZ] at hc; cases hc)).trans GZ
                        clear hg1 hw1 Bb O1 G4
                        have O5 : SliceAt V' 1 (.slice A5 (3 + 1) c5) 4 (u8s (wkB ++ [0#8])) := sliceAt_of_own ho1
                        have Bb := b
                        clear b ho1
                        generalize V' = V at *
                        refine hK.out _ _ (range_of (Z0.later Bb).l) (fun _ => ?_)
                        clear hK K
                        try simp only [zA, zS, zZ, Act.put, zP, zQ, zR]
                        refine Node.on 6 rfl (fun K hK => ?_)
                        refine Node.wp_fn 8 [.tmp 50, .tmp 55] _ [.agg L.toArray, .slice A5 (3 + 1) c5] (by rfl) (by rfl) ent ((Z0.later Bb).take4 O5) ?_
                        rintro e V ⟨b, rfl⟩
                        refine ⟨_, rfl, ?_⟩
                        rw [hS3]
                        replace Bb := below_step Bb b
                        try replace GZ := var_later GZ b
                        clear b O5
                        refine hK.out _ _ (range_of (Z0.later Bb).l) (fun _ => ?_)
                        clear hK K
                        try simp only [zA, zS, zZ, Act.put, zP, zQ, zR]
                        have hHeld : V.rangeAt g1 0 L := range_of (Z0.later Bb).l
                        refine Node.tk 7 ?_ rfl ?_ ?_
                        rotate_left
                        · intro w hSw; (try dsimp only at hSw); go_simp; try with_reducible rfl
                        simp only [zA, zS, zZ, Act.put, zP, zQ, zR]
                        refine Node.tk 8 ?_ rfl ?_ ?_
                        rotate_left
                        · intro w hSw; (try dsimp only at hSw); go_simp; try with_reducible rfl
                        simp only [zA, zS, zZ, Act.put, zP, zQ, zR]
                        refine Node.tk 9 ?_ rfl ?_ ?_
                        rotate_left
                        · intro w hSw; (try dsimp only at hSw); go_simp; try with_reducible rfl
                        simp only [zA, zS, zZ, Act.put, zP, zQ, zR]
                        clear hHeld
                        refine Node.on 11 rfl (fun K hK => ?_)
                        obtain ⟨V', hW, F, b, far, ths⟩ := fill_new S3 GZ lS3 Bb hgz
                        refine wp_store_mid 52 (.tmp 10) (.tmp 57) (by rfl) gz 0 S3.toArray (by rfl) (by rfl) ths szs3 oS3 ?_
                        rw [hW]
                        clear hW ths far F Bb GZ
                        have Bb := b
                        clear b
                        generalize V' = V at *
                        refine hK.out _ _ (range_of (Z0.later Bb).l) (fun _ => ?_)
                        clear hK K
                        try simp only [zA, zS, zZ, Act.put, zP, zQ, zR]
                        refine Node.on 12 rfl (fun K hK => ?_)
                        refine Node.wp_set (.int .i64 41) (.tmp 58) (.inr rfl) (by rfl) ?_
                        refine hK.out _ _ (range_of (Z0.later Bb).l) (fun _ => ?_)
                        clear hK K
                        try simp only [zA, zS, zZ, Act.put, zP, zQ, zR]
                        refine wpAnyH_done (by kernel_rfl) ?_ _
                        go_wp2
                        go_meet
                        exact ⟨rfl, Bb⟩
                    · skip
                      have GZ := new_at (w := V) rfl (.cells zc 52)
                      have b := below_new V (.cells zc 52)
                      have hgz : wc.heap.size ≤ V.heap.size := Bb.size
                      refine Node.wp_new 52 zs zc hzi hzc (by rfl) ?_
                      replace Bb := below_step Bb b
                      try replace O1 := own_bel O1 b
                      try replace G4 := var_later G4 b
                      try replace O5 := O5.later b
                      clear b
                      generalize V.heap.size = gz at *
                      generalize V.alloc (.cells zc 52) = V at *
                      refine hK.out _ _ (range_of (Z0.later Bb).l) (fun _ => ?_)
                      clear hK K
                      try simp only [zA, zS, zZ, Act.put, zP, zQ, zR]
                      refine wpAnyH_ready (rs := [3, 4]) (by kernel_rfl) (by simp) ?_
                      refine AllReadyH.cons rfl (fun K hK => ?_) (AllReadyH.cons rfl (fun K hK => ?_) AllReadyH.nil)
                      · skip
                        have hgaV := (own_base O1 rfl).2
                        refine wp_app28 (.tmp 51) (.tmp 52) _ (by rfl) ga 5 i0 _ 1 1 Tryz.underlying53 hi hz0 hz1 hz2 rfl (by omega) (.slice (some ⟨ga, 0, none⟩) 0 0) 0 [] (by rfl) O1 (.slice A' 3 c') 3 (u8s wkB) (by rfl) (hb.later Bb) (u8s_one wkB) (by simp [maxLen]) (by omega) (Nat.le_of_lt hgaV) ?_
                        intro v1 V' ho1 hg1 hw1
                        simp only [Nat.zero_add, List.nil_append] at ho1
                        obtain ⟨Aa, ca, rfl, _, _⟩ := (sliceAt_of_own ho1).form
                        have b := below_own Bb hg1 Bb.size (fun g hg => by cases hg; exact hga)
                        try replace G4 := (hg1.block g4' (Array.getElem?_eq_some_iff.1 G4).1 (fun e => hne (Option.some.inj e))).trans G4
                        try replace GZ := (hg1.block gz (Array.getElem?_eq_some_iff.1 GZ).1 (fun e => by obtain ⟨cur, hc⟩ := own_type28 O1 e.symm; rw [GZ] at hc; cases hc)).trans GZ
                        clear hgaV hg1 hw1 Bb O1
                        have O1 := ho1
                        have Bb := b
                        clear b ho1
                        generalize V' = V at *
                        refine hK.out _ _ (range_of (Z0.later Bb).l) (fun _ => ?_)
                        clear hK K
                        try simp only [zA, zS, zZ, Act.put, zP, zQ, zR]
                        refine Node.on 4 rfl (fun K hK => ?_)
                        have G4 := new_at (w := V) rfl (.cells ([.int .u8 0] : List Value).toArray 5)
                        have b := below_new V (.cells ([.int .u8 0] : List Value).toArray 5)
                        try have hne : V.heap.size ≠ ga := by have h : ga < V.heap.size := (own_base O1 rfl).2; omega
                        refine Node.wp_bs 53 1 [(0, .const (.int .u8 0))] [(0, .int .u8 0)] _ (by rfl) (by rfl) (run_bs128 V) ?_
                        replace Bb := below_step Bb b
                        try replace O1 := own_bel O1 b
                        try replace GZ := var_later GZ b
                        clear b
                        generalize V.heap.size = g4' at *
                        generalize V.alloc (.cells ([.int .u8 0] : List Value).toArray 5) = V at *
                        refine hK.out _ _ (range_of (Z0.later Bb).l) (fun _ => ?_)
                        clear hK K
                        try simp only [zA, zS, zZ, Act.put, zP, zQ, zR]
                        refine Node.on 5 rfl (fun K hK => ?_)
                        refine wp_app28 (.tmp 53) (.tmp 54) _ (by rfl) wc.heap.size 5 i0 _ 1 1 Tryz.underlying53 hi hz0 hz1 hz2 rfl (by omega) (.slice Aa 3 ca) 3 (u8s wkB) (by rfl) (own_mono28 O1 hga) (.slice (some ⟨g4', 0, none⟩) 1 1) 1 [.int .u8 0] (by rfl) (sliceAt_blk G4 rfl (by decide)) (by simp [Value.oneCell']) (by simp [maxLen]) (by omega) Bb.size ?_
                        intro v1 V' ho1 hg1 hw1
                        obtain ⟨A5, c5, rfl, _, _⟩ := (sliceAt_of_own ho1).form
                        have b := below_own Bb hg1 Bb.size (fun g hg => Nat.le_trans hga (own_base O1 hg).1)
                        try replace GZ := (hg1.block gz (Array.getElem?_eq_some_iff.1 GZ).1 (fun e => by obtain ⟨cur, hc⟩ := own_type28 O1 e.symm; rw [GZ] at hc; cases hc)).trans GZ
                        clear hg1 hw1 Bb O1 G4
                        have O5 : SliceAt V' 1 (.slice A5 (3 + 1) c5) 4 (u8s (wkB ++ [0#8])) := sliceAt_of_own ho1
                        have Bb := b
                        clear b ho1
                        generalize V' = V at *
                        refine hK.out _ _ (range_of (Z0.later Bb).l) (fun _ => ?_)
                        clear hK K
                        try simp only [zA, zS, zZ, Act.put, zP, zQ, zR]
                        refine Node.on 6 rfl (fun K hK => ?_)
                        refine Node.wp_fn 8 [.tmp 50, .tmp 55] _ [.agg L.toArray, .slice A5 (3 + 1) c5] (by rfl) (by rfl) ent ((Z0.later Bb).take4 O5) ?_
                        rintro e V ⟨b, rfl⟩
                        refine ⟨_, rfl, ?_⟩
                        rw [hS3]
                        replace Bb := below_step Bb b
                        try replace GZ := var_later GZ b
                        clear b O5
                        refine hK.out _ _ (range_of (Z0.later Bb).l) (fun _ => ?_)
                        clear hK K
                        try simp only [zA, zS, zZ, Act.put, zP, zQ, zR]
                        have hHeld : V.rangeAt g1 0 L := range_of (Z0.later Bb).l
                        refine Node.tk 7 ?_ rfl ?_ ?_
                        rotate_left
                        · intro w hSw; (try dsimp only at hSw); go_simp; try with_reducible rfl
                        simp only [zA, zS, zZ, Act.put, zP, zQ, zR]
                        refine Node.tk 8 ?_ rfl ?_ ?_
                        rotate_left
                        · intro w hSw; (try dsimp only at hSw); go_simp; try with_reducible rfl
                        simp only [zA, zS, zZ, Act.put, zP, zQ, zR]
                        refine Node.tk 9 ?_ rfl ?_ ?_
                        rotate_left
                        · intro w hSw; (try dsimp only at hSw); go_simp; try with_reducible rfl
                        simp only [zA, zS, zZ, Act.put, zP, zQ, zR]
                        clear hHeld
                        refine Node.on 11 rfl (fun K hK => ?_)
                        obtain ⟨V', hW, F, b, far, ths⟩ := fill_new S3 GZ lS3 Bb hgz
                        refine wp_store_mid 52 (.tmp 10) (.tmp 57) (by rfl) gz 0 S3.toArray (by rfl) (by rfl) ths szs3 oS3 ?_
                        rw [hW]
                        clear hW ths far F Bb GZ
                        have Bb := b
                        clear b
                        generalize V' = V at *
                        refine hK.out _ _ (range_of (Z0.later Bb).l) (fun _ => ?_)
                        clear hK K
                        try simp only [zA, zS, zZ, Act.put, zP, zQ, zR]
                        refine Node.on 12 rfl (fun K hK => ?_)
                        refine Node.wp_set (.int .i64 41) (.tmp 58) (.inr rfl) (by rfl) ?_
                        refine hK.out _ _ (range_of (Z0.later Bb).l) (fun _ => ?_)
                        clear hK K
                        try simp only [zA, zS, zZ, Act.put, zP, zQ, zR]
                        refine wpAnyH_done (by kernel_rfl) ?_ _
                        go_wp2
                        go_meet
                        exact ⟨rfl, Bb⟩
                      · skip
                        have G4 := new_at (w := V) rfl (.cells ([.int .u8 0] : List Value).toArray 5)
                        have b := below_new V (.cells ([.int .u8 0] : List Value).toArray 5)
                        try have hne : V.heap.size ≠ ga := by have h : ga < V.heap.size := (own_base O1 rfl).2; omega
                        refine Node.wp_bs 53 1 [(0, .const (.int .u8 0))] [(0, .int .u8 0)] _ (by rfl) (by rfl) (run_bs128 V) ?_
                        replace Bb := below_step Bb b
                        try replace O1 := own_bel O1 b
                        try replace GZ := var_later GZ b
                        clear b
                        generalize V.heap.size = g4' at *
                        generalize V.alloc (.cells ([.int .u8 0] : List Value).toArray 5) = V at *
                        refine hK.out _ _ (range_of (Z0.later Bb).l) (fun _ => ?_)
                        clear hK K
                        try simp only [zA, zS, zZ, Act.put, zP, zQ, zR]
                        refine Node.on 3 rfl (fun K hK => ?_)
                        have hgaV := (own_base O1 rfl).2
                        refine wp_app28 (.tmp 51) (.tmp 52) _ (by rfl) ga 5 i0 _ 1 1 Tryz.underlying53 hi hz0 hz1 hz2 rfl (by omega) (.slice (some ⟨ga, 0, none⟩) 0 0) 0 [] (by rfl) O1 (.slice A' 3 c') 3 (u8s wkB) (by rfl) (hb.later Bb) (u8s_one wkB) (by simp [maxLen]) (by omega) (Nat.le_of_lt hgaV) ?_
                        intro v1 V' ho1 hg1 hw1
                        simp only [Nat.zero_add, List.nil_append] at ho1
                        obtain ⟨Aa, ca, rfl, _, _⟩ := (sliceAt_of_own ho1).form
                        have b := below_own Bb hg1 Bb.size (fun g hg => by cases hg; exact hga)
                        try replace G4 := (hg1.block g4' (Array.getElem?_eq_some_iff.1 G4).1 (fun e => hne (Option.some.inj e))).trans G4
                        try replace GZ := (hg1.block gz (Array.getElem?_eq_some_iff.1 GZ).1 (fun e => by obtain ⟨cur, hc⟩ := own_type28 O1 e.symm; rw [GZ] at hc; cases hc)).trans GZ
                        clear hgaV hg1 hw1 Bb O1
                        have O1 := ho1
                        have Bb := b
                        clear b ho1
                        generalize V' = V at *
                        refine hK.out _ _ (range_of (Z0.later Bb).l) (fun _ => ?_)
                        clear hK K
                        try simp only [zA, zS, zZ, Act.put, zP, zQ, zR]
                        refine Node.on 5 rfl (fun K hK => ?_)
                        refine wp_app28 (.tmp 53) (.tmp 54) _ (by rfl) wc.heap.size 5 i0 _ 1 1 Tryz.underlying53 hi hz0 hz1 hz2 rfl (by omega) (.slice Aa 3 ca) 3 (u8s wkB) (by rfl) (own_mono28 O1 hga) (.slice (some ⟨g4', 0, none⟩) 1 1) 1 [.int .u8 0] (by rfl) (sliceAt_blk G4 rfl (by decide)) (by simp [Value.oneCell']) (by simp [maxLen]) (by omega) Bb.size ?_
                        intro v1 V' ho1 hg1 hw1
                        obtain ⟨A5, c5, rfl, _, _⟩ := (sliceAt_of_own ho1).form
                        have b := below_own Bb hg1 Bb.size (fun g hg => Nat.le_trans hga (own_base O1 hg).1)
                        try replace GZ := (hg1.block gz (Array.getElem?_eq_some_iff.1 GZ).1 (fun e => by obtain ⟨cur, hc⟩ := own_type28 O1 e.symm; rw [GZ] at hc; cases hc)).trans GZ
                        clear hg1 hw1 Bb O1 G4
                        have O5 : SliceAt V' 1 (.slice A5 (3 + 1) c5) 4 (u8s (wkB ++ [0#8])) := sliceAt_of_own ho1
                        have Bb := b
                        clear b ho1
                        generalize V' = V at *
                        refine hK.out _ _ (range_of (Z0.later Bb).l) (fun _ => ?_)
                        clear hK K
                        try simp only [zA, zS, zZ, Act.put, zP, zQ, zR]
                        refine Node.on 6 rfl (fun K hK => ?_)
                        refine Node.wp_fn 8 [.tmp 50, .tmp 55] _ [.agg L.toArray, .slice A5 (3 + 1) c5] (by rfl) (by rfl) ent ((Z0.later Bb).take4 O5) ?_
                        rintro e V ⟨b, rfl⟩
                        refine ⟨_, rfl, ?_⟩
                        rw [hS3]
                        replace Bb := below_step Bb b
                        try replace GZ := var_later GZ b
                        clear b O5
                        refine hK.out _ _ (range_of (Z0.later Bb).l) (fun _ => ?_)
                        clear hK K
                        try simp only [zA, zS, zZ, Act.put, zP, zQ, zR]
                        have hHeld : V.rangeAt g1 0 L := range_of (Z0.later Bb).l
                        refine Node.tk 7 ?_ rfl ?_ ?_
                        rotate_left
                        · intro w hSw; (try dsimp only at hSw); go_simp; try with_reducible rfl
                        simp only [zA, zS, zZ, Act.put, zP, zQ, zR]
                        refine Node.tk 8 ?_ rfl ?_ ?_
                        rotate_left
                        · intro w hSw; (try dsimp only at hSw); go_simp; try with_reducible rfl
                        simp only [zA, zS, zZ, Act.put, zP, zQ, zR]
                        refine Node.tk 9 ?_ rfl ?_ ?_
                        rotate_left
                        · intro w hSw; (try dsimp only at hSw); go_simp; try with_reducible rfl
                        simp only [zA, zS, zZ, Act.put, zP, zQ, zR]
                        clear hHeld
                        refine Node.on 11 rfl (fun K hK => ?_)
                        obtain ⟨V', hW, F, b, far, ths⟩ := fill_new S3 GZ lS3 Bb hgz
                        refine wp_store_mid 52 (.tmp 10) (.tmp 57) (by rfl) gz 0 S3.toArray (by rfl) (by rfl) ths szs3 oS3 ?_
                        rw [hW]
                        clear hW ths far F Bb GZ
                        have Bb := b
                        clear b
                        generalize V' = V at *
                        refine hK.out _ _ (range_of (Z0.later Bb).l) (fun _ => ?_)
                        clear hK K
                        try simp only [zA, zS, zZ, Act.put, zP, zQ, zR]
                        refine Node.on 12 rfl (fun K hK => ?_)
                        refine Node.wp_set (.int .i64 41) (.tmp 58) (.inr rfl) (by rfl) ?_
                        refine hK.out _ _ (range_of (Z0.later Bb).l) (fun _ => ?_)
                        clear hK K
                        try simp only [zA, zS, zZ, Act.put, zP, zQ, zR]
                        refine wpAnyH_done (by kernel_rfl) ?_ _
                        go_wp2
                        go_meet
                        exact ⟨rfl, Bb⟩
                  · skip
                    have G4 := new_at (w := V) rfl (.cells ([.int .u8 0] : List Value).toArray 5)
                    have b := below_new V (.cells ([.int .u8 0] : List Value).toArray 5)
                    try have hne : V.heap.size ≠ ga := by have h : ga < V.heap.size := (own_base O1 rfl).2; omega
                    refine Node.wp_bs 53 1 [(0, .const (.int .u8 0))] [(0, .int .u8 0)] _ (by rfl) (by rfl) (run_bs128 V) ?_
                    replace Bb := below_step Bb b
                    try replace O1 := own_bel O1 b
                    try replace GZ := var_later GZ b
                    clear b
                    generalize V.heap.size = g4' at *
                    generalize V.alloc (.cells ([.int .u8 0] : List Value).toArray 5) = V at *
                    refine hK.out _ _ (range_of (Z0.later Bb).l) (fun _ => ?_)
                    clear hK K
                    try simp only [zA, zS, zZ, Act.put, zP, zQ, zR]
                    refine wpAnyH_ready (rs := [1, 10]) (by kernel_rfl) (by simp) ?_
                    refine AllReadyH.cons rfl (fun K hK => ?_) (AllReadyH.cons rfl (fun K hK => ?_) AllReadyH.nil)
                    · skip
                      have O1 := own_empty V 5 1
                      have b := below_new V (.cells #[] 5)
                      have hga : wc.heap.size ≤ V.heap.size := Bb.size
                      try have hne : g4' ≠ V.heap.size := by have := (Array.getElem?_eq_some_iff.1 G4).1; omega
                      refine Node.wp_bs 53 0 [] [] _ (by rfl) (by rfl) (run_bs028 V) ?_
                      replace Bb := below_step Bb b
                      try replace G4 := var_later G4 b
                      try replace GZ := var_later GZ b
                      clear b
                      generalize V.heap.size = ga at *
                      generalize V.alloc (.cells #[] 5) = V at *
                      refine hK.out _ _ (range_of (Z0.later Bb).l) (fun _ => ?_)
                      clear hK K
                      try simp only [zA, zS, zZ, Act.put, zP, zQ, zR]
                      refine wpAnyH_ready (rs := [3, 10]) (by kernel_rfl) (by simp) ?_
                      refine AllReadyH.cons rfl (fun K hK => ?_) (AllReadyH.cons rfl (fun K hK => ?_) AllReadyH.nil)
                      · skip
                        have hgaV := (own_base O1 rfl).2
                        refine wp_app28 (.tmp 51) (.tmp 52) _ (by rfl) ga 5 i0 _ 1 1 Tryz.underlying53 hi hz0 hz1 hz2 rfl (by omega) (.slice (some ⟨ga, 0, none⟩) 0 0) 0 [] (by rfl) O1 (.slice A' 3 c') 3 (u8s wkB) (by rfl) (hb.later Bb) (u8s_one wkB) (by simp [maxLen]) (by omega) (Nat.le_of_lt hgaV) ?_
                        intro v1 V' ho1 hg1 hw1
                        simp only [Nat.zero_add, List.nil_append] at ho1
                        obtain ⟨Aa, ca, rfl, _, _⟩ := (sliceAt_of_own ho1).form
                        have b := below_own Bb hg1 Bb.size (fun g hg => by cases hg; exact hga)
                        try replace G4 := (hg1.block g4' (Array.getElem?_eq_some_iff.1 G4).1 (fun e => hne (Option.some.inj e))).trans G4
                        try replace GZ := (hg1.block gz (Array.getElem?_eq_some_iff.1 GZ).1 (fun e => by obtain ⟨cur, hc⟩ := own_type28 O1 e.symm; rw [GZ] at hc; cases hc)).trans GZ
                        clear hgaV hg1 hw1 Bb O1
                        have O1 := ho1
                        have Bb := b
                        clear b ho1
                        generalize V' = V at *
                        refine hK.out _ _ (range_of (Z0.later Bb).l) (fun _ => ?_)
                        clear hK K
                        try simp only [zA, zS, zZ, Act.put, zP, zQ, zR]
                        refine wpAnyH_ready (rs := [5, 10]) (by kernel_rfl) (by simp) ?_
                        refine AllReadyH.cons rfl (fun K hK => ?_) (AllReadyH.cons rfl (fun K hK => ?_) AllReadyH.nil)
                        · skip
                          refine wp_app28 (.tmp 53) (.tmp 54) _ (by rfl) wc.heap.size 5 i0 _ 1 1 Tryz.underlying53 hi hz0 hz1 hz2 rfl (by omega) (.slice Aa 3 ca) 3 (u8s wkB) (by rfl) (own_mono28 O1 hga) (.slice (some ⟨g4', 0, none⟩) 1 1) 1 [.int .u8 0] (by rfl) (sliceAt_blk G4 rfl (by decide)) (by simp [Value.oneCell']) (by simp [maxLen]) (by omega) Bb.size ?_
                          intro v1 V' ho1 hg1 hw1
                          obtain ⟨A5, c5, rfl, _, _⟩ := (sliceAt_of_own ho1).form
                          have b := below_own Bb hg1 Bb.size (fun g hg => Nat.le_trans hga (own_base O1 hg).1)
                          try replace GZ := (hg1.block gz (Array.getElem?_eq_some_iff.1 GZ).1 (fun e => by obtain ⟨cur, hc⟩ := own_type28 O1 e.symm; rw [GZ] at hc; cases hc)).trans GZ
                          clear hg1 hw1 Bb O1 G4
                          have O5 : SliceAt V' 1 (.slice A5 (3 + 1) c5) 4 (u8s (wkB ++ [0#8])) := sliceAt_of_own ho1
                          have Bb := b
                          clear b ho1
                          generalize V' = V at *
                          refine hK.out _ _ (range_of (Z0.later Bb).l) (fun _ => ?_)
                          clear hK K
                          try simp only [zA, zS, zZ, Act.put, zP, zQ, zR]
                          refine wpAnyH_ready (rs := [6, 10]) (by kernel_rfl) (by simp) ?_
                          refine AllReadyH.cons rfl (fun K hK => ?_) (AllReadyH.cons rfl (fun K hK => ?_) AllReadyH.nil)
                          · skip
                            refine Node.wp_fn 8 [.tmp 50, .tmp 55] _ [.agg L.toArray, .slice A5 (3 + 1) c5] (by rfl) (by rfl) ent ((Z0.later Bb).take4 O5) ?_
                            rintro e V ⟨b, rfl⟩
                            refine ⟨_, rfl, ?_⟩
                            rw [hS3]
                            replace Bb := below_step Bb b
                            try replace GZ := var_later GZ b
                            clear b O5
                            refine hK.out _ _ (range_of (Z0.later Bb).l) (fun _ => ?_)
                            clear hK K
                            try simp only [zA, zS, zZ, Act.put, zP, zQ, zR]
                            have hHeld : V.rangeAt g1 0 L := range_of (Z0.later Bb).l
                            refine Node.tk 7 ?_ rfl ?_ ?_
                            rotate_left
                            · intro w hSw; (try dsimp only at hSw); go_simp; try with_reducible rfl
                            simp only [zA, zS, zZ, Act.put, zP, zQ, zR]
                            refine Node.tk 8 ?_ rfl ?_ ?_
                            rotate_left
                            · intro w hSw; (try dsimp only at hSw); go_simp; try with_reducible rfl
                            simp only [zA, zS, zZ, Act.put, zP, zQ, zR]
                            refine Node.tk 9 ?_ rfl ?_ ?_
                            rotate_left
                            · intro w hSw; (try dsimp only at hSw); go_simp; try with_reducible rfl
                            simp only [zA, zS, zZ, Act.put, zP, zQ, zR]
                            clear hHeld
                            refine Node.on 10 rfl (fun K hK => ?_)
                            have GZ := new_at (w := V) rfl (.cells zc 52)
                            have b := below_new V (.cells zc 52)
                            have hgz : wc.heap.size ≤ V.heap.size := Bb.size
                            refine Node.wp_new 52 zs zc hzi hzc (by rfl) ?_
                            replace Bb := below_step Bb b
                            try replace O1 := own_bel O1 b
                            try replace G4 := var_later G4 b
                            try replace O5 := O5.later b
                            clear b
                            generalize V.heap.size = gz at *
                            generalize V.alloc (.cells zc 52) = V at *
                            refine hK.out _ _ (range_of (Z0.later Bb).l) (fun _ => ?_)
                            clear hK K
                            try simp only [zA, zS, zZ, Act.put, zP, zQ, zR]
                            refine Node.on 11 rfl (fun K hK => ?_)
                            obtain ⟨V', hW, F, b, far, ths⟩ := fill_new S3 GZ lS3 Bb hgz
                            refine wp_store_mid 52 (.tmp 10) (.tmp 57) (by rfl) gz 0 S3.toArray (by rfl) (by rfl) ths szs3 oS3 ?_
                            rw [hW]
                            clear hW ths far F Bb GZ
                            have Bb := b
                            clear b
                            generalize V' = V at *
                            refine hK.out _ _ (range_of (Z0.later Bb).l) (fun _ => ?_)
                            clear hK K
                            try simp only [zA, zS, zZ, Act.put, zP, zQ, zR]
                            refine Node.on 12 rfl (fun K hK => ?_)
                            refine Node.wp_set (.int .i64 41) (.tmp 58) (.inr rfl) (by rfl) ?_
                            refine hK.out _ _ (range_of (Z0.later Bb).l) (fun _ => ?_)
                            clear hK K
                            try simp only [zA, zS, zZ, Act.put, zP, zQ, zR]
                            refine wpAnyH_done (by kernel_rfl) ?_ _
                            go_wp2
                            go_meet
                            exact ⟨rfl, Bb⟩
                          · skip
                            have GZ := new_at (w := V) rfl (.cells zc 52)
                            have b := below_new V (.cells zc 52)
                            have hgz : wc.heap.size ≤ V.heap.size := Bb.size
                            refine Node.wp_new 52 zs zc hzi hzc (by rfl) ?_
                            replace Bb := below_step Bb b
                            try replace O1 := own_bel O1 b
                            try replace G4 := var_later G4 b
                            try replace O5 := O5.later b
                            clear b
                            generalize V.heap.size = gz at *
                            generalize V.alloc (.cells zc 52) = V at *
                            refine hK.out _ _ (range_of (Z0.later Bb).l) (fun _ => ?_)
                            clear hK K
                            try simp only [zA, zS, zZ, Act.put, zP, zQ, zR]
                            refine Node.on 6 rfl (fun K hK => ?_)
                            refine Node.wp_fn 8 [.tmp 50, .tmp 55] _ [.agg L.toArray, .slice A5 (3 + 1) c5] (by rfl) (by rfl) ent ((Z0.later Bb).take4 O5) ?_
                            rintro e V ⟨b, rfl⟩
                            refine ⟨_, rfl, ?_⟩
                            rw [hS3]
                            replace Bb := below_step Bb b
                            try replace GZ := var_later GZ b
                            clear b O5
                            refine hK.out _ _ (range_of (Z0.later Bb).l) (fun _ => ?_)
                            clear hK K
                            try simp only [zA, zS, zZ, Act.put, zP, zQ, zR]
                            have hHeld : V.rangeAt g1 0 L := range_of (Z0.later Bb).l
                            refine Node.tk 7 ?_ rfl ?_ ?_
                            rotate_left
                            · intro w hSw; (try dsimp only at hSw); go_simp; try with_reducible rfl
                            simp only [zA, zS, zZ, Act.put, zP, zQ, zR]
                            refine Node.tk 8 ?_ rfl ?_ ?_
                            rotate_left
                            · intro w hSw; (try dsimp only at hSw); go_simp; try with_reducible rfl
                            simp only [zA, zS, zZ, Act.put, zP, zQ, zR]
                            refine Node.tk 9 ?_ rfl ?_ ?_
                            rotate_left
                            · intro w hSw; (try dsimp only at hSw); go_simp; try with_reducible rfl
                            simp only [zA, zS, zZ, Act.put, zP, zQ, zR]
                            clear hHeld
                            refine Node.on 11 rfl (fun K hK => ?_)
                            obtain ⟨V', hW, F, b, far, ths⟩ := fill_new S3 GZ lS3 Bb hgz
                            refine wp_store_mid 52 (.tmp 10) (.tmp 57) (by rfl) gz 0 S3.toArray (by rfl) (by rfl) ths szs3 oS3 ?_
                            rw [hW]
                            clear hW ths far F Bb GZ
                            have Bb := b
                            clear b
                            generalize V' = V at *
                            refine hK.out _ _ (range_of (Z0.later Bb).l) (fun _ => ?_)
                            clear hK K
                            try simp only [zA, zS, zZ, Act.put, zP, zQ, zR]
                            refine Node.on 12 rfl (fun K hK => ?_)
                            refine Node.wp_set (.int .i64 41) (.tmp 58) (.inr rfl) (by rfl) ?_
                            refine hK.out _ _ (range_of (Z0.later Bb).l) (fun _ => ?_)
                            clear hK K
                            try simp only [zA, zS, zZ, Act.put, zP, zQ, zR]
                            refine wpAnyH_done (by kernel_rfl) ?_ _
                            go_wp2
                            go_meet
                            exact ⟨rfl, Bb⟩
                        · skip
                          have GZ := new_at (w := V) rfl (.cells zc 52)
                          have b := below_new V (.cells zc 52)
                          have hgz : wc.heap.size ≤ V.heap.size := Bb.size
                          refine Node.wp_new 52 zs zc hzi hzc (by rfl) ?_
                          replace Bb := below_step Bb b
                          try replace O1 := own_bel O1 b
                          try replace G4 := var_later G4 b
                          try replace O5 := O5.later b
                          clear b
                          generalize V.heap.size = gz at *
                          generalize V.alloc (.cells zc 52) = V at *
                          refine hK.out _ _ (range_of (Z0.later Bb).l) (fun _ => ?_)
                          clear hK K
                          try simp only [zA, zS, zZ, Act.put, zP, zQ, zR]
                          refine Node.on 5 rfl (fun K hK => ?_)
                          refine wp_app28 (.tmp 53) (.tmp 54) _ (by rfl) wc.heap.size 5 i0 _ 1 1 Tryz.underlying53 hi hz0 hz1 hz2 rfl (by omega) (.slice Aa 3 ca) 3 (u8s wkB) (by rfl) (own_mono28 O1 hga) (.slice (some ⟨g4', 0, none⟩) 1 1) 1 [.int .u8 0] (by rfl) (sliceAt_blk G4 rfl (by decide)) (by simp [Value.oneCell']) (by simp [maxLen]) (by omega) Bb.size ?_
                          intro v1 V' ho1 hg1 hw1
                          obtain ⟨A5, c5, rfl, _, _⟩ := (sliceAt_of_own ho1).form
                          have b := below_own Bb hg1 Bb.size (fun g hg => Nat.le_trans hga (own_base O1 hg).1)
                          try replace GZ := (hg1.block gz (Array.getElem?_eq_some_iff.1 GZ).1 (fun e => by obtain ⟨cur, hc⟩ := own_type28 O1 e.symm; rw [GZ] at hc; cases hc)).trans GZ
                          clear hg1 hw1 Bb O1 G4
                          have O5 : SliceAt V' 1 (.slice A5 (3 + 1) c5) 4 (u8s (wkB ++ [0#8])) := sliceAt_of_own ho1
                          have Bb := b
                          clear b ho1
                          generalize V' = V at *
                          refine hK.out _ _ (range_of (Z0.later Bb).l) (fun _ => ?_)
                          clear hK K
                          try simp only [zA, zS, zZ, Act.put, zP, zQ, zR]
                          refine Node.on 6 rfl (fun K hK => ?_)
                          refine Node.wp_fn 8 [.tmp 50, .tmp 55] _ [.agg L.toArray, .slice A5 (3 + 1) c5] (by rfl) (by rfl) ent ((Z0.later Bb).take4 O5) ?_
                          rintro e V ⟨b, rfl⟩
                          refine ⟨_, rfl, ?_⟩
                          rw [hS3]
                          replace Bb := below_step Bb b
                          try replace GZ := var_later GZ b
                          clear b O5
                          refine hK.out _ _ (range_of (Z0.later Bb).l) (fun _ => ?_)
                          clear hK K
                          try simp only [zA, zS, zZ, Act.put, zP, zQ, zR]
                          have hHeld : V.rangeAt g1 0 L := range_of (Z0.later Bb).l
                          refine Node.tk 7 ?_ rfl ?_ ?_
                          rotate_left
                          · intro w hSw; (try dsimp only at hSw); go_simp; try with_reducible rfl
                          simp only [zA, zS, zZ, Act.put, zP, zQ, zR]
                          refine Node.tk 8 ?_ rfl ?_ ?_
                          rotate_left
                          · intro w hSw; (try dsimp only at hSw); go_simp; try with_reducible rfl
                          simp only [zA, zS, zZ, Act.put, zP, zQ, zR]
                          refine Node.tk 9 ?_ rfl ?_ ?_
                          rotate_left
                          · intro w hSw; (try dsimp only at hSw); go_simp; try with_reducible rfl
                          simp only [zA, zS, zZ, Act.put, zP, zQ, zR]
                          clear hHeld
                          refine Node.on 11 rfl (fun K hK => ?_)
                          obtain ⟨V', hW, F, b, far, ths⟩ := fill_new S3 GZ lS3 Bb hgz
                          refine wp_store_mid 52 (.tmp 10) (.tmp 57) (by rfl) gz 0 S3.toArray (by rfl) (by rfl) ths szs3 oS3 ?_
                          rw [hW]
                          clear hW ths far F Bb GZ
                          have Bb := b
                          clear b
                          generalize V' = V at *
                          refine hK.out _ _ (range_of (Z0.later Bb).l) (fun _ => ?_)
                          clear hK K
                          try simp only [zA, zS, zZ, Act.put, zP, zQ, zR]
                          refine Node.on 12 rfl (fun K hK => ?_)
                          refine Node.wp_set (.int .i64 41) (.tmp 58) (.inr rfl) (by rfl) ?_
                          refine hK.out _ _ (range_of (Z0.later Bb).l) (fun _ => ?_)
                          clear hK K
                          try simp only [zA, zS, zZ, Act.put, zP, zQ, zR]
                          refine wpAnyH_done (by kernel_rfl) ?_ _
                          go_wp2
                          go_meet
                          exact ⟨rfl, Bb⟩
                      · skip
                        have GZ := new_at (w := V) rfl (.cells zc 52)
                        have b := below_new V (.cells zc 52)
                        have hgz : wc.heap.size ≤ V.heap.size := Bb.size
                        refine Node.wp_new 52 zs zc hzi hzc (by rfl) ?_
                        replace Bb := below_step Bb b
                        try replace O1 := own_bel O1 b
                        try replace G4 := var_later G4 b
                        try replace O5 := O5.later b
                        clear b
                        generalize V.heap.size = gz at *
                        generalize V.alloc (.cells zc 52) = V at *
                        refine hK.out _ _ (range_of (Z0.later Bb).l) (fun _ => ?_)
                        clear hK K
                        try simp only [zA, zS, zZ, Act.put, zP, zQ, zR]
                        refine Node.on 3 rfl (fun K hK => ?_)
                        have hgaV := (own_base O1 rfl).2
                        refine wp_app28 (.tmp 51) (.tmp 52) _ (by rfl) ga 5 i0 _ 1 1 Tryz.underlying53 hi hz0 hz1 hz2 rfl (by omega) (.slice (some ⟨ga, 0, none⟩) 0 0) 0 [] (by rfl) O1 (.slice A' 3 c') 3 (u8s wkB) (by rfl) (hb.later Bb) (u8s_one wkB) (by simp [maxLen]) (by omega) (Nat.le_of_lt hgaV) ?_
                        intro v1 V' ho1 hg1 hw1
                        simp only [Nat.zero_add, List.nil_append] at ho1
                        obtain ⟨Aa, ca, rfl, _, _⟩ := (sliceAt_of_own ho1).form
                        have b := below_own Bb hg1 Bb.size (fun g hg => by cases hg; exact hga)
                        try replace G4 := (hg1.block g4' (Array.getElem?_eq_some_iff.1 G4).1 (fun e => hne (Option.some.inj e))).trans G4
                        try replace GZ := (hg1.block gz (Array.getElem?_eq_some_iff.1 GZ).1 (fun e => by obtain ⟨cur, hc⟩ := own_type28 O1 e.symm; rw [GZ] at hc; cases hc)).trans GZ
                        clear hgaV hg1 hw1 Bb O1
                        have O1 := ho1
                        have Bb := b
                        clear b ho1
                        generalize V' = V at *
                        refine hK.out _ _ (range_of (Z0.later Bb).l) (fun _ => ?_)
                        clear hK K
                        try simp only [zA, zS, zZ, Act.put, zP, zQ, zR]
                        refine Node.on 5 rfl (fun K hK => ?_)
                        refine wp_app28 (.tmp 53) (.tmp 54) _ (by rfl) wc.heap.size 5 i0 _ 1 1 Tryz.underlying53 hi hz0 hz1 hz2 rfl (by omega) (.slice Aa 3 ca) 3 (u8s wkB) (by rfl) (own_mono28 O1 hga) (.slice (some ⟨g4', 0, none⟩) 1 1) 1 [.int .u8 0] (by rfl) (sliceAt_blk G4 rfl (by decide)) (by simp [Value.oneCell']) (by simp [maxLen]) (by omega) Bb.size ?_
                        intro v1 V' ho1 hg1 hw1
                        obtain ⟨A5, c5, rfl, _, _⟩ := (sliceAt_of_own ho1).form
                        have b := below_own Bb hg1 Bb.size (fun g hg => Nat.le_trans hga (own_base O1 hg).1)
                        try replace GZ := (hg1.block gz (Array.getElem?_eq_some_iff.1 GZ).1 (fun e => by obtain ⟨cur, hc⟩ := own_type28 O1 e.symm; rw [GZ] at hc; cases hc)).trans GZ
                        clear hg1 hw1 Bb O1 G4
                        have O5 : SliceAt V' 1 (.slice A5 (3 + 1) c5) 4 (u8s (wkB ++ [0#8])) := sliceAt_of_own ho1
                        have Bb := b
                        clear b ho1
                        generalize V' = V at *
                        refine hK.out _ _ (range_of (Z0.later Bb).l) (fun _ => ?_)
                        clear hK K
                        try simp only [zA, zS, zZ, Act.put, zP, zQ, zR]
                        refine Node.on 6 rfl (fun K hK => ?_)
                        refine Node.wp_fn 8 [.tmp 50, .tmp 55] _ [.agg L.toArray, .slice A5 (3 + 1) c5] (by rfl) (by rfl) ent ((Z0.later Bb).take4 O5) ?_
                        rintro e V ⟨b, rfl⟩
                        refine ⟨_, rfl, ?_⟩
                        rw [hS3]
                        replace Bb := below_step Bb b
                        try replace GZ := var_later GZ b
                        clear b O5
                        refine hK.out _ _ (range_of (Z0.later Bb).l) (fun _ => ?_)
                        clear hK K
                        try simp only [zA, zS, zZ, Act.put, zP, zQ, zR]
                        have hHeld : V.rangeAt g1 0 L := range_of (Z0.later Bb).l
                        refine Node.tk 7 ?_ rfl ?_ ?_
                        rotate_left
                        · intro w hSw; (try dsimp only at hSw); go_simp; try with_reducible rfl
                        simp only [zA, zS, zZ, Act.put, zP, zQ, zR]
                        refine Node.tk 8 ?_ rfl ?_ ?_
                        rotate_left
                        · intro w hSw; (try dsimp only at hSw); go_simp; try with_reducible rfl
                        simp only [zA, zS, zZ, Act.put, zP, zQ, zR]
                        refine Node.tk 9 ?_ rfl ?_ ?_
                        rotate_left
                        · intro w hSw; (try dsimp only at hSw); go_simp; try with_reducible rfl
                        simp only [zA, zS, zZ, Act.put, zP, zQ, zR]
                        clear hHeld
                        refine Node.on 11 rfl (fun K hK => ?_)
                        obtain ⟨V', hW, F, b, far, ths⟩ := fill_new S3 GZ lS3 Bb hgz
                        refine wp_store_mid 52 (.tmp 10) (.tmp 57) (by rfl) gz 0 S3.toArray (by rfl) (by rfl) ths szs3 oS3 ?_
                        rw [hW]
                        clear hW ths far F Bb GZ
                        have Bb := b
                        clear b
                        generalize V' = V at *
                        refine hK.out _ _ (range_of (Z0.later Bb).l) (fun _ => ?_)
                        clear hK K
                        try simp only [zA, zS, zZ, Act.put, zP, zQ, zR]
                        refine Node.on 12 rfl (fun K hK => ?_)
                        refine Node.wp_set (.int .i64 41) (.tmp 58) (.inr rfl) (by rfl) ?_
                        refine hK.out _ _ (range_of (Z0.later Bb).l) (fun _ => ?_)
                        clear hK K
                        try simp only [zA, zS, zZ, Act.put, zP, zQ, zR]
                        refine wpAnyH_done (by kernel_rfl) ?_ _
                        go_wp2
                        go_meet
                        exact ⟨rfl, Bb⟩
                    · skip
                      have GZ := new_at (w := V) rfl (.cells zc 52)
                      have b := below_new V (.cells zc 52)
                      have hgz : wc.heap.size ≤ V.heap.size := Bb.size
                      refine Node.wp_new 52 zs zc hzi hzc (by rfl) ?_
                      replace Bb := below_step Bb b
                      try replace O1 := own_bel O1 b
                      try replace G4 := var_later G4 b
                      try replace O5 := O5.later b
                      clear b
                      generalize V.heap.size = gz at *
                      generalize V.alloc (.cells zc 52) = V at *
                      refine hK.out _ _ (range_of (Z0.later Bb).l) (fun _ => ?_)
                      clear hK K
                      try simp only [zA, zS, zZ, Act.put, zP, zQ, zR]
                      refine Node.on 1 rfl (fun K hK => ?_)
                      have O1 := own_empty V 5 1
                      have b := below_new V (.cells #[] 5)
                      have hga : wc.heap.size ≤ V.heap.size := Bb.size
                      try have hne : g4' ≠ V.heap.size := by have := (Array.getElem?_eq_some_iff.1 G4).1; omega
                      refine Node.wp_bs 53 0 [] [] _ (by rfl) (by rfl) (run_bs028 V) ?_
                      replace Bb := below_step Bb b
                      try replace G4 := var_later G4 b
                      try replace GZ := var_later GZ b
                      clear b
                      generalize V.heap.size = ga at *
                      generalize V.alloc (.cells #[] 5) = V at *
                      refine hK.out _ _ (range_of (Z0.later Bb).l) (fun _ => ?_)
                      clear hK K
                      try simp only [zA, zS, zZ, Act.put, zP, zQ, zR]
                      refine Node.on 3 rfl (fun K hK => ?_)
                      have hgaV := (own_base O1 rfl).2
                      refine wp_app28 (.tmp 51) (.tmp 52) _ (by rfl) ga 5 i0 _ 1 1 Tryz.underlying53 hi hz0 hz1 hz2 rfl (by omega) (.slice (some ⟨ga, 0, none⟩) 0 0) 0 [] (by rfl) O1 (.slice A' 3 c') 3 (u8s wkB) (by rfl) (hb.later Bb) (u8s_one wkB) (by simp [maxLen]) (by omega) (Nat.le_of_lt hgaV) ?_
                      intro v1 V' ho1 hg1 hw1
                      simp only [Nat.zero_add, List.nil_append] at ho1
                      obtain ⟨Aa, ca, rfl, _, _⟩ := (sliceAt_of_own ho1).form
                      have b := below_own Bb hg1 Bb.size (fun g hg => by cases hg; exact hga)
                      try replace G4 := (hg1.block g4' (Array.getElem?_eq_some_iff.1 G4).1 (fun e => hne (Option.some.inj e))).trans G4
                      try replace GZ := (hg1.block gz (Array.getElem?_eq_some_iff.1 GZ).1 (fun e => by obtain ⟨cur, hc⟩ := own_type28 O1 e.symm; rw [GZ] at hc; cases hc)).trans GZ
                      clear hgaV hg1 hw1 Bb O1
                      have O1 := ho1
                      have Bb := b
                      clear b ho1
                      generalize V' = V at *
                      refine hK.out _ _ (range_of (Z0.later Bb).l) (fun _ => ?_)
                      clear hK K
                      try simp only [zA, zS, zZ, Act.put, zP, zQ, zR]
                      refine Node.on 5 rfl (fun K hK => ?_)
                      refine wp_app28 (.tmp 53) (.tmp 54) _ (by rfl) wc.heap.size 5 i0 _ 1 1 Tryz.underlying53 hi hz0 hz1 hz2 rfl (by omega) (.slice Aa 3 ca) 3 (u8s wkB) (by rfl) (own_mono28 O1 hga) (.slice (some ⟨g4', 0, none⟩) 1 1) 1 [.int .u8 0] (by rfl) (sliceAt_blk G4 rfl (by decide)) (by simp [Value.oneCell']) (by simp [maxLen]) (by omega) Bb.size ?_
                      intro v1 V' ho1 hg1 hw1
                      obtain ⟨A5, c5, rfl, _, _⟩ := (sliceAt_of_own ho1).form
                      have b := below_own Bb hg1 Bb.size (fun g hg => Nat.le_trans hga (own_base O1 hg).1)
                      try replace GZ := (hg1.block gz (Array.getElem?_eq_some_iff.1 GZ).1 (fun e => by obtain ⟨cur, hc⟩ := own_type28 O1 e.symm; rw [GZ] at hc; cases hc)).trans GZ
                      clear hg1 hw1 Bb O1 G4
                      have O5 : SliceAt V' 1 (.slice A5 (3 + 1) c5) 4 (u8s (wkB ++ [0#8])) := sliceAt_of_own ho1
                      have Bb := b
                      clear b ho1
                      generalize V' = V at *
                      refine hK.out _ _ (range_of (Z0.later Bb).l) (fun _ => ?_)
                      clear hK K
                      try simp only [zA, zS, zZ, Act.put, zP, zQ, zR]
                      refine Node.on 6 rfl (fun K hK => ?_)
                      refine Node.wp_fn 8 [.tmp 50, .tmp 55] _ [.agg L.toArray, .slice A5 (3 + 1) c5] (by rfl) (by rfl) ent ((Z0.later Bb).take4 O5) ?_
                      rintro e V ⟨b, rfl⟩
                      refine ⟨_, rfl, ?_⟩
                      rw [hS3]
                      replace Bb := below_step Bb b
                      try replace GZ := var_later GZ b
                      clear b O5
                      refine hK.out _ _ (range_of (Z0.later Bb).l) (fun _ => ?_)
                      clear hK K
                      try simp only [zA, zS, zZ, Act.put, zP, zQ, zR]
                      have hHeld : V.rangeAt g1 0 L := range_of (Z0.later Bb).l
                      refine Node.tk 7 ?_ rfl ?_ ?_
                      rotate_left
                      · intro w hSw; (try dsimp only at hSw); go_simp; try with_reducible rfl
                      simp only [zA, zS, zZ, Act.put, zP, zQ, zR]
                      refine Node.tk 8 ?_ rfl ?_ ?_
                      rotate_left
                      · intro w hSw; (try dsimp only at hSw); go_simp; try with_reducible rfl
                      simp only [zA, zS, zZ, Act.put, zP, zQ, zR]
                      refine Node.tk 9 ?_ rfl ?_ ?_
                      rotate_left
                      · intro w hSw; (try dsimp only at hSw); go_simp; try with_reducible rfl
                      simp only [zA, zS, zZ, Act.put, zP, zQ, zR]
                      clear hHeld
                      refine Node.on 11 rfl (fun K hK => ?_)
                      obtain ⟨V', hW, F, b, far, ths⟩ := fill_new S3 GZ lS3 Bb hgz
                      refine wp_store_mid 52 (.tmp 10) (.tmp 57) (by rfl) gz 0 S3.toArray (by rfl) (by rfl) ths szs3 oS3 ?_
                      rw [hW]
                      clear hW ths far F Bb GZ
                      have Bb := b
                      clear b
                      generalize V' = V at *
                      refine hK.out _ _ (range_of (Z0.later Bb).l) (fun _ => ?_)
                      clear hK K
                      try simp only [zA, zS, zZ, Act.put, zP, zQ, zR]
                      refine Node.on 12 rfl (fun K hK => ?_)
                      refine Node.wp_set (.int .i64 41) (.tmp 58) (.inr rfl) (by rfl) ?_
                      refine hK.out _ _ (range_of (Z0.later Bb).l) (fun _ => ?_)
                      clear hK K
                      try simp only [zA, zS, zZ, Act.put, zP, zQ, zR]
                      refine wpAnyH_done (by kernel_rfl) ?_ _
                      go_wp2
                      go_meet
                      exact ⟨rfl, Bb⟩
                  · skip
                    have GZ := new_at (w := V) rfl (.cells zc 52)
                    have b := below_new V (.cells zc 52)
                    have hgz : wc.heap.size ≤ V.heap.size := Bb.size
                    refine Node.wp_new 52 zs zc hzi hzc (by rfl) ?_
                    replace Bb := below_step Bb b
                    try replace O1 := own_bel O1 b
                    try replace G4 := var_later G4 b
                    try replace O5 := O5.later b
                    clear b
                    generalize V.heap.size = gz at *
                    generalize V.alloc (.cells zc 52) = V at *
                    refine hK.out _ _ (range_of (Z0.later Bb).l) (fun _ => ?_)
                    clear hK K
                    try simp only [zA, zS, zZ, Act.put, zP, zQ, zR]
                    refine wpAnyH_ready (rs := [1, 4]) (by kernel_rfl) (by simp) ?_
                    refine AllReadyH.cons rfl (fun K hK => ?_) (AllReadyH.cons rfl (fun K hK => ?_) AllReadyH.nil)
                    · skip
                      have O1 := own_empty V 5 1
                      have b := below_new V (.cells #[] 5)
                      have hga : wc.heap.size ≤ V.heap.size := Bb.size
                      try have hne : g4' ≠ V.heap.size := by have := (Array.getElem?_eq_some_iff.1 G4).1; omega
                      refine Node.wp_bs 53 0 [] [] _ (by rfl) (by rfl) (run_bs028 V) ?_
                      replace Bb := below_step Bb b
                      try replace G4 := var_later G4 b
                      try replace GZ := var_later GZ b
                      clear b
                      generalize V.heap.size = ga at *
                      generalize V.alloc (.cells #[] 5) = V at *
                      refine hK.out _ _ (range_of (Z0.later Bb).l) (fun _ => ?_)
                      clear hK K
                      try simp only [zA, zS, zZ, Act.put, zP, zQ, zR]
                      refine wpAnyH_ready (rs := [3, 4]) (by kernel_rfl) (by simp) ?_
                      refine AllReadyH.cons rfl (fun K hK => ?_) (AllReadyH.cons rfl (fun K hK => ?_) AllReadyH.nil)
                      · skip
                        have hgaV := (own_base O1 rfl).2
                        refine wp_app28 (.tmp 51) (.tmp 52) _ (by rfl) ga 5 i0 _ 1 1 Tryz.underlying53 hi hz0 hz1 hz2 rfl (by omega) (.slice (some ⟨ga, 0, none⟩) 0 0) 0 [] (by rfl) O1 (.slice A' 3 c') 3 (u8s wkB) (by rfl) (hb.later Bb) (u8s_one wkB) (by simp [maxLen]) (by omega) (Nat.le_of_lt hgaV) ?_
                        intro v1 V' ho1 hg1 hw1
                        simp only [Nat.zero_add, List.nil_append] at ho1
                        obtain ⟨Aa, ca, rfl, _, _⟩ := (sliceAt_of_own ho1).form
                        have b := below_own Bb hg1 Bb.size (fun g hg => by cases hg; exact hga)
                        try replace G4 := (hg1.block g4' (Array.getElem?_eq_some_iff.1 G4).1 (fun e => hne (Option.some.inj e))).trans G4
                        try replace GZ := (hg1.block gz (Array.getElem?_eq_some_iff.1 GZ).1 (fun e => by obtain ⟨cur, hc⟩ := own_type28 O1 e.symm; rw [GZ] at hc; cases hc)).trans GZ
                        clear hgaV hg1 hw1 Bb O1
                        have O1 := ho1
                        have Bb := b
                        clear b ho1
                        generalize V' = V at *
                        refine hK.out _ _ (range_of (Z0.later Bb).l) (fun _ => ?_)
                        clear hK K
                        try simp only [zA, zS, zZ, Act.put, zP, zQ, zR]
                        refine Node.on 4 rfl (fun K hK => ?_)
                        have G4 := new_at (w := V) rfl (.cells ([.int .u8 0] : List Value).toArray 5)
                        have b := below_new V (.cells ([.int .u8 0] : List Value).toArray 5)
                        try have hne : V.heap.size ≠ ga := by have h : ga < V.heap.size := (own_base O1 rfl).2; omega
                        refine Node.wp_bs 53 1 [(0, .const (.int .u8 0))] [(0, .int .u8 0)] _ (by rfl) (by rfl) (run_bs128 V) ?_
                        replace Bb := below_step Bb b
                        try replace O1 := own_bel O1 b
                        try replace GZ := var_later GZ b
                        clear b
                        generalize V.heap.size = g4' at *
                        generalize V.alloc (.cells ([.int .u8 0] : List Value).toArray 5) = V at *
                        refine hK.out _ _ (range_of (Z0.later Bb).l) (fun _ => ?_)
                        clear hK K
                        try simp only [zA, zS, zZ, Act.put, zP, zQ, zR]
                        refine Node.on 5 rfl (fun K hK => ?_)
                        refine wp_app28 (.tmp 53) (.tmp 54) _ (by rfl) wc.heap.size 5 i0 _ 1 1 Tryz.underlying53 hi hz0 hz1 hz2 rfl (by omega) (.slice Aa 3 ca) 3 (u8s wkB) (by rfl) (own_mono28 O1 hga) (.slice (some ⟨g4', 0, none⟩) 1 1) 1 [.int .u8 0] (by rfl) (sliceAt_blk G4 rfl (by decide)) (by simp [Value.oneCell']) (by simp [maxLen]) (by omega) Bb.size ?_
                        intro v1 V' ho1 hg1 hw1
                        obtain ⟨A5, c5, rfl, _, _⟩ := (sliceAt_of_own ho1).form
                        have b := below_own Bb hg1 Bb.size (fun g hg => Nat.le_trans hga (own_base O1 hg).1)
                        try replace GZ := (hg1.block gz (Array.getElem?_eq_some_iff.1 GZ).1 (fun e => by obtain ⟨cur, hc⟩ := own_type28 O1 e.symm; rw [GZ] at hc; cases hc)).trans GZ
                        clear hg1 hw1 Bb O1 G4
                        have O5 : SliceAt V' 1 (.slice A5 (3 + 1) c5) 4 (u8s (wkB ++ [0#8])) := sliceAt_of_own ho1
                        have Bb := b
                        clear b ho1
                        generalize V' = V at *
                        refine hK.out _ _ (range_of (Z0.later Bb).l) (fun _ => ?_)
                        clear hK K
                        try simp only [zA, zS, zZ, Act.put, zP, zQ, zR]
                        refine Node.on 6 rfl (fun K hK => ?_)
                        refine Node.wp_fn 8 [.tmp 50, .tmp 55] _ [.agg L.toArray, .slice A5 (3 + 1) c5] (by rfl) (by rfl) ent ((Z0.later Bb).take4 O5) ?_
                        rintro e V ⟨b, rfl⟩
                        refine ⟨_, rfl, ?_⟩
                        rw [hS3]
                        replace Bb := below_step Bb b
                        try replace GZ := var_later GZ b
                        clear b O5
                        refine hK.out _ _ (range_of (Z0.later Bb).l) (fun _ => ?_)
                        clear hK K
                        try simp only [zA, zS, zZ, Act.put, zP, zQ, zR]
                        have hHeld : V.rangeAt g1 0 L := range_of (Z0.later Bb).l
                        refine Node.tk 7 ?_ rfl ?_ ?_
                        rotate_left
                        · intro w hSw; (try dsimp only at hSw); go_simp; try with_reducible rfl
                        simp only [zA, zS, zZ, Act.put, zP, zQ, zR]
                        refine Node.tk 8 ?_ rfl ?_ ?_
                        rotate_left
                        · intro w hSw; (try dsimp only at hSw); go_simp; try with_reducible rfl
                        simp only [zA, zS, zZ, Act.put, zP, zQ, zR]
                        refine Node.tk 9 ?_ rfl ?_ ?_
                        rotate_left
                        · intro w hSw; (try dsimp only at hSw); go_simp; try with_reducible rfl
                        simp only [zA, zS, zZ, Act.put, zP, zQ, zR]
                        clear hHeld
                        refine Node.on 11 rfl (fun K hK => ?_)
                        obtain ⟨V', hW, F, b, far, ths⟩ := fill_new S3 GZ lS3 Bb hgz
                        refine wp_store_mid 52 (.tmp 10) (.tmp 57) (by rfl) gz 0 S3.toArray (by rfl) (by rfl) ths szs3 oS3 ?_
                        rw [hW]
                        clear hW ths far F Bb GZ
                        have Bb := b
                        clear b
                        generalize V' = V at *
                        refine hK.out _ _ (range_of (Z0.later Bb).l) (fun _ => ?_)
                        clear hK K
                        try simp only [zA, zS, zZ, Act.put, zP, zQ, zR]
                        refine Node.on 12 rfl (fun K hK => ?_)
                        refine Node.wp_set (.int .i64 41) (.tmp 58) (.inr rfl) (by rfl) ?_
                        refine hK.out _ _ (range_of (Z0.later Bb).l) (fun _ => ?_)
                        clear hK K
                        try simp only [zA, zS, zZ, Act.put, zP, zQ, zR]
                        refine wpAnyH_done (by kernel_rfl) ?_ _
                        go_wp2
                        go_meet
                        exact ⟨rfl, Bb⟩
                      · skip
                        have G4 := new_at (w := V) rfl (.cells ([.int .u8 0] : List Value).toArray 5)
                        have b := below_new V (.cells ([.int .u8 0] : List Value).toArray 5)
                        try have hne : V.heap.size ≠ ga := by have h : ga < V.heap.size := (own_base O1 rfl).2; omega
                        refine Node.wp_bs 53 1 [(0, .const (.int .u8 0))] [(0, .int .u8 0)] _ (by rfl) (by rfl) (run_bs128 V) ?_
                        replace Bb := below_step Bb b
                        try replace O1 := own_bel O1 b
                        try replace GZ := var_later GZ b
                        clear b
                        generalize V.heap.size = g4' at *
                        generalize V.alloc (.cells ([.int .u8 0] : List Value).toArray 5) = V at *
                        refine hK.out _ _ (range_of (Z0.later Bb).l) (fun _ => ?_)
                        clear hK K
                        try simp only [zA, zS, zZ, Act.put, zP, zQ, zR]
                        refine Node.on 3 rfl (fun K hK => ?_)
                        have hgaV := (own_base O1 rfl).2
                        refine wp_app28 (.tmp 51) (.tmp 52) _ (by rfl) ga 5 i0 _ 1 1 Tryz.underlying53 hi hz0 hz1 hz2 rfl (by omega) (.slice (some ⟨ga, 0, none⟩) 0 0) 0 [] (by rfl) O1 (.slice A' 3 c') 3 (u8s wkB) (by rfl) (hb.later Bb) (u8s_one wkB) (by simp [maxLen]) (by omega) (Nat.le_of_lt hgaV) ?_
                        intro v1 V' ho1 hg1 hw1
                        simp only [Nat.zero_add, List.nil_append] at ho1
                        obtain ⟨Aa, ca, rfl, _, _⟩ := (sliceAt_of_own ho1).form
                        have b := below_own Bb hg1 Bb.size (fun g hg => by cases hg; exact hga)
                        try replace G4 := (hg1.block g4' (Array.getElem?_eq_some_iff.1 G4).1 (fun e => hne (Option.some.inj e))).trans G4
                        try replace GZ := (hg1.block gz (Array.getElem?_eq_some_iff.1 GZ).1 (fun e => by obtain ⟨cur, hc⟩ := own_type28 O1 e.symm; rw [GZ] at hc; cases hc)).trans GZ
                        clear hgaV hg1 hw1 Bb O1
                        have O1 := ho1
                        have Bb := b
                        clear b ho1
                        generalize V' = V at *
                        refine hK.out _ _ (range_of (Z0.later Bb).l) (fun _ => ?_)
                        clear hK K
                        try simp only [zA, zS, zZ, Act.put, zP, zQ, zR]
                        refine Node.on 5 rfl (fun K hK => ?_)
                        refine wp_app28 (.tmp 53) (.tmp 54) _ (by rfl) wc.heap.size 5 i0 _ 1 1 Tryz.underlying53 hi hz0 hz1 hz2 rfl (by omega) (.slice Aa 3 ca) 3 (u8s wkB) (by rfl) (own_mono28 O1 hga) (.slice (some ⟨g4', 0, none⟩) 1 1) 1 [.int .u8 0] (by rfl) (sliceAt_blk G4 rfl (by decide)) (by simp [Value.oneCell']) (by simp [maxLen]) (by omega) Bb.size ?_
                        intro v1 V' ho1 hg1 hw1
                        obtain ⟨A5, c5, rfl, _, _⟩ := (sliceAt_of_own ho1).form
                        have b := below_own Bb hg1 Bb.size (fun g hg => Nat.le_trans hga (own_base O1 hg).1)
                        try replace GZ := (hg1.block gz (Array.getElem?_eq_some_iff.1 GZ).1 (fun e => by obtain ⟨cur, hc⟩ := own_type28 O1 e.symm; rw [GZ] at hc; cases hc)).trans GZ
                        clear hg1 hw1 Bb O1 G4
                        have O5 : SliceAt V' 1 (.slice A5 (3 + 1) c5) 4 (u8s (wkB ++ [0#8])) := sliceAt_of_own ho1
                        have Bb := b
                        clear b ho1
                        generalize V' = V at *
                        refine hK.out _ _ (range_of (Z0.later Bb).l) (fun _ => ?_)
                        clear hK K
                        try simp only [zA, zS, zZ, Act.put, zP, zQ, zR]
                        refine Node.on 6 rfl (fun K hK => ?_)
                        refine Node.wp_fn 8 [.tmp 50, .tmp 55] _ [.agg L.toArray, .slice A5 (3 + 1) c5] (by rfl) (by rfl) ent ((Z0.later Bb).take4 O5) ?_
                        rintro e V ⟨b, rfl⟩
                        refine ⟨_, rfl, ?_⟩
                        rw [hS3]
                        replace Bb := below_step Bb b
                        try replace GZ := var_later GZ b
                        clear b O5
                        refine hK.out _ _ (range_of (Z0.later Bb).l) (fun _ => ?_)
                        clear hK K
                        try simp only [zA, zS, zZ, Act.put, zP, zQ, zR]
                        have hHeld : V.rangeAt g1 0 L := range_of (Z0.later Bb).l
                        refine Node.tk 7 ?_ rfl ?_ ?_
                        rotate_left
                        · intro w hSw; (try dsimp only at hSw); go_simp; try with_reducible rfl
                        simp only [zA, zS, zZ, Act.put, zP, zQ, zR]
                        refine Node.tk 8 ?_ rfl ?_ ?_
                        rotate_left
                        · intro w hSw; (try dsimp only at hSw); go_simp; try with_reducible rfl
                        simp only [zA, zS, zZ, Act.put, zP, zQ, zR]
                        refine Node.tk 9 ?_ rfl ?_ ?_
                        rotate_left
                        · intro w hSw; (try dsimp only at hSw); go_simp; try with_reducible rfl
                        simp only [zA, zS, zZ, Act.put, zP, zQ, zR]
                        clear hHeld
                        refine Node.on 11 rfl (fun K hK => ?_)
                        obtain ⟨V', hW, F, b, far, ths⟩ := fill_new S3 GZ lS3 Bb hgz
                        refine wp_store_mid 52 (.tmp 10) (.tmp 57) (by rfl) gz 0 S3.toArray (by rfl) (by rfl) ths szs3 oS3 ?_
                        rw [hW]
                        clear hW ths far F Bb GZ
                        have Bb := b
                        clear b
                        generalize V' = V at *
                        refine hK.out _ _ (range_of (Z0.later Bb).l) (fun _ => ?_)
                        clear hK K
                        try simp only [zA, zS, zZ, Act.put, zP, zQ, zR]
                        refine Node.on 12 rfl (fun K hK => ?_)
                        refine Node.wp_set (.int .i64 41) (.tmp 58) (.inr rfl) (by rfl) ?_
                        refine hK.out _ _ (range_of (Z0.later Bb).l) (fun _ => ?_)
                        clear hK K
                        try simp only [zA, zS, zZ, Act.put, zP, zQ, zR]
                        refine wpAnyH_done (by kernel_rfl) ?_ _
                        go_wp2
                        go_meet
                        exact ⟨rfl, Bb⟩
                    · skip
                      have G4 := new_at (w := V) rfl (.cells ([.int .u8 0] : List Value).toArray 5)
                      have b := below_new V (.cells ([.int .u8 0] : List Value).toArray 5)
                      try have hne : V.heap.size ≠ ga := by have h : ga < V.heap.size := (own_base O1 rfl).2; omega
                      refine Node.wp_bs 53 1 [(0, .const (.int .u8 0))] [(0, .int .u8 0)] _ (by rfl) (by rfl) (run_bs128 V) ?_
                      replace Bb := below_step Bb b
                      try replace O1 := own_bel O1 b
                      try replace GZ := var_later GZ b
                      clear b
                      generalize V.heap.size = g4' at *
                      generalize V.alloc (.cells ([.int .u8 0] : List Value).toArray 5) = V at *
                      refine hK.out _ _ (range_of (Z0.later Bb).l) (fun _ => ?_)
                      clear hK K
                      try simp only [zA, zS, zZ, Act.put, zP, zQ, zR]
                      refine Node.on 1 rfl (fun K hK => ?_)
                      have O1 := own_empty V 5 1
                      have b := below_new V (.cells #[] 5)
                      have hga : wc.heap.size ≤ V.heap.size := Bb.size
                      try have hne : g4' ≠ V.heap.size := by have := (Array.getElem?_eq_some_iff.1 G4).1; omega
                      refine Node.wp_bs 53 0 [] [] _ (by rfl) (by rfl) (run_bs028 V) ?_
                      replace Bb := below_step Bb b
                      try replace G4 := var_later G4 b
                      try replace GZ := var_later GZ b
                      clear b
                      generalize V.heap.size = ga at *
                      generalize V.alloc (.cells #[] 5) = V at *
                      refine hK.out _ _ (range_of (Z0.later Bb).l) (fun _ => ?_)
                      clear hK K
                      try simp only [zA, zS, zZ, Act.put, zP, zQ, zR]
                      refine Node.on 3 rfl (fun K hK => ?_)
                      have hgaV := (own_base O1 rfl).2
                      refine wp_app28 (.tmp 51) (.tmp 52) _ (by rfl) ga 5 i0 _ 1 1 Tryz.underlying53 hi hz0 hz1 hz2 rfl (by omega) (.slice (some ⟨ga, 0, none⟩) 0 0) 0 [] (by rfl) O1 (.slice A' 3 c') 3 (u8s wkB) (by rfl) (hb.later Bb) (u8s_one wkB) (by simp [maxLen]) (by omega) (Nat.le_of_lt hgaV) ?_
                      intro v1 V' ho1 hg1 hw1
                      simp only [Nat.zero_add, List.nil_append] at ho1
                      obtain ⟨Aa, ca, rfl, _, _⟩ := (sliceAt_of_own ho1).form
                      have b := below_own Bb hg1 Bb.size (fun g hg => by cases hg; exact hga)
                      try replace G4 := (hg1.block g4' (Array.getElem?_eq_some_iff.1 G4).1 (fun e => hne (Option.some.inj e))).trans G4
                      try replace GZ := (hg1.block gz (Array.getElem?_eq_some_iff.1 GZ).1 (fun e => by obtain ⟨cur, hc⟩ := own_type28 O1 e.symm; rw [GZ] at hc; cases hc)).trans GZ
                      clear hgaV hg1 hw1 Bb O1
                      have O1 := ho1
                      have Bb := b
                      clear b ho1
                      generalize V' = V at *
                      refine hK.out _ _ (range_of (Z0.later Bb).l) (fun _ => ?_)
                      clear hK K
                      try simp only [zA, zS, zZ, Act.put, zP, zQ, zR]
                      refine Node.on 5 rfl (fun K hK => ?_)
                      refine wp_app28 (.tmp 53) (.tmp 54) _ (by rfl) wc.heap.size 5 i0 _ 1 1 Tryz.underlying53 hi hz0 hz1 hz2 rfl (by omega) (.slice Aa 3 ca) 3 (u8s wkB) (by rfl) (own_mono28 O1 hga) (.slice (some ⟨g4', 0, none⟩) 1 1) 1 [.int .u8 0] (by rfl) (sliceAt_blk G4 rfl (by decide)) (by simp [Value.oneCell']) (by simp [maxLen]) (by omega) Bb.size ?_
                      intro v1 V' ho1 hg1 hw1
                      obtain ⟨A5, c5, rfl, _, _⟩ := (sliceAt_of_own ho1).form
                      have b := below_own Bb hg1 Bb.size (fun g hg => Nat.le_trans hga (own_base O1 hg).1)
                      try replace GZ := (hg1.block gz (Array.getElem?_eq_some_iff.1 GZ).1 (fun e => by obtain ⟨cur, hc⟩ := own_type28 O1 e.symm; rw [GZ] at hc; cases hc)).trans GZ
                      clear hg1 hw1 Bb O1 G4
                      have O5 : SliceAt V' 1 (.slice A5 (3 + 1) c5) 4 (u8s (wkB ++ [0#8])) := sliceAt_of_own ho1
                      have Bb := b
                      clear b ho1
                      generalize V' = V at *
                      refine hK.out _ _ (range_of (Z0.later Bb).l) (fun _ => ?_)
                      clear hK K
                      try simp only [zA, zS, zZ, Act.put, zP, zQ, zR]
                      refine Node.on 6 rfl (fun K hK => ?_)
                      refine Node.wp_fn 8 [.tmp 50, .tmp 55] _ [.agg L.toArray, .slice A5 (3 + 1) c5] (by rfl) (by rfl) ent ((Z0.later Bb).take4 O5) ?_
                      rintro e V ⟨b, rfl⟩
                      refine ⟨_, rfl, ?_⟩
                      rw [hS3]
                      replace Bb := below_step Bb b
                      try replace GZ := var_later GZ b
                      clear b O5
                      refine hK.out _ _ (range_of (Z0.later Bb).l) (fun _ => ?_)
                      clear hK K
                      try simp only [zA, zS, zZ, Act.put, zP, zQ, zR]
                      have hHeld : V.rangeAt g1 0 L := range_of (Z0.later Bb).l
                      refine Node.tk 7 ?_ rfl ?_ ?_
                      rotate_left
                      · intro w hSw; (try dsimp only at hSw); go_simp; try with_reducible rfl
                      simp only [zA, zS, zZ, Act.put, zP, zQ, zR]
                      refine Node.tk 8 ?_ rfl ?_ ?_
                      rotate_left
                      · intro w hSw; (try dsimp only at hSw); go_simp; try with_reducible rfl
                      simp only [zA, zS, zZ, Act.put, zP, zQ, zR]
                      refine Node.tk 9 ?_ rfl ?_ ?_
                      rotate_left
                      · intro w hSw; (try dsimp only at hSw); go_simp; try with_reducible rfl
                      simp only [zA, zS, zZ, Act.put, zP, zQ, zR]
                      clear hHeld
                      refine Node.on 11 rfl (fun K hK => ?_)
                      obtain ⟨V', hW, F, b, far, ths⟩ := fill_new S3 GZ lS3 Bb hgz
                      refine wp_store_mid 52 (.tmp 10) (.tmp 57) (by rfl) gz 0 S3.toArray (by rfl) (by rfl) ths szs3 oS3 ?_
                      rw [hW]
                      clear hW ths far F Bb GZ
                      have Bb := b
                      clear b
                      generalize V' = V at *
                      refine hK.out _ _ (range_of (Z0.later Bb).l) (fun _ => ?_)
                      clear hK K
                      try simp only [zA, zS, zZ, Act.put, zP, zQ, zR]
                      refine Node.on 12 rfl (fun K hK => ?_)
                      refine Node.wp_set (.int .i64 41) (.tmp 58) (.inr rfl) (by rfl) ?_
                      refine hK.out _ _ (range_of (Z0.later Bb).l) (fun _ => ?_)
                      clear hK K
                      try simp only [zA, zS, zZ, Act.put, zP, zQ, zR]
                      refine wpAnyH_done (by kernel_rfl) ?_ _
                      go_wp2
                      go_meet
                      exact ⟨rfl, Bb⟩
                case rest =>
                  obtain ⟨rfl, bF⟩ := hcut
                  replace Z0 := Z0.later bF
                  replace h5 := var_later h5 bF
                  replace h6 := var_later h6 bF
                  replace h8 := var_later h8 bF
                  clear bF hb
                  go_upto_region 11 with (fail)
                  have rw12 : ∀ W : World, (Instr.build 52 #[(0, .int .u32 1), (1, .int .u32 1), (3, .int .u32 1), (4, .int .u32 1), (5, .int .u32 1), (6, .int .u32 1), (9, .int .u8 1), (10, .int .i64 1), (11, .int .i64 1)]).run Tryz.prog W = .ok (.agg S1.toArray) W := fun W => HS1.out ▸ run_want W
                  go_cut [12] from 59 to 59 (fun x12 wx => ∃ (gw : Nat), x12 = .pointer (some ⟨gw, 0, none⟩) ∧ Below wc.heap.size wc wx ∧ wx.heap[gw]? = some (.cells S1.toArray 52 (0, 0)))
                  case first =>
                    obtain ⟨Wn, hWn, X, bV, ths⟩ := newv (V := wc) S1 zc 52 lS
                    have HWN := Lib.hid hWn
                    have HX := Lib.hid X
                    have HBV := Lib.hid bV
                    clear hWn X bV
                    go_wp2_with (first
                      | refine wpList_bld (by rfl) 52 [(0, .const (.int .u32 1)), (1, .const (.int .u32 1)), (3, .const (.int .u32 1)), (4, .const (.int .u32 1)), (5, .const (.int .u32 1)), (6, .const (.int .u32 1)), (9, .const (.int .u8 1)), (10, .const (.int .i64 1)), (11, .const (.int .i64 1))] _ _ (by rfl) (by rfl) (rw12 _) ?_
                      | refine wpList_new (by rfl) 52 zs zc hzi hzc (by rfl) ?_
                      | (refine wpList_store_mid rfl 52 (.tmp 12) (.tmp 59) (by rfl) wc.heap.size 0 S1.toArray (by rfl) (by rfl) ths (by simpa using szs) oS ?_; rw [HWN.out])
                      | fail)
                    go_meet
                    exact ⟨_, rfl, HBV.out, HX.out⟩
                  case rest =>
                    obtain ⟨gw, rfl, bF, hw⟩ := hcut
                    replace Z0 := Z0.later bF
                    replace h5 := var_later h5 bF
                    replace h6 := var_later h6 bF
                    replace h8 := var_later h8 bF
                    clear bF rw12 hzi hzs hzc lS
                    go_upto_region 12 with (fail)
                    obtain ⟨S3, hS3⟩ : ∃ S, showL s0 = S := ⟨_, rfl⟩
                    have okW : ShOk wantS := ⟨by decide, by decide, by decide⟩
                    have okZ : ShOk s0 := ⟨by decide, by decide, by decide⟩
                    have heS : ∀ W : World, (Op.equalIn 10000 52 (.agg S1.toArray) (.agg S1.toArray)).run Tryz.prog W = .ok true W := fun W => by rw [← HS1.out, eq_show _ _ okW okW W, decide_eq_true rfl]
                    have heZ : ∀ W : World, (Op.equalIn 10000 52 (.agg S3.toArray) (.agg S3.toArray)).run Tryz.prog W = .ok true W := fun W => by rw [← hS3, eq_show _ _ okZ okZ W, decide_eq_true rfl]
                    have r0 : ∀ W : World, (Instr.build 52 #[]).run Tryz.prog W = .ok (.agg S3.toArray) W := fun W => hS3 ▸ run_none W
                    have HS3 := Lib.hid hS3
                    clear hS3 okW okZ
                    have x7 := cell_list h6 (i := 7) (v := .int .u32 1) (by rw [← HS2.out]; rfl)
                    have x6 := cell_list h6 (i := 6) (v := .int .u32 0) (by rw [← HS2.out]; rfl)
                    have x5 := cell_list h6 (i := 5) (v := .int .u32 0) (by rw [← HS2.out]; rfl)
                    have R5 := range_of h5
                    have RW := range_of hw
                    have RL := range_of Z0.l
                    have RM := range_of Z0.m
                    have RK := range_of Z0.k
                    have RN := range_of Z0.n
                    go_wp2_with (first
                      | refine wpList_load_k 52 (.tmp 5) (by rfl) g5 0 (by rfl) S1 _ R5 Tryz.underlying52 rfl szs (by kernel_rfl) ?_
                      | refine wpList_load_k 52 (.tmp 12) (by rfl) gw 0 (by rfl) S1 _ RW Tryz.underlying52 rfl szs (by kernel_rfl) ?_
                      | refine wpList_load_k 29 (.tmp 1) (by rfl) g1 0 (by rfl) L _ RL Tryz.underlying29 rfl szL (by kernel_rfl) ?_
                      | refine wpList_load_k 35 (.tmp 2) (by rfl) g2 0 (by rfl) M _ RM Tryz.underlying35 rfl szM (by kernel_rfl) ?_
                      | refine wpList_load_k 41 (.tmp 3) (by rfl) g3 0 (by rfl) Kn _ RK Tryz.underlying41 rfl szK (by kernel_rfl) ?_
                      | refine wpList_load_k 50 (.tmp 4) (by rfl) g4 0 (by rfl) N2 _ RN Tryz.underlying50 rfl szN (by kernel_rfl) ?_
                      | fail)
                    refine (Of_dead L M Kn N2 9 _).mono ?_
                    rintro e Wd ⟨rfl, bd⟩
                    replace Z0 := Z0.later bd
                    replace h5 := var_later h5 bd
                    replace h8 := var_later h8 bd
                    rw [HS3.out]
                    clear bd x7 x6 x5 R5 RW RL RM RK RN h6 hw
                    have RL := range_of Z0.l
                    go_wp2_with (first
                      | refine wpList_bld_k 52 [] _ _ (by rfl) (by rfl) (r0 _) (by kernel_rfl) ?_
                      | refine wpList_load_k 29 (.tmp 1) (by rfl) g1 0 (by rfl) L _ RL Tryz.underlying29 rfl szL (by kernel_rfl) ?_
                      | fail)
                    refine (Z0.size).mono ?_
                    rintro e We ⟨rfl, be⟩
                    replace Z0 := Z0.later be
                    replace h5 := var_later h5 be
                    replace h8 := var_later h8 be
                    clear be RL
                    have R5 := range_of h5
                    have R8 := range_of h8
                    have HB := Lib.hid Z0.bw
                    clear Z0
                    go_wp2_with (first
                      | refine wpList_load_k 52 (.tmp 5) (by rfl) g5 0 (by rfl) S1 _ R5 Tryz.underlying52 rfl szs (by kernel_rfl) ?_
                      | refine wpList_load_k 52 (.tmp 8) (by rfl) g8 0 (by rfl) S1 _ R8 Tryz.underlying52 rfl szs (by kernel_rfl) ?_
                      | fail)
                    go_ret
                    exact ⟨rfl, HB.out⟩
end Go.Proofs.YtppcdmbpbbjecaaGreat
