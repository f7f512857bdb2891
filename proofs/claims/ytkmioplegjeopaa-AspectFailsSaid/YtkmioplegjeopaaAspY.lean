/- The contract of the law's wakes. Nothing that was there is turned. -/
import Derived.Test.YtkmioplegjeopaaAspX
namespace Go.Proofs.Ytkmioplegjeopaa
open Go.RowKit Rf Mem Bv AM
attribute [local go_sem ↓] run_max2 run_min2
theorem slice_blk {W : World} {g : Nat} {st : Int} {v3 v4 v5 : Value} {sh : Bool} {f : Nat × Nat} (h : W.heap[g]? = some (.cells (hcL st v3 v4 v5 sh).toArray 52 f)) : SliceAt W 23 (.slice (some ⟨g, 0, none⟩) 1 1) 1 (hcL st v3 v4 v5 sh) :=
  ⟨some ⟨g, 0, none⟩, 1, rfl, Nat.le_refl _, by simp [maxLen], rfl, .inr ⟨g, 0, rfl, lt_at h, fun i u hu => by rw [Nat.zero_add]; exact cell_list h hu⟩⟩
theorem s1_c (I : IM) (L M K : List Value) (vh : Value) (css : List (List Value)) (hs : List HeldM) (nx : Int) (ms : List (Int × Int × Bool)) (w : World) (n : Int) (hn : n = (sigW (clearB I.stand I.occB I.litB) hs).toNat) (hA : IMA I L M w) (hK : KerAt w K vh css hs nx ms) (hlen : hs.length ≤ 5864062014700)
    (hsm : ∀ h ∈ hs, h.needs.length ≤ 5864062014700 ∧ h.steps.length ≤ 5864062014700 ∧ h.over.length ≤ 5864062014700) :
    Calls Try.prog 8 #[.agg L.toArray, .agg M.toArray, .agg K.toArray] w fun e w' => e = .returned (.int .u32 n) ∧ Below w.heap.size w w' := by
  subst hn; exact Signals_c I K L M vh css hs nx ms w hA hK hlen hsm
theorem w6 (A : Option Addr) (c : Nat) (A1 : Option Addr) (c1 : Nat) : ((sigW (clearB (imW A c A1 c1 1 2#32 0#32).stand (imW A c A1 c1 1 2#32 0#32).occB (imW A c A1 c1 1 2#32 0#32).litB) [qW 2]).toNat : Int) = 1 := by
  rw [sigW, w3, sigW]; decide
theorem w7 (A : Option Addr) (c : Nat) (A1 : Option Addr) (c1 : Nat) : ((sigW (clearB (imW A c A1 c1 2 0#32 2#32).stand (imW A c A1 c1 2 0#32 2#32).occB (imW A c A1 c1 2 0#32 2#32).litB) [qW 2]).toNat : Int) = 0 := by
  rw [sigW, w5, sigW]; decide
set_option maxRecDepth 100000 in
theorem zero_k (W : World) : Sem.run Try.prog (zeroValue 41) W = .ok (.agg (kcL 0 (.slice none 0 0) machL).toArray) W := by
  first
    | kernel_rfl
    | (go_simp; rfl)
theorem bld0 {T : TypeId} {Q : Value} (W : World) (hT : T = 41) (h : Q = .agg (kcL 0 (.slice none 0 0) machL).toArray) : (Instr.build T #[]).run Try.prog W = .ok Q W := by subst hT h; exact run_k0 W
set_option maxHeartbeats 40000000 in
set_option maxRecDepth 100000 in
theorem wakes_c (w : World) : Calls Try.prog 7 #[] w fun e w' => e = .returned (.bool true) ∧ Below w.heap.size w w' := by
  obtain ⟨zv, hzi, hzs⟩ := ker_zero
  obtain ⟨zk, hzk⟩ : ∃ zk, zv.cells = zk := ⟨_, rfl⟩
  rw [hzk] at hzs
  have szH : ∀ st v3 v5 sh, (Try.prog.info? 52).map (·.size) = some (hcL st v3 (.slice none 0 0) v5 sh).length := fun _ _ _ _ => held_size rfl
  have szK : ∀ nx v, (Try.prog.info? 41).map (·.size) = some (kcL nx v machL).length := fun _ _ => ker_size (by simp [machL_len])
  have oneK : ∀ nx A n c, (kcL nx (.slice A n c) machL).toArray.all (·.oneCell') = true := fun nx A n c => all_one (fun u hu => by
    simp only [List.mem_cons] at hu
    rcases hu with rfl | rfl | hu
    · rfl
    · rfl
    · exact machL_one u hu)
  go_enter Try.func7, Try.ntmps7
  go_upto_region 1 with (fail)
  go_cut [1, 2, 3] from 7 to 11 (fun x1 x2 x3 wx => ∃ (g1 g2 g3 : Nat) (Wb : World) (L M : List Value) (v3 v5 : Value) (A : Option Addr) (c : Nat) (A1 : Option Addr) (c1 : Nat), x1 = .pointer (some ⟨g1, 0, none⟩) ∧ x2 = .pointer (some ⟨g2, 0, none⟩) ∧ x3 = .pointer (some ⟨g3, 0, none⟩) ∧
    Below w.heap.size w Wb ∧ LayF L 2 1 1 9 A c A1 c1 ∧ SecsAt Wb (.slice A 2 c) [1, 2] ∧ ImgF M 0 (List.replicate 24 1) 0#32 2#32 0#32 1#32 ∧ TAt Wb v3 st2 ∧ TAt Wb v5 nd1 ∧ Below Wb.heap.size Wb wx ∧ Wb.heap.size ≤ g3 ∧
    wx.heap[g1]? = some (.cells L.toArray 29 (0, 0)) ∧ wx.heap[g2]? = some (.cells M.toArray 35 (0, 0)) ∧ wx.heap[g3]? = some (.cells (hcL 2 v3 (.slice none 0 0) v5 false).toArray 52 (0, 0)))
  case first =>
    go_wp2_with fail
    refine (two_c w).mono ?_
    rintro e W1 ⟨b1, L, M, v3, v5, A, c, A1, c1, rfl, FL, SA, FI, oneL, t3, t5⟩
    obtain ⟨V, hV⟩ : ∃ V, ((W1.alloc (.cells zLay 29)).alloc (.cells zImg 35)).alloc (.cells zHeld 52) = V := ⟨_, rfl⟩
    have B0 : Below W1.heap.size W1 V := by rw [← hV]; exact below_step (below_step (below_new _ _) (below_new _ _)) (below_new _ _)
    have z0 : V.heap[W1.heap.size]? = some (.cells zLay 29 (0, 0)) := by rw [← hV]; exact old_at (old_at (new_at rfl _) _) _
    have z1 : V.heap[W1.heap.size + 1]? = some (.cells zImg 35 (0, 0)) := by rw [← hV]; exact old_at (new_at (by simp) _) _
    have z2 : V.heap[W1.heap.size + 1 + 1]? = some (.cells zHeld 52 (0, 0)) := by rw [← hV]; exact new_at (by simp) _
    obtain ⟨V1, e1, X1, B1, far1, th1⟩ := fill_new L z0 (by rw [FL.len]; rfl) B0 (Nat.le_refl _)
    obtain ⟨V2, e2, X2, B2, far2, th2⟩ := fill_new M ((far1 _ (by omega)).trans z1) (by rw [FI.len]; rfl) B1 (by omega)
    obtain ⟨V3, e3, X3, B3, far3, th3⟩ := fill_new (hcL 2 v3 (.slice none 0 0) v5 false) ((far2 _ (by omega)).trans ((far1 _ (by omega)).trans z2)) rfl B2 (by omega)
    have E1 := Lib.hid e1
    have E2 := Lib.hid e2
    have E3 := Lib.hid e3
    have HV := Lib.hid hV
    have szL := lay_size FL.len
    have szM := img_size FI.len
    have oL := all_one oneL
    have oM := all_one FI.one
    have oH := all_one (hc_held t3 t5 (st := 2) (sh := false)).one
    have szh := szH 2 v3 v5 false
    have F1 := Lib.hid ((far3 _ (by omega)).trans ((far2 _ (by omega)).trans X1))
    have F2 := Lib.hid ((far3 _ (by omega)).trans X2)
    clear hV e1 e2 e3 z0 z1 z2 far1 far2 far3 B0 B1 B2
    go_wp2_with (first
      | (rw [HV.out]; refine wpList_store_mid rfl 29 (.tmp 1) (.tmp 9) (by rfl) W1.heap.size 0 L.toArray (by rfl) (by rfl) th1 (by simpa using szL) oL ?_; rw [E1.out])
      | (refine wpList_store_mid rfl 35 (.tmp 2) (.tmp 10) (by rfl) (W1.heap.size + 1) 0 M.toArray (by rfl) (by rfl) th2 (by simpa using szM) oM ?_; rw [E2.out])
      | (refine wpList_store_mid rfl 52 (.tmp 3) (.tmp 11) (by rfl) (W1.heap.size + 1 + 1) 0 (hcL 2 v3 (.slice none 0 0) v5 false).toArray (by rfl) (by rfl) th3 (by simpa using szh) oH ?_; rw [E3.out])
      | fail)
    go_meet
    exact ⟨_, _, _, W1, L, M, v3, v5, A, c, A1, c1, rfl, rfl, rfl, b1, FL, SA, FI, t3, t5, B3, by omega, F1.out, F2.out, X3⟩
  case rest =>
    obtain ⟨g1, g2, g3, Wb, L, M, v3, v5, A, c, A1, c1, rfl, rfl, rfl, bw, FL, SA, FI, t3, t5, bel, hg3, h1, h2, h3⟩ := hcut
    have szL := lay_size FL.len
    have szM := img_size FI.len
    go_upto_region 2 with (fail)
    go_cut [4] from 12 to 14 (fun x4 wx => ∃ (g4 gk : Nat), x4 = .pointer (some ⟨g4, 0, none⟩) ∧ Below wc.heap.size wc wx ∧ g3 < gk ∧ wx.heap[g4]? = some (.cells (kcL 2 (.slice (some ⟨gk, 0, none⟩) 1 1) machL).toArray 41 (0, 0)) ∧ wx.heap[gk]? = some (.cells (hcL 2 v3 (.slice none 0 0) v5 false).toArray 52 (0, 0)))
    case first =>
      have RH := range_of h3
      have szh := szH 2 v3 v5 false
      have lg := Lib.hid (lt_at h3)
      have GK := new_at (w := wc) rfl (.cells (hcL 2 v3 (.slice none 0 0) v5 false).toArray 52)
      have b0 := below_new wc (.cells (hcL 2 v3 (.slice none 0 0) v5 false).toArray 52)
      obtain ⟨V, hV, X, bV, ths⟩ := newv (V := wc.alloc (.cells (hcL 2 v3 (.slice none 0 0) v5 false).toArray 52)) (kcL 2 (.slice (some ⟨wc.heap.size, 0, none⟩) 1 1) machL) zk 41 (by simp [machL_len, hzs])
      have X2 : V.heap[wc.heap.size + 1]? = some (.cells (kcL 2 (.slice (some ⟨wc.heap.size, 0, none⟩) 1 1) machL).toArray 41 (0, 0)) := by rw [World.size_alloc] at X; exact X
      have HV := Lib.hid hV
      have GK2 := Lib.hid (var_later GK bV)
      have b2 := below_step b0 bV
      have szk := szK 2 (.slice (some ⟨wc.heap.size, 0, none⟩) 1 1)
      have ok := oneK 2 (some ⟨wc.heap.size, 0, none⟩) 1 1
      clear hV GK b0 bV
      go_wp2_with (first
        | refine wpList_load_g (by rfl) 52 (.tmp 3) (by rfl) g3 0 (by rfl) (hcL 2 v3 (.slice none 0 0) v5 false) _ RH Try.underlying52 rfl szh ?_
        | refine wpList_bld (by rfl) 41 [(0, .const (.int .i64 2)), (1, .tmp 13)] _ _ (by rfl) (by rfl) (run_k2 _ _ _ _) ?_
        | refine wpList_new (by rfl) 41 zv zk hzi hzk (by rfl) ?_
        | (refine wpList_store_mid rfl 41 (.tmp 4) (.tmp 14) (by rfl) (wc.alloc (.cells (hcL 2 v3 (.slice none 0 0) v5 false).toArray 52)).heap.size 0 (kcL 2 (.slice (some ⟨wc.heap.size, 0, none⟩) 1 1) machL).toArray (by rfl) (by rfl) ths (by simpa using szk) ok ?_; rw [HV.out])
        | fail)
      go_meet
      exact ⟨_, wc.heap.size, rfl, b2, lg.out, X2, GK2.out⟩
    case rest =>
      obtain ⟨g4, gk, rfl, bF, hgk, h4, hk⟩ := hcut
      replace h1 := var_later h1 bF
      replace h2 := var_later h2 bF
      replace h3 := var_later h3 bF
      replace bel := below_step bel bF
      clear bF
      go_upto_region 3 with (fail)
      go_cut [5] from 15 to 18 (fun x5 wx => ∃ (g5 : Nat) (M' : List Value), x5 = .pointer (some ⟨g5, 0, none⟩) ∧ Below wc.heap.size wc wx ∧ ImgF M' 0 (List.replicate 24 2) 0#32 0#32 2#32 1#32 ∧ wx.heap[g5]? = some (.cells M'.toArray 35 (0, 0)))
      case first =>
        have RL := range_of h1
        have RM := range_of h2
        go_wp2_with (first
          | refine wpList_load_g (by rfl) 29 (.tmp 1) (by rfl) g1 0 (by rfl) L _ RL Try.underlying29 rfl szL ?_
          | refine wpList_load_g (by rfl) 35 (.tmp 2) (by rfl) g2 0 (by rfl) M _ RM Try.underlying35 rfl szM ?_
          | fail)
        refine (refTake_c L M 2 1 1 9 0 A A1 c c1 (List.replicate 24 1) 0#32 2#32 0#32 1#32 0#32 0#32 2#32 1#32 _ FL FI).mono ?_
        have HI := (FI.withIn_ 0#32 0#32 2#32 1#32).with_ (f := rowL 0#32 (decide ((9 : Int) < 0)) (List.replicate 24 1) 24) (rowL_len _ _ _ _)
        obtain ⟨M', hM⟩ : ∃ M', withFree (withIn M 0#32 0#32 2#32 1#32) (rowL 0#32 (decide ((9 : Int) < 0)) (List.replicate 24 1) 24) = M' := ⟨_, rfl⟩
        rw [hM] at HI
        rw [hM]
        rw [fr_bad] at HI
        clear hM
        rintro e W2 ⟨b2, rfl⟩
        have szm := img_size HI.len
        have oM := all_one HI.one
        obtain ⟨V, hV, X, bV, ths⟩ := newv (V := W2) M' zImg 35 (by rw [HI.len]; rfl)
        have HV := Lib.hid hV
        have b3 := below_step b2 bV
        clear RL RM hV bV
        go_wp2_with (first
          | (refine wpList_store_mid rfl 35 (.tmp 5) (.tmp 18) (by rfl) W2.heap.size 0 M'.toArray (by rfl) (by rfl) ths (by simpa using szm) oM ?_; rw [HV.out])
          | fail)
        go_meet
        exact ⟨_, M', rfl, b3, HI, X⟩
      case rest =>
        obtain ⟨g5, M', rfl, bF, FB, h5⟩ := hcut
        replace h1 := var_later h1 bF
        replace h2 := var_later h2 bF
        replace h3 := var_later h3 bF
        replace h4 := var_later h4 bF
        replace hk := var_later hk bF
        replace bel := below_step bel bF
        clear bF
        have szM' := img_size FB.len
        go_upto_region 4 with (fail)
        go_cut [6] from 19 to 22 (fun x6 wx => ∃ (g6 gs cs : Nat), x6 = .pointer (some ⟨g6, 0, none⟩) ∧ Below wc.heap.size wc wx ∧ wx.heap[g6]? = some (.cells (kcL 2 (.slice (some ⟨gs, 0, none⟩) 1 cs) machL).toArray 41 (0, 0)) ∧ wx.cell? ⟨gs, 22, none⟩ = some (.bool true))
        case first =>
          have RL := range_of h1
          have RM := range_of h2
          have RK := range_of h4
          have szk := szK 2 (.slice (some ⟨gk, 0, none⟩) 1 1)
          have IA : IMA (imW A c A1 c1 1 2#32 0#32) L M wc := ⟨⟨FL, FI⟩, SA.later bel⟩
          have t3' := t3.later bel
          have t5' := t5.later bel
          have SL := slice_blk hk
          go_wp2_with (first
            | refine wpList_load_g (by rfl) 29 (.tmp 1) (by rfl) g1 0 (by rfl) L _ RL Try.underlying29 rfl szL ?_
            | refine wpList_load_g (by rfl) 35 (.tmp 2) (by rfl) g2 0 (by rfl) M _ RM Try.underlying35 rfl szM ?_
            | refine wpList_load_g (by rfl) 41 (.tmp 4) (by rfl) g4 0 (by rfl) _ _ RK Try.underlying41 rfl szk ?_
            | fail)
          refine (Show_c _ L M 2 machL gk 0 1 v3 v5 st2 nd1 _ IA machL_len machL_one SL t3' t5' (by simp) (by simp) (w3 _ _ _ _).symm).mono ?_
          rintro e W2 ⟨b2, gs, cs, rfl, ht⟩
          obtain ⟨V, hV, X, bV, ths⟩ := newv (V := W2) (kcL 2 (.slice (some ⟨gs, 0, none⟩) 1 cs) machL) zk 41 (by simp [machL_len, hzs])
          have HV := Lib.hid hV
          have b3 := below_step b2 bV
          have ht2 := Lib.hid (cell_later ht bV)
          have szk2 := szK 2 (.slice (some ⟨gs, 0, none⟩) 1 cs)
          have ok := oneK 2 (some ⟨gs, 0, none⟩) 1 cs
          clear RL RM RK hV bV ht
          go_wp2_with (first
            | refine wpList_new (by rfl) 41 zv zk hzi hzk (by rfl) ?_
            | (refine wpList_store_mid rfl 41 (.tmp 6) (.tmp 22) (by rfl) W2.heap.size 0 (kcL 2 (.slice (some ⟨gs, 0, none⟩) 1 cs) machL).toArray (by rfl) (by rfl) ths (by simpa using szk2) ok ?_; rw [HV.out])
            | fail)
          go_meet
          exact ⟨_, gs, cs, rfl, b3, X, ht2.out⟩
        case rest =>
          obtain ⟨g6, gs, cs, rfl, bF, h6, ht⟩ := hcut
          replace h1 := var_later h1 bF
          replace h2 := var_later h2 bF
          replace h3 := var_later h3 bF
          replace h4 := var_later h4 bF
          replace h5 := var_later h5 bF
          replace hk := var_later hk bF
          replace bel := below_step bel bF
          clear bF
          have y6 := cell_list h3 (i := 6) rfl
          have f6 := free_at h3 6
          have n1 : g1 ≠ g3 := fun e => by rw [e, h3] at h1; cases h1
          have n2 : g2 ≠ g3 := fun e => by rw [e, h3] at h2; cases h2
          have n4 : g4 ≠ g3 := fun e => by rw [e, h3] at h4; cases h4
          have n5 : g5 ≠ g3 := fun e => by rw [e, h3] at h5; cases h5
          have n6 : g6 ≠ g3 := fun e => by rw [e, h3] at h6; cases h6
          have ns : gs ≠ g3 := fun e => by rw [e, cell_at h3] at ht; cases ht
          go_upto_region 6 with (fail)
          clear y6 f6
          replace h3 : (wc.setCell ⟨g3, 6, none⟩ (.int .u8 1)).heap[g3]? = some (.cells (hcL 1 v3 (.slice none 0 0) v5 false).toArray 52 (0, 0)) := set_at h3 6 (.int .u8 1)
          replace h1 := set_far (p := ⟨g3, 6, none⟩) h1 n1 (.int .u8 1)
          replace h2 := set_far (p := ⟨g3, 6, none⟩) h2 n2 (.int .u8 1)
          replace h4 := set_far (p := ⟨g3, 6, none⟩) h4 n4 (.int .u8 1)
          replace h5 := set_far (p := ⟨g3, 6, none⟩) h5 n5 (.int .u8 1)
          replace h6 := set_far (p := ⟨g3, 6, none⟩) h6 n6 (.int .u8 1)
          replace hk := set_far (p := ⟨g3, 6, none⟩) hk (by show gk ≠ g3; omega) (.int .u8 1)
          replace ht : (wc.setCell ⟨g3, 6, none⟩ (.int .u8 1)).cell? ⟨gs, 22, none⟩ = some (.bool true) := (World.cell?_setCell_far wc ⟨g3, 6, none⟩ ⟨gs, 22, none⟩ _ (fun e => ns e.symm)).trans ht
          replace bel := below_set bel hg3 6 (.int .u8 1)
          generalize wc.setCell ⟨g3, 6, none⟩ (.int .u8 1) = W5 at *
          have IA : IMA (imW A c A1 c1 1 2#32 0#32) L M W5 := ⟨⟨FL, FI⟩, SA.later bel⟩
          have IB : IMA (imW A c A1 c1 2 0#32 2#32) L M' W5 := ⟨⟨FL, FB⟩, SA.later bel⟩
          replace t3 := t3.later bel
          replace t5 := t5.later bel
          have szh1 := szH 1 v3 v5 false
          have szh2 := szH 2 v3 v5 false
          have szk := szK 2 (.slice (some ⟨gk, 0, none⟩) 1 1)
          have IH1 := hc_held t3 t5 (st := 1) (sh := false)
          have IH2 := hc_held t3 t5 (st := 2) (sh := false)
          have KER := ker_at W5 2 _ [hcL 2 v3 (.slice none 0 0) v5 false] [qW 2] (hs_one (slice_blk hk) IH2)
          have KE0 := Lib.hid (fun W => ker_at W 0 _ [] [] (hs_nil W))
          obtain ⟨H1, hH1⟩ : ∃ H, hcL 1 v3 (.slice none 0 0) v5 false = H := ⟨_, rfl⟩
          obtain ⟨H2, hH2⟩ : ∃ H, hcL 2 v3 (.slice none 0 0) v5 false = H := ⟨_, rfl⟩
          obtain ⟨KK, hK4⟩ : ∃ K, kcL 2 (.slice (some ⟨gk, 0, none⟩) 1 1) machL = K := ⟨_, rfl⟩
          obtain ⟨K6, hK6⟩ : ∃ K, kcL 2 (.slice (some ⟨gs, 0, none⟩) 1 cs) machL = K := ⟨_, rfl⟩
          obtain ⟨K0, hK0⟩ : ∃ K, kcL 0 (.slice none 0 0) machL = K := ⟨_, rfl⟩
          have k41 : KK[1]? = some (.slice (some ⟨gk, 0, none⟩) 1 1) := by rw [← hK4]; rfl
          have k61 : K6[1]? = some (.slice (some ⟨gs, 0, none⟩) 1 cs) := by rw [← hK6]; rfl
          have k22 : H2[22]? = some (.bool false) := by rw [← hH2]; rfl
          rw [hH1] at h3 szh1 IH1
          rw [hH2] at hk szh2 IH2 KER
          rw [hK4] at h4 szk KER
          rw [hK6] at h6
          rw [hK0] at KE0
          have EK0 := Lib.hid hK0
          have kk := Lib.hid (And.intro k41 (And.intro k61 k22))
          clear szH szK oneK n1 n2 n4 n5 n6 ns SA hH1 hH2 hK4 hK6 hK0 t3 t5 FL FI FB hzs hzi hzk k41 k61 k22 hgk hg3
          simp only [List.append_eq, List.cons_append, List.nil_append]
          refine wp_region_held_drew (S := (fun w' => (w'.rangeAt g1 0 L ∧ w'.rangeAt g2 0 M ∧ w'.rangeAt g3 0 H1) ∧ (w'.rangeAt g4 0 KK ∧ w'.rangeAt g5 0 M' ∧ w'.rangeAt gk 0 H2) ∧ w'.cell? ⟨g4, 1, none⟩ = some (.slice (some ⟨gk, 0, none⟩) 1 1) ∧ w'.cell? ⟨g6, 1, none⟩ = some (.slice (some ⟨gs, 0, none⟩) 1 cs) ∧ w'.cell? ⟨gs, 22, none⟩ = some (.bool true) ∧ w'.cell? ⟨gk, 22, none⟩ = some (.bool false))) (by kernel_rfl) ?_ (fun hHeld => ?_)
          · exact ⟨⟨range_of h1, range_of h2, range_of h3⟩, ⟨range_of h4, range_of h5, range_of hk⟩, cell_list h4 kk.out.1, cell_list h6 kk.out.2.1, ht, cell_list hk kk.out.2.2⟩
          have bF : Below W5.heap.size W5 W5.drew := (Below.refl _ W5).drew
          replace h1 := var_later h1 bF
          replace h2 := var_later h2 bF
          replace h3 := var_later h3 bF
          replace h4 := var_later h4 bF
          replace h5 := var_later h5 bF
          replace h6 := var_later h6 bF
          replace hk := var_later hk bF
          replace ht := cell_later ht bF
          replace IA := IA.later bF
          replace IB := IB.later bF
          replace IH1 := IH1.later bF
          replace IH2 := IH2.later bF
          replace KER := KER.later bF
          replace bel := below_step bel bF
          clear bF
          generalize W5.drew = V at *
          refine wpAnyH_take (i := 0) (v := .agg (L : List Value).toArray) rfl (by kernel_rfl) (by kernel_rfl) (by kernel_rfl) (fun _ _ _ h => h) (yieldsIf_load_mid (by kernel_rfl) 29 (.tmp 1) (by kernel_rfl) (g1) 0 (by kernel_rfl) L _ (fun w' h => h.1.1) (by first | exact Try.underlying29) rfl (by first | assumption | (simp only [*]; kernel_rfl))) (by assumption) ?_
          try simp only [List.getElem_toArray, List.getElem_cons_succ, List.getElem_cons_zero, Act.put, List.setIfInBounds_toArray, List.set_cons_zero, List.set_cons_succ]
          refine wpAnyH_take (i := 1) (v := .agg (M : List Value).toArray) rfl (by kernel_rfl) (by kernel_rfl) (by kernel_rfl) (fun _ _ _ h => h) (yieldsIf_load_mid (by kernel_rfl) 35 (.tmp 2) (by kernel_rfl) (g2) 0 (by kernel_rfl) M _ (fun w' h => h.1.2.1) (by first | exact Try.underlying35) rfl (by first | assumption | (simp only [*]; kernel_rfl))) (by assumption) ?_
          try simp only [List.getElem_toArray, List.getElem_cons_succ, List.getElem_cons_zero, Act.put, List.setIfInBounds_toArray, List.set_cons_zero, List.set_cons_succ]
          refine wpAnyH_take (i := 2) (v := .agg (H1 : List Value).toArray) rfl (by kernel_rfl) (by kernel_rfl) (by kernel_rfl) (fun _ _ _ h => h) (yieldsIf_load_mid (by kernel_rfl) 52 (.tmp 3) (by kernel_rfl) (g3) 0 (by kernel_rfl) H1 _ (fun w' h => h.1.2.2) (by first | exact Try.underlying52) rfl (by first | assumption | (simp only [*]; kernel_rfl))) (by assumption) ?_
          try simp only [List.getElem_toArray, List.getElem_cons_succ, List.getElem_cons_zero, Act.put, List.setIfInBounds_toArray, List.set_cons_zero, List.set_cons_succ]
          clear hHeld
          refine wpAnyH_ready (rs := [3]) (by kernel_rfl) (by simp) ?_
          refine AllReadyH.cons rfl (fun K hK => ?_) AllReadyH.nil
          refine Node.wp_fn 18 [.tmp 24, .tmp 25, .tmp 26] _ [.agg L.toArray, .agg M.toArray, .agg H1.toArray] (by rfl) (by kernel_rfl) (enters Try.func18 (by kernel_rfl) rfl) (Proves_c (imW A c A1 c1 1 2#32 0#32) L M _ (qW 1) true V (w1 _ _ _ _).symm IA IH1 (by simp)) ?_
          rintro e V' ⟨rfl, bF⟩
          refine ⟨_, rfl, ?_⟩
          replace h1 := var_later h1 bF
          replace h2 := var_later h2 bF
          replace h3 := var_later h3 bF
          replace h4 := var_later h4 bF
          replace h5 := var_later h5 bF
          replace h6 := var_later h6 bF
          replace hk := var_later hk bF
          replace ht := cell_later ht bF
          replace IA := IA.later bF
          replace IB := IB.later bF
          replace IH1 := IH1.later bF
          replace IH2 := IH2.later bF
          replace KER := KER.later bF
          replace bel := below_step bel bF
          clear bF
          generalize V' = V at *
          refine hK.out _ _ ⟨⟨range_of h1, range_of h2, range_of h3⟩, ⟨range_of h4, range_of h5, range_of hk⟩, cell_list h4 kk.out.1, cell_list h6 kk.out.2.1, ht, cell_list hk kk.out.2.2⟩ (fun hHeld => ?_)
          clear hK K
          try simp only [List.getElem_toArray, List.getElem_cons_succ, List.getElem_cons_zero, Act.put, List.setIfInBounds_toArray, List.set_cons_zero, List.set_cons_succ]
          refine wpAnyH_take (i := 4) (v := ?_) rfl (by kernel_rfl) (by kernel_rfl) (by kernel_rfl) (fun _ _ _ h => h) (Or.inl ⟨by kernel_rfl, ?_⟩) (by assumption) ?_
          rotate_left
          · intro w hSw
            try dsimp only at hSw
            go_simp
            try with_reducible rfl
          simp only [List.getElem_toArray, List.getElem_cons_succ, List.getElem_cons_zero, Act.put, List.setIfInBounds_toArray, List.set_cons_zero, List.set_cons_succ]
          refine wpAnyH_take (i := 5) (v := .agg (L : List Value).toArray) rfl (by kernel_rfl) (by kernel_rfl) (by kernel_rfl) (fun _ _ _ h => h) (yieldsIf_load_mid (by kernel_rfl) 29 (.tmp 1) (by kernel_rfl) (g1) 0 (by kernel_rfl) L _ (fun w' h => h.1.1) (by first | exact Try.underlying29) rfl (by first | assumption | (simp only [*]; kernel_rfl))) (by assumption) ?_
          try simp only [List.getElem_toArray, List.getElem_cons_succ, List.getElem_cons_zero, Act.put, List.setIfInBounds_toArray, List.set_cons_zero, List.set_cons_succ]
          refine wpAnyH_take (i := 6) (v := .agg (M : List Value).toArray) rfl (by kernel_rfl) (by kernel_rfl) (by kernel_rfl) (fun _ _ _ h => h) (yieldsIf_load_mid (by kernel_rfl) 35 (.tmp 2) (by kernel_rfl) (g2) 0 (by kernel_rfl) M _ (fun w' h => h.1.2.1) (by first | exact Try.underlying35) rfl (by first | assumption | (simp only [*]; kernel_rfl))) (by assumption) ?_
          try simp only [List.getElem_toArray, List.getElem_cons_succ, List.getElem_cons_zero, Act.put, List.setIfInBounds_toArray, List.set_cons_zero, List.set_cons_succ]
          refine wpAnyH_take (i := 7) (v := ?_) rfl (by kernel_rfl) (by kernel_rfl) (by kernel_rfl) (fun _ _ _ h => h) (Or.inl ⟨by kernel_rfl, ?_⟩) (by assumption) ?_
          rotate_left
          · intro w hSw
            try dsimp only at hSw
            go_simp
            try with_reducible rfl
          simp only [List.getElem_toArray, List.getElem_cons_succ, List.getElem_cons_zero, Act.put, List.setIfInBounds_toArray, List.set_cons_zero, List.set_cons_succ]
          refine wpAnyH_take (i := 8) (v := ?_) rfl (by kernel_rfl) (by kernel_rfl) (by kernel_rfl) (fun _ _ _ h => h) (Or.inl ⟨by kernel_rfl, ?_⟩) (by assumption) ?_
          rotate_left
          · intro w hSw
            try dsimp only at hSw
            go_simp
            try with_reducible rfl
          simp only [List.getElem_toArray, List.getElem_cons_succ, List.getElem_cons_zero, Act.put, List.setIfInBounds_toArray, List.set_cons_zero, List.set_cons_succ]
          refine wpAnyH_take (i := 9) (v := ?_) rfl (by kernel_rfl) (by kernel_rfl) (by kernel_rfl) (fun _ _ _ h => h) (Or.inl ⟨by kernel_rfl, ?_⟩) (by assumption) ?_
          rotate_left
          · intro w hSw
            try dsimp only at hSw
            go_simp
            try with_reducible rfl
          simp only [List.getElem_toArray, List.getElem_cons_succ, List.getElem_cons_zero, Act.put, List.setIfInBounds_toArray, List.set_cons_zero, List.set_cons_succ]
          refine wpAnyH_take (i := 10) (v := .agg (H2 : List Value).toArray) rfl (by kernel_rfl) (by kernel_rfl) (by kernel_rfl) (fun _ _ _ h => h) (yieldsIf_load_mid (by kernel_rfl) 52 (.tmp 33) (by kernel_rfl) (gk) 0 (by kernel_rfl) H2 _ (fun w' h => h.2.1.2.2) (by first | exact Try.underlying52) rfl (by first | assumption | (simp only [*]; kernel_rfl))) (by assumption) ?_
          try simp only [List.getElem_toArray, List.getElem_cons_succ, List.getElem_cons_zero, Act.put, List.setIfInBounds_toArray, List.set_cons_zero, List.set_cons_succ]
          clear hHeld
          refine ready1 (i := 11) rfl (by kernel_rfl) (by kernel_rfl) (fun K hK => ?_)
          refine Node.wp_fn 13 [.tmp 29, .tmp 30, .tmp 34] _ [.agg L.toArray, .agg M.toArray, .agg H2.toArray] (by rfl) (by kernel_rfl) (enters Try.func13 (by kernel_rfl) rfl) (Clear_c (imW A c A1 c1 1 2#32 0#32) L M _ (qW 2) true V (w3 _ _ _ _).symm IA IH2 (by simp) (by simp) (by simp)) ?_
          rintro e V' ⟨rfl, bF⟩
          refine ⟨_, rfl, ?_⟩
          replace h1 := var_later h1 bF
          replace h2 := var_later h2 bF
          replace h3 := var_later h3 bF
          replace h4 := var_later h4 bF
          replace h5 := var_later h5 bF
          replace h6 := var_later h6 bF
          replace hk := var_later hk bF
          replace ht := cell_later ht bF
          replace IA := IA.later bF
          replace IB := IB.later bF
          replace IH1 := IH1.later bF
          replace IH2 := IH2.later bF
          replace KER := KER.later bF
          replace bel := below_step bel bF
          clear bF
          generalize V' = V at *
          refine hK.out _ _ ⟨⟨range_of h1, range_of h2, range_of h3⟩, ⟨range_of h4, range_of h5, range_of hk⟩, cell_list h4 kk.out.1, cell_list h6 kk.out.2.1, ht, cell_list hk kk.out.2.2⟩ (fun hHeld => ?_)
          clear hK K
          try simp only [List.getElem_toArray, List.getElem_cons_succ, List.getElem_cons_zero, Act.put, List.setIfInBounds_toArray, List.set_cons_zero, List.set_cons_succ]
          refine wpAnyH_take (i := 12) (v := ?_) rfl (by kernel_rfl) (by kernel_rfl) (by kernel_rfl) (fun _ _ _ h => h) (Or.inl ⟨by kernel_rfl, ?_⟩) (by assumption) ?_
          rotate_left
          · intro w hSw
            try dsimp only at hSw
            go_simp
            try with_reducible rfl
          simp only [List.getElem_toArray, List.getElem_cons_succ, List.getElem_cons_zero, Act.put, List.setIfInBounds_toArray, List.set_cons_zero, List.set_cons_succ]
          refine wpAnyH_take (i := 13) (v := ?_) rfl (by kernel_rfl) (by kernel_rfl) (by kernel_rfl) (fun _ _ _ h => h) (Or.inl ⟨by kernel_rfl, ?_⟩) (by assumption) ?_
          rotate_left
          · intro w hSw
            try dsimp only at hSw
            go_simp
            try with_reducible rfl
          simp only [List.getElem_toArray, List.getElem_cons_succ, List.getElem_cons_zero, Act.put, List.setIfInBounds_toArray, List.set_cons_zero, List.set_cons_succ]
          refine wpAnyH_take (i := 14) (v := .agg (L : List Value).toArray) rfl (by kernel_rfl) (by kernel_rfl) (by kernel_rfl) (fun _ _ _ h => h) (yieldsIf_load_mid (by kernel_rfl) 29 (.tmp 1) (by kernel_rfl) (g1) 0 (by kernel_rfl) L _ (fun w' h => h.1.1) (by first | exact Try.underlying29) rfl (by first | assumption | (simp only [*]; kernel_rfl))) (by assumption) ?_
          try simp only [List.getElem_toArray, List.getElem_cons_succ, List.getElem_cons_zero, Act.put, List.setIfInBounds_toArray, List.set_cons_zero, List.set_cons_succ]
          refine wpAnyH_take (i := 15) (v := .agg (M : List Value).toArray) rfl (by kernel_rfl) (by kernel_rfl) (by kernel_rfl) (fun _ _ _ h => h) (yieldsIf_load_mid (by kernel_rfl) 35 (.tmp 2) (by kernel_rfl) (g2) 0 (by kernel_rfl) M _ (fun w' h => h.1.2.1) (by first | exact Try.underlying35) rfl (by first | assumption | (simp only [*]; kernel_rfl))) (by assumption) ?_
          try simp only [List.getElem_toArray, List.getElem_cons_succ, List.getElem_cons_zero, Act.put, List.setIfInBounds_toArray, List.set_cons_zero, List.set_cons_succ]
          refine wpAnyH_take (i := 16) (v := .agg (H1 : List Value).toArray) rfl (by kernel_rfl) (by kernel_rfl) (by kernel_rfl) (fun _ _ _ h => h) (yieldsIf_load_mid (by kernel_rfl) 52 (.tmp 3) (by kernel_rfl) (g3) 0 (by kernel_rfl) H1 _ (fun w' h => h.1.2.2) (by first | exact Try.underlying52) rfl (by first | assumption | (simp only [*]; kernel_rfl))) (by assumption) ?_
          try simp only [List.getElem_toArray, List.getElem_cons_succ, List.getElem_cons_zero, Act.put, List.setIfInBounds_toArray, List.set_cons_zero, List.set_cons_succ]
          clear hHeld
          refine ready1 (i := 17) rfl (by kernel_rfl) (by kernel_rfl) (fun K hK => ?_)
          refine Node.wp_fn 13 [.tmp 38, .tmp 39, .tmp 40] _ [.agg L.toArray, .agg M.toArray, .agg H1.toArray] (by rfl) (by kernel_rfl) (enters Try.func13 (by kernel_rfl) rfl) (Clear_c (imW A c A1 c1 1 2#32 0#32) L M _ (qW 1) false V (w2 _ _ _ _ 1 rfl).symm IA IH1 (by simp) (by simp) (by simp)) ?_
          rintro e V' ⟨rfl, bF⟩
          refine ⟨_, rfl, ?_⟩
          replace h1 := var_later h1 bF
          replace h2 := var_later h2 bF
          replace h3 := var_later h3 bF
          replace h4 := var_later h4 bF
          replace h5 := var_later h5 bF
          replace h6 := var_later h6 bF
          replace hk := var_later hk bF
          replace ht := cell_later ht bF
          replace IA := IA.later bF
          replace IB := IB.later bF
          replace IH1 := IH1.later bF
          replace IH2 := IH2.later bF
          replace KER := KER.later bF
          replace bel := below_step bel bF
          clear bF
          generalize V' = V at *
          refine hK.out _ _ ⟨⟨range_of h1, range_of h2, range_of h3⟩, ⟨range_of h4, range_of h5, range_of hk⟩, cell_list h4 kk.out.1, cell_list h6 kk.out.2.1, ht, cell_list hk kk.out.2.2⟩ (fun hHeld => ?_)
          clear hK K
          try simp only [List.getElem_toArray, List.getElem_cons_succ, List.getElem_cons_zero, Act.put, List.setIfInBounds_toArray, List.set_cons_zero, List.set_cons_succ]
          refine wpAnyH_take (i := 18) (v := ?_) rfl (by kernel_rfl) (by kernel_rfl) (by kernel_rfl) (fun _ _ _ h => h) (Or.inl ⟨by kernel_rfl, ?_⟩) (by assumption) ?_
          rotate_left
          · intro w hSw
            try dsimp only at hSw
            go_simp
            try with_reducible rfl
          simp only [List.getElem_toArray, List.getElem_cons_succ, List.getElem_cons_zero, Act.put, List.setIfInBounds_toArray, List.set_cons_zero, List.set_cons_succ]
          refine wpAnyH_take (i := 19) (v := ?_) rfl (by kernel_rfl) (by kernel_rfl) (by kernel_rfl) (fun _ _ _ h => h) (Or.inl ⟨by kernel_rfl, ?_⟩) (by assumption) ?_
          rotate_left
          · intro w hSw
            try dsimp only at hSw
            go_simp
            try with_reducible rfl
          simp only [List.getElem_toArray, List.getElem_cons_succ, List.getElem_cons_zero, Act.put, List.setIfInBounds_toArray, List.set_cons_zero, List.set_cons_succ]
          refine wpAnyH_take (i := 20) (v := ?_) rfl (by kernel_rfl) (by kernel_rfl) (by kernel_rfl) (fun _ _ _ h => h) (Or.inl ⟨by kernel_rfl, ?_⟩) (by assumption) ?_
          rotate_left
          · intro w hSw
            try dsimp only at hSw
            go_simp
            try with_reducible rfl
          simp only [List.getElem_toArray, List.getElem_cons_succ, List.getElem_cons_zero, Act.put, List.setIfInBounds_toArray, List.set_cons_zero, List.set_cons_succ]
          refine wpAnyH_take (i := 21) (v := .agg (L : List Value).toArray) rfl (by kernel_rfl) (by kernel_rfl) (by kernel_rfl) (fun _ _ _ h => h) (yieldsIf_load_mid (by kernel_rfl) 29 (.tmp 1) (by kernel_rfl) (g1) 0 (by kernel_rfl) L _ (fun w' h => h.1.1) (by first | exact Try.underlying29) rfl (by first | assumption | (simp only [*]; kernel_rfl))) (by assumption) ?_
          try simp only [List.getElem_toArray, List.getElem_cons_succ, List.getElem_cons_zero, Act.put, List.setIfInBounds_toArray, List.set_cons_zero, List.set_cons_succ]
          refine wpAnyH_take (i := 22) (v := .agg (M' : List Value).toArray) rfl (by kernel_rfl) (by kernel_rfl) (by kernel_rfl) (fun _ _ _ h => h) (yieldsIf_load_mid (by kernel_rfl) 35 (.tmp 5) (by kernel_rfl) (g5) 0 (by kernel_rfl) M' _ (fun w' h => h.2.1.2.1) (by first | exact Try.underlying35) rfl (by first | assumption | (simp only [*]; kernel_rfl))) (by assumption) ?_
          try simp only [List.getElem_toArray, List.getElem_cons_succ, List.getElem_cons_zero, Act.put, List.setIfInBounds_toArray, List.set_cons_zero, List.set_cons_succ]
          refine wpAnyH_take (i := 23) (v := .agg (H1 : List Value).toArray) rfl (by kernel_rfl) (by kernel_rfl) (by kernel_rfl) (fun _ _ _ h => h) (yieldsIf_load_mid (by kernel_rfl) 52 (.tmp 3) (by kernel_rfl) (g3) 0 (by kernel_rfl) H1 _ (fun w' h => h.1.2.2) (by first | exact Try.underlying52) rfl (by first | assumption | (simp only [*]; kernel_rfl))) (by assumption) ?_
          try simp only [List.getElem_toArray, List.getElem_cons_succ, List.getElem_cons_zero, Act.put, List.setIfInBounds_toArray, List.set_cons_zero, List.set_cons_succ]
          clear hHeld
          refine ready1 (i := 24) rfl (by kernel_rfl) (by kernel_rfl) (fun K hK => ?_)
          refine Node.wp_fn 18 [.tmp 45, .tmp 46, .tmp 47] _ [.agg L.toArray, .agg M'.toArray, .agg H1.toArray] (by rfl) (by kernel_rfl) (enters Try.func18 (by kernel_rfl) rfl) (Proves_c (imW A c A1 c1 2 0#32 2#32) L M' _ (qW 1) false V (w4 _ _ _ _ 1).symm IB IH1 (by simp)) ?_
          rintro e V' ⟨rfl, bF⟩
          refine ⟨_, rfl, ?_⟩
          replace h1 := var_later h1 bF
          replace h2 := var_later h2 bF
          replace h3 := var_later h3 bF
          replace h4 := var_later h4 bF
          replace h5 := var_later h5 bF
          replace h6 := var_later h6 bF
          replace hk := var_later hk bF
          replace ht := cell_later ht bF
          replace IA := IA.later bF
          replace IB := IB.later bF
          replace IH1 := IH1.later bF
          replace IH2 := IH2.later bF
          replace KER := KER.later bF
          replace bel := below_step bel bF
          clear bF
          generalize V' = V at *
          refine hK.out _ _ ⟨⟨range_of h1, range_of h2, range_of h3⟩, ⟨range_of h4, range_of h5, range_of hk⟩, cell_list h4 kk.out.1, cell_list h6 kk.out.2.1, ht, cell_list hk kk.out.2.2⟩ (fun hHeld => ?_)
          clear hK K
          try simp only [List.getElem_toArray, List.getElem_cons_succ, List.getElem_cons_zero, Act.put, List.setIfInBounds_toArray, List.set_cons_zero, List.set_cons_succ]
          refine wpAnyH_take (i := 25) (v := ?_) rfl (by kernel_rfl) (by kernel_rfl) (by kernel_rfl) (fun _ _ _ h => h) (Or.inl ⟨by kernel_rfl, ?_⟩) (by assumption) ?_
          rotate_left
          · intro w hSw
            try dsimp only at hSw
            go_simp
            try with_reducible rfl
          simp only [List.getElem_toArray, List.getElem_cons_succ, List.getElem_cons_zero, Act.put, List.setIfInBounds_toArray, List.set_cons_zero, List.set_cons_succ]
          refine wpAnyH_take (i := 26) (v := ?_) rfl (by kernel_rfl) (by kernel_rfl) (by kernel_rfl) (fun _ _ _ h => h) (Or.inl ⟨by kernel_rfl, ?_⟩) (by assumption) ?_
          rotate_left
          · intro w hSw
            try dsimp only at hSw
            go_simp
            try with_reducible rfl
          simp only [List.getElem_toArray, List.getElem_cons_succ, List.getElem_cons_zero, Act.put, List.setIfInBounds_toArray, List.set_cons_zero, List.set_cons_succ]
          refine wpAnyH_take (i := 27) (v := ?_) rfl (by kernel_rfl) (by kernel_rfl) (by kernel_rfl) (fun _ _ _ h => h) (Or.inl ⟨by kernel_rfl, ?_⟩) (by assumption) ?_
          rotate_left
          · intro w hSw
            try dsimp only at hSw
            go_simp
            try with_reducible rfl
          simp only [List.getElem_toArray, List.getElem_cons_succ, List.getElem_cons_zero, Act.put, List.setIfInBounds_toArray, List.set_cons_zero, List.set_cons_succ]
          refine wpAnyH_take (i := 28) (v := .agg (L : List Value).toArray) rfl (by kernel_rfl) (by kernel_rfl) (by kernel_rfl) (fun _ _ _ h => h) (yieldsIf_load_mid (by kernel_rfl) 29 (.tmp 1) (by kernel_rfl) (g1) 0 (by kernel_rfl) L _ (fun w' h => h.1.1) (by first | exact Try.underlying29) rfl (by first | assumption | (simp only [*]; kernel_rfl))) (by assumption) ?_
          try simp only [List.getElem_toArray, List.getElem_cons_succ, List.getElem_cons_zero, Act.put, List.setIfInBounds_toArray, List.set_cons_zero, List.set_cons_succ]
          refine wpAnyH_take (i := 29) (v := .agg (M' : List Value).toArray) rfl (by kernel_rfl) (by kernel_rfl) (by kernel_rfl) (fun _ _ _ h => h) (yieldsIf_load_mid (by kernel_rfl) 35 (.tmp 5) (by kernel_rfl) (g5) 0 (by kernel_rfl) M' _ (fun w' h => h.2.1.2.1) (by first | exact Try.underlying35) rfl (by first | assumption | (simp only [*]; kernel_rfl))) (by assumption) ?_
          try simp only [List.getElem_toArray, List.getElem_cons_succ, List.getElem_cons_zero, Act.put, List.setIfInBounds_toArray, List.set_cons_zero, List.set_cons_succ]
          refine wpAnyH_take (i := 30) (v := ?_) rfl (by kernel_rfl) (by kernel_rfl) (by kernel_rfl) (fun _ _ _ h => h) (Or.inl ⟨by kernel_rfl, ?_⟩) (by assumption) ?_
          rotate_left
          · intro w hSw
            try dsimp only at hSw
            go_simp
            try with_reducible rfl
          simp only [List.getElem_toArray, List.getElem_cons_succ, List.getElem_cons_zero, Act.put, List.setIfInBounds_toArray, List.set_cons_zero, List.set_cons_succ]
          refine wpAnyH_take (i := 31) (v := ?_) rfl (by kernel_rfl) (by kernel_rfl) (by kernel_rfl) (fun _ _ _ h => h) (Or.inl ⟨by kernel_rfl, ?_⟩) (by assumption) ?_
          rotate_left
          · intro w hSw
            try dsimp only at hSw
            go_simp
            try with_reducible rfl
          simp only [List.getElem_toArray, List.getElem_cons_succ, List.getElem_cons_zero, Act.put, List.setIfInBounds_toArray, List.set_cons_zero, List.set_cons_succ]
          refine wpAnyH_take (i := 32) (v := ?_) rfl (by kernel_rfl) (by kernel_rfl) (by kernel_rfl) (fun _ _ _ h => h) (Or.inl ⟨by kernel_rfl, ?_⟩) (by assumption) ?_
          rotate_left
          · intro w hSw
            try dsimp only at hSw
            go_simp
            try with_reducible rfl
          simp only [List.getElem_toArray, List.getElem_cons_succ, List.getElem_cons_zero, Act.put, List.setIfInBounds_toArray, List.set_cons_zero, List.set_cons_succ]
          refine wpAnyH_take (i := 33) (v := .agg (H2 : List Value).toArray) rfl (by kernel_rfl) (by kernel_rfl) (by kernel_rfl) (fun _ _ _ h => h) (yieldsIf_load_mid (by kernel_rfl) 52 (.tmp 56) (by kernel_rfl) (gk) 0 (by kernel_rfl) H2 _ (fun w' h => h.2.1.2.2) (by first | exact Try.underlying52) rfl (by first | assumption | (simp only [*]; kernel_rfl))) (by assumption) ?_
          try simp only [List.getElem_toArray, List.getElem_cons_succ, List.getElem_cons_zero, Act.put, List.setIfInBounds_toArray, List.set_cons_zero, List.set_cons_succ]
          clear hHeld
          refine ready1 (i := 34) rfl (by kernel_rfl) (by kernel_rfl) (fun K hK => ?_)
          refine Node.wp_fn 13 [.tmp 52, .tmp 53, .tmp 57] _ [.agg L.toArray, .agg M'.toArray, .agg H2.toArray] (by rfl) (by kernel_rfl) (enters Try.func13 (by kernel_rfl) rfl) (Clear_c (imW A c A1 c1 2 0#32 2#32) L M' _ (qW 2) false V (w5 _ _ _ _).symm IB IH2 (by simp) (by simp) (by simp)) ?_
          rintro e V' ⟨rfl, bF⟩
          refine ⟨_, rfl, ?_⟩
          replace h1 := var_later h1 bF
          replace h2 := var_later h2 bF
          replace h3 := var_later h3 bF
          replace h4 := var_later h4 bF
          replace h5 := var_later h5 bF
          replace h6 := var_later h6 bF
          replace hk := var_later hk bF
          replace ht := cell_later ht bF
          replace IA := IA.later bF
          replace IB := IB.later bF
          replace IH1 := IH1.later bF
          replace IH2 := IH2.later bF
          replace KER := KER.later bF
          replace bel := below_step bel bF
          clear bF
          generalize V' = V at *
          refine hK.out _ _ ⟨⟨range_of h1, range_of h2, range_of h3⟩, ⟨range_of h4, range_of h5, range_of hk⟩, cell_list h4 kk.out.1, cell_list h6 kk.out.2.1, ht, cell_list hk kk.out.2.2⟩ (fun hHeld => ?_)
          clear hK K
          try simp only [List.getElem_toArray, List.getElem_cons_succ, List.getElem_cons_zero, Act.put, List.setIfInBounds_toArray, List.set_cons_zero, List.set_cons_succ]
          refine wpAnyH_take (i := 35) (v := ?_) rfl (by kernel_rfl) (by kernel_rfl) (by kernel_rfl) (fun _ _ _ h => h) (Or.inl ⟨by kernel_rfl, ?_⟩) (by assumption) ?_
          rotate_left
          · intro w hSw
            try dsimp only at hSw
            go_simp
            try with_reducible rfl
          simp only [List.getElem_toArray, List.getElem_cons_succ, List.getElem_cons_zero, Act.put, List.setIfInBounds_toArray, List.set_cons_zero, List.set_cons_succ]
          refine wpAnyH_take (i := 36) (v := ?_) rfl (by kernel_rfl) (by kernel_rfl) (by kernel_rfl) (fun _ _ _ h => h) (Or.inl ⟨by kernel_rfl, ?_⟩) (by assumption) ?_
          rotate_left
          · intro w hSw
            try dsimp only at hSw
            go_simp
            try with_reducible rfl
          simp only [List.getElem_toArray, List.getElem_cons_succ, List.getElem_cons_zero, Act.put, List.setIfInBounds_toArray, List.set_cons_zero, List.set_cons_succ]
          refine wpAnyH_take (i := 37) (v := ?_) rfl (by kernel_rfl) (by kernel_rfl) (by kernel_rfl) (fun _ _ _ h => h) (Or.inl ⟨by kernel_rfl, ?_⟩) (by assumption) ?_
          rotate_left
          · intro w hSw
            try dsimp only at hSw
            go_simp
            try with_reducible rfl
          simp only [List.getElem_toArray, List.getElem_cons_succ, List.getElem_cons_zero, Act.put, List.setIfInBounds_toArray, List.set_cons_zero, List.set_cons_succ]
          refine wpAnyH_take (i := 38) (v := .agg (L : List Value).toArray) rfl (by kernel_rfl) (by kernel_rfl) (by kernel_rfl) (fun _ _ _ h => h) (yieldsIf_load_mid (by kernel_rfl) 29 (.tmp 1) (by kernel_rfl) (g1) 0 (by kernel_rfl) L _ (fun w' h => h.1.1) (by first | exact Try.underlying29) rfl (by first | assumption | (simp only [*]; kernel_rfl))) (by assumption) ?_
          try simp only [List.getElem_toArray, List.getElem_cons_succ, List.getElem_cons_zero, Act.put, List.setIfInBounds_toArray, List.set_cons_zero, List.set_cons_succ]
          refine wpAnyH_take (i := 39) (v := .agg (M : List Value).toArray) rfl (by kernel_rfl) (by kernel_rfl) (by kernel_rfl) (fun _ _ _ h => h) (yieldsIf_load_mid (by kernel_rfl) 35 (.tmp 2) (by kernel_rfl) (g2) 0 (by kernel_rfl) M _ (fun w' h => h.1.2.1) (by first | exact Try.underlying35) rfl (by first | assumption | (simp only [*]; kernel_rfl))) (by assumption) ?_
          try simp only [List.getElem_toArray, List.getElem_cons_succ, List.getElem_cons_zero, Act.put, List.setIfInBounds_toArray, List.set_cons_zero, List.set_cons_succ]
          refine wpAnyH_take (i := 40) (v := .agg (KK : List Value).toArray) rfl (by kernel_rfl) (by kernel_rfl) (by kernel_rfl) (fun _ _ _ h => h) (yieldsIf_load_mid (by kernel_rfl) 41 (.tmp 4) (by kernel_rfl) (g4) 0 (by kernel_rfl) KK _ (fun w' h => h.2.1.1) (by first | exact Try.underlying41) rfl (by first | assumption | (simp only [*]; kernel_rfl))) (by assumption) ?_
          try simp only [List.getElem_toArray, List.getElem_cons_succ, List.getElem_cons_zero, Act.put, List.setIfInBounds_toArray, List.set_cons_zero, List.set_cons_succ]
          clear hHeld
          refine ready1 (i := 41) rfl (by kernel_rfl) (by kernel_rfl) (fun K hK => ?_)
          refine Node.wp_fn 8 [.tmp 62, .tmp 63, .tmp 64] _ [.agg L.toArray, .agg M.toArray, .agg KK.toArray] (by rfl) (by kernel_rfl) (enters Try.func8 (by kernel_rfl) rfl) (s1_c (imW A c A1 c1 1 2#32 0#32) L M _ _ _ _ _ _ V _ (w6 _ _ _ _).symm IA KER (by simp) (by simp)) ?_
          rintro e V' ⟨rfl, bF⟩
          refine ⟨_, rfl, ?_⟩
          replace h1 := var_later h1 bF
          replace h2 := var_later h2 bF
          replace h3 := var_later h3 bF
          replace h4 := var_later h4 bF
          replace h5 := var_later h5 bF
          replace h6 := var_later h6 bF
          replace hk := var_later hk bF
          replace ht := cell_later ht bF
          replace IA := IA.later bF
          replace IB := IB.later bF
          replace IH1 := IH1.later bF
          replace IH2 := IH2.later bF
          replace KER := KER.later bF
          replace bel := below_step bel bF
          clear bF
          generalize V' = V at *
          refine hK.out _ _ ⟨⟨range_of h1, range_of h2, range_of h3⟩, ⟨range_of h4, range_of h5, range_of hk⟩, cell_list h4 kk.out.1, cell_list h6 kk.out.2.1, ht, cell_list hk kk.out.2.2⟩ (fun hHeld => ?_)
          clear hK K
          try simp only [List.getElem_toArray, List.getElem_cons_succ, List.getElem_cons_zero, Act.put, List.setIfInBounds_toArray, List.set_cons_zero, List.set_cons_succ]
          refine wpAnyH_take (i := 42) (v := ?_) rfl (by kernel_rfl) (by kernel_rfl) (by kernel_rfl) (fun _ _ _ h => h) (Or.inl ⟨by kernel_rfl, ?_⟩) (by assumption) ?_
          rotate_left
          · intro w hSw
            try dsimp only at hSw
            go_simp
            try with_reducible rfl
          simp only [List.getElem_toArray, List.getElem_cons_succ, List.getElem_cons_zero, Act.put, List.setIfInBounds_toArray, List.set_cons_zero, List.set_cons_succ]
          refine wpAnyH_take (i := 43) (v := ?_) rfl (by kernel_rfl) (by kernel_rfl) (by kernel_rfl) (fun _ _ _ h => h) (Or.inl ⟨by kernel_rfl, ?_⟩) (by assumption) ?_
          rotate_left
          · intro w hSw
            try dsimp only at hSw
            go_simp
            try with_reducible rfl
          simp only [List.getElem_toArray, List.getElem_cons_succ, List.getElem_cons_zero, Act.put, List.setIfInBounds_toArray, List.set_cons_zero, List.set_cons_succ]
          refine wpAnyH_take (i := 44) (v := ?_) rfl (by kernel_rfl) (by kernel_rfl) (by kernel_rfl) (fun _ _ _ h => h) (Or.inl ⟨by kernel_rfl, ?_⟩) (by assumption) ?_
          rotate_left
          · intro w hSw
            try dsimp only at hSw
            go_simp
            try with_reducible rfl
          simp only [List.getElem_toArray, List.getElem_cons_succ, List.getElem_cons_zero, Act.put, List.setIfInBounds_toArray, List.set_cons_zero, List.set_cons_succ]
          refine wpAnyH_take (i := 45) (v := .agg (L : List Value).toArray) rfl (by kernel_rfl) (by kernel_rfl) (by kernel_rfl) (fun _ _ _ h => h) (yieldsIf_load_mid (by kernel_rfl) 29 (.tmp 1) (by kernel_rfl) (g1) 0 (by kernel_rfl) L _ (fun w' h => h.1.1) (by first | exact Try.underlying29) rfl (by first | assumption | (simp only [*]; kernel_rfl))) (by assumption) ?_
          try simp only [List.getElem_toArray, List.getElem_cons_succ, List.getElem_cons_zero, Act.put, List.setIfInBounds_toArray, List.set_cons_zero, List.set_cons_succ]
          refine wpAnyH_take (i := 46) (v := .agg (M' : List Value).toArray) rfl (by kernel_rfl) (by kernel_rfl) (by kernel_rfl) (fun _ _ _ h => h) (yieldsIf_load_mid (by kernel_rfl) 35 (.tmp 5) (by kernel_rfl) (g5) 0 (by kernel_rfl) M' _ (fun w' h => h.2.1.2.1) (by first | exact Try.underlying35) rfl (by first | assumption | (simp only [*]; kernel_rfl))) (by assumption) ?_
          try simp only [List.getElem_toArray, List.getElem_cons_succ, List.getElem_cons_zero, Act.put, List.setIfInBounds_toArray, List.set_cons_zero, List.set_cons_succ]
          refine wpAnyH_take (i := 47) (v := .agg (KK : List Value).toArray) rfl (by kernel_rfl) (by kernel_rfl) (by kernel_rfl) (fun _ _ _ h => h) (yieldsIf_load_mid (by kernel_rfl) 41 (.tmp 4) (by kernel_rfl) (g4) 0 (by kernel_rfl) KK _ (fun w' h => h.2.1.1) (by first | exact Try.underlying41) rfl (by first | assumption | (simp only [*]; kernel_rfl))) (by assumption) ?_
          try simp only [List.getElem_toArray, List.getElem_cons_succ, List.getElem_cons_zero, Act.put, List.setIfInBounds_toArray, List.set_cons_zero, List.set_cons_succ]
          clear hHeld
          refine ready1 (i := 48) rfl (by kernel_rfl) (by kernel_rfl) (fun K hK => ?_)
          refine Node.wp_fn 8 [.tmp 69, .tmp 70, .tmp 71] _ [.agg L.toArray, .agg M'.toArray, .agg KK.toArray] (by rfl) (by kernel_rfl) (enters Try.func8 (by kernel_rfl) rfl) (s1_c (imW A c A1 c1 2 0#32 2#32) L M' _ _ _ _ _ _ V _ (w7 _ _ _ _).symm IB KER (by simp) (by simp)) ?_
          rintro e V' ⟨rfl, bF⟩
          refine ⟨_, rfl, ?_⟩
          replace h1 := var_later h1 bF
          replace h2 := var_later h2 bF
          replace h3 := var_later h3 bF
          replace h4 := var_later h4 bF
          replace h5 := var_later h5 bF
          replace h6 := var_later h6 bF
          replace hk := var_later hk bF
          replace ht := cell_later ht bF
          replace IA := IA.later bF
          replace IB := IB.later bF
          replace IH1 := IH1.later bF
          replace IH2 := IH2.later bF
          replace KER := KER.later bF
          replace bel := below_step bel bF
          clear bF
          generalize V' = V at *
          refine hK.out _ _ ⟨⟨range_of h1, range_of h2, range_of h3⟩, ⟨range_of h4, range_of h5, range_of hk⟩, cell_list h4 kk.out.1, cell_list h6 kk.out.2.1, ht, cell_list hk kk.out.2.2⟩ (fun hHeld => ?_)
          clear hK K
          try simp only [List.getElem_toArray, List.getElem_cons_succ, List.getElem_cons_zero, Act.put, List.setIfInBounds_toArray, List.set_cons_zero, List.set_cons_succ]
          refine wpAnyH_take (i := 49) (v := ?_) rfl (by kernel_rfl) (by kernel_rfl) (by kernel_rfl) (fun _ _ _ h => h) (Or.inl ⟨by kernel_rfl, ?_⟩) (by assumption) ?_
          rotate_left
          · intro w hSw
            try dsimp only at hSw
            go_simp
            try with_reducible rfl
          simp only [List.getElem_toArray, List.getElem_cons_succ, List.getElem_cons_zero, Act.put, List.setIfInBounds_toArray, List.set_cons_zero, List.set_cons_succ]
          refine wpAnyH_take (i := 50) (v := ?_) rfl (by kernel_rfl) (by kernel_rfl) (by kernel_rfl) (fun _ _ _ h => h) (Or.inl ⟨by kernel_rfl, ?_⟩) (by assumption) ?_
          rotate_left
          · intro w hSw
            try dsimp only at hSw
            go_simp
            try with_reducible rfl
          simp only [List.getElem_toArray, List.getElem_cons_succ, List.getElem_cons_zero, Act.put, List.setIfInBounds_toArray, List.set_cons_zero, List.set_cons_succ]
          refine wpAnyH_take (i := 51) (v := ?_) rfl (by kernel_rfl) (by kernel_rfl) (by kernel_rfl) (fun _ _ _ h => h) (Or.inl ⟨by kernel_rfl, ?_⟩) (by assumption) ?_
          rotate_left
          · intro w hSw
            try dsimp only at hSw
            go_simp
            try with_reducible rfl
          simp only [List.getElem_toArray, List.getElem_cons_succ, List.getElem_cons_zero, Act.put, List.setIfInBounds_toArray, List.set_cons_zero, List.set_cons_succ]
          refine wpAnyH_take (i := 52) (v := .agg (L : List Value).toArray) rfl (by kernel_rfl) (by kernel_rfl) (by kernel_rfl) (fun _ _ _ h => h) (yieldsIf_load_mid (by kernel_rfl) 29 (.tmp 1) (by kernel_rfl) (g1) 0 (by kernel_rfl) L _ (fun w' h => h.1.1) (by first | exact Try.underlying29) rfl (by first | assumption | (simp only [*]; kernel_rfl))) (by assumption) ?_
          try simp only [List.getElem_toArray, List.getElem_cons_succ, List.getElem_cons_zero, Act.put, List.setIfInBounds_toArray, List.set_cons_zero, List.set_cons_succ]
          refine wpAnyH_take (i := 53) (v := .agg (M : List Value).toArray) rfl (by kernel_rfl) (by kernel_rfl) (by kernel_rfl) (fun _ _ _ h => h) (yieldsIf_load_mid (by kernel_rfl) 35 (.tmp 2) (by kernel_rfl) (g2) 0 (by kernel_rfl) M _ (fun w' h => h.1.2.1) (by first | exact Try.underlying35) rfl (by first | assumption | (simp only [*]; kernel_rfl))) (by assumption) ?_
          try simp only [List.getElem_toArray, List.getElem_cons_succ, List.getElem_cons_zero, Act.put, List.setIfInBounds_toArray, List.set_cons_zero, List.set_cons_succ]
          refine wpAnyH_take (i := 54) (v := .agg K0.toArray) rfl (by kernel_rfl) (by kernel_rfl) (by kernel_rfl) (fun _ _ _ h => h) (Or.inl ⟨by kernel_rfl, ?_⟩) (by assumption) ?_
          · intro w hSw
            try dsimp only at hSw
            go_simp
            (rw [zero_k, EK0.out]; rfl)
          simp only [List.getElem_toArray, List.getElem_cons_succ, List.getElem_cons_zero, Act.put, List.setIfInBounds_toArray, List.set_cons_zero, List.set_cons_succ]
          clear hHeld
          refine ready1 (i := 55) rfl (by kernel_rfl) (by kernel_rfl) (fun K hK => ?_)
          refine Node.wp_fn 8 [.tmp 76, .tmp 77, .tmp 78] _ [.agg L.toArray, .agg M.toArray, .agg K0.toArray] (by rfl) (by kernel_rfl) (enters Try.func8 (by kernel_rfl) rfl) (s1_c (imW A c A1 c1 1 2#32 0#32) L M _ _ _ _ _ _ V 0 (by rfl) IA (KE0.out _) (by simp) (by simp)) ?_
          rintro e V' ⟨rfl, bF⟩
          refine ⟨_, rfl, ?_⟩
          replace h1 := var_later h1 bF
          replace h2 := var_later h2 bF
          replace h3 := var_later h3 bF
          replace h4 := var_later h4 bF
          replace h5 := var_later h5 bF
          replace h6 := var_later h6 bF
          replace hk := var_later hk bF
          replace ht := cell_later ht bF
          replace IA := IA.later bF
          replace IB := IB.later bF
          replace IH1 := IH1.later bF
          replace IH2 := IH2.later bF
          replace KER := KER.later bF
          replace bel := below_step bel bF
          clear bF
          generalize V' = V at *
          refine hK.out _ _ ⟨⟨range_of h1, range_of h2, range_of h3⟩, ⟨range_of h4, range_of h5, range_of hk⟩, cell_list h4 kk.out.1, cell_list h6 kk.out.2.1, ht, cell_list hk kk.out.2.2⟩ (fun hHeld => ?_)
          clear hK K
          try simp only [List.getElem_toArray, List.getElem_cons_succ, List.getElem_cons_zero, Act.put, List.setIfInBounds_toArray, List.set_cons_zero, List.set_cons_succ]
          refine wpAnyH_take (i := 56) (v := ?_) rfl (by kernel_rfl) (by kernel_rfl) (by kernel_rfl) (fun _ _ _ h => h) (Or.inl ⟨by kernel_rfl, ?_⟩) (by assumption) ?_
          rotate_left
          · intro w hSw
            try dsimp only at hSw
            go_simp
            try with_reducible rfl
          simp only [List.getElem_toArray, List.getElem_cons_succ, List.getElem_cons_zero, Act.put, List.setIfInBounds_toArray, List.set_cons_zero, List.set_cons_succ]
          refine wpAnyH_take (i := 57) (v := ?_) rfl (by kernel_rfl) (by kernel_rfl) (by kernel_rfl) (fun _ _ _ h => h) (Or.inl ⟨by kernel_rfl, ?_⟩) (by assumption) ?_
          rotate_left
          · intro w hSw
            try dsimp only at hSw
            go_simp
            try with_reducible rfl
          simp only [List.getElem_toArray, List.getElem_cons_succ, List.getElem_cons_zero, Act.put, List.setIfInBounds_toArray, List.set_cons_zero, List.set_cons_succ]
          refine wpAnyH_take (i := 58) (v := ?_) rfl (by kernel_rfl) (by kernel_rfl) (by kernel_rfl) (fun _ _ _ h => h) (Or.inl ⟨by kernel_rfl, ?_⟩) (by assumption) ?_
          rotate_left
          · intro w hSw
            try dsimp only at hSw
            go_simp
            try with_reducible rfl
          simp only [List.getElem_toArray, List.getElem_cons_succ, List.getElem_cons_zero, Act.put, List.setIfInBounds_toArray, List.set_cons_zero, List.set_cons_succ]
          refine wpAnyH_take (i := 59) (v := ?_) rfl (by kernel_rfl) (by kernel_rfl) (by kernel_rfl) (fun _ _ _ h => h) (Or.inl ⟨by kernel_rfl, ?_⟩) (by assumption) ?_
          rotate_left
          · intro w hSw
            try dsimp only at hSw
            go_simp
            try with_reducible rfl
          simp only [List.getElem_toArray, List.getElem_cons_succ, List.getElem_cons_zero, Act.put, List.setIfInBounds_toArray, List.set_cons_zero, List.set_cons_succ]
          refine wpAnyH_take (i := 60) (v := ?_) rfl (by kernel_rfl) (by kernel_rfl) (by kernel_rfl) (fun _ _ _ h => h) (Or.inl ⟨by kernel_rfl, ?_⟩) (by assumption) ?_
          rotate_left
          · intro w hSw
            try dsimp only at hSw
            go_simp
            try with_reducible rfl
          simp only [List.getElem_toArray, List.getElem_cons_succ, List.getElem_cons_zero, Act.put, List.setIfInBounds_toArray, List.set_cons_zero, List.set_cons_succ]
          refine wpAnyH_take (i := 61) (v := ?_) rfl (by kernel_rfl) (by kernel_rfl) (by kernel_rfl) (fun _ _ _ h => h) (Or.inl ⟨by kernel_rfl, ?_⟩) (by assumption) ?_
          rotate_left
          · intro w hSw
            try dsimp only at hSw
            go_simp
            try with_reducible rfl
          simp only [List.getElem_toArray, List.getElem_cons_succ, List.getElem_cons_zero, Act.put, List.setIfInBounds_toArray, List.set_cons_zero, List.set_cons_succ]
          refine wpAnyH_take (i := 62) (v := ?_) rfl (by kernel_rfl) (by kernel_rfl) (by kernel_rfl) (fun _ _ _ h => h) (Or.inl ⟨by kernel_rfl, ?_⟩) (by assumption) ?_
          rotate_left
          · intro w hSw
            try dsimp only at hSw
            go_simp
            try with_reducible rfl
          simp only [List.getElem_toArray, List.getElem_cons_succ, List.getElem_cons_zero, Act.put, List.setIfInBounds_toArray, List.set_cons_zero, List.set_cons_succ]
          refine wpAnyH_take (i := 63) (v := ?_) rfl (by kernel_rfl) (by kernel_rfl) (by kernel_rfl) (fun _ _ _ h => h) (Or.inl ⟨by kernel_rfl, ?_⟩) (by assumption) ?_
          rotate_left
          · intro w hSw
            try dsimp only at hSw
            go_simp
            try with_reducible rfl
          simp only [List.getElem_toArray, List.getElem_cons_succ, List.getElem_cons_zero, Act.put, List.setIfInBounds_toArray, List.set_cons_zero, List.set_cons_succ]
          refine wpAnyH_take (i := 64) (v := ?_) rfl (by kernel_rfl) (by kernel_rfl) (by kernel_rfl) (fun _ _ _ h => h) (Or.inl ⟨by kernel_rfl, ?_⟩) (by assumption) ?_
          rotate_left
          · intro w hSw
            try dsimp only at hSw
            go_simp
            try with_reducible rfl
          simp only [List.getElem_toArray, List.getElem_cons_succ, List.getElem_cons_zero, Act.put, List.setIfInBounds_toArray, List.set_cons_zero, List.set_cons_succ]
          refine wpAnyH_take (i := 65) (v := ?_) rfl (by kernel_rfl) (by kernel_rfl) (by kernel_rfl) (fun _ _ _ h => h) (Or.inl ⟨by kernel_rfl, ?_⟩) (by assumption) ?_
          rotate_left
          · intro w hSw
            try dsimp only at hSw
            go_simp
            try with_reducible rfl
          simp only [List.getElem_toArray, List.getElem_cons_succ, List.getElem_cons_zero, Act.put, List.setIfInBounds_toArray, List.set_cons_zero, List.set_cons_succ]
          refine wpAnyH_take (i := 66) (v := ?_) rfl (by kernel_rfl) (by kernel_rfl) (by kernel_rfl) (fun _ _ _ h => h) (Or.inl ⟨by kernel_rfl, ?_⟩) (by assumption) ?_
          rotate_left
          · intro w hSw
            try dsimp only at hSw
            go_simp
            try with_reducible rfl
          simp only [List.getElem_toArray, List.getElem_cons_succ, List.getElem_cons_zero, Act.put, List.setIfInBounds_toArray, List.set_cons_zero, List.set_cons_succ]
          refine wpAnyH_take (i := 67) (v := ?_) rfl (by kernel_rfl) (by kernel_rfl) (by kernel_rfl) (fun _ _ _ h => h) (Or.inl ⟨by kernel_rfl, ?_⟩) (by assumption) ?_
          rotate_left
          · intro w hSw
            try dsimp only at hSw
            go_simp
            try with_reducible rfl
          simp only [List.getElem_toArray, List.getElem_cons_succ, List.getElem_cons_zero, Act.put, List.setIfInBounds_toArray, List.set_cons_zero, List.set_cons_succ]
          refine wpAnyH_take (i := 68) (v := ?_) rfl (by kernel_rfl) (by kernel_rfl) (by kernel_rfl) (fun _ _ _ h => h) (Or.inl ⟨by kernel_rfl, ?_⟩) (by assumption) ?_
          rotate_left
          · intro w hSw
            try dsimp only at hSw
            go_simp
            try with_reducible rfl
          simp only [List.getElem_toArray, List.getElem_cons_succ, List.getElem_cons_zero, Act.put, List.setIfInBounds_toArray, List.set_cons_zero, List.set_cons_succ]
          refine wpAnyH_take (i := 69) (v := ?_) rfl (by kernel_rfl) (by kernel_rfl) (by kernel_rfl) (fun _ _ _ h => h) (Or.inl ⟨by kernel_rfl, ?_⟩) (by assumption) ?_
          rotate_left
          · intro w hSw
            try dsimp only at hSw
            go_simp
            try with_reducible rfl
          simp only [List.getElem_toArray, List.getElem_cons_succ, List.getElem_cons_zero, Act.put, List.setIfInBounds_toArray, List.set_cons_zero, List.set_cons_succ]
          refine wpAnyH_take (i := 70) (v := ?_) rfl (by kernel_rfl) (by kernel_rfl) (by kernel_rfl) (fun _ _ _ h => h) (Or.inl ⟨by kernel_rfl, ?_⟩) (by assumption) ?_
          rotate_left
          · intro w hSw
            try dsimp only at hSw
            go_simp
            try with_reducible rfl
          simp only [List.getElem_toArray, List.getElem_cons_succ, List.getElem_cons_zero, Act.put, List.setIfInBounds_toArray, List.set_cons_zero, List.set_cons_succ]
          refine wpAnyH_take (i := 71) (v := ?_) rfl (by kernel_rfl) (by kernel_rfl) (by kernel_rfl) (fun _ _ _ h => h) (Or.inl ⟨by kernel_rfl, ?_⟩) (by assumption) ?_
          rotate_left
          · intro w hSw
            try dsimp only at hSw
            go_simp
            try with_reducible rfl
          simp only [List.getElem_toArray, List.getElem_cons_succ, List.getElem_cons_zero, Act.put, List.setIfInBounds_toArray, List.set_cons_zero, List.set_cons_succ]
          refine wpAnyH_take (i := 72) (v := ?_) rfl (by kernel_rfl) (by kernel_rfl) (by kernel_rfl) (fun _ _ _ h => h) (Or.inl ⟨by kernel_rfl, ?_⟩) (by assumption) ?_
          rotate_left
          · intro w hSw
            try dsimp only at hSw
            go_simp
            try with_reducible rfl
          simp only [List.getElem_toArray, List.getElem_cons_succ, List.getElem_cons_zero, Act.put, List.setIfInBounds_toArray, List.set_cons_zero, List.set_cons_succ]
          refine wpAnyH_take (i := 73) (v := ?_) rfl (by kernel_rfl) (by kernel_rfl) (by kernel_rfl) (fun _ _ _ h => h) (Or.inl ⟨by kernel_rfl, ?_⟩) (by assumption) ?_
          rotate_left
          · intro w hSw
            try dsimp only at hSw
            go_simp
            try with_reducible rfl
          simp only [List.getElem_toArray, List.getElem_cons_succ, List.getElem_cons_zero, Act.put, List.setIfInBounds_toArray, List.set_cons_zero, List.set_cons_succ]
          refine wpAnyH_take (i := 74) (v := ?_) rfl (by kernel_rfl) (by kernel_rfl) (by kernel_rfl) (fun _ _ _ h => h) (Or.inl ⟨by kernel_rfl, ?_⟩) (by assumption) ?_
          rotate_left
          · intro w hSw
            try dsimp only at hSw
            go_simp
            try with_reducible rfl
          simp only [List.getElem_toArray, List.getElem_cons_succ, List.getElem_cons_zero, Act.put, List.setIfInBounds_toArray, List.set_cons_zero, List.set_cons_succ]
          refine wpAnyH_take (i := 75) (v := ?_) rfl (by kernel_rfl) (by kernel_rfl) (by kernel_rfl) (fun _ _ _ h => h) (Or.inl ⟨by kernel_rfl, ?_⟩) (by assumption) ?_
          rotate_left
          · intro w hSw
            try dsimp only at hSw
            go_simp
            try with_reducible rfl
          simp only [List.getElem_toArray, List.getElem_cons_succ, List.getElem_cons_zero, Act.put, List.setIfInBounds_toArray, List.set_cons_zero, List.set_cons_succ]
          refine wpAnyH_take (i := 76) (v := ?_) rfl (by kernel_rfl) (by kernel_rfl) (by kernel_rfl) (fun _ _ _ h => h) (Or.inl ⟨by kernel_rfl, ?_⟩) (by assumption) ?_
          rotate_left
          · intro w hSw
            try dsimp only at hSw
            go_simp
            try with_reducible rfl
          simp only [List.getElem_toArray, List.getElem_cons_succ, List.getElem_cons_zero, Act.put, List.setIfInBounds_toArray, List.set_cons_zero, List.set_cons_succ]
          refine wpAnyH_take (i := 77) (v := ?_) rfl (by kernel_rfl) (by kernel_rfl) (by kernel_rfl) (fun _ _ _ h => h) (Or.inl ⟨by kernel_rfl, ?_⟩) (by assumption) ?_
          rotate_left
          · intro w hSw
            try dsimp only at hSw
            go_simp
            try with_reducible rfl
          simp only [List.getElem_toArray, List.getElem_cons_succ, List.getElem_cons_zero, Act.put, List.setIfInBounds_toArray, List.set_cons_zero, List.set_cons_succ]
          refine wpAnyH_take (i := 78) (v := ?_) rfl (by kernel_rfl) (by kernel_rfl) (by kernel_rfl) (fun _ _ _ h => h) (Or.inl ⟨by kernel_rfl, ?_⟩) (by assumption) ?_
          rotate_left
          · intro w hSw
            try dsimp only at hSw
            go_simp
            try with_reducible rfl
          simp only [List.getElem_toArray, List.getElem_cons_succ, List.getElem_cons_zero, Act.put, List.setIfInBounds_toArray, List.set_cons_zero, List.set_cons_succ]
          refine wpAnyH_take (i := 79) (v := ?_) rfl (by kernel_rfl) (by kernel_rfl) (by kernel_rfl) (fun _ _ _ h => h) (Or.inl ⟨by kernel_rfl, ?_⟩) (by assumption) ?_
          rotate_left
          · intro w hSw
            try dsimp only at hSw
            go_simp
            try with_reducible rfl
          simp only [List.getElem_toArray, List.getElem_cons_succ, List.getElem_cons_zero, Act.put, List.setIfInBounds_toArray, List.set_cons_zero, List.set_cons_succ]
          clear hHeld
          refine wpAnyH_done (by kernel_rfl) ?_ _
          go_wp2
          go_ret
          exact ⟨rfl, below_step bw bel⟩
end Go.Proofs.Ytkmioplegjeopaa
