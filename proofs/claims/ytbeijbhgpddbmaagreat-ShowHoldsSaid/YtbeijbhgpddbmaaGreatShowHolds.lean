/- ShowHolds: for every argument the statement's Go text returns true and turns nothing that was there. It is proved at every argument, without a condition beyond the row. -/
import Derived.Test.YtbeijbhgpddbmaaGreatShZ
import Derived.Test.YtbeijbhgpddbmaaGreatShFin
import Derived.Test.YtbeijbhgpddbmaaGreatAspG8
import Derived.Test.YtbeijbhgpddbmaaGreatHoFin
import Derived.Test.YtbeijbhgpddbmaaGreatFrame
import Derived.Deep.RegionHeld3
import Derived.Deep.CutRange
import Derived.Deep.DrawnRows
namespace Go.Proofs.YtbeijbhgpddbmaaGreat.showHolds
open Go.ChangeShapes Go.WideShapes Go.ChangeAt Go.RowKit Rf
attribute [local go_sem ↓] run_max2 run_min2
open Mem Bv AM SM Bits
/-- what the law knows, as a variable's worth -/
structure QV (w W : World) (I : IM) (L M K N : List Value) (ss : List (List Value)) (vh : Value) (css : List (List Value)) (hs : List HeldM) (nx : Int) (ms : List (Int × Int × Bool)) (vr : Value) (rss : List (List Value)) (rq : List (Int × Nat)) (ds : Int) (dv : Nat) (au : BitVec 32) (code : Int) : Prop where
  bel : Below w.heap.size w W
  v : V2 W w.heap.size (w.heap.size + 1) L M
  kb : W.heap[w.heap.size + 1 + 1]? = some (.cells K.toArray 41 (0, 0))
  nb : W.heap[w.heap.size + 1 + 1 + 1]? = some (.cells N.toArray 50 (0, 0))
  ly : LY W L I.kinds ss I.nsig I.clr I.st I.A I.c I.A1 I.c1
  a : IMA I L M W
  k : KerAt W K vh css hs nx ms
  n : NxAt W N vr rss rq ds dv au code
theorem QV.later {w W W' : World} {I : IM} {L M K N : List Value} {ss : List (List Value)} {vh : Value} {css : List (List Value)} {hs : List HeldM} {nx : Int} {ms : List (Int × Int × Bool)} {vr : Value} {rss : List (List Value)} {rq : List (Int × Nat)} {ds : Int} {dv : Nat} {au : BitVec 32} {code : Int} (h : QV w W I L M K N ss vh css hs nx ms vr rss rq ds dv au code) (b : Below W.heap.size W W') : QV w W' I L M K N ss vh css hs nx ms vr rss rq ds dv au code :=
  ⟨below_step h.bel b, h.v.later b, var_later h.kb b, var_later h.nb b, h.ly.later b, h.a.later b, h.k.later b, h.n.later b⟩
theorem secs_le (s : ShowM) (kinds : List Int) : ∀ n, sumW (secsF s kinds n) ≤ 5 * n
  | 0 => by simp [secsF, sumW]
  | n + 1 => by
    rw [secsF_succ, sumW_append]
    have h1 := secs_le s kinds n
    have h2 : sumW (secF s kinds n) ≤ 5 := by unfold secF; split <;> simp [sumW]
    omega
theorem flds_le (s : ShowM) (kinds : List Int) (nsig : Nat) : sumW (flds s kinds nsig) ≤ 200 := by
  unfold flds
  rw [sumW_append, sumW_append, sigsF_w]
  have h1 := secs_le s kinds (min kinds.length 24)
  have h2 : sumW (endF s) = 14 := rfl
  omega
set_option maxHeartbeats 16000000 in
set_option maxRecDepth 100000 in
theorem walk (I : IM) (L M K N : List Value) (ss : List (List Value)) (nfl : Nat) (lens : List Nat) (A3 : Option Addr) (c3 : Nat) (ve : Value) (vh : Value) (css : List (List Value)) (hs : List HeldM) (nx : Int) (ms : List (Int × Int × Bool)) (vr : Value) (rss : List (List Value)) (rq : List (Int × Nat)) (ds : Int) (dv : Nat) (au : BitVec 32) (code errs : Int) (w : World)
    (hY : LY w L I.kinds ss I.nsig I.clr I.st I.A I.c I.A1 I.c1) (hA : IMA I L M w) (hK : KerAt w K vh css hs nx ms) (hN : NxAt w N vr rss rq ds dv au code) (h2 : L[2]? = some ve) (h3 : L[3]? = some (.slice A3 nfl c3)) (hE : ExsAt w ve lens) (hk2 : ∀ z ∈ I.kinds, 0 ≤ z ∧ z ≤ 255) (hcd : 0 ≤ code ∧ code ≤ 255) (hdv : dv ≤ 9223372036854775807) (hvs : ∀ r ∈ rq, r.2 ≤ 9223372036854775807) :
    Calls Tryz.prog 4 #[.agg L.toArray, .agg M.toArray, .agg K.toArray, .agg N.toArray, .int .i64 errs] w fun e w' => e = .returned (.bool true) ∧ Below w.heap.size w w' := by
  have szL := lay_size hA.f.l.len
  have szM := img_size hA.f.m.len
  have szK := ker_size hK.len
  have szN := nx_size hN.len
  obtain ⟨W0, hW0⟩ : ∃ W0, (((w.alloc (.cells L.toArray 29)).alloc (.cells M.toArray 35)).alloc (.cells K.toArray 41)).alloc (.cells N.toArray 50) = W0 := ⟨_, rfl⟩
  have B0 : Below w.heap.size w W0 := by rw [← hW0]; exact below_step (below_step (below_step (below_new _ _) (below_new _ _)) (below_new _ _)) (below_new _ _)
  have V : QV w W0 I L M K N ss vh css hs nx ms vr rss rq ds dv au code := ⟨B0, by rw [← hW0]; exact ⟨old_at (old_at (old_at (new_at rfl _) _) _) _, old_at (old_at (new_at (by simp) _) _) _⟩, by rw [← hW0]; exact old_at (new_at (by simp) _) _, by rw [← hW0]; exact new_at (by simp) _, hY.later B0, hA.later B0, hK.later B0, hN.later B0⟩
  have HE := Lib.hid (hE.later B0)
  have HV := Lib.hid (And.intro hdv hvs)
  clear hA hK hN hY hE B0 hdv hvs
  have HK2 := Lib.hid hk2
  have HCD := Lib.hid hcd
  clear hk2 hcd
  go_enter Tryz.func4, Tryz.ntmps4
  go_upto_region 1 with (fail)
  generalize (((w.alloc (.cells L.toArray 29)).alloc (.cells M.toArray 35)).alloc (.cells K.toArray 41)).alloc (.cells N.toArray 50) = W0' at *
  subst hW0
  have RL := range_of V.v.l
  go_wp2_with (first
    | refine wpList_load_k 29 (.tmp 5) (by rfl) w.heap.size 0 (by rfl) L _ RL Tryz.underlying29 rfl szL (by kernel_rfl) ?_
    | fail)
  refine (Great_c L I.kinds.length I.nsig nfl lens I.A I.A1 A3 I.c I.c1 c3 ve _ V.a.f.l.sec V.a.f.l.sig h2 h3 HE.out).mono ?_
  rintro e W1 ⟨he, b1⟩
  obtain ⟨g1, hg1⟩ : ∃ g, greatV I.kinds.length I.nsig nfl lens = g := ⟨_, rfl⟩
  rw [hg1] at he
  subst he
  replace V := V.later b1
  clear b1 hg1 RL
  cases g1
  rotate_left
  · go_wp2_with fail
    refine (wakes28_c _).mono ?_
    rintro e W2 ⟨rfl, b2⟩
    have B := below_step V.bel b2
    go_wp2
    go_ret
    exact ⟨rfl, B⟩
  have RK := range_of V.kb
  go_wp2_with (first
    | refine wpList_load_k 41 (.tmp 7) (by rfl) (w.heap.size + 1 + 1) 0 (by rfl) K _ RK Tryz.underlying41 rfl szK (by kernel_rfl) ?_
    | fail)
  refine (Great18_c K vh css hs nx ms _ V.k).mono ?_
  rintro e W2 ⟨b2, g2, rfl, hsm⟩
  replace V := V.later b2
  clear b2 RK
  have HSM := Lib.hid hsm
  clear hsm
  cases g2
  rotate_left
  · go_wp2_with fail
    refine (wakes28_c _).mono ?_
    rintro e W3 ⟨rfl, b3⟩
    have B := below_step V.bel b3
    go_wp2
    go_ret
    exact ⟨rfl, B⟩
  have RN := range_of V.nb
  go_wp2_with (first
    | refine wpList_load_k 50 (.tmp 8) (by rfl) (w.heap.size + 1 + 1 + 1) 0 (by rfl) N _ RN Tryz.underlying50 rfl szN (by kernel_rfl) ?_
    | fail)
  refine (great28_c N vr rss rq ds dv au code _ V.n HV.out.1 HV.out.2).mono ?_
  rintro e W3 ⟨b3, g3, rfl, hgr⟩
  replace V := V.later b3
  clear b3 RN
  have HGR := Lib.hid hgr
  clear hgr
  cases g3
  rotate_left
  · go_wp2_with fail
    refine (wakes28_c _).mono ?_
    rintro e W4 ⟨rfl, b4⟩
    have B := below_step V.bel b4
    go_wp2
    go_ret
    exact ⟨rfl, B⟩
  obtain ⟨hl10, hsm⟩ := HSM.out trivial
  have hrq20 := HGR.out rfl
  have hfew : Few hs := fun h hh => by obtain ⟨a1, a2, a3⟩ := hsm h hh; exact ⟨by omega, by omega, by omega⟩
  have HFW := Lib.hid hfew
  have hhl : hs.length ≤ 5864062014700 := by have := V.k.hs.len; omega
  clear HSM HGR hsm hfew hl10
  obtain ⟨Ar, cr, rfl, _⟩ := V.n.rq.sl.form
  have hrl := V.n.rq.len
  have y5 := cell_list V.nb V.n.st
  have y44 := cell_list V.nb V.n.code
  rw [hrl] at y5
  by_cases h7 : 7 < rq.length
  · have q1 : decide ((7 : Int) < (rq.length : Int)) = true := decide_eq_true (by omega)
    clear h7
    go_wp2_with fail
    refine (wakes28_c _).mono ?_
    rintro e W4 ⟨rfl, b4⟩
    have B := below_step V.bel b4
    go_wp2
    go_ret
    exact ⟨rfl, B⟩
  have q1 : decide ((7 : Int) < (rq.length : Int)) = false := decide_eq_false (by omega)
  have hr7 : rq.length ≤ 7 := by omega
  by_cases hc7 : 7 < code
  · have q2 : decide (7 < code) = true := decide_eq_true hc7
    clear hc7
    go_wp2_with fail
    refine (wakes28_c _).mono ?_
    rintro e W4 ⟨rfl, b4⟩
    have B := below_step V.bel b4
    go_wp2
    go_ret
    exact ⟨rfl, B⟩
  have q2 : decide (7 < code) = false := decide_eq_false hc7
  have hcd7 : 0 ≤ code ∧ code ≤ 7 := ⟨HCD.out.1, by omega⟩
  by_cases he0 : errs < 0
  · have q3 : decide (errs < 0) = true := decide_eq_true he0
    clear he0
    go_wp2_with fail
    refine (wakes28_c _).mono ?_
    rintro e W4 ⟨rfl, b4⟩
    have B := below_step V.bel b4
    go_wp2
    go_ret
    exact ⟨rfl, B⟩
  have q3 : decide (errs < 0) = false := decide_eq_false he0
  have HE0 := Lib.hid (show 0 ≤ errs by omega)
  have HC7 := Lib.hid hcd7
  have HR7 := Lib.hid hr7
  clear h7 hc7 he0 hcd7 hr7 HCD
  go_upto_region 3 with (fail)
  clear q1 q2 q3 y5 y44
  obtain ⟨o, ho⟩ : ∃ o, ofM I hs rq ds au code errs = o := ⟨_, rfl⟩
  have HO := Lib.hid ho
  have hok : ShOk o := by
    rw [← ho]
    exact ⟨⟨HC7.out.1, by show code ≤ 255; have := HC7.out; omega⟩, ⟨by show -9223372036854775808 ≤ (rq.length : Int); omega, by show (rq.length : Int) ≤ 9223372036854775807; have := HR7.out; omega⟩, ⟨by show -9223372036854775808 ≤ errs % 256; omega, by show errs % 256 ≤ 9223372036854775807; omega⟩⟩
  have HOK := Lib.hid hok
  clear ho hok
  obtain ⟨O, hO⟩ : ∃ O, showL o = O := ⟨_, rfl⟩
  have szo : (Tryz.prog.info? 52).map (·.size) = some O.length := by rw [← hO]; exact show_size _
  have oO : O.toArray.all (·.oneCell') = true := all_one (by rw [← hO]; exact show_one _)
  obtain ⟨zs, hzi, hzs⟩ := show_zero
  obtain ⟨zc, hzc⟩ : ∃ zc, zs.cells = zc := ⟨_, rfl⟩
  rw [hzc] at hzs
  have lO : O.length = zc.size := by rw [hzs, ← hO]; rfl
  have HOO := Lib.hid hO
  clear hO
  generalize W3 = V3 at *
  go_cut [11] from 42 to 47 (fun x11 wx => ∃ g11 : Nat, x11 = .pointer (some ⟨g11, 0, none⟩) ∧ Below V3.heap.size V3 wx ∧ wx.heap[g11]? = some (.cells O.toArray 52 (0, 0)))
  case first =>
    have RL := range_of V.v.l
    have RM := range_of V.v.m
    have RK := range_of V.kb
    have RN := range_of V.nb
    have C9 := Of_c I L M K N ss vh css hs nx ms _ rss rq ds dv au code errs V3 V.ly V.a V.k hhl HFW.out V.n (by omega)
    rw [HO.out, HOO.out] at C9
    go_wp2_with (first
      | refine wpList_load_k 29 (.tmp 5) (by rfl) w.heap.size 0 (by rfl) L _ RL Tryz.underlying29 rfl szL (by kernel_rfl) ?_
      | refine wpList_load_k 35 (.tmp 6) (by rfl) (w.heap.size + 1) 0 (by rfl) M _ RM Tryz.underlying35 rfl szM (by kernel_rfl) ?_
      | refine wpList_load_k 41 (.tmp 7) (by rfl) (w.heap.size + 1 + 1) 0 (by rfl) K _ RK Tryz.underlying41 rfl szK (by kernel_rfl) ?_
      | refine wpList_load_k 50 (.tmp 8) (by rfl) (w.heap.size + 1 + 1 + 1) 0 (by rfl) N _ RN Tryz.underlying50 rfl szN (by kernel_rfl) ?_
      | fail)
    refine C9.mono ?_
    rintro e W6 ⟨rfl, b6⟩
    obtain ⟨Wn, hWn, X, bV, ths⟩ := newv (V := W6) O zc 52 lO
    have HWN := Lib.hid hWn
    have HX := Lib.hid X
    have HBV := Lib.hid (below_step b6 bV)
    clear hWn X bV C9 RL RM RK RN b6
    go_wp2_with (first
      | refine wpList_new (by rfl) 52 zs zc hzi hzc (by rfl) ?_
      | (refine wpList_store_mid rfl 52 (.tmp 11) (.tmp 47) (by rfl) W6.heap.size 0 O.toArray (by rfl) (by rfl) ths (by simpa using szo) oO ?_; rw [HWN.out])
      | fail)
    go_meet
    exact ⟨_, rfl, HBV.out, HX.out⟩
  case rest =>
    obtain ⟨g11, rfl, bF, h11⟩ := hcut
    replace V := V.later bF
    clear bF
    go_upto_region 4 with (fail)
    go_cut [12, 13] from 48 to 55 (fun x12 x13 wx => ∃ g12 : Nat, x12 = .pointer (some ⟨g12, 0, none⟩) ∧ x13 = .int .i64 0 ∧ Below wc.heap.size wc wx ∧ wx.heap[g12]? = some (.cells O.toArray 52 (0, 0)))
    case first =>
      have szo2 : (Tryz.prog.info? 52).map (·.size) = some O.toArray.size := by simpa using szo
      have CP := Lib.hid (fun (W : World) (h : LY W L I.kinds ss I.nsig I.clr I.st I.A I.c I.A1 I.c1) => HOO.out ▸ Put_c L I.kinds ss I.nsig I.clr I.st I.A I.c I.A1 I.c1 o W h HOK.out.c HK2.out)
      have en1 := Lib.hid (enters Tryz.func13 (by kernel_rfl) rfl)
      have en2 := Lib.hid (enters Tryz.func9 (by kernel_rfl) rfl)
      refine wp_region_held_drew (S := (fun w' => w'.rangeAt w.heap.size 0 L ∧ w'.rangeAt g11 0 O)) (by kernel_rfl) ?_ (fun hHeld => ?_)
      · exact ⟨range_of V.v.l, range_of h11⟩
      have Bb : Below wc.heap.size wc wc.drew := (Below.refl _ wc).drew
      generalize wc.drew = V1 at *
      refine wpAnyH_take (i := 0) (v := .agg (L : List Value).toArray) rfl (by kernel_rfl) (by kernel_rfl) (by kernel_rfl) (fun _ _ _ h => h) (yieldsIf_load_mid (by kernel_rfl) 29 (.tmp 5) (by kernel_rfl) (w.heap.size) 0 (by kernel_rfl) L _ (fun w' h => h.1) (by first | exact Tryz.underlying29) rfl (by first | assumption | (simp only [*]; kernel_rfl))) (by assumption) ?_
      try simp only [List.getElem_toArray, List.getElem_cons_succ, List.getElem_cons_zero, Act.put, List.setIfInBounds_toArray, List.set_cons_zero, List.set_cons_succ]
      refine wpAnyH_take (i := 1) (v := .agg (L : List Value).toArray) rfl (by kernel_rfl) (by kernel_rfl) (by kernel_rfl) (fun _ _ _ h => h) (yieldsIf_load_mid (by kernel_rfl) 29 (.tmp 5) (by kernel_rfl) (w.heap.size) 0 (by kernel_rfl) L _ (fun w' h => h.1) (by first | exact Tryz.underlying29) rfl (by first | assumption | (simp only [*]; kernel_rfl))) (by assumption) ?_
      try simp only [List.getElem_toArray, List.getElem_cons_succ, List.getElem_cons_zero, Act.put, List.setIfInBounds_toArray, List.set_cons_zero, List.set_cons_succ]
      refine wpAnyH_take (i := 2) (v := .agg (O : List Value).toArray) rfl (by kernel_rfl) (by kernel_rfl) (by kernel_rfl) (fun _ _ _ h => h) (yieldsIf_load_mid (by kernel_rfl) 52 (.tmp 11) (by kernel_rfl) (g11) 0 (by kernel_rfl) O _ (fun w' h => h.2) (by first | exact Tryz.underlying52) rfl (by first | assumption | (simp only [*]; kernel_rfl))) (by assumption) ?_
      try simp only [List.getElem_toArray, List.getElem_cons_succ, List.getElem_cons_zero, Act.put, List.setIfInBounds_toArray, List.set_cons_zero, List.set_cons_succ]
      clear hHeld
      refine wpAnyH_ready (rs := [3, 8]) (by kernel_rfl) (by simp) ?_
      refine AllReadyH.cons rfl (fun K hK => ?_) (AllReadyH.cons rfl (fun K hK => ?_) AllReadyH.nil)
      · skip
        refine Node.wp_fn 13 [.tmp 50, .tmp 51] _ [.agg L.toArray, .agg O.toArray] (by rfl) (by rfl) en1.out (CP.out _ (V.later Bb).ly) ?_
        rintro e V1 ⟨b, Ap, cp, Bp, rfl, ho, hh⟩
        refine ⟨_, rfl, ?_⟩
        have sp := sliceAt_of_own ho
        have HH := Lib.hid hh
        replace Bb := below_step Bb b
        try replace GZ := var_later GZ b
        clear b ho hh
        refine hK.out _ _ ⟨range_of (V.later Bb).v.l, range_of (var_later h11 Bb)⟩ (fun _ => ?_)
        clear hK K
        try simp only [List.getElem_toArray, List.getElem_cons_succ, List.getElem_cons_zero, Act.put, List.setIfInBounds_toArray, List.set_cons_zero, List.set_cons_succ]
        refine wpAnyH_ready (rs := [4, 8]) (by kernel_rfl) (by simp) ?_
        refine AllReadyH.cons rfl (fun K hK => ?_) (AllReadyH.cons rfl (fun K hK => ?_) AllReadyH.nil)
        · skip
          refine Node.wp_fn 9 [.tmp 49, .tmp 52] _ [.agg L.toArray, .slice Ap Bp.length cp] (by rfl) (by rfl) en2.out (Take_c L I.kinds ss I.nsig I.clr I.st I.A I.c I.A1 I.c1 (.slice Ap Bp.length cp) Bp _ (V.later Bb).ly HK2.out sp (by rw [put_len HH.out]; have := flds_le s0 I.kinds I.nsig; omega)) ?_
          rintro e V1 ⟨b, r, err, rfl, hT⟩
          obtain ⟨rfl, rfl⟩ : err = 0 ∧ r = o := by
            have hB : Bits.Holds Bp (fbits (flds (ofM I hs rq ds au code errs) I.kinds I.nsig)) := by rw [HO.out]; exact HH.out
            have := of_round I hs rq ds au code errs HC7.out HR7.out hB hT
            rw [HO.out] at this
            exact this
          refine ⟨_, rfl, ?_⟩
          rw [HOO.out]
          replace Bb := below_step Bb b
          try replace GZ := var_later GZ b
          clear b hT sp HH
          refine hK.out _ _ ⟨range_of (V.later Bb).v.l, range_of (var_later h11 Bb)⟩ (fun _ => ?_)
          clear hK K
          try simp only [List.getElem_toArray, List.getElem_cons_succ, List.getElem_cons_zero, Act.put, List.setIfInBounds_toArray, List.set_cons_zero, List.set_cons_succ]
          have hHeld : V1.rangeAt w.heap.size 0 L ∧ V1.rangeAt g11 0 O := ⟨range_of (V.later Bb).v.l, range_of (var_later h11 Bb)⟩
          refine wpAnyH_take (i := 5) (v := ?_) rfl (by kernel_rfl) (by kernel_rfl) (by kernel_rfl) (fun _ _ _ h => h) (Or.inl ⟨by kernel_rfl, ?_⟩) (by assumption) ?_
          rotate_left
          · intro w hSw
            try dsimp only at hSw
            go_simp
            try with_reducible rfl
          simp only [List.getElem_toArray, List.getElem_cons_succ, List.getElem_cons_zero, Act.put, List.setIfInBounds_toArray, List.set_cons_zero, List.set_cons_succ]
          refine wpAnyH_take (i := 6) (v := ?_) rfl (by kernel_rfl) (by kernel_rfl) (by kernel_rfl) (fun _ _ _ h => h) (Or.inl ⟨by kernel_rfl, ?_⟩) (by assumption) ?_
          rotate_left
          · intro w hSw
            try dsimp only at hSw
            go_simp
            try with_reducible rfl
          simp only [List.getElem_toArray, List.getElem_cons_succ, List.getElem_cons_zero, Act.put, List.setIfInBounds_toArray, List.set_cons_zero, List.set_cons_succ]
          refine wpAnyH_take (i := 7) (v := ?_) rfl (by kernel_rfl) (by kernel_rfl) (by kernel_rfl) (fun _ _ _ h => h) (Or.inl ⟨by kernel_rfl, ?_⟩) (by assumption) ?_
          rotate_left
          · intro w hSw
            try dsimp only at hSw
            go_simp
            try with_reducible rfl
          simp only [List.getElem_toArray, List.getElem_cons_succ, List.getElem_cons_zero, Act.put, List.setIfInBounds_toArray, List.set_cons_zero, List.set_cons_succ]
          clear hHeld
          refine wpAnyH_ready (rs := [8]) (by kernel_rfl) (by simp) ?_
          refine AllReadyH.cons rfl (fun K hK => ?_) AllReadyH.nil
          have GZ := new_at (w := V1) rfl (.cells zc 52)
          have b := below_new V1 (.cells zc 52)
          have hgz : wc.heap.size ≤ V1.heap.size := Bb.size
          refine Node.wp_new 52 zs zc hzi hzc (by rfl) ?_
          replace Bb := below_step Bb b
          try replace sp := sp.later b
          clear b
          generalize V1.heap.size = gz at *
          generalize V1.alloc (.cells zc 52) = V1 at *
          refine hK.out _ _ ⟨range_of (V.later Bb).v.l, range_of (var_later h11 Bb)⟩ (fun _ => ?_)
          clear hK K
          try simp only [List.getElem_toArray, List.getElem_cons_succ, List.getElem_cons_zero, Act.put, List.setIfInBounds_toArray, List.set_cons_zero, List.set_cons_succ]
          refine wpAnyH_ready (rs := [9]) (by kernel_rfl) (by simp) ?_
          refine AllReadyH.cons rfl (fun K hK => ?_) AllReadyH.nil
          obtain ⟨V', hW, F, b, far, ths⟩ := fill_new O GZ lO Bb hgz
          refine wp_store_mid 52 (.tmp 12) (.tmp 54) (by rfl) gz 0 O.toArray (by rfl) (by rfl) ths szo2 oO ?_
          rw [hW]
          clear hW ths far Bb GZ
          have Bb := b
          clear b
          generalize V' = V1 at *
          refine hK.out _ _ ⟨range_of (V.later Bb).v.l, range_of (var_later h11 Bb)⟩ (fun _ => ?_)
          clear hK K
          try simp only [List.getElem_toArray, List.getElem_cons_succ, List.getElem_cons_zero, Act.put, List.setIfInBounds_toArray, List.set_cons_zero, List.set_cons_succ]
          refine wpAnyH_ready (rs := [10]) (by kernel_rfl) (by simp) ?_
          refine AllReadyH.cons rfl (fun K hK => ?_) AllReadyH.nil
          refine Node.wp_set (.int .i64 0) (.tmp 55) (.inr rfl) (by rfl) ?_
          refine hK.out _ _ ⟨range_of (V.later Bb).v.l, range_of (var_later h11 Bb)⟩ (fun _ => ?_)
          clear hK K
          try simp only [List.getElem_toArray, List.getElem_cons_succ, List.getElem_cons_zero, Act.put, List.setIfInBounds_toArray, List.set_cons_zero, List.set_cons_succ]
          refine wpAnyH_done (by kernel_rfl) ?_ _
          go_wp2
          go_meet
          exact ⟨_, rfl, rfl, Bb, F⟩
        · skip
          have GZ := new_at (w := V1) rfl (.cells zc 52)
          have b := below_new V1 (.cells zc 52)
          have hgz : wc.heap.size ≤ V1.heap.size := Bb.size
          refine Node.wp_new 52 zs zc hzi hzc (by rfl) ?_
          replace Bb := below_step Bb b
          try replace sp := sp.later b
          clear b
          generalize V1.heap.size = gz at *
          generalize V1.alloc (.cells zc 52) = V1 at *
          refine hK.out _ _ ⟨range_of (V.later Bb).v.l, range_of (var_later h11 Bb)⟩ (fun _ => ?_)
          clear hK K
          try simp only [List.getElem_toArray, List.getElem_cons_succ, List.getElem_cons_zero, Act.put, List.setIfInBounds_toArray, List.set_cons_zero, List.set_cons_succ]
          refine wpAnyH_ready (rs := [4]) (by kernel_rfl) (by simp) ?_
          refine AllReadyH.cons rfl (fun K hK => ?_) AllReadyH.nil
          refine Node.wp_fn 9 [.tmp 49, .tmp 52] _ [.agg L.toArray, .slice Ap Bp.length cp] (by rfl) (by rfl) en2.out (Take_c L I.kinds ss I.nsig I.clr I.st I.A I.c I.A1 I.c1 (.slice Ap Bp.length cp) Bp _ (V.later Bb).ly HK2.out sp (by rw [put_len HH.out]; have := flds_le s0 I.kinds I.nsig; omega)) ?_
          rintro e V1 ⟨b, r, err, rfl, hT⟩
          obtain ⟨rfl, rfl⟩ : err = 0 ∧ r = o := by
            have hB : Bits.Holds Bp (fbits (flds (ofM I hs rq ds au code errs) I.kinds I.nsig)) := by rw [HO.out]; exact HH.out
            have := of_round I hs rq ds au code errs HC7.out HR7.out hB hT
            rw [HO.out] at this
            exact this
          refine ⟨_, rfl, ?_⟩
          rw [HOO.out]
          replace Bb := below_step Bb b
          try replace GZ := var_later GZ b
          clear b hT sp HH
          refine hK.out _ _ ⟨range_of (V.later Bb).v.l, range_of (var_later h11 Bb)⟩ (fun _ => ?_)
          clear hK K
          try simp only [List.getElem_toArray, List.getElem_cons_succ, List.getElem_cons_zero, Act.put, List.setIfInBounds_toArray, List.set_cons_zero, List.set_cons_succ]
          have hHeld : V1.rangeAt w.heap.size 0 L ∧ V1.rangeAt g11 0 O := ⟨range_of (V.later Bb).v.l, range_of (var_later h11 Bb)⟩
          refine wpAnyH_take (i := 5) (v := ?_) rfl (by kernel_rfl) (by kernel_rfl) (by kernel_rfl) (fun _ _ _ h => h) (Or.inl ⟨by kernel_rfl, ?_⟩) (by assumption) ?_
          rotate_left
          · intro w hSw
            try dsimp only at hSw
            go_simp
            try with_reducible rfl
          simp only [List.getElem_toArray, List.getElem_cons_succ, List.getElem_cons_zero, Act.put, List.setIfInBounds_toArray, List.set_cons_zero, List.set_cons_succ]
          refine wpAnyH_take (i := 6) (v := ?_) rfl (by kernel_rfl) (by kernel_rfl) (by kernel_rfl) (fun _ _ _ h => h) (Or.inl ⟨by kernel_rfl, ?_⟩) (by assumption) ?_
          rotate_left
          · intro w hSw
            try dsimp only at hSw
            go_simp
            try with_reducible rfl
          simp only [List.getElem_toArray, List.getElem_cons_succ, List.getElem_cons_zero, Act.put, List.setIfInBounds_toArray, List.set_cons_zero, List.set_cons_succ]
          refine wpAnyH_take (i := 7) (v := ?_) rfl (by kernel_rfl) (by kernel_rfl) (by kernel_rfl) (fun _ _ _ h => h) (Or.inl ⟨by kernel_rfl, ?_⟩) (by assumption) ?_
          rotate_left
          · intro w hSw
            try dsimp only at hSw
            go_simp
            try with_reducible rfl
          simp only [List.getElem_toArray, List.getElem_cons_succ, List.getElem_cons_zero, Act.put, List.setIfInBounds_toArray, List.set_cons_zero, List.set_cons_succ]
          clear hHeld
          refine wpAnyH_ready (rs := [9]) (by kernel_rfl) (by simp) ?_
          refine AllReadyH.cons rfl (fun K hK => ?_) AllReadyH.nil
          obtain ⟨V', hW, F, b, far, ths⟩ := fill_new O GZ lO Bb hgz
          refine wp_store_mid 52 (.tmp 12) (.tmp 54) (by rfl) gz 0 O.toArray (by rfl) (by rfl) ths szo2 oO ?_
          rw [hW]
          clear hW ths far Bb GZ
          have Bb := b
          clear b
          generalize V' = V1 at *
          refine hK.out _ _ ⟨range_of (V.later Bb).v.l, range_of (var_later h11 Bb)⟩ (fun _ => ?_)
          clear hK K
          try simp only [List.getElem_toArray, List.getElem_cons_succ, List.getElem_cons_zero, Act.put, List.setIfInBounds_toArray, List.set_cons_zero, List.set_cons_succ]
          refine wpAnyH_ready (rs := [10]) (by kernel_rfl) (by simp) ?_
          refine AllReadyH.cons rfl (fun K hK => ?_) AllReadyH.nil
          refine Node.wp_set (.int .i64 0) (.tmp 55) (.inr rfl) (by rfl) ?_
          refine hK.out _ _ ⟨range_of (V.later Bb).v.l, range_of (var_later h11 Bb)⟩ (fun _ => ?_)
          clear hK K
          try simp only [List.getElem_toArray, List.getElem_cons_succ, List.getElem_cons_zero, Act.put, List.setIfInBounds_toArray, List.set_cons_zero, List.set_cons_succ]
          refine wpAnyH_done (by kernel_rfl) ?_ _
          go_wp2
          go_meet
          exact ⟨_, rfl, rfl, Bb, F⟩
      · skip
        have GZ := new_at (w := V1) rfl (.cells zc 52)
        have b := below_new V1 (.cells zc 52)
        have hgz : wc.heap.size ≤ V1.heap.size := Bb.size
        refine Node.wp_new 52 zs zc hzi hzc (by rfl) ?_
        replace Bb := below_step Bb b
        try replace sp := sp.later b
        clear b
        generalize V1.heap.size = gz at *
        generalize V1.alloc (.cells zc 52) = V1 at *
        refine hK.out _ _ ⟨range_of (V.later Bb).v.l, range_of (var_later h11 Bb)⟩ (fun _ => ?_)
        clear hK K
        try simp only [List.getElem_toArray, List.getElem_cons_succ, List.getElem_cons_zero, Act.put, List.setIfInBounds_toArray, List.set_cons_zero, List.set_cons_succ]
        refine wpAnyH_ready (rs := [3]) (by kernel_rfl) (by simp) ?_
        refine AllReadyH.cons rfl (fun K hK => ?_) AllReadyH.nil
        refine Node.wp_fn 13 [.tmp 50, .tmp 51] _ [.agg L.toArray, .agg O.toArray] (by rfl) (by rfl) en1.out (CP.out _ (V.later Bb).ly) ?_
        rintro e V1 ⟨b, Ap, cp, Bp, rfl, ho, hh⟩
        refine ⟨_, rfl, ?_⟩
        have sp := sliceAt_of_own ho
        have HH := Lib.hid hh
        replace Bb := below_step Bb b
        try replace GZ := var_later GZ b
        clear b ho hh
        refine hK.out _ _ ⟨range_of (V.later Bb).v.l, range_of (var_later h11 Bb)⟩ (fun _ => ?_)
        clear hK K
        try simp only [List.getElem_toArray, List.getElem_cons_succ, List.getElem_cons_zero, Act.put, List.setIfInBounds_toArray, List.set_cons_zero, List.set_cons_succ]
        refine wpAnyH_ready (rs := [4]) (by kernel_rfl) (by simp) ?_
        refine AllReadyH.cons rfl (fun K hK => ?_) AllReadyH.nil
        refine Node.wp_fn 9 [.tmp 49, .tmp 52] _ [.agg L.toArray, .slice Ap Bp.length cp] (by rfl) (by rfl) en2.out (Take_c L I.kinds ss I.nsig I.clr I.st I.A I.c I.A1 I.c1 (.slice Ap Bp.length cp) Bp _ (V.later Bb).ly HK2.out sp (by rw [put_len HH.out]; have := flds_le s0 I.kinds I.nsig; omega)) ?_
        rintro e V1 ⟨b, r, err, rfl, hT⟩
        obtain ⟨rfl, rfl⟩ : err = 0 ∧ r = o := by
          have hB : Bits.Holds Bp (fbits (flds (ofM I hs rq ds au code errs) I.kinds I.nsig)) := by rw [HO.out]; exact HH.out
          have := of_round I hs rq ds au code errs HC7.out HR7.out hB hT
          rw [HO.out] at this
          exact this
        refine ⟨_, rfl, ?_⟩
        rw [HOO.out]
        replace Bb := below_step Bb b
        try replace GZ := var_later GZ b
        clear b hT sp HH
        refine hK.out _ _ ⟨range_of (V.later Bb).v.l, range_of (var_later h11 Bb)⟩ (fun _ => ?_)
        clear hK K
        try simp only [List.getElem_toArray, List.getElem_cons_succ, List.getElem_cons_zero, Act.put, List.setIfInBounds_toArray, List.set_cons_zero, List.set_cons_succ]
        have hHeld : V1.rangeAt w.heap.size 0 L ∧ V1.rangeAt g11 0 O := ⟨range_of (V.later Bb).v.l, range_of (var_later h11 Bb)⟩
        refine wpAnyH_take (i := 5) (v := ?_) rfl (by kernel_rfl) (by kernel_rfl) (by kernel_rfl) (fun _ _ _ h => h) (Or.inl ⟨by kernel_rfl, ?_⟩) (by assumption) ?_
        rotate_left
        · intro w hSw
          try dsimp only at hSw
          go_simp
          try with_reducible rfl
        simp only [List.getElem_toArray, List.getElem_cons_succ, List.getElem_cons_zero, Act.put, List.setIfInBounds_toArray, List.set_cons_zero, List.set_cons_succ]
        refine wpAnyH_take (i := 6) (v := ?_) rfl (by kernel_rfl) (by kernel_rfl) (by kernel_rfl) (fun _ _ _ h => h) (Or.inl ⟨by kernel_rfl, ?_⟩) (by assumption) ?_
        rotate_left
        · intro w hSw
          try dsimp only at hSw
          go_simp
          try with_reducible rfl
        simp only [List.getElem_toArray, List.getElem_cons_succ, List.getElem_cons_zero, Act.put, List.setIfInBounds_toArray, List.set_cons_zero, List.set_cons_succ]
        refine wpAnyH_take (i := 7) (v := ?_) rfl (by kernel_rfl) (by kernel_rfl) (by kernel_rfl) (fun _ _ _ h => h) (Or.inl ⟨by kernel_rfl, ?_⟩) (by assumption) ?_
        rotate_left
        · intro w hSw
          try dsimp only at hSw
          go_simp
          try with_reducible rfl
        simp only [List.getElem_toArray, List.getElem_cons_succ, List.getElem_cons_zero, Act.put, List.setIfInBounds_toArray, List.set_cons_zero, List.set_cons_succ]
        clear hHeld
        refine wpAnyH_ready (rs := [9]) (by kernel_rfl) (by simp) ?_
        refine AllReadyH.cons rfl (fun K hK => ?_) AllReadyH.nil
        obtain ⟨V', hW, F, b, far, ths⟩ := fill_new O GZ lO Bb hgz
        refine wp_store_mid 52 (.tmp 12) (.tmp 54) (by rfl) gz 0 O.toArray (by rfl) (by rfl) ths szo2 oO ?_
        rw [hW]
        clear hW ths far Bb GZ
        have Bb := b
        clear b
        generalize V' = V1 at *
        refine hK.out _ _ ⟨range_of (V.later Bb).v.l, range_of (var_later h11 Bb)⟩ (fun _ => ?_)
        clear hK K
        try simp only [List.getElem_toArray, List.getElem_cons_succ, List.getElem_cons_zero, Act.put, List.setIfInBounds_toArray, List.set_cons_zero, List.set_cons_succ]
        refine wpAnyH_ready (rs := [10]) (by kernel_rfl) (by simp) ?_
        refine AllReadyH.cons rfl (fun K hK => ?_) AllReadyH.nil
        refine Node.wp_set (.int .i64 0) (.tmp 55) (.inr rfl) (by rfl) ?_
        refine hK.out _ _ ⟨range_of (V.later Bb).v.l, range_of (var_later h11 Bb)⟩ (fun _ => ?_)
        clear hK K
        try simp only [List.getElem_toArray, List.getElem_cons_succ, List.getElem_cons_zero, Act.put, List.setIfInBounds_toArray, List.set_cons_zero, List.set_cons_succ]
        refine wpAnyH_done (by kernel_rfl) ?_ _
        go_wp2
        go_meet
        exact ⟨_, rfl, rfl, Bb, F⟩
    case rest =>
      obtain ⟨g12, rfl, rfl, bF, h12⟩ := hcut
      replace V := V.later bF
      replace h11 := var_later h11 bF
      clear bF
      go_upto_region 5 with (fail)
      go_cut [84] from 56 to 83 (fun x84 wx => x84 = .bool false ∧ wx = wc)
      case first =>
        have heS : ∀ W : World, (Op.equalIn 10000 52 (.agg O.toArray) (.agg O.toArray)).run Tryz.prog W = .ok true W := fun W => by rw [← HOO.out, eq_show _ _ HOK.out HOK.out W, decide_eq_true rfl]
        have R1 := range_of h11
        have R2 := range_of h12
        have hof := HO.out
        have x9 := cell_list h12 (i := 9) (v := .int .u8 code) (by rw [← HOO.out, ← hof]; rfl)
        have x10 := cell_list h12 (i := 10) (v := .int .i64 (rq.length : Int)) (by rw [← HOO.out, ← hof]; rfl)
        have x11 := cell_list h12 (i := 11) (v := .int .i64 (errs % 256)) (by rw [← HOO.out, ← hof]; rfl)
        have y5 := cell_list V.nb V.n.st
        have y44 := cell_list V.nb V.n.code
        rw [hrl] at y5
        have hrem : errs.tmod 256 = errs % 256 := Int.tmod_eq_emod_of_nonneg HE0.out
        clear hof
        go_wp2_with (first
          | refine wpList_load_k 52 (.tmp 12) (by rfl) g12 0 (by rfl) O _ R2 Tryz.underlying52 rfl szo (by kernel_rfl) ?_
          | refine wpList_load_k 52 (.tmp 11) (by rfl) g11 0 (by rfl) O _ R1 Tryz.underlying52 rfl szo (by kernel_rfl) ?_
          | fail)
        go_meet
        exact ⟨rfl, rfl⟩
      case rest =>
        obtain ⟨rfl, rfl⟩ := hcut
        clear h11
        go_upto_region 7 with (fail)
        obtain ⟨m1, hm1⟩ : ∃ m, min I.kinds.length 24 = m := ⟨_, rfl⟩
        obtain ⟨m2, hm2⟩ : ∃ m, min I.nsig 12 = m := ⟨_, rfl⟩
        have hmin1 : min ((I.kinds.length : Nat) : Int) 24 = (m1 : Int) := by omega
        have hmin2 : min ((I.nsig : Nat) : Int) 12 = (m2 : Int) := by omega
        have hm24 : m1 ≤ 24 := by omega
        have hm12 : m2 ≤ 12 := by omega
        have HM1 := Lib.hid hm1
        have HM2 := Lib.hid hm2
        clear hm1 hm2
        generalize wc = W7 at *
        go_wp2
        go_loopw [14] (fun iv wr => ∃ k : Nat, k ≤ m1 ∧ iv = .int .i64 k ∧ QV w wr I L M K N ss vh css hs nx ms (.slice Ar rss.length cr) rss rq ds dv au code ∧ wr.heap[g12]? = some (.cells O.toArray 52 (0, 0))) (fun iv _ => m1 - (intOf iv).toNat)
        case atStart => exact ⟨0, Nat.zero_le _, rfl, V, h12⟩
        case round =>
          clear V h12
          obtain ⟨k, hk, rfl, V, h12⟩ := hrel
          have y0 := cell_list V.v.l V.ly.f.sec
          by_cases hlt : k < m1
          · have i1 : (k : Int) < (m1 : Int) := by omega
            have i2 : decide (k < m1) = true := decide_eq_true hlt
            have hk2 : k < min I.kinds.length 24 := by have := HM1.out; omega
            have hst : SecTold I hs o k := by
              rw [← HO.out]
              exact ⟨of_clear I hs rq ds au code errs hk2, of_held I hs rq ds au code errs hk2, of_normal I hs rq ds au code errs hk2, of_reverse I hs rq ds au code errs hk2, of_locked I hs rq ds au code errs hk2⟩
            obtain ⟨oc, hoc⟩ : ∃ b, I.occB k = b := ⟨_, rfl⟩
            have hcl := hst.clear
            rw [hoc] at hcl
            have HCL := Lib.hid hcl.symm
            have HOC := Lib.hid hoc
            have HST := Lib.hid hst
            have HKK := Lib.hid hk2
            have k32 : k < 32 := by omega
            have HO0 := Lib.hid (show O[0]? = some (.int .u32 o.clear.toNat) by rw [← HOO.out]; rfl)
            clear hst hcl hoc hk2
            go_upto_region 10 with (fail)
            clear y0
            have x0 := cell_list h12 HO0.out
            have CS := Lib.hid (fun (W : World) (V : QV w W I L M K N ss vh css hs nx ms (.slice Ar rss.length cr) rss rq ds dv au code) => HOO.out ▸ section28_c I L M K ss vh css hs nx ms o k W HKK.out HST.out V.ly V.a V.k hhl HFW.out)
            refine wp_region_held_drew (S := (fun w' => w'.rangeAt w.heap.size 0 L ∧ w'.rangeAt (w.heap.size + 1) 0 M ∧ w'.rangeAt (w.heap.size + 1 + 1) 0 K ∧ w'.rangeAt g12 0 O ∧ w'.cell? ⟨g12, 0, none⟩ = some (.int .u32 o.clear.toNat))) (by kernel_rfl) ?_ (fun hHeld => ?_)
            · exact ⟨range_of V.v.l, range_of V.v.m, range_of V.kb, range_of h12, x0⟩
            have bd : Below wr.heap.size wr wr.drew := (Below.refl _ wr).drew
            replace V := V.later bd
            replace h12 := var_later h12 bd
            clear bd x0
            generalize wr.drew = X at *
            refine wpAnyH_take (i := 0) (v := .agg (L : List Value).toArray) rfl (by kernel_rfl) (by kernel_rfl) (by kernel_rfl) (fun _ _ _ h => h) (yieldsIf_load_mid (by kernel_rfl) 29 (.tmp 5) (by kernel_rfl) (w.heap.size) 0 (by kernel_rfl) L _ (fun w' h => h.1) (by first | exact Tryz.underlying29) rfl (by first | assumption | (simp only [*]; kernel_rfl))) (by assumption) ?_
            try simp only [List.getElem_toArray, List.getElem_cons_succ, List.getElem_cons_zero, Act.put, List.setIfInBounds_toArray, List.set_cons_zero, List.set_cons_succ]
            refine wpAnyH_take (i := 1) (v := .agg (M : List Value).toArray) rfl (by kernel_rfl) (by kernel_rfl) (by kernel_rfl) (fun _ _ _ h => h) (yieldsIf_load_mid (by kernel_rfl) 35 (.tmp 6) (by kernel_rfl) (w.heap.size + 1) 0 (by kernel_rfl) M _ (fun w' h => h.2.1) (by first | exact Tryz.underlying35) rfl (by first | assumption | (simp only [*]; kernel_rfl))) (by assumption) ?_
            try simp only [List.getElem_toArray, List.getElem_cons_succ, List.getElem_cons_zero, Act.put, List.setIfInBounds_toArray, List.set_cons_zero, List.set_cons_succ]
            refine wpAnyH_take (i := 2) (v := .agg (K : List Value).toArray) rfl (by kernel_rfl) (by kernel_rfl) (by kernel_rfl) (fun _ _ _ h => h) (yieldsIf_load_mid (by kernel_rfl) 41 (.tmp 7) (by kernel_rfl) (w.heap.size + 1 + 1) 0 (by kernel_rfl) K _ (fun w' h => h.2.2.1) (by first | exact Tryz.underlying41) rfl (by first | assumption | (simp only [*]; kernel_rfl))) (by assumption) ?_
            try simp only [List.getElem_toArray, List.getElem_cons_succ, List.getElem_cons_zero, Act.put, List.setIfInBounds_toArray, List.set_cons_zero, List.set_cons_succ]
            refine wpAnyH_take (i := 3) (v := .agg (O : List Value).toArray) rfl (by kernel_rfl) (by kernel_rfl) (by kernel_rfl) (fun _ _ _ h => h) (yieldsIf_load_mid (by kernel_rfl) 52 (.tmp 12) (by kernel_rfl) (g12) 0 (by kernel_rfl) O _ (fun w' h => h.2.2.2.1) (by first | exact Tryz.underlying52) rfl (by first | assumption | (simp only [*]; kernel_rfl))) (by assumption) ?_
            try simp only [List.getElem_toArray, List.getElem_cons_succ, List.getElem_cons_zero, Act.put, List.setIfInBounds_toArray, List.set_cons_zero, List.set_cons_succ]
            refine wpAnyH_take (i := 4) (v := ?_) rfl (by kernel_rfl) (by kernel_rfl) (by kernel_rfl) (fun _ _ _ h => h) (Or.inl ⟨by kernel_rfl, ?_⟩) (by assumption) ?_
            rotate_left
            · intro w hSw
              try dsimp only at hSw
              go_simp
              try with_reducible rfl
            simp only [List.getElem_toArray, List.getElem_cons_succ, List.getElem_cons_zero, Act.put, List.setIfInBounds_toArray, List.set_cons_zero, List.set_cons_succ]
            clear hHeld
            refine ready1 (i := 5) rfl (by kernel_rfl) (by kernel_rfl) (fun K' hK => ?_)
            refine Node.wp_fn 17 [.tmp 93, .tmp 94, .tmp 95, .tmp 96, .tmp 97] _ [.agg L.toArray, .agg M.toArray, .agg K.toArray, .agg O.toArray, .int .i64 k] (by rfl) (by kernel_rfl) (enters Tryz.func17 (by kernel_rfl) rfl) (CS.out _ V) ?_
            rintro e X2 ⟨rfl, bF⟩
            refine ⟨_, rfl, ?_⟩
            replace V := V.later bF
            replace h12 := var_later h12 bF
            clear bF
            refine hK.out _ _ ⟨range_of V.v.l, range_of V.v.m, range_of V.kb, range_of h12, cell_list h12 HO0.out⟩ (fun hHeld => ?_)
            clear hK K'
            try simp only [List.getElem_toArray, List.getElem_cons_succ, List.getElem_cons_zero, Act.put, List.setIfInBounds_toArray, List.set_cons_zero, List.set_cons_succ]
            refine wpAnyH_take (i := 6) (v := ?_) rfl (by kernel_rfl) (by kernel_rfl) (by kernel_rfl) (fun _ _ _ h => h) (Or.inl ⟨by kernel_rfl, ?_⟩) (by assumption) ?_
            rotate_left
            · intro w hSw
              try dsimp only at hSw
              go_simp
              try with_reducible rfl
            simp only [List.getElem_toArray, List.getElem_cons_succ, List.getElem_cons_zero, Act.put, List.setIfInBounds_toArray, List.set_cons_zero, List.set_cons_succ]
            refine wpAnyH_take (i := 7) (v := ?_) rfl (by kernel_rfl) (by kernel_rfl) (by kernel_rfl) (fun _ _ _ h => h) (Or.inl ⟨by kernel_rfl, ?_⟩) (by assumption) ?_
            rotate_left
            · intro w hSw
              try dsimp only at hSw
              go_simp
              try with_reducible rfl
            simp only [List.getElem_toArray, List.getElem_cons_succ, List.getElem_cons_zero, Act.put, List.setIfInBounds_toArray, List.set_cons_zero, List.set_cons_succ]
            refine wpAnyH_take (i := 8) (v := ?_) rfl (by kernel_rfl) (by kernel_rfl) (by kernel_rfl) (fun _ _ _ h => h) (Or.inl ⟨by kernel_rfl, ?_⟩) (by assumption) ?_
            rotate_left
            · intro w hSw
              try dsimp only at hSw
              go_simp
              try with_reducible rfl
            simp only [List.getElem_toArray, List.getElem_cons_succ, List.getElem_cons_zero, Act.put, List.setIfInBounds_toArray, List.set_cons_zero, List.set_cons_succ]
            refine wpAnyH_take (i := 9) (v := ?_) rfl (by kernel_rfl) (by kernel_rfl) (by kernel_rfl) (fun _ _ _ h => h) (Or.inl ⟨by kernel_rfl, ?_⟩) (by assumption) ?_
            rotate_left
            · intro w hSw
              try dsimp only at hSw
              go_simp
              try with_reducible rfl
            simp only [List.getElem_toArray, List.getElem_cons_succ, List.getElem_cons_zero, Act.put, List.setIfInBounds_toArray, List.set_cons_zero, List.set_cons_succ]
            refine wpAnyH_take (i := 10) (v := ?_) rfl (by kernel_rfl) (by kernel_rfl) (by kernel_rfl) (fun _ _ _ h => h) (Or.inl ⟨by kernel_rfl, ?_⟩) (by assumption) ?_
            rotate_left
            · intro w hSw
              try dsimp only at hSw
              go_simp
              try with_reducible rfl
            simp only [List.getElem_toArray, List.getElem_cons_succ, List.getElem_cons_zero, Act.put, List.setIfInBounds_toArray, List.set_cons_zero, List.set_cons_succ]
            refine wpAnyH_take (i := 12) (v := .agg (L : List Value).toArray) rfl (by kernel_rfl) (by kernel_rfl) (by kernel_rfl) (fun _ _ _ h => h) (yieldsIf_load_mid (by kernel_rfl) 29 (.tmp 5) (by kernel_rfl) (w.heap.size) 0 (by kernel_rfl) L _ (fun w' h => h.1) (by first | exact Tryz.underlying29) rfl (by first | assumption | (simp only [*]; kernel_rfl))) (by assumption) ?_
            try simp only [List.getElem_toArray, List.getElem_cons_succ, List.getElem_cons_zero, Act.put, List.setIfInBounds_toArray, List.set_cons_zero, List.set_cons_succ]
            refine wpAnyH_take (i := 13) (v := .agg (M : List Value).toArray) rfl (by kernel_rfl) (by kernel_rfl) (by kernel_rfl) (fun _ _ _ h => h) (yieldsIf_load_mid (by kernel_rfl) 35 (.tmp 6) (by kernel_rfl) (w.heap.size + 1) 0 (by kernel_rfl) M _ (fun w' h => h.2.1) (by first | exact Tryz.underlying35) rfl (by first | assumption | (simp only [*]; kernel_rfl))) (by assumption) ?_
            try simp only [List.getElem_toArray, List.getElem_cons_succ, List.getElem_cons_zero, Act.put, List.setIfInBounds_toArray, List.set_cons_zero, List.set_cons_succ]
            refine wpAnyH_take (i := 14) (v := ?_) rfl (by kernel_rfl) (by kernel_rfl) (by kernel_rfl) (fun _ _ _ h => h) (Or.inl ⟨by kernel_rfl, ?_⟩) (by assumption) ?_
            rotate_left
            · intro w hSw
              try dsimp only at hSw
              go_simp
              try with_reducible rfl
            simp only [List.getElem_toArray, List.getElem_cons_succ, List.getElem_cons_zero, Act.put, List.setIfInBounds_toArray, List.set_cons_zero, List.set_cons_succ]
            clear hHeld
            refine ready1 (i := 11) rfl (by kernel_rfl) (by kernel_rfl) (fun K' hK => ?_)
            refine Node.wp_fn 18 [.tmp 102, .tmp 103] _ [.int .u32 o.clear.toNat, .int .i64 k] (by rfl) (by kernel_rfl) (enters Tryz.func18 (by kernel_rfl) rfl) (bit28_c o.clear k (!oc) _ k32 HCL.out) ?_
            rintro e X3 ⟨rfl, rfl⟩
            refine ⟨_, rfl, ?_⟩
            refine hK.out _ _ ⟨range_of V.v.l, range_of V.v.m, range_of V.kb, range_of h12, cell_list h12 HO0.out⟩ (fun _ => ?_)
            clear hK K'
            try simp only [List.getElem_toArray, List.getElem_cons_succ, List.getElem_cons_zero, Act.put, List.setIfInBounds_toArray, List.set_cons_zero, List.set_cons_succ]
            refine ready1 (i := 15) rfl (by kernel_rfl) (by kernel_rfl) (fun K' hK => ?_)
            refine Node.wp_fn 19 [.tmp 105, .tmp 106, .tmp 107] _ [.agg L.toArray, .agg M.toArray, .int .i64 k] (by rfl) (by kernel_rfl) (enters Tryz.func19 (by kernel_rfl) rfl) (rocc_c I L M k oc _ HOC.out.symm V.a.f) ?_
            rintro e X4 ⟨rfl, bF⟩
            refine ⟨_, rfl, ?_⟩
            replace V := V.later bF
            replace h12 := var_later h12 bF
            clear bF
            refine hK.out _ _ ⟨range_of V.v.l, range_of V.v.m, range_of V.kb, range_of h12, cell_list h12 HO0.out⟩ (fun hHeld => ?_)
            clear hK K'
            try simp only [List.getElem_toArray, List.getElem_cons_succ, List.getElem_cons_zero, Act.put, List.setIfInBounds_toArray, List.set_cons_zero, List.set_cons_succ]
            refine wpAnyH_take (i := 16) (v := ?_) rfl (by kernel_rfl) (by kernel_rfl) (by kernel_rfl) (fun _ _ _ h => h) (Or.inl ⟨by kernel_rfl, ?_⟩) (by assumption) ?_
            rotate_left
            · intro w hSw
              try dsimp only at hSw
              go_simp
              try with_reducible rfl
            simp only [List.getElem_toArray, List.getElem_cons_succ, List.getElem_cons_zero, Act.put, List.setIfInBounds_toArray, List.set_cons_zero, List.set_cons_succ]
            refine wpAnyH_take (i := 17) (v := ?_) rfl (by kernel_rfl) (by kernel_rfl) (by kernel_rfl) (fun _ _ _ h => h) (Or.inl ⟨by kernel_rfl, ?_⟩) (by assumption) ?_
            rotate_left
            · intro w hSw
              try dsimp only at hSw
              go_simp
              try with_reducible rfl
            simp only [List.getElem_toArray, List.getElem_cons_succ, List.getElem_cons_zero, Act.put, List.setIfInBounds_toArray, List.set_cons_zero, List.set_cons_succ]
            clear hHeld
            refine wpAnyH_done (by kernel_rfl) ?_ _
            cases oc
            all_goals
              go_wp2
              go_roundw
              case rel => exact ⟨k + 1, by omega, by go_num, V, h12⟩
              case measure => simp [intOf]; omega
          · obtain rfl : k = m1 := by omega
            have i2 : decide (k < k) = false := decide_eq_false (by omega)
            go_upto_region 12 with (fail)
            clear y0 hmin1
            go_wp2
            go_loopw [15] (fun iv wj => ∃ j : Nat, j ≤ m2 ∧ iv = .int .i64 j ∧ QV w wj I L M K N ss vh css hs nx ms (.slice Ar rss.length cr) rss rq ds dv au code ∧ wj.heap[g12]? = some (.cells O.toArray 52 (0, 0))) (fun iv _ => m2 - (intOf iv).toNat)
            case atStart => exact ⟨0, Nat.zero_le _, rfl, V, h12⟩
            case round =>
              clear V h12
              obtain ⟨j, hj, rfl, V, h12⟩ := hrel
              have y1 := cell_list V.v.l V.ly.f.sig
              by_cases hlt2 : j < m2
              · have j1 : (j : Int) < (m2 : Int) := by omega
                have j2 : decide (j < m2) = true := decide_eq_true hlt2
                have hj2 : j < min I.nsig 12 := by have := HM2.out; omega
                have hsg : SigTold I hs rq ds au o j := by
                  rw [← HO.out]
                  exact ⟨(of_off I hs rq ds au code errs hj2).trans (sigW_bit _ (by omega) hs), of_steady I hs rq ds au code errs hj2, of_flash I hs rq ds au code errs hj2, of_autos I hs rq ds au code errs hj2⟩
                have HSG := Lib.hid hsg
                have hj12 : j < 12 := by omega
                clear hsg hj2
                have CG := signal28_c I L M K N vh css hs nx ms (.slice Ar rss.length cr) rss rq ds dv au code o j _ hj12 HSG.out V.a V.k V.n hhl HFW.out (by omega)
                rw [HOO.out] at CG
                have RL := range_of V.v.l
                have RM := range_of V.v.m
                have RK := range_of V.kb
                have RN := range_of V.nb
                have RO := range_of h12
                go_wp2_with (first
                  | refine wpList_load_k 29 (.tmp 5) (by rfl) w.heap.size 0 (by rfl) L _ RL Tryz.underlying29 rfl szL (by kernel_rfl) ?_
                  | refine wpList_load_k 35 (.tmp 6) (by rfl) (w.heap.size + 1) 0 (by rfl) M _ RM Tryz.underlying35 rfl szM (by kernel_rfl) ?_
                  | refine wpList_load_k 41 (.tmp 7) (by rfl) (w.heap.size + 1 + 1) 0 (by rfl) K _ RK Tryz.underlying41 rfl szK (by kernel_rfl) ?_
                  | refine wpList_load_k 50 (.tmp 8) (by rfl) (w.heap.size + 1 + 1 + 1) 0 (by rfl) N _ RN Tryz.underlying50 rfl szN (by kernel_rfl) ?_
                  | refine wpList_load_k 52 (.tmp 12) (by rfl) g12 0 (by rfl) O _ RO Tryz.underlying52 rfl szo (by kernel_rfl) ?_
                  | fail)
                refine CG.mono ?_
                rintro e X2 ⟨rfl, bF⟩
                replace V := V.later bF
                replace h12 := var_later h12 bF
                clear bF RL RM RK RN RO CG y1
                go_wp2
                go_roundw
                case rel => exact ⟨j + 1, by omega, by go_num, V, h12⟩
                case measure => simp [intOf]; omega
              · obtain rfl : j = m2 := by omega
                have j2 : decide (j < j) = false := decide_eq_false (by omega)
                go_wp2_with fail
                refine (wakes28_c _).mono ?_
                rintro e W4 ⟨rfl, b4⟩
                have B := below_step V.bel b4
                go_wp2
                go_ret
                exact ⟨rfl, B⟩

theorem own : ownKnob Tryz.prog.godebug = none := by kernel_rfl
theorem laidOut : laidOutB Tryz.prog = true := by kernel_rfl
noncomputable def wit (os : Os) : World := World.holding Tryz.prog os ⟨#[], #[], []⟩
set_option maxRecDepth 100000 in
theorem lifted (os : Os) (started : os.Started) (H : Type) (enc : TypeId × Value → H) (F : Stop.Interp) :
    ReturnsInHanded {} Tryz.checked os 4 .any ((OpenSpec.ofChange Rows.showHoldsSpec).preRow enc Tryz.prog Tryz.f4 Rows.showHoldsRow.domain false Rows.showHoldsRow.laid) (((OpenSpec.ofChange Rows.showHoldsSpec).at F).post enc Tryz.prog Tryz.f4 false true false false) := by
  obtain ⟨x, hx⟩ : ∃ x, DataW.whole enc Tryz.prog ((wit os).forCall (fun _ _ => 0) ⟨#[], #[.agg zLay, .agg zImg, .agg (kcL 0 (.slice none 0 0) machL).toArray, .agg (nxL 0 (.slice none 0 0) 0).toArray, .int .i64 0], []⟩).memory Tryz.f4.params.toList Rows.showHoldsSpec.vars false (#[.agg zLay, .agg zImg, .agg (kcL 0 (.slice none 0 0) machL).toArray, .agg (nxL 0 (.slice none 0 0) 0).toArray, .int .i64 0] : Array Value).toList 8 = some x := Option.isSome_iff_exists.1 (by kernel_rfl)
  refine Fr.lift (C := Tryz.checked) (s := OpenSpec.ofChange Rows.showHoldsSpec) own started (by kernel_rfl) Tryz.func4
    (witness_row_at (enc := enc) (C := Tryz.checked) false (wit os) #[.agg zLay, .agg zImg, .agg (kcL 0 (.slice none 0 0) machL).toArray, .agg (nxL 0 (.slice none 0 0) 0).toArray, .int .i64 0] rfl (by kernel_rfl) (by kernel_rfl) (by kernel_rfl)
      (OpenSpec.preRow_of_cond 8 hx rfl (fun k hk => by cases hk) (by kernel_rfl) (laidMet_of_run' 8 (by kernel_rfl) (by kernel_rfl))))
    laidOut (by kernel_rfl) rfl Tryz.underlying4 rfl rfl ?_ ?_
  · intro ds hds
    match ds, hds with
    | [_, _, _, _, _], _ => rfl
  · intro W base args ds before hval hA hlt _ hz hL
    rw [Tryz.params4] at hA hval
    obtain ⟨v0, vs0, d0, ds0, p0, q0, hargs, rfl, rfl, h0, r0⟩ := trodAll_cons hA
    obtain ⟨v1, vs1, d1, ds1, p1, q1, rfl, rfl, rfl, h1, r1⟩ := trodAll_cons r0
    obtain ⟨v2, vs2, d2, ds2, p2, q2, rfl, rfl, rfl, h2, r2⟩ := trodAll_cons r1
    obtain ⟨v3, vs3, d3, ds3, p3, q3, rfl, rfl, rfl, h3, r3⟩ := trodAll_cons r2
    obtain ⟨v4, vs4, d4, ds4, p4, q4, rfl, rfl, rfl, h4, r4⟩ := trodAll_cons r3
    obtain ⟨rfl, rfl, rfl⟩ := trodAll_nil r4
    obtain rfl : args = #[v0, v1, v2, v3, v4] := by cases args; simp_all
    obtain ⟨L, kinds, ss, lens, nsig, nfl, clr, st, A, c, A1, c1, A3, c3, ve, rfl, hLA, hk2⟩ := open_layoutK (hval 0 _ v0 rfl rfl) h0
    obtain ⟨M, age, free, occ, nor, rev, lam, rfl, hM, hag, hfr⟩ := open_image (hval 1 _ v1 rfl rfl) h1
    obtain ⟨K, vh, css, hs, nx, ms, rfl, hK⟩ := open_kernel (hval 2 _ v2 rfl rfl) h2
    obtain ⟨N, vr, rss, rq, dsk, dv, au, code, rfl, hN, hcd, hdv, hvs⟩ := open_nx (hval 3 _ v3 rfl rfl) h3
    obtain ⟨errs, rfl, rfl, rfl, w4⟩ := open_int Tryz.underlying3 (hval 4 _ v4 rfl rfl) h4
    exact walk ⟨kinds, nsig, clr, st, A, c, A1, c1, age, free, occ, nor, rev, lam⟩ L M K N ss nfl lens A3 c3 ve vh css hs nx ms vr rss rq dsk dv au code errs W ⟨hLA.f, hLA.sa, hLA.sl, hLA.sr⟩ ⟨⟨hLA.f, hM⟩, hLA.sa⟩ hK hN hLA.ex hLA.fl hLA.ea hk2 hcd hdv hvs

theorem said : Rows.ShowHoldsSaid :=
  OpenClaim.holds_of_cond 4 Tryz.f4 rfl rfl rfl rfl rfl rfl rfl ⟨rfl, rfl, rfl, rfl, rfl⟩ rfl rfl rfl rfl rfl (by kernel_rfl) Tryz.func4 (by kernel_rfl)
    (of_decide_eq_true (by kernel_rfl)) (by unfold Func.isWrapper; first | (rw [if_pos (by decide +kernel)]; kernel_rfl) | (rw [if_neg (by decide +kernel)]; exact ⟨rfl, rfl⟩))
    (fun os started H enc _ F => by rw [OpenClaim.pre_eq_preRow]; exact lifted os started H enc F)
#print axioms said
end Go.Proofs.YtbeijbhgpddbmaaGreat.showHolds
