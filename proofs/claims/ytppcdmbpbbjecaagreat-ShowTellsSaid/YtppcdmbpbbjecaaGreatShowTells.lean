/- ShowTells: for every argument the statement's Go text returns true and turns nothing that was there. It is proved at every argument, without a condition beyond the row. -/
import Derived.Test.YtppcdmbpbbjecaaGreatShZ
import Derived.Test.YtppcdmbpbbjecaaGreatShFin
import Derived.Test.YtppcdmbpbbjecaaGreatAspG8
import Derived.Test.YtppcdmbpbbjecaaGreatHoFew
import Derived.Test.YtppcdmbpbbjecaaGreatTeFinB
import Derived.Test.YtppcdmbpbbjecaaGreatFrame
import Derived.Deep.RegionHeld3
import Derived.Deep.CutRange
import Derived.Deep.DrawnRows
namespace Go.Proofs.YtppcdmbpbbjecaaGreat.showTells
open List renaming getElem_toArray → zA, getElem_cons_succ → zS, getElem_cons_zero → zZ, setIfInBounds_toArray → zP, set_cons_zero → zQ, set_cons_succ → zR
open Go.ChangeShapes Go.WideShapes Go.ChangeAt Go.RowKit Rf
attribute [local go_sem ↓] run_max2 run_min2
open Mem Bv AM SM Bits Str
/-- what the law knows, as a variable's worth -/
structure TV (w W : World) (I : IM) (L M K N S : List Value) (ss : List (List Value)) (vh : Value) (css : List (List Value)) (hs : List HeldM) (nx : Int) (ms : List (Int × Int × Bool)) (vr : Value) (rss : List (List Value)) (rq : List (Int × Nat)) (ds : Int) (dv : Nat) (au : BitVec 32) (code : Int) (u : Value) (pl : List (BitVec 8)) : Prop where
  bel : Below w.heap.size w W
  v : V2 W w.heap.size (w.heap.size + 1) L M
  kb : W.heap[w.heap.size + 1 + 1]? = some (.cells K.toArray 41 (0, 0))
  nb : W.heap[w.heap.size + 1 + 1 + 1]? = some (.cells N.toArray 50 (0, 0))
  sb : W.heap[w.heap.size + 1 + 1 + 1 + 1]? = some (.cells S.toArray 52 (0, 0))
  ly : LY W L I.kinds ss I.nsig I.clr I.st I.A I.c I.A1 I.c1
  a : IMA I L M W
  k : KerAt W K vh css hs nx ms
  n : NxAt W N vr rss rq ds dv au code
  up : SliceAt W 1 u pl.length (u8s pl)
theorem TV.later {w W W' : World} {I : IM} {L M K N S : List Value} {ss : List (List Value)} {vh : Value} {css : List (List Value)} {hs : List HeldM} {nx : Int} {ms : List (Int × Int × Bool)} {vr : Value} {rss : List (List Value)} {rq : List (Int × Nat)} {ds : Int} {dv : Nat} {au : BitVec 32} {code : Int} {u : Value} {pl : List (BitVec 8)} (h : TV w W I L M K N S ss vh css hs nx ms vr rss rq ds dv au code u pl) (b : Below W.heap.size W W') : TV w W' I L M K N S ss vh css hs nx ms vr rss rq ds dv au code u pl :=
  ⟨below_step h.bel b, h.v.later b, var_later h.kb b, var_later h.nb b, var_later h.sb b, h.ly.later b, h.a.later b, h.k.later b, h.n.later b, h.up.later b⟩
theorem takeR_det {pl : List (BitVec 8)} {kinds : List Int} {nsig : Nat} {s s' : ShowM} {e e' : Int} (h : TakeR pl kinds nsig s e) (h' : TakeR pl kinds nsig s' e') : s' = s ∧ e' = e := by
  rcases h with ⟨h1, h2, rfl, rfl⟩ | ⟨h1, rfl, rfl⟩ <;> rcases h' with ⟨g1, g2, rfl, rfl⟩ | ⟨g1, rfl, rfl⟩
  · exact ⟨rfl, rfl⟩
  · exact absurd ⟨h1, h2⟩ g1
  · exact absurd ⟨g1, g2⟩ h1
  · exact ⟨rfl, rfl⟩
theorem takeR_ok {pl : List (BitVec 8)} {kinds : List Int} {nsig : Nat} {s : ShowM} {e : Int} (h : TakeR pl kinds nsig s e) : ShOk s := by
  rcases h with ⟨h1, h2, h3, rfl⟩ | ⟨_, rfl, _⟩
  · obtain ⟨_, hd⟩ := taken (y := s) (.inl ⟨h1, h2, h3, rfl⟩)
    obtain ⟨n1, n2, n3, n4, n5, n6⟩ := taken_nums hd
    exact ⟨⟨by omega, by omega⟩, ⟨by omega, by omega⟩, ⟨by omega, by omega⟩⟩
  · exact ⟨by decide, by decide, by decide⟩
theorem of_both (I : IM) (L M K N : List Value) (ss : List (List Value)) (vh : Value) (css : List (List Value)) (hs : List HeldM) (nx : Int) (ms : List (Int × Int × Bool)) (vr : Value) (rss : List (List Value)) (rq : List (Int × Nat)) (ds : Int) (dv : Nat) (au : BitVec 32) (code errs : Int) (dead : Bool) (w : World)
    (hY : LY w L I.kinds ss I.nsig I.clr I.st I.A I.c I.A1 I.c1) (hA : IMA I L M w) (hK : KerAt w K vh css hs nx ms) (hlen : hs.length ≤ 5864062014700) (hsm : Few hs) (hN : NxAt w N vr rss rq ds dv au code) (hrq : rq.length ≤ 5864062014700) :
    Calls Tryz.prog 10 #[.agg L.toArray, .agg M.toArray, .agg K.toArray, .agg N.toArray, .int .i64 errs, .bool dead] w fun e w' => e = .returned (.agg (showL (if dead then s0 else ofM I hs rq ds au code errs)).toArray) ∧ Below w.heap.size w w' := by
  cases dead
  · exact Of_c I L M K N ss vh css hs nx ms vr rss rq ds dv au code errs w hY hA hK hlen hsm hN hrq
  · exact Of_dead L M K N errs w
set_option maxHeartbeats 16000000 in
set_option maxRecDepth 100000 in
theorem walk (I : IM) (L M K N : List Value) (s : ShowM) (ss : List (List Value)) (nfl : Nat) (lens : List Nat) (A3 : Option Addr) (c3 : Nat) (ve : Value) (vh : Value) (css : List (List Value)) (hs : List HeldM) (nx : Int) (ms : List (Int × Int × Bool)) (vr : Value) (rss : List (List Value)) (rq : List (Int × Nat)) (ds : Int) (dv : Nat) (au : BitVec 32) (code errs : Int) (dead : Bool) (u : Value) (pl : List (BitVec 8)) (w : World)
    (hY : LY w L I.kinds ss I.nsig I.clr I.st I.A I.c I.A1 I.c1) (hA : IMA I L M w) (hK : KerAt w K vh css hs nx ms) (hN : NxAt w N vr rss rq ds dv au code) (h2 : L[2]? = some ve) (h3 : L[3]? = some (.slice A3 nfl c3)) (hE : ExsAt w ve lens) (hk2 : ∀ z ∈ I.kinds, 0 ≤ z ∧ z ≤ 255) (hcd : 0 ≤ code ∧ code ≤ 255) (hdv : dv ≤ 9223372036854775807) (hvs : ∀ r ∈ rq, r.2 ≤ 9223372036854775807) (hu : SliceAt w 1 u pl.length (u8s pl)) (hok : ShOk s) :
    Calls Tryz.prog 3 #[.agg L.toArray, .agg M.toArray, .agg K.toArray, .agg N.toArray, .int .i64 errs, .bool dead, .agg (showL s).toArray, u] w fun e w' => e = .returned (.bool true) ∧ Below w.heap.size w w' := by
  have szL := lay_size hA.f.l.len
  have szM := img_size hA.f.m.len
  have szK := ker_size hK.len
  have szN := nx_size hN.len
  obtain ⟨S, hS⟩ : ∃ S, showL s = S := ⟨_, rfl⟩
  have szS : (Tryz.prog.info? 52).map (·.size) = some S.length := by rw [← hS]; exact show_size _
  rw [hS]
  obtain ⟨W0, hW0⟩ : ∃ W0, ((((w.alloc (.cells L.toArray 29)).alloc (.cells M.toArray 35)).alloc (.cells K.toArray 41)).alloc (.cells N.toArray 50)).alloc (.cells S.toArray 52) = W0 := ⟨_, rfl⟩
  have B0 : Below w.heap.size w W0 := by rw [← hW0]; exact below_step (below_step (below_step (below_step (below_new _ _) (below_new _ _)) (below_new _ _)) (below_new _ _)) (below_new _ _)
  have V : TV w W0 I L M K N S ss vh css hs nx ms vr rss rq ds dv au code u pl := ⟨B0, by rw [← hW0]; exact ⟨old_at (old_at (old_at (old_at (new_at rfl _) _) _) _) _, old_at (old_at (old_at (new_at (by simp) _) _) _) _⟩, by rw [← hW0]; exact old_at (old_at (new_at (by simp) _) _) _, by rw [← hW0]; exact old_at (new_at (by simp) _) _, by rw [← hW0]; exact new_at (by simp) _, hY.later B0, hA.later B0, hK.later B0, hN.later B0, hu.later B0⟩
  have HE := Lib.hid (hE.later B0)
  have HV := Lib.hid (And.intro hdv hvs)
  have HK2 := Lib.hid hk2
  have HCD := Lib.hid hcd
  have HOK := Lib.hid hok
  have HSS := Lib.hid hS
  obtain ⟨Au, cu, rfl, _⟩ := hu.form
  clear hA hK hN hY hE B0 hdv hvs hk2 hcd hok hS hu
  obtain ⟨zs, hzi, hzs⟩ := show_zero
  obtain ⟨zc, hzc⟩ : ∃ zc, zs.cells = zc := ⟨_, rfl⟩
  rw [hzc] at hzs
  go_enter Tryz.func3, Tryz.ntmps3
  go_upto_region 1 with (fail)
  generalize ((((w.alloc (.cells L.toArray 29)).alloc (.cells M.toArray 35)).alloc (.cells K.toArray 41)).alloc (.cells N.toArray 50)).alloc (.cells S.toArray 52) = W0' at *
  subst hW0
  have RL := range_of V.v.l
  go_wp2_with (first | refine wpList_load_k 29 (.tmp 8) (by rfl) w.heap.size 0 (by rfl) L _ RL Tryz.underlying29 rfl szL (by kernel_rfl) ?_ | fail)
  refine (Great_c L I.kinds.length I.nsig nfl lens I.A I.A1 A3 I.c I.c1 c3 ve _ V.a.f.l.sec V.a.f.l.sig h2 h3 HE.out).mono ?_
  rintro e W1 ⟨he, b1⟩
  obtain ⟨g1, hg1⟩ : ∃ g, greatV I.kinds.length I.nsig nfl lens = g := ⟨_, rfl⟩
  rw [hg1] at he
  subst he
  replace V := V.later b1
  clear b1 hg1 RL
  cases g1
  rotate_left
  · go_wp2_with fail
    refine (wakes28_c _).mono ?_
    rintro e W9 ⟨rfl, b9⟩
    have B := below_step V.bel b9
    go_wp2
    go_ret
    exact ⟨rfl, B⟩
  have RK := range_of V.kb
  go_wp2_with (first | refine wpList_load_k 41 (.tmp 10) (by rfl) (w.heap.size + 1 + 1) 0 (by rfl) K _ RK Tryz.underlying41 rfl szK (by kernel_rfl) ?_ | fail)
  refine (Great18_c K vh css hs nx ms _ V.k).mono ?_
  rintro e W2 ⟨b2, g2, rfl, hsm⟩
  replace V := V.later b2
  clear b2 RK
  have HSM := Lib.hid hsm
  clear hsm
  cases g2
  rotate_left
  · go_wp2_with fail
    refine (wakes28_c _).mono ?_
    rintro e W9 ⟨rfl, b9⟩
    have B := below_step V.bel b9
    go_wp2
    go_ret
    exact ⟨rfl, B⟩
  have RN := range_of V.nb
  go_wp2_with (first | refine wpList_load_k 50 (.tmp 11) (by rfl) (w.heap.size + 1 + 1 + 1) 0 (by rfl) N _ RN Tryz.underlying50 rfl szN (by kernel_rfl) ?_ | fail)
  refine (great28_c N vr rss rq ds dv au code _ V.n HV.out.1 HV.out.2).mono ?_
  rintro e W3 ⟨b3, g3, rfl, hgr⟩
  replace V := V.later b3
  clear b3 RN
  have HGR := Lib.hid hgr
  clear hgr
  cases g3
  rotate_left
  · go_wp2_with fail
    refine (wakes28_c _).mono ?_
    rintro e W9 ⟨rfl, b9⟩
    have B := below_step V.bel b9
    go_wp2
    go_ret
    exact ⟨rfl, B⟩
  by_cases h60 : 60 < pl.length
  · have q1 : decide ((60 : Int) < (pl.length : Int)) = true := decide_eq_true (by omega)
    clear h60
    go_wp2_with fail
    refine (wakes28_c _).mono ?_
    rintro e W9 ⟨rfl, b9⟩
    have B := below_step V.bel b9
    go_wp2
    go_ret
    exact ⟨rfl, B⟩
  have q1 : decide ((60 : Int) < (pl.length : Int)) = false := decide_eq_false (by omega)
  have HPL : Hid (pl.length ≤ 60) := Lib.hid (by omega)
  clear h60
  obtain ⟨hl10, hsm⟩ := HSM.out trivial
  have hrq20 := HGR.out rfl
  have hfew : Few hs := fun h hh => by obtain ⟨a1, a2, a3⟩ := hsm h hh; exact ⟨by omega, by omega, by omega⟩
  have HFW := Lib.hid hfew
  have hhl : hs.length ≤ 5864062014700 := by have := V.k.hs.len; omega
  have HHL := Lib.hid hhl
  have HRQ := Lib.hid hrq20
  clear HSM HGR hsm hfew hl10 hrq20 hhl
  go_upto_region 3 with (fail)
  clear q1
  generalize W3 = V3 at *
  go_cut [17, 18] from 37 to 42 (fun xa xb wx => ∃ (g : Nat) (y : ShowM) (h : Int), xa = .pointer (some ⟨g, 0, none⟩) ∧ xb = .int .i64 h ∧ Below V3.heap.size V3 wx ∧ wx.heap[g]? = some (.cells (showL y).toArray 52 (0, 0)) ∧ TakeR pl I.kinds I.nsig y h)
  case first =>
    have RL := range_of V.v.l
    have CP := Take_c L I.kinds ss I.nsig I.clr I.st I.A I.c I.A1 I.c1 (.slice Au pl.length cu) pl V3 V.ly HK2.out V.up (by have := HPL.out; omega)
    go_wp2_with (first | refine wpList_load_k 29 (.tmp 8) (by rfl) w.heap.size 0 (by rfl) L _ RL Tryz.underlying29 rfl szL (by kernel_rfl) ?_ | fail)
    refine CP.mono ?_
    rintro e W2 ⟨b2, y, err, rfl, ht⟩
    obtain ⟨X, hX⟩ : ∃ X, showL y = X := ⟨_, rfl⟩
    rw [hX]
    have szx : (Tryz.prog.info? 52).map (·.size) = some X.length := by rw [← hX]; exact show_size _
    have oX : X.toArray.all (·.oneCell') = true := all_one (by rw [← hX]; exact show_one _)
    have lX : X.length = zc.size := by rw [hzs, ← hX]; rfl
    have HXX := Lib.hid hX
    have HT := Lib.hid ht
    clear hX ht
    obtain ⟨Wn, hWn, XX, bV, ths⟩ := newv (V := W2) X zc 52 lX
    have HWN := Lib.hid hWn
    have HX := Lib.hid XX
    have HBV := Lib.hid (below_step b2 bV)
    clear hWn XX bV CP RL b2
    go_wp2_with (first
      | refine wpList_new (by rfl) 52 zs zc hzi hzc (by rfl) ?_
      | (refine wpList_store_mid rfl 52 (.tmp 17) (.tmp 41) (by rfl) W2.heap.size 0 X.toArray (by rfl) (by rfl) ths (by simpa using szx) oX ?_; rw [HWN.out])
      | fail)
    go_meet
    exact ⟨_, y, err, rfl, rfl, HBV.out, HXX.out ▸ HX.out, HT.out⟩
  case rest =>
    obtain ⟨ga, ya, ea, rfl, rfl, bF, h17, hta⟩ := hcut
    replace V := V.later bF
    have HTA := Lib.hid hta
    clear bF hta
    go_upto_region 4 with (fail)
    go_cut [19, 20] from 43 to 48 (fun xa xb wx => ∃ (g : Nat) (y : ShowM) (h : Int), xa = .pointer (some ⟨g, 0, none⟩) ∧ xb = .int .i64 h ∧ Below wc.heap.size wc wx ∧ wx.heap[g]? = some (.cells (showL y).toArray 52 (0, 0)) ∧ TakeR pl I.kinds I.nsig y h)
    case first =>
      have RL := range_of V.v.l
      have CP := refTake28_c L I.kinds ss I.nsig I.clr I.st I.A I.c I.A1 I.c1 (.slice Au pl.length cu) pl wc V.ly V.up (by have := HPL.out; omega)
      go_wp2_with (first | refine wpList_load_k 29 (.tmp 8) (by rfl) w.heap.size 0 (by rfl) L _ RL Tryz.underlying29 rfl szL (by kernel_rfl) ?_ | fail)
      refine CP.mono ?_
      rintro e W2 ⟨b2, y, err, rfl, ht⟩
      obtain ⟨X, hX⟩ : ∃ X, showL y = X := ⟨_, rfl⟩
      rw [hX]
      have szx : (Tryz.prog.info? 52).map (·.size) = some X.length := by rw [← hX]; exact show_size _
      have oX : X.toArray.all (·.oneCell') = true := all_one (by rw [← hX]; exact show_one _)
      have lX : X.length = zc.size := by rw [hzs, ← hX]; rfl
      have HXX := Lib.hid hX
      have HT := Lib.hid ht
      clear hX ht
      obtain ⟨Wn, hWn, XX, bV, ths⟩ := newv (V := W2) X zc 52 lX
      have HWN := Lib.hid hWn
      have HX := Lib.hid XX
      have HBV := Lib.hid (below_step b2 bV)
      clear hWn XX bV CP RL b2
      go_wp2_with (first
        | refine wpList_new (by rfl) 52 zs zc hzi hzc (by rfl) ?_
        | (refine wpList_store_mid rfl 52 (.tmp 19) (.tmp 47) (by rfl) W2.heap.size 0 X.toArray (by rfl) (by rfl) ths (by simpa using szx) oX ?_; rw [HWN.out])
        | fail)
      go_meet
      exact ⟨_, y, err, rfl, rfl, HBV.out, HXX.out ▸ HX.out, HT.out⟩
    case rest =>
      obtain ⟨gb, yb, eb, rfl, rfl, bF, h19, htb⟩ := hcut
      replace V := V.later bF
      replace h17 := var_later h17 bF
      obtain ⟨rfl, rfl⟩ := takeR_det HTA.out htb
      clear bF htb
      have hoky := takeR_ok HTA.out
      obtain ⟨Y, hY⟩ : ∃ Y, showL yb = Y := ⟨_, rfl⟩
      rw [hY] at h17 h19
      have szy : (Tryz.prog.info? 52).map (·.size) = some Y.length := by rw [← hY]; exact show_size _
      have heY : ∀ W : World, (Op.equalIn 10000 52 (.agg Y.toArray) (.agg Y.toArray)).run Tryz.prog W = .ok true W := fun W => by rw [← hY, eq_show _ _ hoky hoky W, decide_eq_true rfl]
      clear hY hoky
      obtain ⟨o, ho⟩ : ∃ o, (if dead then s0 else ofM I hs rq ds au code errs) = o := ⟨_, rfl⟩
      have hok : ShOk o := by
        rw [← ho]
        have hrl := HRQ.out
        cases dead
        · exact ⟨⟨HCD.out.1, HCD.out.2⟩, ⟨by show -9223372036854775808 ≤ (rq.length : Int); omega, by show (rq.length : Int) ≤ 9223372036854775807; omega⟩, ⟨by show -9223372036854775808 ≤ errs % 256; omega, by show errs % 256 ≤ 9223372036854775807; omega⟩⟩
        · exact (show ShOk s0 from ⟨by decide, by decide, by decide⟩)
      have HOF := Lib.hid ho
      obtain ⟨O, hO⟩ : ∃ O, showL o = O := ⟨_, rfl⟩
      have heO : ∀ W : World, (Op.equalIn 10000 52 (.agg O.toArray) (.agg O.toArray)).run Tryz.prog W = .ok true W := fun W => by rw [← hO, eq_show _ _ hok hok W, decide_eq_true rfl]
      have C1 := Lib.hid (fun (W : World) (V : TV w W I L M K N S ss vh css hs nx ms vr rss rq ds dv au code (.slice Au pl.length cu) pl) => hO ▸ ho ▸ of_both I L M K N ss vh css hs nx ms vr rss rq ds dv au code errs dead W V.ly V.a V.k HHL.out HFW.out V.n (by have := HRQ.out; omega))
      have C2 := Lib.hid (fun (W : World) (V : TV w W I L M K N S ss vh css hs nx ms vr rss rq ds dv au code (.slice Au pl.length cu) pl) => hO ▸ ho ▸ refOf28_c I L M K N ss vh css hs nx ms vr rss rq ds dv au code errs dead W V.ly V.a V.k HHL.out HFW.out V.n (by have := HRQ.out; omega))
      have C3 := Lib.hid (fun (W : World) (h : LY W L I.kinds ss I.nsig I.clr I.st I.A I.c I.A1 I.c1) => HSS.out ▸ Put_c L I.kinds ss I.nsig I.clr I.st I.A I.c I.A1 I.c1 s W h HOK.out.c HK2.out)
      have C4 := Lib.hid (fun (W : World) (h : LY W L I.kinds ss I.nsig I.clr I.st I.A I.c I.A1 I.c1) => HSS.out ▸ refPut28_c L I.kinds ss I.nsig I.clr I.st I.A I.c I.A1 I.c1 s W h HOK.out.c)
      obtain ⟨sz, hsz⟩ : ∃ z : Int, (((sumW (flds s0 I.kinds I.nsig) + 7) / 8 : Nat) : Int) = z := ⟨_, rfl⟩
      have C5 := Lib.hid (fun (W : World) (h : LY W L I.kinds ss I.nsig I.clr I.st I.A I.c I.A1 I.c1) => Size_c L I.kinds ss I.nsig I.clr I.st I.A I.c I.A1 I.c1 sz W hsz.symm h HK2.out)
      have C6 := Lib.hid (fun (W : World) (h : LY W L I.kinds ss I.nsig I.clr I.st I.A I.c I.A1 I.c1) => refSize28_c L I.kinds ss I.nsig I.clr I.st I.A I.c I.A1 I.c1 sz W hsz.symm h)
      clear hok ho hO hsz
      go_upto_region 5 with (fail)
      refine wp_region_held_drew (S := (fun w' => w'.rangeAt w.heap.size 0 L ∧ w'.rangeAt (w.heap.size + 1) 0 M ∧ w'.rangeAt (w.heap.size + 1 + 1) 0 K ∧ w'.rangeAt (w.heap.size + 1 + 1 + 1) 0 N ∧ w'.rangeAt (w.heap.size + 1 + 1 + 1 + 1) 0 S ∧ w'.rangeAt ga 0 Y ∧ w'.rangeAt gb 0 Y)) (by kernel_rfl) ?_ (fun hHeld => ?_)
      · exact ⟨range_of V.v.l, range_of V.v.m, range_of V.kb, range_of V.nb, range_of V.sb, range_of h17, range_of h19⟩
      replace V := V.later (Below.refl _ _).drew
      replace h17 := var_later h17 (Below.refl _ _).drew
      replace h19 := var_later h19 (Below.refl _ _).drew
      refine wpAnyH_take (i := 0) (v := .agg (L : List Value).toArray) rfl (by kernel_rfl) (by kernel_rfl) (by kernel_rfl) (fun _ _ _ h => h) (yieldsIf_load_mid (by kernel_rfl) 29 (.tmp 8) (by kernel_rfl) (w.heap.size) 0 (by kernel_rfl) L _ (fun w' h => h.1) (by first | exact Tryz.underlying29) rfl (by first | assumption | (simp only [*]; kernel_rfl))) (by assumption) ?_
      try simp only [zA, zS, zZ, Act.put, zP, zQ, zR]
      refine wpAnyH_take (i := 1) (v := .agg (M : List Value).toArray) rfl (by kernel_rfl) (by kernel_rfl) (by kernel_rfl) (fun _ _ _ h => h) (yieldsIf_load_mid (by kernel_rfl) 35 (.tmp 9) (by kernel_rfl) (w.heap.size + 1) 0 (by kernel_rfl) M _ (fun w' h => h.2.1) (by first | exact Tryz.underlying35) rfl (by first | assumption | (simp only [*]; kernel_rfl))) (by assumption) ?_
      try simp only [zA, zS, zZ, Act.put, zP, zQ, zR]
      refine wpAnyH_take (i := 2) (v := .agg (K : List Value).toArray) rfl (by kernel_rfl) (by kernel_rfl) (by kernel_rfl) (fun _ _ _ h => h) (yieldsIf_load_mid (by kernel_rfl) 41 (.tmp 10) (by kernel_rfl) (w.heap.size + 1 + 1) 0 (by kernel_rfl) K _ (fun w' h => h.2.2.1) (by first | exact Tryz.underlying41) rfl (by first | assumption | (simp only [*]; kernel_rfl))) (by assumption) ?_
      try simp only [zA, zS, zZ, Act.put, zP, zQ, zR]
      refine wpAnyH_take (i := 3) (v := .agg (N : List Value).toArray) rfl (by kernel_rfl) (by kernel_rfl) (by kernel_rfl) (fun _ _ _ h => h) (yieldsIf_load_mid (by kernel_rfl) 50 (.tmp 11) (by kernel_rfl) (w.heap.size + 1 + 1 + 1) 0 (by kernel_rfl) N _ (fun w' h => h.2.2.2.1) (by first | exact Tryz.underlying50) rfl (by first | assumption | (simp only [*]; kernel_rfl))) (by assumption) ?_
      try simp only [zA, zS, zZ, Act.put, zP, zQ, zR]
      refine Node.tk 4 ?_ rfl ?_ ?_
      rotate_left
      · intro w hSw; (try dsimp only at hSw); go_simp; try with_reducible rfl
      simp only [zA, zS, zZ, Act.put, zP, zQ, zR]
      refine Node.tk 5 ?_ rfl ?_ ?_
      rotate_left
      · intro w hSw; (try dsimp only at hSw); go_simp; try with_reducible rfl
      simp only [zA, zS, zZ, Act.put, zP, zQ, zR]
      refine wpAnyH_take (i := 7) (v := .agg (L : List Value).toArray) rfl (by kernel_rfl) (by kernel_rfl) (by kernel_rfl) (fun _ _ _ h => h) (yieldsIf_load_mid (by kernel_rfl) 29 (.tmp 8) (by kernel_rfl) (w.heap.size) 0 (by kernel_rfl) L _ (fun w' h => h.1) (by first | exact Tryz.underlying29) rfl (by first | assumption | (simp only [*]; kernel_rfl))) (by assumption) ?_
      try simp only [zA, zS, zZ, Act.put, zP, zQ, zR]
      refine wpAnyH_take (i := 8) (v := .agg (M : List Value).toArray) rfl (by kernel_rfl) (by kernel_rfl) (by kernel_rfl) (fun _ _ _ h => h) (yieldsIf_load_mid (by kernel_rfl) 35 (.tmp 9) (by kernel_rfl) (w.heap.size + 1) 0 (by kernel_rfl) M _ (fun w' h => h.2.1) (by first | exact Tryz.underlying35) rfl (by first | assumption | (simp only [*]; kernel_rfl))) (by assumption) ?_
      try simp only [zA, zS, zZ, Act.put, zP, zQ, zR]
      refine wpAnyH_take (i := 9) (v := .agg (K : List Value).toArray) rfl (by kernel_rfl) (by kernel_rfl) (by kernel_rfl) (fun _ _ _ h => h) (yieldsIf_load_mid (by kernel_rfl) 41 (.tmp 10) (by kernel_rfl) (w.heap.size + 1 + 1) 0 (by kernel_rfl) K _ (fun w' h => h.2.2.1) (by first | exact Tryz.underlying41) rfl (by first | assumption | (simp only [*]; kernel_rfl))) (by assumption) ?_
      try simp only [zA, zS, zZ, Act.put, zP, zQ, zR]
      refine wpAnyH_take (i := 10) (v := .agg (N : List Value).toArray) rfl (by kernel_rfl) (by kernel_rfl) (by kernel_rfl) (fun _ _ _ h => h) (yieldsIf_load_mid (by kernel_rfl) 50 (.tmp 11) (by kernel_rfl) (w.heap.size + 1 + 1 + 1) 0 (by kernel_rfl) N _ (fun w' h => h.2.2.2.1) (by first | exact Tryz.underlying50) rfl (by first | assumption | (simp only [*]; kernel_rfl))) (by assumption) ?_
      try simp only [zA, zS, zZ, Act.put, zP, zQ, zR]
      refine Node.tk 11 ?_ rfl ?_ ?_
      rotate_left
      · intro w hSw; (try dsimp only at hSw); go_simp; try with_reducible rfl
      simp only [zA, zS, zZ, Act.put, zP, zQ, zR]
      refine Node.tk 12 ?_ rfl ?_ ?_
      rotate_left
      · intro w hSw; (try dsimp only at hSw); go_simp; try with_reducible rfl
      simp only [zA, zS, zZ, Act.put, zP, zQ, zR]
      clear hHeld
      refine ready1 (i := 6) rfl (by kernel_rfl) (by kernel_rfl) (fun K' hK => ?_)
      refine Node.wp_fn 10 [.tmp 49, .tmp 50, .tmp 51, .tmp 52, .tmp 53, .tmp 54] _ [.agg L.toArray, .agg M.toArray, .agg K.toArray, .agg N.toArray, .int .i64 errs, .bool dead] (by rfl) (by kernel_rfl) (enters Tryz.func10 (by kernel_rfl) rfl) (C1.out _ V) ?_
      rintro e X2 ⟨rfl, bF⟩
      refine ⟨_, rfl, ?_⟩
      replace V := V.later bF
      replace h17 := var_later h17 bF
      replace h19 := var_later h19 bF
      clear bF
      refine hK.out _ _ ⟨range_of V.v.l, range_of V.v.m, range_of V.kb, range_of V.nb, range_of V.sb, range_of h17, range_of h19⟩ (fun _ => ?_)
      clear hK K'
      try simp only [zA, zS, zZ, Act.put, zP, zQ, zR]
      refine ready1 (i := 13) rfl (by kernel_rfl) (by kernel_rfl) (fun K' hK => ?_)
      refine Node.wp_fn 11 [.tmp 56, .tmp 57, .tmp 58, .tmp 59, .tmp 60, .tmp 61] _ [.agg L.toArray, .agg M.toArray, .agg K.toArray, .agg N.toArray, .int .i64 errs, .bool dead] (by rfl) (by kernel_rfl) (enters Tryz.func11 (by kernel_rfl) rfl) (C2.out _ V) ?_
      rintro e X3 ⟨rfl, bF⟩
      refine ⟨_, rfl, ?_⟩
      replace V := V.later bF
      replace h17 := var_later h17 bF
      replace h19 := var_later h19 bF
      clear bF
      refine hK.out _ _ ⟨range_of V.v.l, range_of V.v.m, range_of V.kb, range_of V.nb, range_of V.sb, range_of h17, range_of h19⟩ (fun hHeld => ?_)
      clear hK K'
      try simp only [zA, zS, zZ, Act.put, zP, zQ, zR]
      refine Node.tk 14 ?_ rfl ?_ ?_
      rotate_left
      · intro w hSw; (try dsimp only at hSw); go_simp; try with_reducible rfl
      simp only [zA, zS, zZ, Act.put, zP, zQ, zR]
      refine Node.tk 15 ?_ rfl ?_ ?_
      rotate_left
      · intro w hSw; (try dsimp only at hSw); go_simp; try with_reducible rfl
      simp only [zA, zS, zZ, Act.put, zP, zQ, zR]
      refine wpAnyH_take (i := 16) (v := .agg (L : List Value).toArray) rfl (by kernel_rfl) (by kernel_rfl) (by kernel_rfl) (fun _ _ _ h => h) (yieldsIf_load_mid (by kernel_rfl) 29 (.tmp 8) (by kernel_rfl) (w.heap.size) 0 (by kernel_rfl) L _ (fun w' h => h.1) (by first | exact Tryz.underlying29) rfl (by first | assumption | (simp only [*]; kernel_rfl))) (by assumption) ?_
      try simp only [zA, zS, zZ, Act.put, zP, zQ, zR]
      refine wpAnyH_take (i := 17) (v := .agg (S : List Value).toArray) rfl (by kernel_rfl) (by kernel_rfl) (by kernel_rfl) (fun _ _ _ h => h) (yieldsIf_load_mid (by kernel_rfl) 52 (.tmp 14) (by kernel_rfl) (w.heap.size + 1 + 1 + 1 + 1) 0 (by kernel_rfl) S _ (fun w' h => h.2.2.2.2.1) (by first | exact Tryz.underlying52) rfl (by first | assumption | (simp only [*]; kernel_rfl))) (by assumption) ?_
      try simp only [zA, zS, zZ, Act.put, zP, zQ, zR]
      refine wpAnyH_take (i := 20) (v := .agg (L : List Value).toArray) rfl (by kernel_rfl) (by kernel_rfl) (by kernel_rfl) (fun _ _ _ h => h) (yieldsIf_load_mid (by kernel_rfl) 29 (.tmp 8) (by kernel_rfl) (w.heap.size) 0 (by kernel_rfl) L _ (fun w' h => h.1) (by first | exact Tryz.underlying29) rfl (by first | assumption | (simp only [*]; kernel_rfl))) (by assumption) ?_
      try simp only [zA, zS, zZ, Act.put, zP, zQ, zR]
      refine wpAnyH_take (i := 21) (v := .agg (S : List Value).toArray) rfl (by kernel_rfl) (by kernel_rfl) (by kernel_rfl) (fun _ _ _ h => h) (yieldsIf_load_mid (by kernel_rfl) 52 (.tmp 14) (by kernel_rfl) (w.heap.size + 1 + 1 + 1 + 1) 0 (by kernel_rfl) S _ (fun w' h => h.2.2.2.2.1) (by first | exact Tryz.underlying52) rfl (by first | assumption | (simp only [*]; kernel_rfl))) (by assumption) ?_
      try simp only [zA, zS, zZ, Act.put, zP, zQ, zR]
      clear hHeld
      refine ready1 (i := 18) rfl (by kernel_rfl) (by kernel_rfl) (fun K' hK => ?_)
      refine Node.wp_fn 12 [.tmp 65, .tmp 66] _ [.agg L.toArray, .agg S.toArray] (by rfl) (by kernel_rfl) (enters Tryz.func12 (by kernel_rfl) rfl) (C3.out _ V.ly) ?_
      rintro e X4 ⟨bF, A4, c4, B4, rfl, ho4, hh4⟩
      refine ⟨_, rfl, ?_⟩
      replace V := V.later bF
      replace h17 := var_later h17 bF
      replace h19 := var_later h19 bF
      have s4 := sliceAt_of_own ho4
      have HH4 := Lib.hid hh4
      clear bF ho4 hh4
      refine hK.out _ _ ⟨range_of V.v.l, range_of V.v.m, range_of V.kb, range_of V.nb, range_of V.sb, range_of h17, range_of h19⟩ (fun _ => ?_)
      clear hK K'
      try simp only [zA, zS, zZ, Act.put, zP, zQ, zR]
      have cv4 : ∀ W : World, SliceAt W 1 (.slice A4 B4.length c4) B4.length (u8s B4) → (convert 53 9 (.slice A4 B4.length c4)).run Tryz.prog W = .ok (.string (strOf B4)) W := fun W h => conv_str (P := Tryz.prog) (dst := 9) h Tryz.underlying53 Tryz.underlying5 Tryz.underlying9
      refine strengthen (S' := fun w' => (w'.rangeAt w.heap.size 0 L ∧ w'.rangeAt (w.heap.size + 1) 0 M ∧ w'.rangeAt (w.heap.size + 1 + 1) 0 K ∧ w'.rangeAt (w.heap.size + 1 + 1 + 1) 0 N ∧ w'.rangeAt (w.heap.size + 1 + 1 + 1 + 1) 0 S ∧ w'.rangeAt ga 0 Y ∧ w'.rangeAt gb 0 Y) ∧ (convert 53 9 (.slice A4 B4.length c4)).run Tryz.prog w' = .ok (.string (strOf B4)) w') (fun w h => h.1) _ _ _ _ ?_
      have hHeld : (X4.rangeAt w.heap.size 0 L ∧ X4.rangeAt (w.heap.size + 1) 0 M ∧ X4.rangeAt (w.heap.size + 1 + 1) 0 K ∧ X4.rangeAt (w.heap.size + 1 + 1 + 1) 0 N ∧ X4.rangeAt (w.heap.size + 1 + 1 + 1 + 1) 0 S ∧ X4.rangeAt ga 0 Y ∧ X4.rangeAt gb 0 Y) ∧ (convert 53 9 (.slice A4 B4.length c4)).run Tryz.prog X4 = .ok (.string (strOf B4)) X4 := ⟨⟨range_of V.v.l, range_of V.v.m, range_of V.kb, range_of V.nb, range_of V.sb, range_of h17, range_of h19⟩, cv4 _ s4⟩
      refine Node.tk 19 ?_ rfl ?_ ?_
      rotate_left
      · intro w hSw; (try dsimp only at hSw); go_simp; try with_reducible rfl
      simp only [zA, zS, zZ, Act.put, zP, zQ, zR]
      clear hHeld
      refine ready1 (i := 22) rfl (by kernel_rfl) (by kernel_rfl) (fun K' hK => ?_)
      refine Node.wp_fn 13 [.tmp 69, .tmp 70] _ [.agg L.toArray, .agg S.toArray] (by rfl) (by kernel_rfl) (enters Tryz.func13 (by kernel_rfl) rfl) (C4.out _ V.ly) ?_
      rintro e X5 ⟨bF, A5, c5, B5, rfl, s5, hh5⟩
      refine ⟨_, rfl, ?_⟩
      replace V := V.later bF
      replace h17 := var_later h17 bF
      replace h19 := var_later h19 bF
      replace s4 := s4.later bF
      obtain rfl : B5 = B4 := holds_unique hh5 HH4.out
      clear bF hh5
      refine hK.out _ _ ⟨⟨range_of V.v.l, range_of V.v.m, range_of V.kb, range_of V.nb, range_of V.sb, range_of h17, range_of h19⟩, cv4 _ s4⟩ (fun _ => ?_)
      clear hK K'
      try simp only [zA, zS, zZ, Act.put, zP, zQ, zR]
      have cv5 : ∀ W : World, SliceAt W 1 (.slice A5 B5.length c5) B5.length (u8s B5) → (convert 53 9 (.slice A5 B5.length c5)).run Tryz.prog W = .ok (.string (strOf B5)) W := fun W h => conv_str (P := Tryz.prog) (dst := 9) h Tryz.underlying53 Tryz.underlying5 Tryz.underlying9
      refine strengthen (S' := fun w' => ((w'.rangeAt w.heap.size 0 L ∧ w'.rangeAt (w.heap.size + 1) 0 M ∧ w'.rangeAt (w.heap.size + 1 + 1) 0 K ∧ w'.rangeAt (w.heap.size + 1 + 1 + 1) 0 N ∧ w'.rangeAt (w.heap.size + 1 + 1 + 1 + 1) 0 S ∧ w'.rangeAt ga 0 Y ∧ w'.rangeAt gb 0 Y) ∧ (convert 53 9 (.slice A4 B5.length c4)).run Tryz.prog w' = .ok (.string (strOf B5)) w') ∧ (convert 53 9 (.slice A5 B5.length c5)).run Tryz.prog w' = .ok (.string (strOf B5)) w') (fun w h => h.1) _ _ _ _ ?_
      have hHeld : ((X5.rangeAt w.heap.size 0 L ∧ X5.rangeAt (w.heap.size + 1) 0 M ∧ X5.rangeAt (w.heap.size + 1 + 1) 0 K ∧ X5.rangeAt (w.heap.size + 1 + 1 + 1) 0 N ∧ X5.rangeAt (w.heap.size + 1 + 1 + 1 + 1) 0 S ∧ X5.rangeAt ga 0 Y ∧ X5.rangeAt gb 0 Y) ∧ (convert 53 9 (.slice A4 B5.length c4)).run Tryz.prog X5 = .ok (.string (strOf B5)) X5) ∧ (convert 53 9 (.slice A5 B5.length c5)).run Tryz.prog X5 = .ok (.string (strOf B5)) X5 := ⟨⟨⟨range_of V.v.l, range_of V.v.m, range_of V.kb, range_of V.nb, range_of V.sb, range_of h17, range_of h19⟩, cv4 _ s4⟩, cv5 _ s5⟩
      refine Node.tk 23 ?_ rfl ?_ ?_
      rotate_left
      · intro w hSw; (try dsimp only at hSw); go_simp; try with_reducible rfl
      simp only [zA, zS, zZ, Act.put, zP, zQ, zR]
      refine Node.tk 24 ?_ rfl ?_ ?_
      rotate_left
      · intro w hSw; (try dsimp only at hSw); go_simp; try with_reducible rfl
      simp only [zA, zS, zZ, Act.put, zP, zQ, zR]
      refine Node.tk 25 ?_ rfl ?_ ?_
      rotate_left
      · intro w hSw; (try dsimp only at hSw); go_simp; try with_reducible rfl
      simp only [zA, zS, zZ, Act.put, zP, zQ, zR]
      refine Node.tk 26 ?_ rfl ?_ ?_
      rotate_left
      · intro w hSw; (try dsimp only at hSw); go_simp; try with_reducible rfl
      simp only [zA, zS, zZ, Act.put, zP, zQ, zR]
      refine wpAnyH_take (i := 27) (v := .agg (Y : List Value).toArray) rfl (by kernel_rfl) (by kernel_rfl) (by kernel_rfl) (fun _ _ _ h => h) (yieldsIf_load_mid (by kernel_rfl) 52 (.tmp 17) (by kernel_rfl) (ga) 0 (by kernel_rfl) Y _ (fun w' h => h.1.1.2.2.2.2.2.1) (by first | exact Tryz.underlying52) rfl (by first | assumption | (simp only [*]; kernel_rfl))) (by assumption) ?_
      try simp only [zA, zS, zZ, Act.put, zP, zQ, zR]
      refine wpAnyH_take (i := 28) (v := .agg (Y : List Value).toArray) rfl (by kernel_rfl) (by kernel_rfl) (by kernel_rfl) (fun _ _ _ h => h) (yieldsIf_load_mid (by kernel_rfl) 52 (.tmp 19) (by kernel_rfl) (gb) 0 (by kernel_rfl) Y _ (fun w' h => h.1.1.2.2.2.2.2.2) (by first | exact Tryz.underlying52) rfl (by first | assumption | (simp only [*]; kernel_rfl))) (by assumption) ?_
      try simp only [zA, zS, zZ, Act.put, zP, zQ, zR]
      refine Node.tk 29 ?_ rfl ?_ ?_
      rotate_left
      · intro w hSw; (try dsimp only at hSw); go_simp; try with_reducible rfl
      simp only [zA, zS, zZ, Act.put, zP, zQ, zR]
      refine Node.tk 30 ?_ rfl ?_ ?_
      rotate_left
      · intro w hSw; (try dsimp only at hSw); go_simp; try with_reducible rfl
      simp only [zA, zS, zZ, Act.put, zP, zQ, zR]
      refine Node.tk 31 ?_ rfl ?_ ?_
      rotate_left
      · intro w hSw; (try dsimp only at hSw); go_simp; try with_reducible rfl
      simp only [zA, zS, zZ, Act.put, zP, zQ, zR]
      refine Node.tk 32 ?_ rfl ?_ ?_
      rotate_left
      · intro w hSw; (try dsimp only at hSw); go_simp; try with_reducible rfl
      simp only [zA, zS, zZ, Act.put, zP, zQ, zR]
      refine Node.tk 33 ?_ rfl ?_ ?_
      rotate_left
      · intro w hSw; (try dsimp only at hSw); go_simp; try with_reducible rfl
      simp only [zA, zS, zZ, Act.put, zP, zQ, zR]
      refine Node.tk 34 ?_ rfl ?_ ?_
      rotate_left
      · intro w hSw; (try dsimp only at hSw); go_simp; try with_reducible rfl
      simp only [zA, zS, zZ, Act.put, zP, zQ, zR]
      refine Node.tk 35 ?_ rfl ?_ ?_
      rotate_left
      · intro w hSw; (try dsimp only at hSw); go_simp; try with_reducible rfl
      simp only [zA, zS, zZ, Act.put, zP, zQ, zR]
      refine Node.tk 36 ?_ rfl ?_ ?_
      rotate_left
      · intro w hSw; (try dsimp only at hSw); go_simp; try with_reducible rfl
      simp only [zA, zS, zZ, Act.put, zP, zQ, zR]
      refine wpAnyH_take (i := 37) (v := .agg (L : List Value).toArray) rfl (by kernel_rfl) (by kernel_rfl) (by kernel_rfl) (fun _ _ _ h => h) (yieldsIf_load_mid (by kernel_rfl) 29 (.tmp 8) (by kernel_rfl) (w.heap.size) 0 (by kernel_rfl) L _ (fun w' h => h.1.1.1) (by first | exact Tryz.underlying29) rfl (by first | assumption | (simp only [*]; kernel_rfl))) (by assumption) ?_
      try simp only [zA, zS, zZ, Act.put, zP, zQ, zR]
      refine wpAnyH_take (i := 39) (v := .agg (L : List Value).toArray) rfl (by kernel_rfl) (by kernel_rfl) (by kernel_rfl) (fun _ _ _ h => h) (yieldsIf_load_mid (by kernel_rfl) 29 (.tmp 8) (by kernel_rfl) (w.heap.size) 0 (by kernel_rfl) L _ (fun w' h => h.1.1.1) (by first | exact Tryz.underlying29) rfl (by first | assumption | (simp only [*]; kernel_rfl))) (by assumption) ?_
      try simp only [zA, zS, zZ, Act.put, zP, zQ, zR]
      clear hHeld
      refine ready1 (i := 38) rfl (by kernel_rfl) (by kernel_rfl) (fun K' hK => ?_)
      refine Node.wp_fn 14 [.tmp 86] _ [.agg L.toArray] (by rfl) (by kernel_rfl) (enters Tryz.func14 (by kernel_rfl) rfl) (C5.out _ V.ly) ?_
      rintro e X6 ⟨rfl, bF⟩
      refine ⟨_, rfl, ?_⟩
      replace V := V.later bF
      replace h17 := var_later h17 bF
      replace h19 := var_later h19 bF
      replace s4 := s4.later bF
      replace s5 := s5.later bF
      clear bF
      refine hK.out _ _ ⟨⟨⟨range_of V.v.l, range_of V.v.m, range_of V.kb, range_of V.nb, range_of V.sb, range_of h17, range_of h19⟩, cv4 _ s4⟩, cv5 _ s5⟩ (fun _ => ?_)
      clear hK K'
      try simp only [zA, zS, zZ, Act.put, zP, zQ, zR]
      refine ready1 (i := 40) rfl (by kernel_rfl) (by kernel_rfl) (fun K' hK => ?_)
      refine Node.wp_fn 15 [.tmp 88] _ [.agg L.toArray] (by rfl) (by kernel_rfl) (enters Tryz.func15 (by kernel_rfl) rfl) (C6.out _ V.ly) ?_
      rintro e X7 ⟨rfl, bF⟩
      refine ⟨_, rfl, ?_⟩
      replace V := V.later bF
      replace h17 := var_later h17 bF
      replace h19 := var_later h19 bF
      replace s4 := s4.later bF
      replace s5 := s5.later bF
      clear bF
      refine hK.out _ _ ⟨⟨⟨range_of V.v.l, range_of V.v.m, range_of V.kb, range_of V.nb, range_of V.sb, range_of h17, range_of h19⟩, cv4 _ s4⟩, cv5 _ s5⟩ (fun hHeld => ?_)
      clear hK K'
      try simp only [zA, zS, zZ, Act.put, zP, zQ, zR]
      refine Node.tk 41 ?_ rfl ?_ ?_
      rotate_left
      · intro w hSw; (try dsimp only at hSw); go_simp; try with_reducible rfl
      simp only [zA, zS, zZ, Act.put, zP, zQ, zR]
      refine Node.tk 42 ?_ rfl ?_ ?_
      rotate_left
      · intro w hSw; (try dsimp only at hSw); go_simp; try with_reducible rfl
      simp only [zA, zS, zZ, Act.put, zP, zQ, zR]
      refine Node.tk 43 ?_ rfl ?_ ?_
      rotate_left
      · intro w hSw; (try dsimp only at hSw); go_simp; try with_reducible rfl
      simp only [zA, zS, zZ, Act.put, zP, zQ, zR]
      clear hHeld
      refine ready1 (i := 44) rfl (by kernel_rfl) (by kernel_rfl) (fun K' hK => ?_)
      refine Node.wp_fn 7 [] _ [] (by rfl) (by kernel_rfl) (enters Tryz.func7 (by kernel_rfl) rfl) (wakes28_c X7) ?_
      rintro e X8 ⟨rfl, bF⟩
      refine ⟨_, rfl, ?_⟩
      replace V := V.later bF
      replace h17 := var_later h17 bF
      replace h19 := var_later h19 bF
      replace s4 := s4.later bF
      replace s5 := s5.later bF
      clear bF
      refine hK.out _ _ ⟨⟨⟨range_of V.v.l, range_of V.v.m, range_of V.kb, range_of V.nb, range_of V.sb, range_of h17, range_of h19⟩, cv4 _ s4⟩, cv5 _ s5⟩ (fun hHeld => ?_)
      clear hK K'
      try simp only [zA, zS, zZ, Act.put, zP, zQ, zR]
      refine Node.tk 45 ?_ rfl ?_ ?_
      rotate_left
      · intro w hSw; (try dsimp only at hSw); go_simp; try with_reducible rfl
      simp only [zA, zS, zZ, Act.put, zP, zQ, zR]
      refine Node.tk 46 ?_ rfl ?_ ?_
      rotate_left
      · intro w hSw; (try dsimp only at hSw); go_simp; try with_reducible rfl
      simp only [zA, zS, zZ, Act.put, zP, zQ, zR]
      clear hHeld
      refine wpAnyH_done (by kernel_rfl) ?_ _
      go_wp2
      go_ret
      exact ⟨rfl, V.bel⟩

theorem own : ownKnob Tryz.prog.godebug = none := by kernel_rfl
theorem laidOut : laidOutB Tryz.prog = true := by kernel_rfl
noncomputable def wit (os : Os) : World := World.holding Tryz.prog os ⟨#[], #[], []⟩
set_option maxRecDepth 100000 in
theorem lifted (os : Os) (started : os.Started) (H : Type) (enc : TypeId × Value → H) (F : Stop.Interp) :
    ReturnsInHanded {} Tryz.checked os 3 .any ((OpenSpec.ofChange Rows.showTellsSpec).preRow enc Tryz.prog Tryz.f3 Rows.showTellsRow.domain false Rows.showTellsRow.laid) (((OpenSpec.ofChange Rows.showTellsSpec).at F).post enc Tryz.prog Tryz.f3 false true false false) := by
  obtain ⟨x, hx⟩ : ∃ x, DataW.whole enc Tryz.prog ((wit os).forCall (fun _ _ => 0) ⟨#[], #[.agg zLay, .agg zImg, .agg (kcL 0 (.slice none 0 0) machL).toArray, .agg (nxL 0 (.slice none 0 0) 0).toArray, .int .i64 0, .bool false, .agg (showL s0).toArray, .slice none 0 0], []⟩).memory Tryz.f3.params.toList Rows.showTellsSpec.vars false (#[.agg zLay, .agg zImg, .agg (kcL 0 (.slice none 0 0) machL).toArray, .agg (nxL 0 (.slice none 0 0) 0).toArray, .int .i64 0, .bool false, .agg (showL s0).toArray, .slice none 0 0] : Array Value).toList 8 = some x := Option.isSome_iff_exists.1 (by kernel_rfl)
  refine Fr.lift (C := Tryz.checked) (s := OpenSpec.ofChange Rows.showTellsSpec) own started (by kernel_rfl) Tryz.func3
    (witness_row_at (enc := enc) (C := Tryz.checked) false (wit os) #[.agg zLay, .agg zImg, .agg (kcL 0 (.slice none 0 0) machL).toArray, .agg (nxL 0 (.slice none 0 0) 0).toArray, .int .i64 0, .bool false, .agg (showL s0).toArray, .slice none 0 0] rfl (by kernel_rfl) (by kernel_rfl) (by kernel_rfl)
      (OpenSpec.preRow_of_cond 8 hx rfl (fun k hk => by cases hk) (by kernel_rfl) (laidMet_of_run' 8 (by kernel_rfl) (by kernel_rfl))))
    laidOut (by kernel_rfl) rfl Tryz.underlying4 rfl rfl ?_ ?_
  · intro ds hds
    match ds, hds with
    | [_, _, _, _, _, _, _, _], _ => rfl
  · intro W base args ds before hval hA hlt _ hz hL
    rw [Tryz.params3] at hA hval
    obtain ⟨v0, vs0, d0, ds0, p0, q0, hargs, rfl, rfl, h0, r0⟩ := trodAll_cons hA
    obtain ⟨v1, vs1, d1, ds1, p1, q1, rfl, rfl, rfl, h1, r1⟩ := trodAll_cons r0
    obtain ⟨v2, vs2, d2, ds2, p2, q2, rfl, rfl, rfl, h2, r2⟩ := trodAll_cons r1
    obtain ⟨v3, vs3, d3, ds3, p3, q3, rfl, rfl, rfl, h3, r3⟩ := trodAll_cons r2
    obtain ⟨v4, vs4, d4, ds4, p4, q4, rfl, rfl, rfl, h4, r4⟩ := trodAll_cons r3
    obtain ⟨v5, vs5, d5, ds5, p5, q5, rfl, rfl, rfl, h5, r5⟩ := trodAll_cons r4
    obtain ⟨v6, vs6, d6, ds6, p6, q6, rfl, rfl, rfl, h6, r6⟩ := trodAll_cons r5
    obtain ⟨v7, vs7, d7, ds7, p7, q7, rfl, rfl, rfl, h7, r7⟩ := trodAll_cons r6
    obtain ⟨rfl, rfl, rfl⟩ := trodAll_nil r7
    obtain rfl : args = #[v0, v1, v2, v3, v4, v5, v6, v7] := by cases args; simp_all
    obtain ⟨L, kinds, ss, lens, nsig, nfl, clr, st, A, c, A1, c1, A3, c3, ve, rfl, hLA, hk2⟩ := open_layoutK (hval 0 _ v0 rfl rfl) h0
    obtain ⟨M, age, free, occ, nor, rev, lam, rfl, hM, hag, hfr⟩ := open_image (hval 1 _ v1 rfl rfl) h1
    obtain ⟨K, vh, css, hs, nx, ms, rfl, hK⟩ := open_kernel (hval 2 _ v2 rfl rfl) h2
    obtain ⟨N, vr, rss, rq, dsk, dv, au, code, rfl, hN, hcd, hdv, hvs⟩ := open_nx (hval 3 _ v3 rfl rfl) h3
    obtain ⟨errs, rfl, rfl, rfl, w4⟩ := open_int Tryz.underlying3 (hval 4 _ v4 rfl rfl) h4
    obtain ⟨dead, rfl, rfl, rfl⟩ := open_bool Tryz.underlying4 (hval 5 _ v5 rfl rfl) h5
    obtain ⟨s, rfl, hok⟩ := open_show (hval 6 _ v6 rfl rfl) h6
    obtain ⟨pl, hpl⟩ := Bv.open_bytes_arg Tryz.underlying53 Tryz.underlying5 (by kernel_rfl) (hval 7 _ v7 rfl rfl) h7
    exact walk ⟨kinds, nsig, clr, st, A, c, A1, c1, age, free, occ, nor, rev, lam⟩ L M K N s ss nfl lens A3 c3 ve vh css hs nx ms vr rss rq dsk dv au code errs dead v7 pl W ⟨hLA.f, hLA.sa, hLA.sl, hLA.sr⟩ ⟨⟨hLA.f, hM⟩, hLA.sa⟩ hK hN hLA.ex hLA.fl hLA.ea hk2 hcd hdv hvs hpl hok

theorem said : Rows.ShowTellsSaid :=
  OpenClaim.holds_of_cond 3 Tryz.f3 rfl rfl rfl rfl rfl rfl rfl ⟨rfl, rfl, rfl, rfl, rfl⟩ rfl rfl rfl rfl rfl (by kernel_rfl) Tryz.func3 (by kernel_rfl)
    (of_decide_eq_true (by kernel_rfl)) (by unfold Func.isWrapper; first | (rw [if_pos (by decide +kernel)]; kernel_rfl) | (rw [if_neg (by decide +kernel)]; exact ⟨rfl, rfl⟩))
    (fun os started H enc _ F => by rw [OpenClaim.pre_eq_preRow]; exact lifted os started H enc F)
#print axioms said
end Go.Proofs.YtppcdmbpbbjecaaGreat.showTells
