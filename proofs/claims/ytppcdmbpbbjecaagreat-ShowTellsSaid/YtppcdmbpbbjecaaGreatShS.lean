/- Shows: Locked, and what is so of a section. Nothing that was there is turned. -/
import Derived.Test.YtppcdmbpbbjecaaGreatShR
namespace Go.Proofs.YtppcdmbpbbjecaaGreat
open Go.RowKit Rf Mem Bv AM SM
attribute [local go_sem ↓] run_max2 run_min2
attribute [local go_sem] Oper.semAt_some
def lockedM (hs : List HeldM) (p : Int) : Bool := hs.any fun h => wantsB h p && h.stage != 1
abbrev Few (hs : List HeldM) : Prop := ∀ h ∈ hs, h.needs.length ≤ 5864062014700 ∧ h.steps.length ≤ 5864062014700 ∧ h.over.length ≤ 5864062014700
set_option maxHeartbeats 1000000 in
set_option maxRecDepth 100000 in
theorem Locked_c (K : List Value) (vh : Value) (css : List (List Value)) (hs : List HeldM) (nx : Int) (ms : List (Int × Int × Bool)) (p : Int) (r : Bool) (w : World) (hr : r = lockedM hs p) (hK : KerAt w K vh css hs nx ms) (hlen : hs.length ≤ 5864062014700) (hsm : Few hs) :
    Calls Tryz.prog 43 #[.agg K.toArray, .int .i64 p] w fun e w' => e = .returned (.bool r) ∧ Below w.heap.size w w' := by
  obtain ⟨W0, hW0⟩ : ∃ W0, (w.alloc (.cells K.toArray 41)).alloc (.cells #[.int .i64 p] 3) = W0 := ⟨_, rfl⟩
  have B0 : Below w.heap.size w W0 := by rw [← hW0]; exact below_step (below_new _ _) (below_new _ _)
  have V0 : W0.heap[w.heap.size]? = some (.cells K.toArray 41 (0, 0)) := by rw [← hW0]; exact old_at (new_at rfl _) _
  have V1 : W0.heap[w.heap.size + 1]? = some (.cells #[.int .i64 p] 3 (0, 0)) := by rw [← hW0]; exact new_at (by simp) _
  have HK := Lib.hid (hK.later B0)
  have x1 := cell_list V0 hK.held
  obtain ⟨A, c, rfl, _⟩ := hK.hs.sl.form
  have HR := Lib.hid hr
  have HV1 := Lib.hid V1
  clear hK hr V0 V1
  go_enter Tryz.func43, Tryz.ntmps43
  go_upto_region 1 with (fail)
  clear hW0
  go_wp2_with fail
  refine (contains_locked _ css hs _ p r W0 HR.out HK.out.hs hlen (fun h hh => (hsm h hh).1) HV1.out).mono ?_
  rintro e W1 ⟨rfl, b1⟩
  have B1 := below_step B0 b1
  go_wp2
  go_ret
  exact ⟨rfl, B1⟩
/-- Of's variables -/
structure OfV (W : World) (gl gm gk ga gp : Nat) (L M K : List Value) (A : Option Addr) (m c : Nat) : Prop where
  v : V2 W gl gm L M
  k : W.heap[gk]? = some (.cells K.toArray 41 (0, 0))
  a : W.heap[ga]? = some (.cells #[.slice A m c] 22 (0, 0))
  p : W.heap[gp]? = some (.cells #[.func (.func 34) #[] #[.pointer (some ⟨ga, 0, none⟩)]] 105 (0, 0))
theorem OfV.later {W W' : World} {gl gm gk ga gp : Nat} {L M K : List Value} {A : Option Addr} {m c : Nat} (h : OfV W gl gm gk ga gp L M K A m c) (b : Below W.heap.size W W') : OfV W' gl gm gk ga gp L M K A m c := ⟨h.v.later b, var_later h.k b, var_later h.a b, var_later h.p b⟩
def pointB (kinds : List Int) (i : Nat) : Bool := kinds.getD i 0 == 2
set_option maxHeartbeats 1000000 in
set_option maxRecDepth 100000 in
theorem point_c (L M K : List Value) (kinds : List Int) (ss : List (List Value)) (nsig : Nat) (clr st : Int) (A : Option Addr) (c : Nat) (A1 : Option Addr) (c1 : Nat) (gl gm gk ga gp m i : Nat) (w : World) (hm : m ≤ kinds.length) (hi : i < m) (hL : LY w L kinds ss nsig clr st A c A1 c1) (V : OfV w gl gm gk ga gp L M K A m c) :
    Calls Tryz.prog 34 #[.int .i64 i, .pointer (some ⟨ga, 0, none⟩)] w fun e w' => e = .returned (.bool (pointB kinds i)) ∧ Below w.heap.size w w' := by
  obtain ⟨b, off, sc, rfl, hb, hr, hscl, hsone, hk0⟩ := hL.row (k := i) (by omega)
  have y0 : w.cell? ⟨b, off + i * 11, none⟩ = some (.int .u8 (kinds.getD i 0)) := hr 0 _ hk0
  have x0 := cell_at V.a 0
  have i1 : (i : Int) < (m : Int) := by omega
  obtain ⟨kd, hkd⟩ : ∃ k, kinds.getD i 0 = k := ⟨_, rfl⟩
  obtain ⟨d, hd⟩ : ∃ d, (kd == 2) = d := ⟨_, rfl⟩
  have HD : Hid (pointB kinds i = d) := Lib.hid (by unfold pointB; rw [hkd, hd])
  rw [hkd] at y0
  obtain ⟨hc1, hc2⟩ := hL.cap
  have i2 : m ≤ c := by omega
  clear hkd hk0 hr hsone
  go_enter Tryz.func34, Tryz.ntmps34
  go_wp2
  go_ret
  exact ⟨by rw [HD.out, ← hd]; rfl, Below.refl _ _⟩
theorem pointF (args : Array Value) (W : World) : (callFunc 34 args).run Tryz.prog W = .ok (.enter 34 args) W := enters Tryz.func34 (by kernel_rfl) rfl args W
set_option maxHeartbeats 1000000 in
set_option maxRecDepth 100000 in
theorem so_clear (I : IM) (L M K : List Value) (A : Option Addr) (c gl gm gk ga gp m n : Nat) (w : World) (hA : IMF I L M) (V : OfV w gl gm gk ga gp L M K A m c) :
    SoAt 35 #[.pointer (some ⟨gl, 0, none⟩), .pointer (some ⟨gm, 0, none⟩)] (fun i => !I.occB i) n w := by
  refine ⟨enters Tryz.func35 (by kernel_rfl) rfl, fun i W hi B => ?_⟩
  replace V := V.later (B.mono (Nat.le_refl _))
  show Calls _ _ #[.int .i64 (i : Int), .pointer (some ⟨gl, 0, none⟩), .pointer (some ⟨gm, 0, none⟩)] W _
  have szL := lay_size hA.l.len
  have szM := img_size hA.m.len
  have RL := range_of V.v.l
  have RM := range_of V.v.m
  obtain ⟨r, hr⟩ : ∃ r, I.occB i = r := ⟨_, rfl⟩
  rw [hr]
  have HR := Lib.hid hr
  clear hr
  go_enter Tryz.func35, Tryz.ntmps35
  go_wp2_with (first
    | refine wpList_load_g (by rfl) 29 (.tmp 1) (by rfl) gl 0 (by rfl) L _ RL Tryz.underlying29 rfl szL ?_
    | refine wpList_load_g (by rfl) 35 (.tmp 2) (by rfl) gm 0 (by rfl) M _ RM Tryz.underlying35 rfl szM ?_
    | fail)
  refine (occ_c I L M i r W HR.out.symm hA).mono ?_
  rintro e W1 ⟨rfl, b1⟩
  clear RL RM
  go_wp2
  go_ret
  exact ⟨rfl, b1⟩
set_option maxHeartbeats 1000000 in
set_option maxRecDepth 100000 in
theorem so_held (L M K : List Value) (vh : Value) (css : List (List Value)) (hs : List HeldM) (nx : Int) (ms : List (Int × Int × Bool)) (A : Option Addr) (c gl gm gk ga gp m n : Nat) (w : World) (hK : KerAt w K vh css hs nx ms) (hlen : hs.length ≤ 5864062014700) (hsm : Few hs) (V : OfV w gl gm gk ga gp L M K A m c) :
    SoAt 37 #[.pointer (some ⟨gk, 0, none⟩)] (fun i => (holderM hs i).isSome) n w := by
  refine ⟨enters Tryz.func37 (by kernel_rfl) rfl, fun i W hi B => ?_⟩
  replace V := V.later (B.mono (Nat.le_refl _))
  replace hK := hK.later (B.mono (Nat.le_refl _))
  show Calls _ _ #[.int .i64 (i : Int), .pointer (some ⟨gk, 0, none⟩)] W _
  have szK : (Tryz.prog.info? 41).map (·.size) = some K.length := by rw [hK.len]; kernel_rfl
  have RK := range_of V.k
  have HK := Lib.hid hK
  clear hK B
  go_enter Tryz.func37, Tryz.ntmps37
  go_wp2_with (first
    | refine wpList_load_g (by rfl) 41 (.tmp 1) (by rfl) gk 0 (by rfl) K _ RK Tryz.underlying41 rfl szK ?_
    | fail)
  refine (Holder_c K vh css hs nx ms i W HK.out hlen hsm).mono ?_
  rintro e W1 ⟨b1, z, b, rfl, hb⟩
  have HB := Lib.hid hb
  clear RK hb
  go_wp2
  go_ret
  exact ⟨by rw [← HB.out]; rfl, b1⟩
set_option maxHeartbeats 1000000 in
set_option maxRecDepth 100000 in
theorem so_normal (I : IM) (L M K : List Value) (kinds : List Int) (ss : List (List Value)) (nsig : Nat) (clr st : Int) (A : Option Addr) (c : Nat) (A1 : Option Addr) (c1 : Nat) (gl gm gk ga gp m : Nat) (w : World) (hm : m ≤ kinds.length) (hL : LY w L kinds ss nsig clr st A c A1 c1) (hA : IMA I L M w) (V : OfV w gl gm gk ga gp L M K A m c) :
    SoAt 39 #[.pointer (some ⟨gp, 0, none⟩), .pointer (some ⟨gl, 0, none⟩), .pointer (some ⟨gm, 0, none⟩)] (fun i => pointB kinds i && I.stand i == 0) m w := by
  refine ⟨enters Tryz.func39 (by kernel_rfl) rfl, fun i W hi B => ?_⟩
  replace V := V.later (B.mono (Nat.le_refl _))
  replace hA := hA.later (B.mono (Nat.le_refl _))
  replace hL := hL.later (B.mono (Nat.le_refl _))
  show Calls _ _ #[.int .i64 (i : Int), .pointer (some ⟨gp, 0, none⟩), .pointer (some ⟨gl, 0, none⟩), .pointer (some ⟨gm, 0, none⟩)] W _
  have szL := lay_size hA.f.l.len
  have szM := img_size hA.f.m.len
  have x0 := cell_at V.p 0
  obtain ⟨r, hr⟩ : ∃ r, I.stand i = r := ⟨_, rfl⟩
  obtain ⟨d, hd⟩ : ∃ d, pointB kinds i = d := ⟨_, rfl⟩
  rw [hr, hd]
  have HR := Lib.hid hr
  have HD := Lib.hid hd
  have eg := pointF
  clear hr hd B
  go_enter Tryz.func39, Tryz.ntmps39
  go_wp2_with fail
  refine (point_c L M K kinds ss nsig clr st A c A1 c1 gl gm gk ga gp m i W hm hi hL V).mono ?_
  rintro e W1 ⟨rfl, b1⟩
  rw [HD.out]
  have V1 := V.later b1
  have RL := range_of V1.v.l
  have RM := range_of V1.v.m
  have HA := Lib.hid (hA.later b1)
  clear x0 V V1 hA hL eg
  cases d
  · go_wp2
    go_ret
    exact ⟨rfl, b1⟩
  · go_wp2_with (first
      | refine wpList_load_g (by rfl) 29 (.tmp 2) (by rfl) gl 0 (by rfl) L _ RL Tryz.underlying29 rfl szL ?_
      | refine wpList_load_g (by rfl) 35 (.tmp 3) (by rfl) gm 0 (by rfl) M _ RM Tryz.underlying35 rfl szM ?_
      | fail)
    refine (stand_c I L M i r W1 HR.out.symm HA.out).mono ?_
    rintro e W2 ⟨rfl, b2⟩
    have B2 := below_step b1 b2
    clear RL RM
    go_wp2
    go_ret
    exact ⟨rfl, B2⟩
set_option maxHeartbeats 1000000 in
set_option maxRecDepth 100000 in
theorem so_reverse (I : IM) (L M K : List Value) (kinds : List Int) (ss : List (List Value)) (nsig : Nat) (clr st : Int) (A : Option Addr) (c : Nat) (A1 : Option Addr) (c1 : Nat) (gl gm gk ga gp m : Nat) (w : World) (hm : m ≤ kinds.length) (hL : LY w L kinds ss nsig clr st A c A1 c1) (hA : IMA I L M w) (V : OfV w gl gm gk ga gp L M K A m c) :
    SoAt 41 #[.pointer (some ⟨gp, 0, none⟩), .pointer (some ⟨gl, 0, none⟩), .pointer (some ⟨gm, 0, none⟩)] (fun i => pointB kinds i && I.stand i == 1) m w := by
  refine ⟨enters Tryz.func41 (by kernel_rfl) rfl, fun i W hi B => ?_⟩
  replace V := V.later (B.mono (Nat.le_refl _))
  replace hA := hA.later (B.mono (Nat.le_refl _))
  replace hL := hL.later (B.mono (Nat.le_refl _))
  show Calls _ _ #[.int .i64 (i : Int), .pointer (some ⟨gp, 0, none⟩), .pointer (some ⟨gl, 0, none⟩), .pointer (some ⟨gm, 0, none⟩)] W _
  have szL := lay_size hA.f.l.len
  have szM := img_size hA.f.m.len
  have x0 := cell_at V.p 0
  obtain ⟨r, hr⟩ : ∃ r, I.stand i = r := ⟨_, rfl⟩
  obtain ⟨d, hd⟩ : ∃ d, pointB kinds i = d := ⟨_, rfl⟩
  rw [hr, hd]
  have HR := Lib.hid hr
  have HD := Lib.hid hd
  have eg := pointF
  clear hr hd B
  go_enter Tryz.func41, Tryz.ntmps41
  go_wp2_with fail
  refine (point_c L M K kinds ss nsig clr st A c A1 c1 gl gm gk ga gp m i W hm hi hL V).mono ?_
  rintro e W1 ⟨rfl, b1⟩
  rw [HD.out]
  have V1 := V.later b1
  have RL := range_of V1.v.l
  have RM := range_of V1.v.m
  have HA := Lib.hid (hA.later b1)
  clear x0 V V1 hA hL eg
  cases d
  · go_wp2
    go_ret
    exact ⟨rfl, b1⟩
  · go_wp2_with (first
      | refine wpList_load_g (by rfl) 29 (.tmp 2) (by rfl) gl 0 (by rfl) L _ RL Tryz.underlying29 rfl szL ?_
      | refine wpList_load_g (by rfl) 35 (.tmp 3) (by rfl) gm 0 (by rfl) M _ RM Tryz.underlying35 rfl szM ?_
      | fail)
    refine (stand_c I L M i r W1 HR.out.symm HA.out).mono ?_
    rintro e W2 ⟨rfl, b2⟩
    have B2 := below_step b1 b2
    clear RL RM
    go_wp2
    go_ret
    exact ⟨rfl, B2⟩
set_option maxHeartbeats 1000000 in
set_option maxRecDepth 100000 in
theorem so_locked (L M K : List Value) (vh : Value) (css : List (List Value)) (hs : List HeldM) (nx : Int) (ms : List (Int × Int × Bool)) (kinds : List Int) (ss : List (List Value)) (nsig : Nat) (clr st : Int) (A : Option Addr) (c : Nat) (A1 : Option Addr) (c1 : Nat) (gl gm gk ga gp m : Nat) (w : World) (hm : m ≤ kinds.length) (hL : LY w L kinds ss nsig clr st A c A1 c1) (hK : KerAt w K vh css hs nx ms) (hlen : hs.length ≤ 5864062014700) (hsm : Few hs) (V : OfV w gl gm gk ga gp L M K A m c) :
    SoAt 42 #[.pointer (some ⟨gp, 0, none⟩), .pointer (some ⟨gk, 0, none⟩)] (fun i => pointB kinds i && lockedM hs i) m w := by
  refine ⟨enters Tryz.func42 (by kernel_rfl) rfl, fun i W hi B => ?_⟩
  replace V := V.later (B.mono (Nat.le_refl _))
  replace hK := hK.later (B.mono (Nat.le_refl _))
  replace hL := hL.later (B.mono (Nat.le_refl _))
  show Calls _ _ #[.int .i64 (i : Int), .pointer (some ⟨gp, 0, none⟩), .pointer (some ⟨gk, 0, none⟩)] W _
  have szK : (Tryz.prog.info? 41).map (·.size) = some K.length := by rw [hK.len]; kernel_rfl
  have x0 := cell_at V.p 0
  obtain ⟨r, hr⟩ : ∃ r, lockedM hs i = r := ⟨_, rfl⟩
  obtain ⟨d, hd⟩ : ∃ d, pointB kinds i = d := ⟨_, rfl⟩
  rw [hr, hd]
  have HR := Lib.hid hr
  have HD := Lib.hid hd
  have HKK := Lib.hid hK
  have eg := pointF
  clear hr hd B hK
  go_enter Tryz.func42, Tryz.ntmps42
  go_wp2_with fail
  refine (point_c L M K kinds ss nsig clr st A c A1 c1 gl gm gk ga gp m i W hm hi hL V).mono ?_
  rintro e W1 ⟨rfl, b1⟩
  rw [HD.out]
  have V1 := V.later b1
  have RK := range_of V1.k
  have HK := Lib.hid (HKK.out.later b1)
  clear x0 V V1 hL eg HKK
  cases d
  · go_wp2
    go_ret
    exact ⟨rfl, b1⟩
  · go_wp2_with (first
      | refine wpList_load_g (by rfl) 41 (.tmp 2) (by rfl) gk 0 (by rfl) K _ RK Tryz.underlying41 rfl szK ?_
      | fail)
    refine (Locked_c K vh css hs nx ms i r W1 HR.out.symm HK.out hlen hsm).mono ?_
    rintro e W2 ⟨rfl, b2⟩
    have B2 := below_step b1 b2
    clear RK
    go_wp2
    go_ret
    exact ⟨rfl, B2⟩
set_option maxHeartbeats 1000000 in
set_option maxRecDepth 100000 in
theorem so_steady (L M K : List Value) (vh : Value) (css : List (List Value)) (hs : List HeldM) (nx : Int) (ms : List (Int × Int × Bool)) (A : Option Addr) (c gl gm gk ga gp m n : Nat) (w : World) (hK : KerAt w K vh css hs nx ms) (hlen : hs.length ≤ 5864062014700) (hsm : Few hs) (V : OfV w gl gm gk ga gp L M K A m c) :
    SoAt 44 #[.pointer (some ⟨gk, 0, none⟩)] (fun i => hs.any fun h => h.sig == (i : Int)) n w := by
  refine ⟨enters Tryz.func44 (by kernel_rfl) rfl, fun i W hi B => ?_⟩
  have b0 := below_new W (.cells #[.int .i64 (i : Int)] 3)
  replace V := (V.later (B.mono (Nat.le_refl _))).later b0
  replace hK := (hK.later (B.mono (Nat.le_refl _))).later b0
  show Calls _ _ #[.int .i64 (i : Int), .pointer (some ⟨gk, 0, none⟩)] W _
  have x1 := cell_list V.k hK.held
  obtain ⟨Ah, ch, rfl, _⟩ := hK.hs.sl.form
  have G := new_at (w := W) rfl (.cells #[.int .i64 (i : Int)] 3)
  obtain ⟨r, hr⟩ : ∃ r, (hs.any fun h => h.sig == (i : Int)) = r := ⟨_, rfl⟩
  rw [hr]
  have HR := Lib.hid hr
  have HK := Lib.hid hK
  have HG := Lib.hid G
  clear hK hr B G
  go_enter Tryz.func44, Tryz.ntmps44
  go_upto_region 1 with (fail)
  generalize W.alloc (.cells #[.int .i64 (i : Int)] 3) = W0 at *
  go_wp2_with fail
  refine (contains_steady _ css hs _ i r W0 HR.out.symm HK.out.hs hlen (fun h hh => (hsm h hh).1) HG.out).mono ?_
  rintro e W1 ⟨rfl, b1⟩
  have B1 := below_step b0 b1
  go_wp2
  go_ret
  exact ⟨rfl, B1⟩
theorem so_all (n : Nat) (w : World) : SoAt 50 #[] (fun _ => true) n w := by
  refine ⟨enters Tryz.func50 (by kernel_rfl) rfl, fun i W hi B => ?_⟩
  show Calls _ _ #[.int .i64 (i : Int)] W _
  clear B
  go_enter Tryz.func50, Tryz.ntmps50
  go_wp2
  go_ret
  exact ⟨rfl, Below.refl _ _⟩
end Go.Proofs.YtppcdmbpbbjecaaGreat
