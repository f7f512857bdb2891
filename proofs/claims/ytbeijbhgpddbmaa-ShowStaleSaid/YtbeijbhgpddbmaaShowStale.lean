/- ShowStale: for every argument the statement's Go text returns true and turns nothing that was there. It is proved at every argument, without a condition beyond the row. -/
import Derived.Test.YtbeijbhgpddbmaaShZ
import Derived.Test.YtbeijbhgpddbmaaShFin
import Derived.Test.YtbeijbhgpddbmaaAspG8
import Derived.Test.YtbeijbhgpddbmaaFrame
import Derived.Deep.RegionHeld3
import Derived.Deep.CutRange
import Derived.Deep.DrawnRows
namespace Go.Proofs.Ytbeijbhgpddbmaa.showStale
open Go.ChangeShapes Go.WideShapes Go.ChangeAt Go.RowKit Rf
attribute [local go_sem ↓] run_max2 run_min2
open Mem Bv AM SM
/-- what the law knows, as a variable's worth -/
structure QV (w W : World) (I : IM) (L M K N : List Value) (ss : List (List Value)) (vh : Value) (css : List (List Value)) (hs : List HeldM) (nx : Int) (ms : List (Int × Int × Bool)) (vr : Value) (rss : List (List Value)) (rq : List (Int × Nat)) (ds : Int) (dv : Nat) (au : BitVec 32) (code : Int) : Prop where
  bel : Below w.heap.size w W
  v : V2 W w.heap.size (w.heap.size + 1) L M
  kb : W.heap[w.heap.size + 1 + 1]? = some (.cells K.toArray 41 (0, 0))
  nb : W.heap[w.heap.size + 1 + 1 + 1]? = some (.cells N.toArray 50 (0, 0))
  ly : LY W L I.kinds ss I.nsig I.clr I.st I.A I.c I.A1 I.c1
  a : IMA I L M W
  k : KerAt W K vh css hs nx ms
  n : NxAt W N vr rss rq ds dv au code
theorem QV.later {w W W' : World} {I : IM} {L M K N : List Value} {ss : List (List Value)} {vh : Value} {css : List (List Value)} {hs : List HeldM} {nx : Int} {ms : List (Int × Int × Bool)} {vr : Value} {rss : List (List Value)} {rq : List (Int × Nat)} {ds : Int} {dv : Nat} {au : BitVec 32} {code : Int} (h : QV w W I L M K N ss vh css hs nx ms vr rss rq ds dv au code) (b : Below W.heap.size W W') : QV w W' I L M K N ss vh css hs nx ms vr rss rq ds dv au code :=
  ⟨below_step h.bel b, h.v.later b, var_later h.kb b, var_later h.nb b, h.ly.later b, h.a.later b, h.k.later b, h.n.later b⟩
set_option maxHeartbeats 8000000 in
set_option maxRecDepth 100000 in
theorem walk (I : IM) (L M K N : List Value) (ss : List (List Value)) (nfl : Nat) (lens : List Nat) (A3 : Option Addr) (c3 : Nat) (ve : Value) (vh : Value) (css : List (List Value)) (hs : List HeldM) (nx : Int) (ms : List (Int × Int × Bool)) (vr : Value) (rss : List (List Value)) (rq : List (Int × Nat)) (ds : Int) (dv : Nat) (au : BitVec 32) (code errs : Int) (w : World)
    (hY : LY w L I.kinds ss I.nsig I.clr I.st I.A I.c I.A1 I.c1) (hA : IMA I L M w) (hK : KerAt w K vh css hs nx ms) (hN : NxAt w N vr rss rq ds dv au code) (h2 : L[2]? = some ve) (h3 : L[3]? = some (.slice A3 nfl c3)) (hE : ExsAt w ve lens) (hdv : dv ≤ 9223372036854775807) (hvs : ∀ r ∈ rq, r.2 ≤ 9223372036854775807) :
    Calls Try.prog 3 #[.agg L.toArray, .agg M.toArray, .agg K.toArray, .agg N.toArray, .int .i64 errs] w fun e w' => e = .returned (.bool true) ∧ Below w.heap.size w w' := by
  have szL := lay_size hA.f.l.len
  have szM := img_size hA.f.m.len
  have szK := ker_size hK.len
  have szN := nx_size hN.len
  obtain ⟨W0, hW0⟩ : ∃ W0, (((w.alloc (.cells L.toArray 29)).alloc (.cells M.toArray 35)).alloc (.cells K.toArray 41)).alloc (.cells N.toArray 50) = W0 := ⟨_, rfl⟩
  have B0 : Below w.heap.size w W0 := by rw [← hW0]; exact below_step (below_step (below_step (below_new _ _) (below_new _ _)) (below_new _ _)) (below_new _ _)
  have V : QV w W0 I L M K N ss vh css hs nx ms vr rss rq ds dv au code := ⟨B0, by rw [← hW0]; exact ⟨old_at (old_at (old_at (new_at rfl _) _) _) _, old_at (old_at (new_at (by simp) _) _) _⟩, by rw [← hW0]; exact old_at (new_at (by simp) _) _, by rw [← hW0]; exact new_at (by simp) _, hY.later B0, hA.later B0, hK.later B0, hN.later B0⟩
  have HE := Lib.hid (hE.later B0)
  have HV := Lib.hid (And.intro hdv hvs)
  clear hA hK hN hY hE B0 hdv hvs
  obtain ⟨s, hs0⟩ : ∃ s, I.stale = s := ⟨_, rfl⟩
  have HS := Lib.hid hs0
  clear hs0
  go_enter Try.func3, Try.ntmps3
  go_upto_region 1 with (fail)
  generalize (((w.alloc (.cells L.toArray 29)).alloc (.cells M.toArray 35)).alloc (.cells K.toArray 41)).alloc (.cells N.toArray 50) = W0' at *
  subst hW0
  have RL := range_of V.v.l
  go_wp2_with (first
    | refine wpList_load_k 29 (.tmp 5) (by rfl) w.heap.size 0 (by rfl) L _ RL Try.underlying29 rfl szL (by kernel_rfl) ?_
    | fail)
  refine (Great_c L I.kinds.length I.nsig nfl lens I.A I.A1 A3 I.c I.c1 c3 ve _ V.a.f.l.sec V.a.f.l.sig h2 h3 HE.out).mono ?_
  rintro e W1 ⟨he, b1⟩
  obtain ⟨g1, hg1⟩ : ∃ g, greatV I.kinds.length I.nsig nfl lens = g := ⟨_, rfl⟩
  rw [hg1] at he
  subst he
  replace V := V.later b1
  clear b1 hg1 RL
  cases g1
  rotate_left
  · go_wp2_with fail
    refine (wakes28_c _).mono ?_
    rintro e W2 ⟨rfl, b2⟩
    have B := below_step V.bel b2
    go_wp2
    go_ret
    exact ⟨rfl, B⟩
  have RK := range_of V.kb
  go_wp2_with (first
    | refine wpList_load_k 41 (.tmp 7) (by rfl) (w.heap.size + 1 + 1) 0 (by rfl) K _ RK Try.underlying41 rfl szK (by kernel_rfl) ?_
    | fail)
  refine (Great18_c K vh css hs nx ms _ V.k).mono ?_
  rintro e W2 ⟨b2, g2, rfl, hsm⟩
  replace V := V.later b2
  clear b2 RK
  have HSM := Lib.hid hsm
  clear hsm
  cases g2
  rotate_left
  · go_wp2_with fail
    refine (wakes28_c _).mono ?_
    rintro e W3 ⟨rfl, b3⟩
    have B := below_step V.bel b3
    go_wp2
    go_ret
    exact ⟨rfl, B⟩
  have RN := range_of V.nb
  go_wp2_with (first
    | refine wpList_load_k 50 (.tmp 8) (by rfl) (w.heap.size + 1 + 1 + 1) 0 (by rfl) N _ RN Try.underlying50 rfl szN (by kernel_rfl) ?_
    | fail)
  refine (great28_c N vr rss rq ds dv au code _ V.n HV.out.1 HV.out.2).mono ?_
  rintro e W3 ⟨b3, g3, rfl, hgr⟩
  replace V := V.later b3
  clear b3 RN
  have HGR := Lib.hid hgr
  clear hgr
  cases g3
  rotate_left
  · go_wp2_with fail
    refine (wakes28_c _).mono ?_
    rintro e W4 ⟨rfl, b4⟩
    have B := below_step V.bel b4
    go_wp2
    go_ret
    exact ⟨rfl, B⟩
  have RL := range_of V.v.l
  have RM := range_of V.v.m
  have RK := range_of V.kb
  have RN := range_of V.nb
  obtain ⟨S3, hS3⟩ : ∃ S, showL s0 = S := ⟨_, rfl⟩
  have okZ : ShOk s0 := ⟨by decide, by decide, by decide⟩
  have heZ : ∀ W : World, (Op.equalIn 10000 56 (.agg S3.toArray) (.agg S3.toArray)).run Try.prog W = .ok true W := fun W => by rw [← hS3, eq_show _ _ okZ okZ W, decide_eq_true rfl]
  have r0 : ∀ W : World, (Instr.build 56 #[]).run Try.prog W = .ok (.agg S3.toArray) W := fun W => hS3 ▸ run_none W
  have HS3 := Lib.hid hS3
  clear hS3 okZ
  go_wp2_with (first
    | refine wpList_load_k 29 (.tmp 5) (by rfl) w.heap.size 0 (by rfl) L _ RL Try.underlying29 rfl szL (by kernel_rfl) ?_
    | refine wpList_load_k 35 (.tmp 6) (by rfl) (w.heap.size + 1) 0 (by rfl) M _ RM Try.underlying35 rfl szM (by kernel_rfl) ?_
    | refine wpList_load_k 41 (.tmp 7) (by rfl) (w.heap.size + 1 + 1) 0 (by rfl) K _ RK Try.underlying41 rfl szK (by kernel_rfl) ?_
    | refine wpList_load_k 50 (.tmp 8) (by rfl) (w.heap.size + 1 + 1 + 1) 0 (by rfl) N _ RN Try.underlying50 rfl szN (by kernel_rfl) ?_
    | fail)
  refine (Of_dead L M K N errs _).mono ?_
  rintro e W4 ⟨rfl, b4⟩
  rw [HS3.out]
  replace V := V.later b4
  clear b4 RL RM RK RN
  have RL := range_of V.v.l
  have RM := range_of V.v.m
  go_wp2_with (first
    | refine wpList_bld_k 56 [] _ _ (by rfl) (by rfl) (r0 _) (by kernel_rfl) ?_
    | refine wpList_load_k 29 (.tmp 5) (by rfl) w.heap.size 0 (by rfl) L _ RL Try.underlying29 rfl szL (by kernel_rfl) ?_
    | refine wpList_load_k 35 (.tmp 6) (by rfl) (w.heap.size + 1) 0 (by rfl) M _ RM Try.underlying35 rfl szM (by kernel_rfl) ?_
    | fail)
  refine (rstale_c I L M s _ HS.out.symm V.a.f).mono ?_
  rintro e W5 ⟨rfl, b5⟩
  replace V := V.later b5
  clear b5 RL RM
  cases s
  · go_wp2_with fail
    refine (wakes28_c _).mono ?_
    rintro e W6 ⟨rfl, b6⟩
    have B := below_step V.bel b6
    go_wp2
    go_ret
    exact ⟨rfl, B⟩
  obtain ⟨hl10, hsm⟩ := HSM.out trivial
  have hrq := HGR.out rfl
  have hfew : Few hs := fun h hh => by obtain ⟨a1, a2, a3⟩ := hsm h hh; exact ⟨by omega, by omega, by omega⟩
  have RL := range_of V.v.l
  have RM := range_of V.v.m
  have RK := range_of V.kb
  have RN := range_of V.nb
  go_wp2_with (first
    | refine wpList_load_k 29 (.tmp 5) (by rfl) w.heap.size 0 (by rfl) L _ RL Try.underlying29 rfl szL (by kernel_rfl) ?_
    | refine wpList_load_k 35 (.tmp 6) (by rfl) (w.heap.size + 1) 0 (by rfl) M _ RM Try.underlying35 rfl szM (by kernel_rfl) ?_
    | refine wpList_load_k 41 (.tmp 7) (by rfl) (w.heap.size + 1 + 1) 0 (by rfl) K _ RK Try.underlying41 rfl szK (by kernel_rfl) ?_
    | refine wpList_load_k 50 (.tmp 8) (by rfl) (w.heap.size + 1 + 1 + 1) 0 (by rfl) N _ RN Try.underlying50 rfl szN (by kernel_rfl) ?_
    | fail)
  refine (Of_c I L M K N ss vh css hs nx ms vr rss rq ds dv au code errs _ V.ly V.a V.k (by have := V.k.hs.len; omega) hfew V.n (by omega)).mono ?_
  rintro e W6 ⟨rfl, b6⟩
  have B6 := below_step V.bel b6
  clear V b6 RL RM RK RN HSM HGR hsm hfew hrq hl10 r0 heZ
  obtain ⟨q0, q2, q3, q5⟩ := of_stale I HS.out hs rq ds au code errs
  obtain ⟨o, ho⟩ : ∃ o, ofM I hs rq ds au code errs = o := ⟨_, rfl⟩
  rw [ho] at q0 q2 q3 q5 ⊢
  clear ho
  obtain ⟨S1, hS1⟩ : ∃ S, showL o = S := ⟨_, rfl⟩
  rw [hS1]
  obtain ⟨zs, hzi, hzs⟩ := show_zero
  obtain ⟨zc, hzc⟩ : ∃ zc, zs.cells = zc := ⟨_, rfl⟩
  rw [hzc] at hzs
  have szs : (Try.prog.info? 56).map (·.size) = some S1.length := by rw [← hS1]; exact show_size _
  have oS : S1.toArray.all (·.oneCell') = true := all_one (by rw [← hS1]; exact show_one _)
  have lS : S1.length = zc.size := by rw [hzs, ← hS1]; rfl
  obtain ⟨Wn, hWn, X, bV, ths⟩ := newv (V := W6) S1 zc 56 lS
  have x0 := cell_list X (i := 0) (v := .int .u32 0) (by rw [← hS1]; show some (Value.int .u32 (o.clear.toNat : Int)) = _; rw [q0]; rfl)
  have x2 := cell_list X (i := 2) (v := .int .u32 0) (by rw [← hS1]; show some (Value.int .u32 (o.normal.toNat : Int)) = _; rw [q2]; rfl)
  have x3 := cell_list X (i := 3) (v := .int .u32 0) (by rw [← hS1]; show some (Value.int .u32 (o.reverse.toNat : Int)) = _; rw [q3]; rfl)
  have x5 := cell_list X (i := 5) (v := .int .u32 0) (by rw [← hS1]; show some (Value.int .u32 (o.off.toNat : Int)) = _; rw [q5]; rfl)
  have HWN := Lib.hid hWn
  have B7 := below_step B6 bV
  clear hWn bV B6 hS1 q0 q2 q3 q5 X
  go_wp2_with (first
    | refine wpList_new (by rfl) 56 zs zc hzi hzc (by rfl) ?_
    | (refine wpList_store_mid rfl 56 (.tmp 11) (.tmp 41) (by rfl) W6.heap.size 0 S1.toArray (by rfl) (by rfl) ths (by simpa using szs) oS ?_; rw [HWN.out])
    | fail)
  refine (wakes28_c _).mono ?_
  rintro e W8 ⟨rfl, b8⟩
  have B := below_step B7 b8
  clear x0 x2 x3 x5
  go_wp2
  go_ret
  exact ⟨rfl, B⟩

theorem own : ownKnob Try.prog.godebug = none := by kernel_rfl
theorem laidOut : laidOutB Try.prog = true := by kernel_rfl
noncomputable def wit (os : Os) : World := World.holding Try.prog os ⟨#[], #[], []⟩
set_option maxRecDepth 100000 in
theorem lifted (os : Os) (started : os.Started) (H : Type) (enc : TypeId × Value → H) (F : Stop.Interp) :
    ReturnsInHanded {} Try.checked os 3 .any ((OpenSpec.ofChange Rows.showStaleSpec).preRow enc Try.prog Try.f3 Rows.showStaleRow.domain false Rows.showStaleRow.laid) (((OpenSpec.ofChange Rows.showStaleSpec).at F).post enc Try.prog Try.f3 false true false false) := by
  obtain ⟨x, hx⟩ : ∃ x, DataW.whole enc Try.prog ((wit os).forCall (fun _ _ => 0) ⟨#[], #[.agg zLay, .agg zImg, .agg (kcL 0 (.slice none 0 0) machL).toArray, .agg (nxL 0 (.slice none 0 0) 0).toArray, .int .i64 0], []⟩).memory Try.f3.params.toList Rows.showStaleSpec.vars false (#[.agg zLay, .agg zImg, .agg (kcL 0 (.slice none 0 0) machL).toArray, .agg (nxL 0 (.slice none 0 0) 0).toArray, .int .i64 0] : Array Value).toList 8 = some x := Option.isSome_iff_exists.1 (by kernel_rfl)
  refine Fr.lift (C := Try.checked) (s := OpenSpec.ofChange Rows.showStaleSpec) own started (by kernel_rfl) Try.func3
    (witness_row_at (enc := enc) (C := Try.checked) false (wit os) #[.agg zLay, .agg zImg, .agg (kcL 0 (.slice none 0 0) machL).toArray, .agg (nxL 0 (.slice none 0 0) 0).toArray, .int .i64 0] rfl (by kernel_rfl) (by kernel_rfl) (by kernel_rfl)
      (OpenSpec.preRow_of_cond 8 hx rfl (fun k hk => by cases hk) (by kernel_rfl) (laidMet_of_run' 8 (by kernel_rfl) (by kernel_rfl))))
    laidOut (by kernel_rfl) rfl Try.underlying4 rfl rfl ?_ ?_
  · intro ds hds
    match ds, hds with
    | [_, _, _, _, _], _ => rfl
  · intro W base args ds before hval hA hlt _ hz hL
    rw [Try.params3] at hA hval
    obtain ⟨v0, vs0, d0, ds0, p0, q0, hargs, rfl, rfl, h0, r0⟩ := trodAll_cons hA
    obtain ⟨v1, vs1, d1, ds1, p1, q1, rfl, rfl, rfl, h1, r1⟩ := trodAll_cons r0
    obtain ⟨v2, vs2, d2, ds2, p2, q2, rfl, rfl, rfl, h2, r2⟩ := trodAll_cons r1
    obtain ⟨v3, vs3, d3, ds3, p3, q3, rfl, rfl, rfl, h3, r3⟩ := trodAll_cons r2
    obtain ⟨v4, vs4, d4, ds4, p4, q4, rfl, rfl, rfl, h4, r4⟩ := trodAll_cons r3
    obtain ⟨rfl, rfl, rfl⟩ := trodAll_nil r4
    obtain rfl : args = #[v0, v1, v2, v3, v4] := by cases args; simp_all
    obtain ⟨L, kinds, ss, lens, nsig, nfl, clr, st, A, c, A1, c1, A3, c3, ve, rfl, hLA⟩ := open_layout (hval 0 _ v0 rfl rfl) h0
    obtain ⟨M, age, free, occ, nor, rev, lam, rfl, hM, hag, hfr⟩ := open_image (hval 1 _ v1 rfl rfl) h1
    obtain ⟨K, vh, css, hs, nx, ms, rfl, hK⟩ := open_kernel (hval 2 _ v2 rfl rfl) h2
    obtain ⟨N, vr, rss, rq, dsk, dv, au, code, rfl, hN, hcd, hdv, hvs⟩ := open_nx (hval 3 _ v3 rfl rfl) h3
    obtain ⟨errs, rfl, rfl, rfl, w4⟩ := open_int Try.underlying3 (hval 4 _ v4 rfl rfl) h4
    exact walk ⟨kinds, nsig, clr, st, A, c, A1, c1, age, free, occ, nor, rev, lam⟩ L M K N ss nfl lens A3 c3 ve vh css hs nx ms vr rss rq dsk dv au code errs W ⟨hLA.f, hLA.sa, hLA.sl, hLA.sr⟩ ⟨⟨hLA.f, hM⟩, hLA.sa⟩ hK hN hLA.ex hLA.fl hLA.ea hdv hvs

theorem said : Rows.ShowStaleSaid :=
  OpenClaim.holds_of_cond 3 Try.f3 rfl rfl rfl rfl rfl rfl rfl ⟨rfl, rfl, rfl, rfl, rfl⟩ rfl rfl rfl rfl rfl (by kernel_rfl) Try.func3 (by kernel_rfl)
    (of_decide_eq_true (by kernel_rfl)) (by unfold Func.isWrapper; first | (rw [if_pos (by decide +kernel)]; kernel_rfl) | (rw [if_neg (by decide +kernel)]; exact ⟨rfl, rfl⟩))
    (fun os started H enc _ F => by rw [OpenClaim.pre_eq_preRow]; exact lifted os started H enc F)
#print axioms said
end Go.Proofs.Ytbeijbhgpddbmaa.showStale
