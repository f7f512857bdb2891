/- ShowOnly: for every argument the statement's Go text returns true and turns nothing that was there. It is proved at every argument, without a condition beyond the row. -/
import Derived.Test.YtbeijbhgpddbmaaShZ
import Derived.Test.YtbeijbhgpddbmaaShFin
import Derived.Test.YtbeijbhgpddbmaaAspG8
import Derived.Test.YtbeijbhgpddbmaaAspFin
import Derived.Test.YtbeijbhgpddbmaaFrame
import Derived.Deep.RegionHeld3
import Derived.Deep.CutRange
import Derived.Deep.DrawnRows
namespace Go.Proofs.Ytbeijbhgpddbmaa.showOnly
open Go.ChangeShapes Go.WideShapes Go.ChangeAt Go.RowKit Rf
attribute [local go_sem ↓] run_max2 run_min2
open Mem Bv AM SM Bits Str
/-- what the law knows, as a variable's worth -/
structure OV (w W : World) (L : List Value) (kinds : List Int) (ss : List (List Value)) (nsig : Nat) (clr st : Int) (A : Option Addr) (c : Nat) (A1 : Option Addr) (c1 : Nat) (S : List Value) (u : Value) (pl : List (BitVec 8)) : Prop where
  bel : Below w.heap.size w W
  l : W.heap[w.heap.size]? = some (.cells L.toArray 29 (0, 0))
  s : W.heap[w.heap.size + 1]? = some (.cells S.toArray 56 (0, 0))
  ly : LY W L kinds ss nsig clr st A c A1 c1
  up : SliceAt W 1 u pl.length (u8s pl)
theorem OV.later {w W W' : World} {L : List Value} {kinds : List Int} {ss : List (List Value)} {nsig : Nat} {clr st : Int} {A : Option Addr} {c : Nat} {A1 : Option Addr} {c1 : Nat} {S : List Value} {u : Value} {pl : List (BitVec 8)} (h : OV w W L kinds ss nsig clr st A c A1 c1 S u pl) (b : Below W.heap.size W W') : OV w W' L kinds ss nsig clr st A c A1 c1 S u pl :=
  ⟨below_step h.bel b, var_later h.l b, var_later h.s b, h.ly.later b, h.up.later b⟩
theorem secs_le (s : ShowM) (kinds : List Int) : ∀ n, sumW (secsF s kinds n) ≤ 5 * n
  | 0 => by simp [secsF, sumW]
  | n + 1 => by
    rw [secsF_succ, sumW_append]
    have h1 := secs_le s kinds n
    have h2 : sumW (secF s kinds n) ≤ 5 := by unfold secF; split <;> simp [sumW]
    omega
theorem flds_le (s : ShowM) (kinds : List Int) (nsig : Nat) : sumW (flds s kinds nsig) ≤ 200 := by
  unfold flds
  rw [sumW_append, sumW_append, sigsF_w]
  have h1 := secs_le s kinds (min kinds.length 24)
  have h2 : sumW (endF s) = 14 := rfl
  omega
theorem mask_u (k : Nat) (hk : k ≤ 24) : IntKind.u64.wrap (k : Int) = (k : Int) ∧ IntKind.u32.wrap (2 ^ min k 32) = ((2 ^ k : Nat) : Int) ∧ IntKind.u32.wrap (((2 ^ k : Nat) : Int) - 1) = ((maskN k).toNat : Int) ∧ IntKind.u32.wrap (2 ^ k) = ((2 ^ k : Nat) : Int) := by
  have hp : 2 ^ k ≤ 2 ^ 24 := Nat.pow_le_pow_right (by omega) hk
  have hp1 : 1 ≤ 2 ^ k := Nat.one_le_two_pow
  have e1 : ((2 : Int) ^ k) = ((2 ^ k : Nat) : Int) := by norm_cast
  refine ⟨IntWalk.u64_in _ (by omega), ?_, ?_, by rw [e1]; exact Bv.wrap_small .u32 rfl (by omega) (show ((2 ^ k : Nat) : Int) < (2 : Int) ^ 32 by omega)⟩
  · rw [Nat.min_eq_left (by omega), e1]
    exact Bv.wrap_small .u32 rfl (by omega) (show ((2 ^ k : Nat) : Int) < (2 : Int) ^ 32 by omega)
  · rw [Bv.wrap_small .u32 rfl (by omega) (show ((2 ^ k : Nat) : Int) - 1 < (2 : Int) ^ 32 by omega)]
    unfold maskN
    rw [BitVec.toNat_ofNat, Nat.mod_eq_of_lt (by omega)]
    omega
set_option maxHeartbeats 16000000 in
set_option maxRecDepth 100000 in
theorem walk (L : List Value) (kinds : List Int) (ss : List (List Value)) (nsig nfl : Nat) (lens : List Nat) (clr st : Int) (A : Option Addr) (c : Nat) (A1 : Option Addr) (c1 : Nat) (A3 : Option Addr) (c3 : Nat) (ve : Value) (u : Value) (pl : List (BitVec 8)) (s : ShowM) (w : World)
    (hY : LY w L kinds ss nsig clr st A c A1 c1) (hk2 : ∀ z ∈ kinds, 0 ≤ z ∧ z ≤ 255) (h2 : L[2]? = some ve) (h3 : L[3]? = some (.slice A3 nfl c3)) (hE : ExsAt w ve lens) (hu : SliceAt w 1 u pl.length (u8s pl)) (hok : ShOk s) :
    Calls Try.prog 4 #[.agg L.toArray, u, .agg (showL s).toArray] w fun e w' => e = .returned (.bool true) ∧ Below w.heap.size w w' := by
  have szL := lay_size hY.f.len
  obtain ⟨S, hS⟩ : ∃ S, showL s = S := ⟨_, rfl⟩
  rw [hS]
  have szS : (Try.prog.info? 56).map (·.size) = some S.length := by rw [← hS]; exact show_size _
  obtain ⟨W0, hW0⟩ : ∃ W0, (w.alloc (.cells L.toArray 29)).alloc (.cells S.toArray 56) = W0 := ⟨_, rfl⟩
  have B0 : Below w.heap.size w W0 := by rw [← hW0]; exact below_step (below_new _ _) (below_new _ _)
  have V : OV w W0 L kinds ss nsig clr st A c A1 c1 S u pl := ⟨B0, by rw [← hW0]; exact old_at (new_at rfl _) _, by rw [← hW0]; exact new_at (by simp) _, hY.later B0, hu.later B0⟩
  have HE := Lib.hid (hE.later B0)
  have HK2 := Lib.hid hk2
  have HOK := Lib.hid hok
  have HSS := Lib.hid hS
  obtain ⟨Au, cu, rfl, _⟩ := hu.form
  obtain ⟨M, hM⟩ : ∃ M, M = (sumW (flds s0 kinds nsig) + 7) / 8 := ⟨_, rfl⟩
  have hM2 : 2 ≤ M ∧ M ≤ 30 := by have := sumW_14 s0 kinds nsig; have := flds_le s0 kinds nsig; omega
  have HM := Lib.hid hM
  have HMB := Lib.hid hM2
  clear hY hE B0 hu hk2 hok hS hM hM2
  obtain ⟨zs, hzi, hzs⟩ := show_zero
  obtain ⟨zc, hzc⟩ : ∃ zc, zs.cells = zc := ⟨_, rfl⟩
  rw [hzc] at hzs
  obtain ⟨S3, hS3⟩ : ∃ S, showL s0 = S := ⟨_, rfl⟩
  have szs3 : (Try.prog.info? 56).map (·.size) = some S3.toArray.size := by rw [← hS3]; exact show_size _
  have oS3 : S3.toArray.all (·.oneCell') = true := all_one (by rw [← hS3]; exact show_one _)
  have lS3 : S3.length = zc.size := by rw [hzs, ← hS3]; rfl
  have HS3 := Lib.hid hS3
  clear hS3
  have ent := enters Try.func12 (by kernel_rfl) rfl
  have HENT := Lib.hid ent
  clear ent
  go_enter Try.func4, Try.ntmps4
  go_upto_region 1 with (fail)
  generalize (w.alloc (.cells L.toArray 29)).alloc (.cells S.toArray 56) = W0' at *
  subst hW0
  have RL := range_of V.l
  go_wp2_with (first
    | refine wpList_load_k 29 (.tmp 3) (by rfl) w.heap.size 0 (by rfl) L _ RL Try.underlying29 rfl szL (by kernel_rfl) ?_
    | fail)
  refine (Great_c L kinds.length nsig nfl lens A A1 A3 c c1 c3 ve _ V.ly.f.sec V.ly.f.sig h2 h3 HE.out).mono ?_
  rintro e W1 ⟨he, b1⟩
  obtain ⟨g1, hg1⟩ : ∃ g, greatV kinds.length nsig nfl lens = g := ⟨_, rfl⟩
  rw [hg1] at he
  subst he
  replace V := V.later b1
  clear b1 hg1 RL HE h2 h3
  cases g1 with
  | true =>
    go_wp2_with fail
    refine (wakes28_c _).mono ?_
    rintro e W2 ⟨rfl, b2⟩
    have B := below_step V.bel b2
    go_wp2
    go_ret
    exact ⟨rfl, B⟩
  | false =>
    by_cases h60 : 60 < pl.length
    · have q1 : decide ((60 : Int) < (pl.length : Int)) = true := decide_eq_true (by omega)
      clear h60
      go_wp2_with fail
      refine (wakes28_c _).mono ?_
      rintro e W2 ⟨rfl, b2⟩
      have B := below_step V.bel b2
      go_wp2
      go_ret
      exact ⟨rfl, B⟩
    · have q1 : decide ((60 : Int) < (pl.length : Int)) = false := decide_eq_false (by omega)
      have HPL : Hid (pl.length ≤ 60) := Lib.hid (by omega)
      clear h60
      go_upto_region 3 with (fail)
      clear q1
      generalize W1 = V3 at *
      go_cut [7] from 26 to 28 (fun x7 wx => ∃ (Ap : Option Addr) (m cp : Nat) (Bp : List (BitVec 8)), x7 = .slice Ap m cp ∧ m = Bp.length ∧ m = M ∧ Below V3.heap.size V3 wx ∧ SliceAt wx 1 (.slice Ap m cp) m (u8s Bp) ∧ Bits.Holds Bp (fbits (flds s kinds nsig)))
      case first =>
        have RL := range_of V.l
        have RS := range_of V.s
        have CP := Put_c L kinds ss nsig clr st A c A1 c1 s V3 V.ly HOK.out.c HK2.out
        rw [HSS.out] at CP
        go_wp2_with (first
          | refine wpList_load_k 29 (.tmp 3) (by rfl) w.heap.size 0 (by rfl) L _ RL Try.underlying29 rfl szL (by kernel_rfl) ?_
          | refine wpList_load_k 56 (.tmp 5) (by rfl) (w.heap.size + 1) 0 (by rfl) S _ RS Try.underlying56 rfl szS (by kernel_rfl) ?_
          | fail)
        refine CP.mono ?_
        rintro e W2 ⟨b2, Ap, cp, Bp, rfl, ho, hh⟩
        have HO := Lib.hid (sliceAt_of_own ho)
        have HB := Lib.hid b2
        have HH := Lib.hid hh
        clear ho hh b2 CP RL RS
        go_wp2_with fail
        go_meet
        exact ⟨Ap, _, cp, Bp, rfl, rfl, (put_len HH.out).trans HM.out.symm, HB.out, HO.out, HH.out⟩
      case rest =>
        obtain ⟨Ap, m, cp, Bp, rfl, hmB, hmM, bF, sp, hBp⟩ := hcut
        replace V := V.later bF
        have HBL := Lib.hid hmB
        have HmM := Lib.hid hmM
        have HP := Lib.hid hBp
        clear bF hmB hmM hBp
        go_upto_region 4 with (fail)
        go_cut [8, 9] from 29 to 34 (fun x8 x9 wx => ∃ (g8 : Nat) (x : ShowM), x8 = .pointer (some ⟨g8, 0, none⟩) ∧ x9 = .int .i64 0 ∧ Below wc.heap.size wc wx ∧ wx.heap[g8]? = some (.cells (showL x).toArray 56 (0, 0)) ∧ Bits.Holds Bp (fbits (flds x kinds nsig)) ∧ (0 ≤ x.code ∧ x.code ≤ 255))
        case first =>
          have RL := range_of V.l
          have CP := Take_c L kinds ss nsig clr st A c A1 c1 (.slice Ap m cp) Bp wc V.ly HK2.out (by rw [← HBL.out]; exact sp) (by rw [← HBL.out, HmM.out]; have := HMB.out; omega)
          go_wp2_with (first
            | refine wpList_load_k 29 (.tmp 3) (by rfl) w.heap.size 0 (by rfl) L _ RL Try.underlying29 rfl szL (by kernel_rfl) ?_
            | fail)
          refine CP.mono ?_
          rintro e W2 ⟨b2, x, err, rfl, ht⟩
          obtain ⟨rfl, hx, hh⟩ := take_put HOK.out.c.1 HP.out ht
          obtain ⟨hh2, hdk⟩ := taken ht
          obtain ⟨n1, n2, _⟩ := taken_nums hdk
          have HN := Lib.hid (show 0 ≤ x.code ∧ x.code ≤ 255 by omega)
          have HH := Lib.hid hh
          clear hx hh hh2 hdk n1 n2 ht
          obtain ⟨X, hX⟩ : ∃ X, showL x = X := ⟨_, rfl⟩
          rw [hX]
          have szx : (Try.prog.info? 56).map (·.size) = some X.length := by rw [← hX]; exact show_size _
          have oX : X.toArray.all (·.oneCell') = true := all_one (by rw [← hX]; exact show_one _)
          have lX : X.length = zc.size := by rw [hzs, ← hX]; rfl
          have HXX := Lib.hid hX
          clear hX
          obtain ⟨Wn, hWn, XX, bV, ths⟩ := newv (V := W2) X zc 56 lX
          have HWN := Lib.hid hWn
          have HX := Lib.hid XX
          have HBV := Lib.hid (below_step b2 bV)
          clear hWn XX bV CP RL b2
          go_wp2_with (first
            | refine wpList_new (by rfl) 56 zs zc hzi hzc (by rfl) ?_
            | (refine wpList_store_mid rfl 56 (.tmp 8) (.tmp 33) (by rfl) W2.heap.size 0 X.toArray (by rfl) (by rfl) ths (by simpa using szx) oX ?_; rw [HWN.out])
            | fail)
          go_meet
          exact ⟨_, x, rfl, rfl, HBV.out, HXX.out ▸ HX.out, HH.out, HN.out⟩
        case rest =>
          obtain ⟨g8, x, rfl, rfl, bF, h8, hBx, hxc⟩ := hcut
          replace V := V.later bF
          replace sp := sp.later bF
          have HPX := Lib.hid hBx
          have HXC := Lib.hid hxc
          clear bF hBx hxc
          obtain ⟨X, hX⟩ : ∃ X, showL x = X := ⟨_, rfl⟩
          rw [hX] at h8
          have szx : (Try.prog.info? 56).map (·.size) = some X.length := by rw [← hX]; exact show_size _
          have HXX := Lib.hid hX
          clear hX
          go_upto_region 5 with (fail)
          go_cut [57] from 35 to 56 (fun x57 wx => x57 = .bool false ∧ Below wc.heap.size wc wx)
          case first =>
            have cvp : ∀ W : World, SliceAt W 1 (.slice Ap m cp) m (u8s Bp) → (convert 60 9 (.slice Ap m cp)).run Try.prog W = .ok (.string (strOf Bp)) W := fun W h => conv_str (P := Try.prog) (dst := 9) (by rw [← HBL.out]; exact h) Try.underlying60 Try.underlying5 Try.underlying9
            have hm2 : 2 ≤ m := by rw [HmM.out]; exact HMB.out.1
            have hlt1 : decide ((m : Int) < 2) = false := decide_eq_false (by omega)
            have CS := Lib.hid (fun (W : World) (h : LY W L kinds ss nsig clr st A c A1 c1) => Size_c L kinds ss nsig clr st A c A1 c1 (m : Int) W (by rw [HmM.out, HM.out]) h HK2.out)
            have CP := Lib.hid (fun (W : World) (h : LY W L kinds ss nsig clr st A c A1 c1) => HXX.out ▸ Put_c L kinds ss nsig clr st A c A1 c1 x W h HXC.out HK2.out)
            refine wp_region_held_drew (S := (fun w' => w'.rangeAt w.heap.size 0 L ∧ w'.rangeAt g8 0 X ∧ (convert 60 9 (.slice Ap m cp)).run Try.prog w' = .ok (.string (strOf Bp)) w')) (by kernel_rfl) ?_ (fun hHeld => ?_)
            · have bd : Below wc.heap.size wc wc.drew := (Below.refl _ wc).drew
              exact ⟨range_of V.l, range_of h8, cvp _ (sp.later bd)⟩
            have Bb : Below wc.heap.size wc wc.drew := (Below.refl _ wc).drew
            replace V := V.later Bb
            replace sp := sp.later Bb
            replace h8 := var_later h8 Bb
            generalize wc.drew = X1 at *
            refine wpAnyH_take (i := 0) (v := ?_) rfl (by kernel_rfl) (by kernel_rfl) (by kernel_rfl) (fun _ _ _ h => h) (Or.inl ⟨by kernel_rfl, ?_⟩) (by assumption) ?_
            rotate_left
            · intro w hSw
              try dsimp only at hSw
              go_simp
              try with_reducible rfl
            simp only [List.getElem_toArray, List.getElem_cons_succ, List.getElem_cons_zero, Act.put, List.setIfInBounds_toArray, List.set_cons_zero, List.set_cons_succ]
            refine wpAnyH_take (i := 1) (v := ?_) rfl (by kernel_rfl) (by kernel_rfl) (by kernel_rfl) (fun _ _ _ h => h) (Or.inl ⟨by kernel_rfl, ?_⟩) (by assumption) ?_
            rotate_left
            · intro w hSw
              try dsimp only at hSw
              go_simp
              try with_reducible rfl
            simp only [List.getElem_toArray, List.getElem_cons_succ, List.getElem_cons_zero, Act.put, List.setIfInBounds_toArray, List.set_cons_zero, List.set_cons_succ]
            refine wpAnyH_take (i := 2) (v := ?_) rfl (by kernel_rfl) (by kernel_rfl) (by kernel_rfl) (fun _ _ _ h => h) (Or.inl ⟨by kernel_rfl, ?_⟩) (by assumption) ?_
            rotate_left
            · intro w hSw
              try dsimp only at hSw
              go_simp
              try with_reducible rfl
            simp only [List.getElem_toArray, List.getElem_cons_succ, List.getElem_cons_zero, Act.put, List.setIfInBounds_toArray, List.set_cons_zero, List.set_cons_succ]
            refine wpAnyH_take (i := 3) (v := ?_) rfl (by kernel_rfl) (by kernel_rfl) (by kernel_rfl) (fun _ _ _ h => h) (Or.inl ⟨by kernel_rfl, ?_⟩) (by assumption) ?_
            rotate_left
            · intro w hSw
              try dsimp only at hSw
              go_simp
              try with_reducible rfl
            simp only [List.getElem_toArray, List.getElem_cons_succ, List.getElem_cons_zero, Act.put, List.setIfInBounds_toArray, List.set_cons_zero, List.set_cons_succ]
            refine wpAnyH_take (i := 4) (v := ?_) rfl (by kernel_rfl) (by kernel_rfl) (by kernel_rfl) (fun _ _ _ h => h) (Or.inl ⟨by kernel_rfl, ?_⟩) (by assumption) ?_
            rotate_left
            · intro w hSw
              try dsimp only at hSw
              go_simp
              try with_reducible rfl
            simp only [List.getElem_toArray, List.getElem_cons_succ, List.getElem_cons_zero, Act.put, List.setIfInBounds_toArray, List.set_cons_zero, List.set_cons_succ]
            refine wpAnyH_take (i := 5) (v := .agg (L : List Value).toArray) rfl (by kernel_rfl) (by kernel_rfl) (by kernel_rfl) (fun _ _ _ h => h) (yieldsIf_load_mid (by kernel_rfl) 29 (.tmp 3) (by kernel_rfl) (w.heap.size) 0 (by kernel_rfl) L _ (fun w' h => h.1) (by first | exact Try.underlying29) rfl (by first | assumption | (simp only [*]; kernel_rfl))) (by assumption) ?_
            try simp only [List.getElem_toArray, List.getElem_cons_succ, List.getElem_cons_zero, Act.put, List.setIfInBounds_toArray, List.set_cons_zero, List.set_cons_succ]
            clear hHeld
            refine ready1 (i := 6) rfl (by kernel_rfl) (by kernel_rfl) (fun K hK => ?_)
            refine Node.wp_fn 13 [.tmp 40] _ [.agg L.toArray] (by rfl) (by kernel_rfl) (enters Try.func13 (by kernel_rfl) rfl) (CS.out _ V.ly) ?_
            rintro e X2 ⟨rfl, bF⟩
            refine ⟨_, rfl, ?_⟩
            replace V := V.later bF
            replace sp := sp.later bF
            replace h8 := var_later h8 bF
            replace Bb := below_step Bb bF
            clear bF
            refine hK.out _ _ ⟨range_of V.l, range_of h8, cvp _ sp⟩ (fun hHeld => ?_)
            clear hK K
            try simp only [List.getElem_toArray, List.getElem_cons_succ, List.getElem_cons_zero, Act.put, List.setIfInBounds_toArray, List.set_cons_zero, List.set_cons_succ]
            refine wpAnyH_take (i := 7) (v := ?_) rfl (by kernel_rfl) (by kernel_rfl) (by kernel_rfl) (fun _ _ _ h => h) (Or.inl ⟨by kernel_rfl, ?_⟩) (by assumption) ?_
            rotate_left
            · intro w hSw
              try dsimp only at hSw
              go_simp
              try with_reducible rfl
            simp only [List.getElem_toArray, List.getElem_cons_succ, List.getElem_cons_zero, Act.put, List.setIfInBounds_toArray, List.set_cons_zero, List.set_cons_succ]
            refine wpAnyH_take (i := 8) (v := ?_) rfl (by kernel_rfl) (by kernel_rfl) (by kernel_rfl) (fun _ _ _ h => h) (Or.inl ⟨by kernel_rfl, ?_⟩) (by assumption) ?_
            rotate_left
            · intro w hSw
              try dsimp only at hSw
              go_simp
              try with_reducible rfl
            simp only [List.getElem_toArray, List.getElem_cons_succ, List.getElem_cons_zero, Act.put, List.setIfInBounds_toArray, List.set_cons_zero, List.set_cons_succ]
            refine wpAnyH_take (i := 9) (v := ?_) rfl (by kernel_rfl) (by kernel_rfl) (by kernel_rfl) (fun _ _ _ h => h) (Or.inl ⟨by kernel_rfl, ?_⟩) (by assumption) ?_
            rotate_left
            · intro w hSw
              try dsimp only at hSw
              go_simp
              try with_reducible rfl
            simp only [List.getElem_toArray, List.getElem_cons_succ, List.getElem_cons_zero, Act.put, List.setIfInBounds_toArray, List.set_cons_zero, List.set_cons_succ]
            refine wpAnyH_take (i := 10) (v := ?_) rfl (by kernel_rfl) (by kernel_rfl) (by kernel_rfl) (fun _ _ _ h => h) (Or.inl ⟨by kernel_rfl, ?_⟩) (by assumption) ?_
            rotate_left
            · intro w hSw
              try dsimp only at hSw
              go_simp
              try with_reducible rfl
            simp only [List.getElem_toArray, List.getElem_cons_succ, List.getElem_cons_zero, Act.put, List.setIfInBounds_toArray, List.set_cons_zero, List.set_cons_succ]
            refine wpAnyH_take (i := 11) (v := ?_) rfl (by kernel_rfl) (by kernel_rfl) (by kernel_rfl) (fun _ _ _ h => h) (Or.inl ⟨by kernel_rfl, ?_⟩) (by assumption) ?_
            rotate_left
            · intro w hSw
              try dsimp only at hSw
              go_simp
              try with_reducible rfl
            simp only [List.getElem_toArray, List.getElem_cons_succ, List.getElem_cons_zero, Act.put, List.setIfInBounds_toArray, List.set_cons_zero, List.set_cons_succ]
            refine wpAnyH_take (i := 12) (v := ?_) rfl (by kernel_rfl) (by kernel_rfl) (by kernel_rfl) (fun _ _ _ h => h) (Or.inl ⟨by kernel_rfl, ?_⟩) (by assumption) ?_
            rotate_left
            · intro w hSw
              try dsimp only at hSw
              go_simp
              try with_reducible rfl
            simp only [List.getElem_toArray, List.getElem_cons_succ, List.getElem_cons_zero, Act.put, List.setIfInBounds_toArray, List.set_cons_zero, List.set_cons_succ]
            refine wpAnyH_take (i := 13) (v := ?_) rfl (by kernel_rfl) (by kernel_rfl) (by kernel_rfl) (fun _ _ _ h => h) (Or.inl ⟨by kernel_rfl, ?_⟩) (by assumption) ?_
            rotate_left
            · intro w hSw
              try dsimp only at hSw
              go_simp
              try with_reducible rfl
            simp only [List.getElem_toArray, List.getElem_cons_succ, List.getElem_cons_zero, Act.put, List.setIfInBounds_toArray, List.set_cons_zero, List.set_cons_succ]
            refine wpAnyH_take (i := 14) (v := ?_) rfl (by kernel_rfl) (by kernel_rfl) (by kernel_rfl) (fun _ _ _ h => h) (Or.inl ⟨by kernel_rfl, ?_⟩) (by assumption) ?_
            rotate_left
            · intro w hSw
              try dsimp only at hSw
              go_simp
              try with_reducible rfl
            simp only [List.getElem_toArray, List.getElem_cons_succ, List.getElem_cons_zero, Act.put, List.setIfInBounds_toArray, List.set_cons_zero, List.set_cons_succ]
            refine wpAnyH_take (i := 15) (v := .agg (L : List Value).toArray) rfl (by kernel_rfl) (by kernel_rfl) (by kernel_rfl) (fun _ _ _ h => h) (yieldsIf_load_mid (by kernel_rfl) 29 (.tmp 3) (by kernel_rfl) (w.heap.size) 0 (by kernel_rfl) L _ (fun w' h => h.1) (by first | exact Try.underlying29) rfl (by first | assumption | (simp only [*]; kernel_rfl))) (by assumption) ?_
            try simp only [List.getElem_toArray, List.getElem_cons_succ, List.getElem_cons_zero, Act.put, List.setIfInBounds_toArray, List.set_cons_zero, List.set_cons_succ]
            refine wpAnyH_take (i := 16) (v := .agg (X : List Value).toArray) rfl (by kernel_rfl) (by kernel_rfl) (by kernel_rfl) (fun _ _ _ h => h) (yieldsIf_load_mid (by kernel_rfl) 56 (.tmp 8) (by kernel_rfl) (g8) 0 (by kernel_rfl) X _ (fun w' h => h.2.1) (by first | exact Try.underlying56) rfl (by first | assumption | (simp only [*]; kernel_rfl))) (by assumption) ?_
            try simp only [List.getElem_toArray, List.getElem_cons_succ, List.getElem_cons_zero, Act.put, List.setIfInBounds_toArray, List.set_cons_zero, List.set_cons_succ]
            refine wpAnyH_take (i := 19) (v := ?_) rfl (by kernel_rfl) (by kernel_rfl) (by kernel_rfl) (fun _ _ _ h => h) (Or.inl ⟨by kernel_rfl, ?_⟩) (by assumption) ?_
            rotate_left
            · intro w hSw
              try dsimp only at hSw
              go_simp
              try with_reducible rfl
            simp only [List.getElem_toArray, List.getElem_cons_succ, List.getElem_cons_zero, Act.put, List.setIfInBounds_toArray, List.set_cons_zero, List.set_cons_succ]
            refine wpAnyH_take (i := 20) (v := ?_) rfl (by kernel_rfl) (by kernel_rfl) (by kernel_rfl) (fun _ _ _ h => h) (Or.inl ⟨by kernel_rfl, ?_⟩) (by assumption) ?_
            rotate_left
            · intro w hSw
              try dsimp only at hSw
              go_simp
              try with_reducible rfl
            simp only [List.getElem_toArray, List.getElem_cons_succ, List.getElem_cons_zero, Act.put, List.setIfInBounds_toArray, List.set_cons_zero, List.set_cons_succ]
            clear hHeld
            refine ready1 (i := 17) rfl (by kernel_rfl) (by kernel_rfl) (fun K hK => ?_)
            refine Node.wp_fn 11 [.tmp 50, .tmp 51] _ [.agg L.toArray, .agg X.toArray] (by rfl) (by kernel_rfl) (enters Try.func11 (by kernel_rfl) rfl) (CP.out _ V.ly) ?_
            rintro e X3 ⟨bF, A2, c2, B2, rfl, ho, hh⟩
            refine ⟨_, rfl, ?_⟩
            obtain rfl : B2 = Bp := holds_unique hh HPX.out
            replace V := V.later bF
            replace sp := sp.later bF
            replace h8 := var_later h8 bF
            replace Bb := below_step Bb bF
            have s2 := sliceAt_of_own ho
            clear bF hh ho
            refine hK.out _ _ ⟨range_of V.l, range_of h8, cvp _ sp⟩ (fun _ => ?_)
            clear hK K
            try simp only [List.getElem_toArray, List.getElem_cons_succ, List.getElem_cons_zero, Act.put, List.setIfInBounds_toArray, List.set_cons_zero, List.set_cons_succ]
            have cv2 : (convert 60 9 (.slice A2 B2.length c2)).run Try.prog X3 = .ok (.string (strOf B2)) X3 := conv_str (P := Try.prog) (dst := 9) s2 Try.underlying60 Try.underlying5 Try.underlying9
            refine strengthen (S' := fun w' => (w'.rangeAt w.heap.size 0 L ∧ w'.rangeAt g8 0 X ∧ (convert 60 9 (.slice Ap m cp)).run Try.prog w' = .ok (.string (strOf B2)) w') ∧ (convert 60 9 (.slice A2 B2.length c2)).run Try.prog w' = .ok (.string (strOf B2)) w') (fun w h => h.1) _ _ _ _ ?_
            have hHeld : (X3.rangeAt w.heap.size 0 L ∧ X3.rangeAt g8 0 X ∧ (convert 60 9 (.slice Ap m cp)).run Try.prog X3 = .ok (.string (strOf B2)) X3) ∧ (convert 60 9 (.slice A2 B2.length c2)).run Try.prog X3 = .ok (.string (strOf B2)) X3 := ⟨⟨range_of V.l, range_of h8, cvp _ sp⟩, cv2⟩
            refine wpAnyH_take (i := 18) (v := ?_) rfl (by kernel_rfl) (by kernel_rfl) (by kernel_rfl) (fun _ _ _ h => h) (Or.inl ⟨by kernel_rfl, ?_⟩) (by assumption) ?_
            rotate_left
            · intro w hSw
              try dsimp only at hSw
              go_simp
              try with_reducible rfl
            simp only [List.getElem_toArray, List.getElem_cons_succ, List.getElem_cons_zero, Act.put, List.setIfInBounds_toArray, List.set_cons_zero, List.set_cons_succ]
            refine wpAnyH_take (i := 21) (v := ?_) rfl (by kernel_rfl) (by kernel_rfl) (by kernel_rfl) (fun _ _ _ h => h) (Or.inl ⟨by kernel_rfl, ?_⟩) (by assumption) ?_
            rotate_left
            · intro w hSw
              try dsimp only at hSw
              go_simp
              try with_reducible rfl
            simp only [List.getElem_toArray, List.getElem_cons_succ, List.getElem_cons_zero, Act.put, List.setIfInBounds_toArray, List.set_cons_zero, List.set_cons_succ]
            refine wpAnyH_take (i := 22) (v := ?_) rfl (by kernel_rfl) (by kernel_rfl) (by kernel_rfl) (fun _ _ _ h => h) (Or.inl ⟨by kernel_rfl, ?_⟩) (by assumption) ?_
            rotate_left
            · intro w hSw
              try dsimp only at hSw
              go_simp
              try with_reducible rfl
            simp only [List.getElem_toArray, List.getElem_cons_succ, List.getElem_cons_zero, Act.put, List.setIfInBounds_toArray, List.set_cons_zero, List.set_cons_succ]
            clear hHeld
            refine wpAnyH_done (by kernel_rfl) ?_ _
            go_wp2
            go_meet
            exact ⟨rfl, Bb⟩
          case rest =>
            obtain ⟨rfl, bF⟩ := hcut
            replace V := V.later bF
            replace sp := sp.later bF
            clear bF h8 HPX HXC HXX szx
            go_upto_region 7 with (fail)
            go_cut [11] from 58 to 67 (fun x11 wx => x11 = .int .i64 41 ∧ Below wc.heap.size wc wx)
            case first =>
              have hmb : 2 ≤ m ∧ m ≤ 30 := by rw [HmM.out]; exact HMB.out
              obtain ⟨k, hk⟩ : ∃ k, m = k + 1 := ⟨m - 1, by omega⟩
              have hwk : wrap64 ((m : Int) - 1) = (k : Int) := by unfold wrap64; omega
              have hwk2 : IntKind.i64.wrap ((m : Int) - 1) = (k : Int) := by rw [IntKind.wrap_i64]; omega
              obtain ⟨_, _, hveq, hmcp, _⟩ := sp.form
              obtain ⟨rfl, _, rfl⟩ := Value.slice.inj hveq
              have sk : SliceAt wc 1 (.slice Ap k cp) (Bp.take k).length (u8s (Bp.take k)) := by
                have h := sp.take (k := k) (by omega)
                rw [Nat.mul_one] at h
                have e : (Bp.take k).length = k := by rw [List.length_take, ← HBL.out]; omega
                rw [e]
                simpa [u8s, List.map_take] using h
              have hk1 : (k : Int) ≤ (cp : Int) := by omega
              have hlen8 : (Bp.take k).length ≠ (sumW (flds s0 kinds nsig) + 7) / 8 := by rw [← HM.out, ← HmM.out, List.length_take, ← HBL.out]; omega
              have hlb : (Bp.take k).length ≤ 100000 := by rw [List.length_take, ← HBL.out]; omega
              have HL8 := Lib.hid (And.intro hlen8 hlb)
              have HSK := Lib.hid sk
              clear hveq hk hmb hmcp hlen8 hlb sk
              refine wp_region_held_drew (S := (fun w' => w'.rangeAt w.heap.size 0 L)) (by kernel_rfl) ?_ (fun hHeld => ?_)
              · exact range_of V.l
              have Bb : Below wc.heap.size wc wc.drew := (Below.refl _ wc).drew
              generalize wc.drew = V1 at *
              refine wpAnyH_take (i := 0) (v := .agg (L : List Value).toArray) rfl (by kernel_rfl) (by kernel_rfl) (by kernel_rfl) (fun _ _ _ h => h) (yieldsIf_load_mid (by kernel_rfl) 29 (.tmp 3) (by kernel_rfl) (w.heap.size) 0 (by kernel_rfl) L _ (fun w' h => h) (by first | exact Try.underlying29) rfl (by first | assumption | (simp only [*]; kernel_rfl))) (by assumption) ?_
              try simp only [List.getElem_toArray, List.getElem_cons_succ, List.getElem_cons_zero, Act.put, List.setIfInBounds_toArray, List.set_cons_zero, List.set_cons_succ]
              refine wpAnyH_take (i := 1) (v := ?_) rfl (by kernel_rfl) (by kernel_rfl) (by kernel_rfl) (fun _ _ _ h => h) (Or.inl ⟨by kernel_rfl, ?_⟩) (by assumption) ?_
              rotate_left
              · intro w hSw
                try dsimp only at hSw
                go_simp
                try with_reducible rfl
              simp only [List.getElem_toArray, List.getElem_cons_succ, List.getElem_cons_zero, Act.put, List.setIfInBounds_toArray, List.set_cons_zero, List.set_cons_succ]
              refine wpAnyH_take (i := 2) (v := ?_) rfl (by kernel_rfl) (by kernel_rfl) (by kernel_rfl) (fun _ _ _ h => h) (Or.inl ⟨by kernel_rfl, ?_⟩) (by assumption) ?_
              rotate_left
              · intro w hSw
                try dsimp only at hSw
                go_simp
                try with_reducible rfl
              simp only [List.getElem_toArray, List.getElem_cons_succ, List.getElem_cons_zero, Act.put, List.setIfInBounds_toArray, List.set_cons_zero, List.set_cons_succ]
              refine wpAnyH_take (i := 3) (v := ?_) rfl (by kernel_rfl) (by kernel_rfl) (by kernel_rfl) (fun _ _ _ h => h) (Or.inl ⟨by kernel_rfl, ?_⟩) (by assumption) ?_
              rotate_left
              · intro w hSw
                try dsimp only at hSw
                go_simp
                try with_reducible rfl
              simp only [List.getElem_toArray, List.getElem_cons_succ, List.getElem_cons_zero, Act.put, List.setIfInBounds_toArray, List.set_cons_zero, List.set_cons_succ]
              refine wpAnyH_take (i := 4) (v := ?_) rfl (by kernel_rfl) (by kernel_rfl) (by kernel_rfl) (fun _ _ _ h => h) (Or.inl ⟨by kernel_rfl, ?_⟩) (by assumption) ?_
              rotate_left
              · intro w hSw
                try dsimp only at hSw
                go_simp
                try with_reducible rfl
              simp only [List.getElem_toArray, List.getElem_cons_succ, List.getElem_cons_zero, Act.put, List.setIfInBounds_toArray, List.set_cons_zero, List.set_cons_succ]
              refine wpAnyH_take (i := 5) (v := ?_) rfl (by kernel_rfl) (by kernel_rfl) (by kernel_rfl) (fun _ _ _ h => h) (Or.inl ⟨by kernel_rfl, ?_⟩) (by assumption) ?_
              rotate_left
              · intro w hSw
                try dsimp only at hSw
                go_simp
                try with_reducible rfl
              simp only [List.getElem_toArray, List.getElem_cons_succ, List.getElem_cons_zero, Act.put, List.setIfInBounds_toArray, List.set_cons_zero, List.set_cons_succ]
              clear hHeld hwk hwk2 hk1
              refine wpAnyH_ready (rs := [6, 10]) (by kernel_rfl) (by simp) ?_
              refine AllReadyH.cons rfl (fun K hK => ?_) (AllReadyH.cons rfl (fun K hK => ?_) AllReadyH.nil)
              · skip
                refine Node.wp_fn 12 [.tmp 59, .tmp 64] _ [.agg L.toArray, .slice Ap k cp] (by rfl) (by rfl) HENT.out (Take_c L kinds ss nsig clr st A c A1 c1 (.slice Ap k cp) (Bp.take k) _ (V.later Bb).ly HK2.out (HSK.out.later Bb) HL8.out.2) ?_
                rintro e V1 ⟨b, r, err, rfl, hT⟩
                obtain ⟨rfl, rfl⟩ : r = s0 ∧ err = 41 := by
                  rcases hT with ⟨h, _⟩ | ⟨_, h2, h3⟩
                  · exact absurd h HL8.out.1
                  · exact ⟨h2, h3⟩
                refine ⟨_, rfl, ?_⟩
                rw [HS3.out]
                replace Bb := below_step Bb b
                try replace GZ := var_later GZ b
                clear b hT
                refine hK.out _ _ (range_of (V.later Bb).l) (fun _ => ?_)
                clear hK K
                try simp only [List.getElem_toArray, List.getElem_cons_succ, List.getElem_cons_zero, Act.put, List.setIfInBounds_toArray, List.set_cons_zero, List.set_cons_succ]
                have hHeld : V1.rangeAt w.heap.size 0 L := range_of (V.later Bb).l
                refine wpAnyH_take (i := 7) (v := ?_) rfl (by kernel_rfl) (by kernel_rfl) (by kernel_rfl) (fun _ _ _ h => h) (Or.inl ⟨by kernel_rfl, ?_⟩) (by assumption) ?_
                rotate_left
                · intro w hSw
                  try dsimp only at hSw
                  go_simp
                  try with_reducible rfl
                simp only [List.getElem_toArray, List.getElem_cons_succ, List.getElem_cons_zero, Act.put, List.setIfInBounds_toArray, List.set_cons_zero, List.set_cons_succ]
                refine wpAnyH_take (i := 8) (v := ?_) rfl (by kernel_rfl) (by kernel_rfl) (by kernel_rfl) (fun _ _ _ h => h) (Or.inl ⟨by kernel_rfl, ?_⟩) (by assumption) ?_
                rotate_left
                · intro w hSw
                  try dsimp only at hSw
                  go_simp
                  try with_reducible rfl
                simp only [List.getElem_toArray, List.getElem_cons_succ, List.getElem_cons_zero, Act.put, List.setIfInBounds_toArray, List.set_cons_zero, List.set_cons_succ]
                refine wpAnyH_take (i := 9) (v := ?_) rfl (by kernel_rfl) (by kernel_rfl) (by kernel_rfl) (fun _ _ _ h => h) (Or.inl ⟨by kernel_rfl, ?_⟩) (by assumption) ?_
                rotate_left
                · intro w hSw
                  try dsimp only at hSw
                  go_simp
                  try with_reducible rfl
                simp only [List.getElem_toArray, List.getElem_cons_succ, List.getElem_cons_zero, Act.put, List.setIfInBounds_toArray, List.set_cons_zero, List.set_cons_succ]
                clear hHeld
                refine wpAnyH_ready (rs := [10]) (by kernel_rfl) (by simp) ?_
                refine AllReadyH.cons rfl (fun K hK => ?_) AllReadyH.nil
                have GZ := new_at (w := V1) rfl (.cells zc 56)
                have b := below_new V1 (.cells zc 56)
                have hgz : wc.heap.size ≤ V1.heap.size := Bb.size
                refine Node.wp_new 56 zs zc hzi hzc (by rfl) ?_
                replace Bb := below_step Bb b
                clear b
                generalize V1.heap.size = gz at *
                generalize V1.alloc (.cells zc 56) = V1 at *
                refine hK.out _ _ (range_of (V.later Bb).l) (fun _ => ?_)
                clear hK K
                try simp only [List.getElem_toArray, List.getElem_cons_succ, List.getElem_cons_zero, Act.put, List.setIfInBounds_toArray, List.set_cons_zero, List.set_cons_succ]
                refine wpAnyH_ready (rs := [11]) (by kernel_rfl) (by simp) ?_
                refine AllReadyH.cons rfl (fun K hK => ?_) AllReadyH.nil
                obtain ⟨V', hW, F, b, far, ths⟩ := fill_new S3 GZ lS3 Bb hgz
                refine wp_store_mid 56 (.tmp 10) (.tmp 66) (by rfl) gz 0 S3.toArray (by rfl) (by rfl) ths szs3 oS3 ?_
                rw [hW]
                clear hW ths far F Bb GZ
                have Bb := b
                clear b
                generalize V' = V1 at *
                refine hK.out _ _ (range_of (V.later Bb).l) (fun _ => ?_)
                clear hK K
                try simp only [List.getElem_toArray, List.getElem_cons_succ, List.getElem_cons_zero, Act.put, List.setIfInBounds_toArray, List.set_cons_zero, List.set_cons_succ]
                refine wpAnyH_ready (rs := [12]) (by kernel_rfl) (by simp) ?_
                refine AllReadyH.cons rfl (fun K hK => ?_) AllReadyH.nil
                refine Node.wp_set (.int .i64 41) (.tmp 67) (.inr rfl) (by rfl) ?_
                refine hK.out _ _ (range_of (V.later Bb).l) (fun _ => ?_)
                clear hK K
                try simp only [List.getElem_toArray, List.getElem_cons_succ, List.getElem_cons_zero, Act.put, List.setIfInBounds_toArray, List.set_cons_zero, List.set_cons_succ]
                refine wpAnyH_done (by kernel_rfl) ?_ _
                go_wp2
                go_meet
                exact ⟨rfl, Bb⟩
              · skip
                have GZ := new_at (w := V1) rfl (.cells zc 56)
                have b := below_new V1 (.cells zc 56)
                have hgz : wc.heap.size ≤ V1.heap.size := Bb.size
                refine Node.wp_new 56 zs zc hzi hzc (by rfl) ?_
                replace Bb := below_step Bb b
                clear b
                generalize V1.heap.size = gz at *
                generalize V1.alloc (.cells zc 56) = V1 at *
                refine hK.out _ _ (range_of (V.later Bb).l) (fun _ => ?_)
                clear hK K
                try simp only [List.getElem_toArray, List.getElem_cons_succ, List.getElem_cons_zero, Act.put, List.setIfInBounds_toArray, List.set_cons_zero, List.set_cons_succ]
                refine wpAnyH_ready (rs := [6]) (by kernel_rfl) (by simp) ?_
                refine AllReadyH.cons rfl (fun K hK => ?_) AllReadyH.nil
                refine Node.wp_fn 12 [.tmp 59, .tmp 64] _ [.agg L.toArray, .slice Ap k cp] (by rfl) (by rfl) HENT.out (Take_c L kinds ss nsig clr st A c A1 c1 (.slice Ap k cp) (Bp.take k) _ (V.later Bb).ly HK2.out (HSK.out.later Bb) HL8.out.2) ?_
                rintro e V1 ⟨b, r, err, rfl, hT⟩
                obtain ⟨rfl, rfl⟩ : r = s0 ∧ err = 41 := by
                  rcases hT with ⟨h, _⟩ | ⟨_, h2, h3⟩
                  · exact absurd h HL8.out.1
                  · exact ⟨h2, h3⟩
                refine ⟨_, rfl, ?_⟩
                rw [HS3.out]
                replace Bb := below_step Bb b
                try replace GZ := var_later GZ b
                clear b hT
                refine hK.out _ _ (range_of (V.later Bb).l) (fun _ => ?_)
                clear hK K
                try simp only [List.getElem_toArray, List.getElem_cons_succ, List.getElem_cons_zero, Act.put, List.setIfInBounds_toArray, List.set_cons_zero, List.set_cons_succ]
                have hHeld : V1.rangeAt w.heap.size 0 L := range_of (V.later Bb).l
                refine wpAnyH_take (i := 7) (v := ?_) rfl (by kernel_rfl) (by kernel_rfl) (by kernel_rfl) (fun _ _ _ h => h) (Or.inl ⟨by kernel_rfl, ?_⟩) (by assumption) ?_
                rotate_left
                · intro w hSw
                  try dsimp only at hSw
                  go_simp
                  try with_reducible rfl
                simp only [List.getElem_toArray, List.getElem_cons_succ, List.getElem_cons_zero, Act.put, List.setIfInBounds_toArray, List.set_cons_zero, List.set_cons_succ]
                refine wpAnyH_take (i := 8) (v := ?_) rfl (by kernel_rfl) (by kernel_rfl) (by kernel_rfl) (fun _ _ _ h => h) (Or.inl ⟨by kernel_rfl, ?_⟩) (by assumption) ?_
                rotate_left
                · intro w hSw
                  try dsimp only at hSw
                  go_simp
                  try with_reducible rfl
                simp only [List.getElem_toArray, List.getElem_cons_succ, List.getElem_cons_zero, Act.put, List.setIfInBounds_toArray, List.set_cons_zero, List.set_cons_succ]
                refine wpAnyH_take (i := 9) (v := ?_) rfl (by kernel_rfl) (by kernel_rfl) (by kernel_rfl) (fun _ _ _ h => h) (Or.inl ⟨by kernel_rfl, ?_⟩) (by assumption) ?_
                rotate_left
                · intro w hSw
                  try dsimp only at hSw
                  go_simp
                  try with_reducible rfl
                simp only [List.getElem_toArray, List.getElem_cons_succ, List.getElem_cons_zero, Act.put, List.setIfInBounds_toArray, List.set_cons_zero, List.set_cons_succ]
                clear hHeld
                refine wpAnyH_ready (rs := [11]) (by kernel_rfl) (by simp) ?_
                refine AllReadyH.cons rfl (fun K hK => ?_) AllReadyH.nil
                obtain ⟨V', hW, F, b, far, ths⟩ := fill_new S3 GZ lS3 Bb hgz
                refine wp_store_mid 56 (.tmp 10) (.tmp 66) (by rfl) gz 0 S3.toArray (by rfl) (by rfl) ths szs3 oS3 ?_
                rw [hW]
                clear hW ths far F Bb GZ
                have Bb := b
                clear b
                generalize V' = V1 at *
                refine hK.out _ _ (range_of (V.later Bb).l) (fun _ => ?_)
                clear hK K
                try simp only [List.getElem_toArray, List.getElem_cons_succ, List.getElem_cons_zero, Act.put, List.setIfInBounds_toArray, List.set_cons_zero, List.set_cons_succ]
                refine wpAnyH_ready (rs := [12]) (by kernel_rfl) (by simp) ?_
                refine AllReadyH.cons rfl (fun K hK => ?_) AllReadyH.nil
                refine Node.wp_set (.int .i64 41) (.tmp 67) (.inr rfl) (by rfl) ?_
                refine hK.out _ _ (range_of (V.later Bb).l) (fun _ => ?_)
                clear hK K
                try simp only [List.getElem_toArray, List.getElem_cons_succ, List.getElem_cons_zero, Act.put, List.setIfInBounds_toArray, List.set_cons_zero, List.set_cons_succ]
                refine wpAnyH_done (by kernel_rfl) ?_ _
                go_wp2
                go_meet
                exact ⟨rfl, Bb⟩
            case rest =>
              obtain ⟨rfl, bF⟩ := hcut
              replace V := V.later bF
              replace sp := sp.later bF
              clear bF
              go_upto_region 8 with (fail)
              go_cut [13] from 68 to 77 (fun x13 wx => x13 = .int .i64 41 ∧ Below wc.heap.size wc wx)
              case first =>
                have hmb : m ≤ 30 := by rw [HmM.out]; exact HMB.out.2
                obtain ⟨i0, hi, hz0, hz1, hz2⟩ := info_parts info_u8
                have hl9 : (Bp ++ [0#8]).length = m + 1 := by rw [List.length_append, ← HBL.out]; rfl
                have hlen9 : (Bp ++ [0#8]).length ≠ (sumW (flds s0 kinds nsig) + 7) / 8 := by rw [← HM.out, ← HmM.out, hl9]; omega
                have HL9 := Lib.hid (And.intro hl9 hlen9)
                clear hl9 hlen9
                refine wp_region_held_drew (S := (fun w' => w'.rangeAt w.heap.size 0 L)) (by kernel_rfl) ?_ (fun hHeld => ?_)
                · exact range_of V.l
                have Bb : Below wc.heap.size wc wc.drew := (Below.refl _ wc).drew
                generalize wc.drew = V1 at *
                refine wpAnyH_take (i := 0) (v := .agg (L : List Value).toArray) rfl (by kernel_rfl) (by kernel_rfl) (by kernel_rfl) (fun _ _ _ h => h) (yieldsIf_load_mid (by kernel_rfl) 29 (.tmp 3) (by kernel_rfl) (w.heap.size) 0 (by kernel_rfl) L _ (fun w' h => h) (by first | exact Try.underlying29) rfl (by first | assumption | (simp only [*]; kernel_rfl))) (by assumption) ?_
                try simp only [List.getElem_toArray, List.getElem_cons_succ, List.getElem_cons_zero, Act.put, List.setIfInBounds_toArray, List.set_cons_zero, List.set_cons_succ]
                refine wpAnyH_take (i := 2) (v := ?_) rfl (by kernel_rfl) (by kernel_rfl) (by kernel_rfl) (fun _ _ _ h => h) (Or.inl ⟨by kernel_rfl, ?_⟩) (by assumption) ?_
                rotate_left
                · intro w hSw
                  try dsimp only at hSw
                  go_simp
                  try with_reducible rfl
                simp only [List.getElem_toArray, List.getElem_cons_succ, List.getElem_cons_zero, Act.put, List.setIfInBounds_toArray, List.set_cons_zero, List.set_cons_succ]
                clear hHeld
                refine wpAnyH_ready (rs := [1, 4, 10]) (by kernel_rfl) (by simp) ?_
                refine AllReadyH.cons rfl (fun K hK => ?_) (AllReadyH.cons rfl (fun K hK => ?_) (AllReadyH.cons rfl (fun K hK => ?_) AllReadyH.nil))
                · skip
                  have O1 := own_empty V1 5 1
                  have b := below_new V1 (.cells #[] 5)
                  have hga : wc.heap.size ≤ V1.heap.size := Bb.size
                  try have hne : g4' ≠ V1.heap.size := by have := (Array.getElem?_eq_some_iff.1 G4).1; omega
                  refine Node.wp_bs 60 0 [] [] _ (by rfl) (by rfl) (run_bs028 V1) ?_
                  replace Bb := below_step Bb b
                  try replace G4 := var_later G4 b
                  try replace GZ := var_later GZ b
                  clear b
                  generalize V1.heap.size = ga at *
                  generalize V1.alloc (.cells #[] 5) = V1 at *
                  refine hK.out _ _ (range_of (V.later Bb).l) (fun _ => ?_)
                  clear hK K
                  try simp only [List.getElem_toArray, List.getElem_cons_succ, List.getElem_cons_zero, Act.put, List.setIfInBounds_toArray, List.set_cons_zero, List.set_cons_succ]
                  refine wpAnyH_ready (rs := [3, 4, 10]) (by kernel_rfl) (by simp) ?_
                  refine AllReadyH.cons rfl (fun K hK => ?_) (AllReadyH.cons rfl (fun K hK => ?_) (AllReadyH.cons rfl (fun K hK => ?_) AllReadyH.nil))
                  · skip
                    have hgaV := (own_base O1 rfl).2
                    refine wp_app28 (.tmp 70) (.tmp 71) _ (by rfl) ga 5 i0 _ 1 1 Try.underlying60 hi hz0 hz1 hz2 rfl (by omega) (.slice (some ⟨ga, 0, none⟩) 0 0) 0 [] (by rfl) O1 (.slice Ap m cp) m (u8s Bp) (by rfl) (sp.later Bb) (u8s_one Bp) (by simp only [maxLen]; omega) (by omega) (Nat.le_of_lt hgaV) ?_
                    intro v1 V' ho1 hg1 hw1
                    simp only [Nat.zero_add, List.nil_append] at ho1
                    obtain ⟨Aa, ca, rfl, _, _⟩ := (sliceAt_of_own ho1).form
                    have b := below_own Bb hg1 Bb.size (fun g hg => by cases hg; exact hga)
                    try replace G4 := (hg1.block g4' (Array.getElem?_eq_some_iff.1 G4).1 (fun e => hne (Option.some.inj e))).trans G4
                    try replace GZ := (hg1.block gz (Array.getElem?_eq_some_iff.1 GZ).1 (fun e => by obtain ⟨cur, hc⟩ := own_type28 O1 e.symm; rw [GZ] at hc; cases hc)).trans GZ
                    clear hgaV hg1 hw1 Bb O1
                    have O1 := ho1
                    have Bb := b
                    clear b ho1
                    generalize V' = V1 at *
                    refine hK.out _ _ (range_of (V.later Bb).l) (fun _ => ?_)
                    clear hK K
                    try simp only [List.getElem_toArray, List.getElem_cons_succ, List.getElem_cons_zero, Act.put, List.setIfInBounds_toArray, List.set_cons_zero, List.set_cons_succ]
                    refine wpAnyH_ready (rs := [4, 10]) (by kernel_rfl) (by simp) ?_
                    refine AllReadyH.cons rfl (fun K hK => ?_) (AllReadyH.cons rfl (fun K hK => ?_) AllReadyH.nil)
                    · skip
                      have G4 := new_at (w := V1) rfl (.cells ([.int .u8 0] : List Value).toArray 5)
                      have b := below_new V1 (.cells ([.int .u8 0] : List Value).toArray 5)
                      try have hne : V1.heap.size ≠ ga := by have h : ga < V1.heap.size := (own_base O1 rfl).2; omega
                      refine Node.wp_bs 60 1 [(0, .const (.int .u8 0))] [(0, .int .u8 0)] _ (by rfl) (by rfl) (run_bs128 V1) ?_
                      replace Bb := below_step Bb b
                      try replace O1 := own_bel O1 b
                      try replace GZ := var_later GZ b
                      clear b
                      generalize V1.heap.size = g4' at *
                      generalize V1.alloc (.cells ([.int .u8 0] : List Value).toArray 5) = V1 at *
                      refine hK.out _ _ (range_of (V.later Bb).l) (fun _ => ?_)
                      clear hK K
                      try simp only [List.getElem_toArray, List.getElem_cons_succ, List.getElem_cons_zero, Act.put, List.setIfInBounds_toArray, List.set_cons_zero, List.set_cons_succ]
                      refine wpAnyH_ready (rs := [5, 10]) (by kernel_rfl) (by simp) ?_
                      refine AllReadyH.cons rfl (fun K hK => ?_) (AllReadyH.cons rfl (fun K hK => ?_) AllReadyH.nil)
                      · skip
                        refine wp_app28 (.tmp 72) (.tmp 73) _ (by rfl) wc.heap.size 5 i0 _ 1 1 Try.underlying60 hi hz0 hz1 hz2 rfl (by omega) (.slice Aa m ca) m (u8s Bp) (by rfl) (own_mono28 O1 hga) (.slice (some ⟨g4', 0, none⟩) 1 1) 1 [.int .u8 0] (by rfl) (sliceAt_blk G4 rfl (by decide)) (by simp [Value.oneCell']) (by simp only [maxLen]; omega) (by omega) Bb.size ?_
                        intro v1 V' ho1 hg1 hw1
                        obtain ⟨A5, c5, rfl, _, _⟩ := (sliceAt_of_own ho1).form
                        have b := below_own Bb hg1 Bb.size (fun g hg => Nat.le_trans hga (own_base O1 hg).1)
                        try replace GZ := (hg1.block gz (Array.getElem?_eq_some_iff.1 GZ).1 (fun e => by obtain ⟨cur, hc⟩ := own_type28 O1 e.symm; rw [GZ] at hc; cases hc)).trans GZ
                        clear hg1 hw1 Bb O1 G4
                        have O5 : SliceAt V' 1 (.slice A5 (m + 1) c5) (Bp ++ [0#8]).length (u8s (Bp ++ [0#8])) := by
                          rw [HL9.out.1]
                          have h := sliceAt_of_own ho1
                          simpa [u8s] using h
                        have Bb := b
                        clear b ho1
                        generalize V' = V1 at *
                        refine hK.out _ _ (range_of (V.later Bb).l) (fun _ => ?_)
                        clear hK K
                        try simp only [List.getElem_toArray, List.getElem_cons_succ, List.getElem_cons_zero, Act.put, List.setIfInBounds_toArray, List.set_cons_zero, List.set_cons_succ]
                        refine wpAnyH_ready (rs := [6, 10]) (by kernel_rfl) (by simp) ?_
                        refine AllReadyH.cons rfl (fun K hK => ?_) (AllReadyH.cons rfl (fun K hK => ?_) AllReadyH.nil)
                        · skip
                          refine Node.wp_fn 12 [.tmp 69, .tmp 74] _ [.agg L.toArray, .slice A5 (m + 1) c5] (by rfl) (by rfl) HENT.out (Take_c L kinds ss nsig clr st A c A1 c1 (.slice A5 (m + 1) c5) (Bp ++ [0#8]) _ (V.later Bb).ly HK2.out O5 (by rw [HL9.out.1]; omega)) ?_
                          rintro e V1 ⟨b, r, err, rfl, hT⟩
                          obtain ⟨rfl, rfl⟩ : r = s0 ∧ err = 41 := by
                            rcases hT with ⟨h, _⟩ | ⟨_, h2, h3⟩
                            · exact absurd h HL9.out.2
                            · exact ⟨h2, h3⟩
                          refine ⟨_, rfl, ?_⟩
                          rw [HS3.out]
                          replace Bb := below_step Bb b
                          try replace GZ := var_later GZ b
                          clear b O5 hT
                          refine hK.out _ _ (range_of (V.later Bb).l) (fun _ => ?_)
                          clear hK K
                          try simp only [List.getElem_toArray, List.getElem_cons_succ, List.getElem_cons_zero, Act.put, List.setIfInBounds_toArray, List.set_cons_zero, List.set_cons_succ]
                          have hHeld : V1.rangeAt w.heap.size 0 L := range_of (V.later Bb).l
                          refine wpAnyH_take (i := 7) (v := ?_) rfl (by kernel_rfl) (by kernel_rfl) (by kernel_rfl) (fun _ _ _ h => h) (Or.inl ⟨by kernel_rfl, ?_⟩) (by assumption) ?_
                          rotate_left
                          · intro w hSw
                            try dsimp only at hSw
                            go_simp
                            try with_reducible rfl
                          simp only [List.getElem_toArray, List.getElem_cons_succ, List.getElem_cons_zero, Act.put, List.setIfInBounds_toArray, List.set_cons_zero, List.set_cons_succ]
                          refine wpAnyH_take (i := 8) (v := ?_) rfl (by kernel_rfl) (by kernel_rfl) (by kernel_rfl) (fun _ _ _ h => h) (Or.inl ⟨by kernel_rfl, ?_⟩) (by assumption) ?_
                          rotate_left
                          · intro w hSw
                            try dsimp only at hSw
                            go_simp
                            try with_reducible rfl
                          simp only [List.getElem_toArray, List.getElem_cons_succ, List.getElem_cons_zero, Act.put, List.setIfInBounds_toArray, List.set_cons_zero, List.set_cons_succ]
                          refine wpAnyH_take (i := 9) (v := ?_) rfl (by kernel_rfl) (by kernel_rfl) (by kernel_rfl) (fun _ _ _ h => h) (Or.inl ⟨by kernel_rfl, ?_⟩) (by assumption) ?_
                          rotate_left
                          · intro w hSw
                            try dsimp only at hSw
                            go_simp
                            try with_reducible rfl
                          simp only [List.getElem_toArray, List.getElem_cons_succ, List.getElem_cons_zero, Act.put, List.setIfInBounds_toArray, List.set_cons_zero, List.set_cons_succ]
                          clear hHeld
                          refine wpAnyH_ready (rs := [10]) (by kernel_rfl) (by simp) ?_
                          refine AllReadyH.cons rfl (fun K hK => ?_) AllReadyH.nil
                          have GZ := new_at (w := V1) rfl (.cells zc 56)
                          have b := below_new V1 (.cells zc 56)
                          have hgz : wc.heap.size ≤ V1.heap.size := Bb.size
                          refine Node.wp_new 56 zs zc hzi hzc (by rfl) ?_
                          replace Bb := below_step Bb b
                          try replace O1 := own_bel O1 b
                          try replace G4 := var_later G4 b
                          try replace O5 := O5.later b
                          clear b
                          generalize V1.heap.size = gz at *
                          generalize V1.alloc (.cells zc 56) = V1 at *
                          refine hK.out _ _ (range_of (V.later Bb).l) (fun _ => ?_)
                          clear hK K
                          try simp only [List.getElem_toArray, List.getElem_cons_succ, List.getElem_cons_zero, Act.put, List.setIfInBounds_toArray, List.set_cons_zero, List.set_cons_succ]
                          refine wpAnyH_ready (rs := [11]) (by kernel_rfl) (by simp) ?_
                          refine AllReadyH.cons rfl (fun K hK => ?_) AllReadyH.nil
                          obtain ⟨V', hW, F, b, far, ths⟩ := fill_new S3 GZ lS3 Bb hgz
                          refine wp_store_mid 56 (.tmp 12) (.tmp 76) (by rfl) gz 0 S3.toArray (by rfl) (by rfl) ths szs3 oS3 ?_
                          rw [hW]
                          clear hW ths far F Bb GZ
                          have Bb := b
                          clear b
                          generalize V' = V1 at *
                          refine hK.out _ _ (range_of (V.later Bb).l) (fun _ => ?_)
                          clear hK K
                          try simp only [List.getElem_toArray, List.getElem_cons_succ, List.getElem_cons_zero, Act.put, List.setIfInBounds_toArray, List.set_cons_zero, List.set_cons_succ]
                          refine wpAnyH_ready (rs := [12]) (by kernel_rfl) (by simp) ?_
                          refine AllReadyH.cons rfl (fun K hK => ?_) AllReadyH.nil
                          refine Node.wp_set (.int .i64 41) (.tmp 77) (.inr rfl) (by rfl) ?_
                          refine hK.out _ _ (range_of (V.later Bb).l) (fun _ => ?_)
                          clear hK K
                          try simp only [List.getElem_toArray, List.getElem_cons_succ, List.getElem_cons_zero, Act.put, List.setIfInBounds_toArray, List.set_cons_zero, List.set_cons_succ]
                          refine wpAnyH_done (by kernel_rfl) ?_ _
                          go_wp2
                          go_meet
                          exact ⟨rfl, Bb⟩
                        · skip
                          have GZ := new_at (w := V1) rfl (.cells zc 56)
                          have b := below_new V1 (.cells zc 56)
                          have hgz : wc.heap.size ≤ V1.heap.size := Bb.size
                          refine Node.wp_new 56 zs zc hzi hzc (by rfl) ?_
                          replace Bb := below_step Bb b
                          try replace O1 := own_bel O1 b
                          try replace G4 := var_later G4 b
                          try replace O5 := O5.later b
                          clear b
                          generalize V1.heap.size = gz at *
                          generalize V1.alloc (.cells zc 56) = V1 at *
                          refine hK.out _ _ (range_of (V.later Bb).l) (fun _ => ?_)
                          clear hK K
                          try simp only [List.getElem_toArray, List.getElem_cons_succ, List.getElem_cons_zero, Act.put, List.setIfInBounds_toArray, List.set_cons_zero, List.set_cons_succ]
                          refine wpAnyH_ready (rs := [6]) (by kernel_rfl) (by simp) ?_
                          refine AllReadyH.cons rfl (fun K hK => ?_) AllReadyH.nil
                          refine Node.wp_fn 12 [.tmp 69, .tmp 74] _ [.agg L.toArray, .slice A5 (m + 1) c5] (by rfl) (by rfl) HENT.out (Take_c L kinds ss nsig clr st A c A1 c1 (.slice A5 (m + 1) c5) (Bp ++ [0#8]) _ (V.later Bb).ly HK2.out O5 (by rw [HL9.out.1]; omega)) ?_
                          rintro e V1 ⟨b, r, err, rfl, hT⟩
                          obtain ⟨rfl, rfl⟩ : r = s0 ∧ err = 41 := by
                            rcases hT with ⟨h, _⟩ | ⟨_, h2, h3⟩
                            · exact absurd h HL9.out.2
                            · exact ⟨h2, h3⟩
                          refine ⟨_, rfl, ?_⟩
                          rw [HS3.out]
                          replace Bb := below_step Bb b
                          try replace GZ := var_later GZ b
                          clear b O5 hT
                          refine hK.out _ _ (range_of (V.later Bb).l) (fun _ => ?_)
                          clear hK K
                          try simp only [List.getElem_toArray, List.getElem_cons_succ, List.getElem_cons_zero, Act.put, List.setIfInBounds_toArray, List.set_cons_zero, List.set_cons_succ]
                          have hHeld : V1.rangeAt w.heap.size 0 L := range_of (V.later Bb).l
                          refine wpAnyH_take (i := 7) (v := ?_) rfl (by kernel_rfl) (by kernel_rfl) (by kernel_rfl) (fun _ _ _ h => h) (Or.inl ⟨by kernel_rfl, ?_⟩) (by assumption) ?_
                          rotate_left
                          · intro w hSw
                            try dsimp only at hSw
                            go_simp
                            try with_reducible rfl
                          simp only [List.getElem_toArray, List.getElem_cons_succ, List.getElem_cons_zero, Act.put, List.setIfInBounds_toArray, List.set_cons_zero, List.set_cons_succ]
                          refine wpAnyH_take (i := 8) (v := ?_) rfl (by kernel_rfl) (by kernel_rfl) (by kernel_rfl) (fun _ _ _ h => h) (Or.inl ⟨by kernel_rfl, ?_⟩) (by assumption) ?_
                          rotate_left
                          · intro w hSw
                            try dsimp only at hSw
                            go_simp
                            try with_reducible rfl
                          simp only [List.getElem_toArray, List.getElem_cons_succ, List.getElem_cons_zero, Act.put, List.setIfInBounds_toArray, List.set_cons_zero, List.set_cons_succ]
                          refine wpAnyH_take (i := 9) (v := ?_) rfl (by kernel_rfl) (by kernel_rfl) (by kernel_rfl) (fun _ _ _ h => h) (Or.inl ⟨by kernel_rfl, ?_⟩) (by assumption) ?_
                          rotate_left
                          · intro w hSw
                            try dsimp only at hSw
                            go_simp
                            try with_reducible rfl
                          simp only [List.getElem_toArray, List.getElem_cons_succ, List.getElem_cons_zero, Act.put, List.setIfInBounds_toArray, List.set_cons_zero, List.set_cons_succ]
                          clear hHeld
                          refine wpAnyH_ready (rs := [11]) (by kernel_rfl) (by simp) ?_
                          refine AllReadyH.cons rfl (fun K hK => ?_) AllReadyH.nil
                          obtain ⟨V', hW, F, b, far, ths⟩ := fill_new S3 GZ lS3 Bb hgz
                          refine wp_store_mid 56 (.tmp 12) (.tmp 76) (by rfl) gz 0 S3.toArray (by rfl) (by rfl) ths szs3 oS3 ?_
                          rw [hW]
                          clear hW ths far F Bb GZ
                          have Bb := b
                          clear b
                          generalize V' = V1 at *
                          refine hK.out _ _ (range_of (V.later Bb).l) (fun _ => ?_)
                          clear hK K
                          try simp only [List.getElem_toArray, List.getElem_cons_succ, List.getElem_cons_zero, Act.put, List.setIfInBounds_toArray, List.set_cons_zero, List.set_cons_succ]
                          refine wpAnyH_ready (rs := [12]) (by kernel_rfl) (by simp) ?_
                          refine AllReadyH.cons rfl (fun K hK => ?_) AllReadyH.nil
                          refine Node.wp_set (.int .i64 41) (.tmp 77) (.inr rfl) (by rfl) ?_
                          refine hK.out _ _ (range_of (V.later Bb).l) (fun _ => ?_)
                          clear hK K
                          try simp only [List.getElem_toArray, List.getElem_cons_succ, List.getElem_cons_zero, Act.put, List.setIfInBounds_toArray, List.set_cons_zero, List.set_cons_succ]
                          refine wpAnyH_done (by kernel_rfl) ?_ _
                          go_wp2
                          go_meet
                          exact ⟨rfl, Bb⟩
                      · skip
                        have GZ := new_at (w := V1) rfl (.cells zc 56)
                        have b := below_new V1 (.cells zc 56)
                        have hgz : wc.heap.size ≤ V1.heap.size := Bb.size
                        refine Node.wp_new 56 zs zc hzi hzc (by rfl) ?_
                        replace Bb := below_step Bb b
                        try replace O1 := own_bel O1 b
                        try replace G4 := var_later G4 b
                        try replace O5 := O5.later b
                        clear b
                        generalize V1.heap.size = gz at *
                        generalize V1.alloc (.cells zc 56) = V1 at *
                        refine hK.out _ _ (range_of (V.later Bb).l) (fun _ => ?_)
                        clear hK K
                        try simp only [List.getElem_toArray, List.getElem_cons_succ, List.getElem_cons_zero, Act.put, List.setIfInBounds_toArray, List.set_cons_zero, List.set_cons_succ]
                        refine wpAnyH_ready (rs := [5]) (by kernel_rfl) (by simp) ?_
                        refine AllReadyH.cons rfl (fun K hK => ?_) AllReadyH.nil
                        refine wp_app28 (.tmp 72) (.tmp 73) _ (by rfl) wc.heap.size 5 i0 _ 1 1 Try.underlying60 hi hz0 hz1 hz2 rfl (by omega) (.slice Aa m ca) m (u8s Bp) (by rfl) (own_mono28 O1 hga) (.slice (some ⟨g4', 0, none⟩) 1 1) 1 [.int .u8 0] (by rfl) (sliceAt_blk G4 rfl (by decide)) (by simp [Value.oneCell']) (by simp only [maxLen]; omega) (by omega) Bb.size ?_
                        intro v1 V' ho1 hg1 hw1
                        obtain ⟨A5, c5, rfl, _, _⟩ := (sliceAt_of_own ho1).form
                        have b := below_own Bb hg1 Bb.size (fun g hg => Nat.le_trans hga (own_base O1 hg).1)
                        try replace GZ := (hg1.block gz (Array.getElem?_eq_some_iff.1 GZ).1 (fun e => by obtain ⟨cur, hc⟩ := own_type28 O1 e.symm; rw [GZ] at hc; cases hc)).trans GZ
                        clear hg1 hw1 Bb O1 G4
                        have O5 : SliceAt V' 1 (.slice A5 (m + 1) c5) (Bp ++ [0#8]).length (u8s (Bp ++ [0#8])) := by
                          rw [HL9.out.1]
                          have h := sliceAt_of_own ho1
                          simpa [u8s] using h
                        have Bb := b
                        clear b ho1
                        generalize V' = V1 at *
                        refine hK.out _ _ (range_of (V.later Bb).l) (fun _ => ?_)
                        clear hK K
                        try simp only [List.getElem_toArray, List.getElem_cons_succ, List.getElem_cons_zero, Act.put, List.setIfInBounds_toArray, List.set_cons_zero, List.set_cons_succ]
                        refine wpAnyH_ready (rs := [6]) (by kernel_rfl) (by simp) ?_
                        refine AllReadyH.cons rfl (fun K hK => ?_) AllReadyH.nil
                        refine Node.wp_fn 12 [.tmp 69, .tmp 74] _ [.agg L.toArray, .slice A5 (m + 1) c5] (by rfl) (by rfl) HENT.out (Take_c L kinds ss nsig clr st A c A1 c1 (.slice A5 (m + 1) c5) (Bp ++ [0#8]) _ (V.later Bb).ly HK2.out O5 (by rw [HL9.out.1]; omega)) ?_
                        rintro e V1 ⟨b, r, err, rfl, hT⟩
                        obtain ⟨rfl, rfl⟩ : r = s0 ∧ err = 41 := by
                          rcases hT with ⟨h, _⟩ | ⟨_, h2, h3⟩
                          · exact absurd h HL9.out.2
                          · exact ⟨h2, h3⟩
                        refine ⟨_, rfl, ?_⟩
                        rw [HS3.out]
                        replace Bb := below_step Bb b
                        try replace GZ := var_later GZ b
                        clear b O5 hT
                        refine hK.out _ _ (range_of (V.later Bb).l) (fun _ => ?_)
                        clear hK K
                        try simp only [List.getElem_toArray, List.getElem_cons_succ, List.getElem_cons_zero, Act.put, List.setIfInBounds_toArray, List.set_cons_zero, List.set_cons_succ]
                        have hHeld : V1.rangeAt w.heap.size 0 L := range_of (V.later Bb).l
                        refine wpAnyH_take (i := 7) (v := ?_) rfl (by kernel_rfl) (by kernel_rfl) (by kernel_rfl) (fun _ _ _ h => h) (Or.inl ⟨by kernel_rfl, ?_⟩) (by assumption) ?_
                        rotate_left
                        · intro w hSw
                          try dsimp only at hSw
                          go_simp
                          try with_reducible rfl
                        simp only [List.getElem_toArray, List.getElem_cons_succ, List.getElem_cons_zero, Act.put, List.setIfInBounds_toArray, List.set_cons_zero, List.set_cons_succ]
                        refine wpAnyH_take (i := 8) (v := ?_) rfl (by kernel_rfl) (by kernel_rfl) (by kernel_rfl) (fun _ _ _ h => h) (Or.inl ⟨by kernel_rfl, ?_⟩) (by assumption) ?_
                        rotate_left
                        · intro w hSw
                          try dsimp only at hSw
                          go_simp
                          try with_reducible rfl
                        simp only [List.getElem_toArray, List.getElem_cons_succ, List.getElem_cons_zero, Act.put, List.setIfInBounds_toArray, List.set_cons_zero, List.set_cons_succ]
                        refine wpAnyH_take (i := 9) (v := ?_) rfl (by kernel_rfl) (by kernel_rfl) (by kernel_rfl) (fun _ _ _ h => h) (Or.inl ⟨by kernel_rfl, ?_⟩) (by assumption) ?_
                        rotate_left
                        · intro w hSw
                          try dsimp only at hSw
                          go_simp
                          try with_reducible rfl
                        simp only [List.getElem_toArray, List.getElem_cons_succ, List.getElem_cons_zero, Act.put, List.setIfInBounds_toArray, List.set_cons_zero, List.set_cons_succ]
                        clear hHeld
                        refine wpAnyH_ready (rs := [11]) (by kernel_rfl) (by simp) ?_
                        refine AllReadyH.cons rfl (fun K hK => ?_) AllReadyH.nil
                        obtain ⟨V', hW, F, b, far, ths⟩ := fill_new S3 GZ lS3 Bb hgz
                        refine wp_store_mid 56 (.tmp 12) (.tmp 76) (by rfl) gz 0 S3.toArray (by rfl) (by rfl) ths szs3 oS3 ?_
                        rw [hW]
                        clear hW ths far F Bb GZ
                        have Bb := b
                        clear b
                        generalize V' = V1 at *
                        refine hK.out _ _ (range_of (V.later Bb).l) (fun _ => ?_)
                        clear hK K
                        try simp only [List.getElem_toArray, List.getElem_cons_succ, List.getElem_cons_zero, Act.put, List.setIfInBounds_toArray, List.set_cons_zero, List.set_cons_succ]
                        refine wpAnyH_ready (rs := [12]) (by kernel_rfl) (by simp) ?_
                        refine AllReadyH.cons rfl (fun K hK => ?_) AllReadyH.nil
                        refine Node.wp_set (.int .i64 41) (.tmp 77) (.inr rfl) (by rfl) ?_
                        refine hK.out _ _ (range_of (V.later Bb).l) (fun _ => ?_)
                        clear hK K
                        try simp only [List.getElem_toArray, List.getElem_cons_succ, List.getElem_cons_zero, Act.put, List.setIfInBounds_toArray, List.set_cons_zero, List.set_cons_succ]
                        refine wpAnyH_done (by kernel_rfl) ?_ _
                        go_wp2
                        go_meet
                        exact ⟨rfl, Bb⟩
                    · skip
                      have GZ := new_at (w := V1) rfl (.cells zc 56)
                      have b := below_new V1 (.cells zc 56)
                      have hgz : wc.heap.size ≤ V1.heap.size := Bb.size
                      refine Node.wp_new 56 zs zc hzi hzc (by rfl) ?_
                      replace Bb := below_step Bb b
                      try replace O1 := own_bel O1 b
                      try replace G4 := var_later G4 b
                      try replace O5 := O5.later b
                      clear b
                      generalize V1.heap.size = gz at *
                      generalize V1.alloc (.cells zc 56) = V1 at *
                      refine hK.out _ _ (range_of (V.later Bb).l) (fun _ => ?_)
                      clear hK K
                      try simp only [List.getElem_toArray, List.getElem_cons_succ, List.getElem_cons_zero, Act.put, List.setIfInBounds_toArray, List.set_cons_zero, List.set_cons_succ]
                      refine wpAnyH_ready (rs := [4]) (by kernel_rfl) (by simp) ?_
                      refine AllReadyH.cons rfl (fun K hK => ?_) AllReadyH.nil
                      have G4 := new_at (w := V1) rfl (.cells ([.int .u8 0] : List Value).toArray 5)
                      have b := below_new V1 (.cells ([.int .u8 0] : List Value).toArray 5)
                      try have hne : V1.heap.size ≠ ga := by have h : ga < V1.heap.size := (own_base O1 rfl).2; omega
                      refine Node.wp_bs 60 1 [(0, .const (.int .u8 0))] [(0, .int .u8 0)] _ (by rfl) (by rfl) (run_bs128 V1) ?_
                      replace Bb := below_step Bb b
                      try replace O1 := own_bel O1 b
                      try replace GZ := var_later GZ b
                      clear b
                      generalize V1.heap.size = g4' at *
                      generalize V1.alloc (.cells ([.int .u8 0] : List Value).toArray 5) = V1 at *
                      refine hK.out _ _ (range_of (V.later Bb).l) (fun _ => ?_)
                      clear hK K
                      try simp only [List.getElem_toArray, List.getElem_cons_succ, List.getElem_cons_zero, Act.put, List.setIfInBounds_toArray, List.set_cons_zero, List.set_cons_succ]
                      refine wpAnyH_ready (rs := [5]) (by kernel_rfl) (by simp) ?_
                      refine AllReadyH.cons rfl (fun K hK => ?_) AllReadyH.nil
                      refine wp_app28 (.tmp 72) (.tmp 73) _ (by rfl) wc.heap.size 5 i0 _ 1 1 Try.underlying60 hi hz0 hz1 hz2 rfl (by omega) (.slice Aa m ca) m (u8s Bp) (by rfl) (own_mono28 O1 hga) (.slice (some ⟨g4', 0, none⟩) 1 1) 1 [.int .u8 0] (by rfl) (sliceAt_blk G4 rfl (by decide)) (by simp [Value.oneCell']) (by simp only [maxLen]; omega) (by omega) Bb.size ?_
                      intro v1 V' ho1 hg1 hw1
                      obtain ⟨A5, c5, rfl, _, _⟩ := (sliceAt_of_own ho1).form
                      have b := below_own Bb hg1 Bb.size (fun g hg => Nat.le_trans hga (own_base O1 hg).1)
                      try replace GZ := (hg1.block gz (Array.getElem?_eq_some_iff.1 GZ).1 (fun e => by obtain ⟨cur, hc⟩ := own_type28 O1 e.symm; rw [GZ] at hc; cases hc)).trans GZ
                      clear hg1 hw1 Bb O1 G4
                      have O5 : SliceAt V' 1 (.slice A5 (m + 1) c5) (Bp ++ [0#8]).length (u8s (Bp ++ [0#8])) := by
                        rw [HL9.out.1]
                        have h := sliceAt_of_own ho1
                        simpa [u8s] using h
                      have Bb := b
                      clear b ho1
                      generalize V' = V1 at *
                      refine hK.out _ _ (range_of (V.later Bb).l) (fun _ => ?_)
                      clear hK K
                      try simp only [List.getElem_toArray, List.getElem_cons_succ, List.getElem_cons_zero, Act.put, List.setIfInBounds_toArray, List.set_cons_zero, List.set_cons_succ]
                      refine wpAnyH_ready (rs := [6]) (by kernel_rfl) (by simp) ?_
                      refine AllReadyH.cons rfl (fun K hK => ?_) AllReadyH.nil
                      refine Node.wp_fn 12 [.tmp 69, .tmp 74] _ [.agg L.toArray, .slice A5 (m + 1) c5] (by rfl) (by rfl) HENT.out (Take_c L kinds ss nsig clr st A c A1 c1 (.slice A5 (m + 1) c5) (Bp ++ [0#8]) _ (V.later Bb).ly HK2.out O5 (by rw [HL9.out.1]; omega)) ?_
                      rintro e V1 ⟨b, r, err, rfl, hT⟩
                      obtain ⟨rfl, rfl⟩ : r = s0 ∧ err = 41 := by
                        rcases hT with ⟨h, _⟩ | ⟨_, h2, h3⟩
                        · exact absurd h HL9.out.2
                        · exact ⟨h2, h3⟩
                      refine ⟨_, rfl, ?_⟩
                      rw [HS3.out]
                      replace Bb := below_step Bb b
                      try replace GZ := var_later GZ b
                      clear b O5 hT
                      refine hK.out _ _ (range_of (V.later Bb).l) (fun _ => ?_)
                      clear hK K
                      try simp only [List.getElem_toArray, List.getElem_cons_succ, List.getElem_cons_zero, Act.put, List.setIfInBounds_toArray, List.set_cons_zero, List.set_cons_succ]
                      have hHeld : V1.rangeAt w.heap.size 0 L := range_of (V.later Bb).l
                      refine wpAnyH_take (i := 7) (v := ?_) rfl (by kernel_rfl) (by kernel_rfl) (by kernel_rfl) (fun _ _ _ h => h) (Or.inl ⟨by kernel_rfl, ?_⟩) (by assumption) ?_
                      rotate_left
                      · intro w hSw
                        try dsimp only at hSw
                        go_simp
                        try with_reducible rfl
                      simp only [List.getElem_toArray, List.getElem_cons_succ, List.getElem_cons_zero, Act.put, List.setIfInBounds_toArray, List.set_cons_zero, List.set_cons_succ]
                      refine wpAnyH_take (i := 8) (v := ?_) rfl (by kernel_rfl) (by kernel_rfl) (by kernel_rfl) (fun _ _ _ h => h) (Or.inl ⟨by kernel_rfl, ?_⟩) (by assumption) ?_
                      rotate_left
                      · intro w hSw
                        try dsimp only at hSw
                        go_simp
                        try with_reducible rfl
                      simp only [List.getElem_toArray, List.getElem_cons_succ, List.getElem_cons_zero, Act.put, List.setIfInBounds_toArray, List.set_cons_zero, List.set_cons_succ]
                      refine wpAnyH_take (i := 9) (v := ?_) rfl (by kernel_rfl) (by kernel_rfl) (by kernel_rfl) (fun _ _ _ h => h) (Or.inl ⟨by kernel_rfl, ?_⟩) (by assumption) ?_
                      rotate_left
                      · intro w hSw
                        try dsimp only at hSw
                        go_simp
                        try with_reducible rfl
                      simp only [List.getElem_toArray, List.getElem_cons_succ, List.getElem_cons_zero, Act.put, List.setIfInBounds_toArray, List.set_cons_zero, List.set_cons_succ]
                      clear hHeld
                      refine wpAnyH_ready (rs := [11]) (by kernel_rfl) (by simp) ?_
                      refine AllReadyH.cons rfl (fun K hK => ?_) AllReadyH.nil
                      obtain ⟨V', hW, F, b, far, ths⟩ := fill_new S3 GZ lS3 Bb hgz
                      refine wp_store_mid 56 (.tmp 12) (.tmp 76) (by rfl) gz 0 S3.toArray (by rfl) (by rfl) ths szs3 oS3 ?_
                      rw [hW]
                      clear hW ths far F Bb GZ
                      have Bb := b
                      clear b
                      generalize V' = V1 at *
                      refine hK.out _ _ (range_of (V.later Bb).l) (fun _ => ?_)
                      clear hK K
                      try simp only [List.getElem_toArray, List.getElem_cons_succ, List.getElem_cons_zero, Act.put, List.setIfInBounds_toArray, List.set_cons_zero, List.set_cons_succ]
                      refine wpAnyH_ready (rs := [12]) (by kernel_rfl) (by simp) ?_
                      refine AllReadyH.cons rfl (fun K hK => ?_) AllReadyH.nil
                      refine Node.wp_set (.int .i64 41) (.tmp 77) (.inr rfl) (by rfl) ?_
                      refine hK.out _ _ (range_of (V.later Bb).l) (fun _ => ?_)
                      clear hK K
                      try simp only [List.getElem_toArray, List.getElem_cons_succ, List.getElem_cons_zero, Act.put, List.setIfInBounds_toArray, List.set_cons_zero, List.set_cons_succ]
                      refine wpAnyH_done (by kernel_rfl) ?_ _
                      go_wp2
                      go_meet
                      exact ⟨rfl, Bb⟩
                  · skip
                    have G4 := new_at (w := V1) rfl (.cells ([.int .u8 0] : List Value).toArray 5)
                    have b := below_new V1 (.cells ([.int .u8 0] : List Value).toArray 5)
                    try have hne : V1.heap.size ≠ ga := by have h : ga < V1.heap.size := (own_base O1 rfl).2; omega
                    refine Node.wp_bs 60 1 [(0, .const (.int .u8 0))] [(0, .int .u8 0)] _ (by rfl) (by rfl) (run_bs128 V1) ?_
                    replace Bb := below_step Bb b
                    try replace O1 := own_bel O1 b
                    try replace GZ := var_later GZ b
                    clear b
                    generalize V1.heap.size = g4' at *
                    generalize V1.alloc (.cells ([.int .u8 0] : List Value).toArray 5) = V1 at *
                    refine hK.out _ _ (range_of (V.later Bb).l) (fun _ => ?_)
                    clear hK K
                    try simp only [List.getElem_toArray, List.getElem_cons_succ, List.getElem_cons_zero, Act.put, List.setIfInBounds_toArray, List.set_cons_zero, List.set_cons_succ]
                    refine wpAnyH_ready (rs := [3, 10]) (by kernel_rfl) (by simp) ?_
                    refine AllReadyH.cons rfl (fun K hK => ?_) (AllReadyH.cons rfl (fun K hK => ?_) AllReadyH.nil)
                    · skip
                      have hgaV := (own_base O1 rfl).2
                      refine wp_app28 (.tmp 70) (.tmp 71) _ (by rfl) ga 5 i0 _ 1 1 Try.underlying60 hi hz0 hz1 hz2 rfl (by omega) (.slice (some ⟨ga, 0, none⟩) 0 0) 0 [] (by rfl) O1 (.slice Ap m cp) m (u8s Bp) (by rfl) (sp.later Bb) (u8s_one Bp) (by simp only [maxLen]; omega) (by omega) (Nat.le_of_lt hgaV) ?_
                      intro v1 V' ho1 hg1 hw1
                      simp only [Nat.zero_add, List.nil_append] at ho1
                      obtain ⟨Aa, ca, rfl, _, _⟩ := (sliceAt_of_own ho1).form
                      have b := below_own Bb hg1 Bb.size (fun g hg => by cases hg; exact hga)
                      try replace G4 := (hg1.block g4' (Array.getElem?_eq_some_iff.1 G4).1 (fun e => hne (Option.some.inj e))).trans G4
                      try replace GZ := (hg1.block gz (Array.getElem?_eq_some_iff.1 GZ).1 (fun e => by obtain ⟨cur, hc⟩ := own_type28 O1 e.symm; rw [GZ] at hc; cases hc)).trans GZ
                      clear hgaV hg1 hw1 Bb O1
                      have O1 := ho1
                      have Bb := b
                      clear b ho1
                      generalize V' = V1 at *
                      refine hK.out _ _ (range_of (V.later Bb).l) (fun _ => ?_)
                      clear hK K
                      try simp only [List.getElem_toArray, List.getElem_cons_succ, List.getElem_cons_zero, Act.put, List.setIfInBounds_toArray, List.set_cons_zero, List.set_cons_succ]
                      refine wpAnyH_ready (rs := [5, 10]) (by kernel_rfl) (by simp) ?_
                      refine AllReadyH.cons rfl (fun K hK => ?_) (AllReadyH.cons rfl (fun K hK => ?_) AllReadyH.nil)
                      · skip
                        refine wp_app28 (.tmp 72) (.tmp 73) _ (by rfl) wc.heap.size 5 i0 _ 1 1 Try.underlying60 hi hz0 hz1 hz2 rfl (by omega) (.slice Aa m ca) m (u8s Bp) (by rfl) (own_mono28 O1 hga) (.slice (some ⟨g4', 0, none⟩) 1 1) 1 [.int .u8 0] (by rfl) (sliceAt_blk G4 rfl (by decide)) (by simp [Value.oneCell']) (by simp only [maxLen]; omega) (by omega) Bb.size ?_
                        intro v1 V' ho1 hg1 hw1
                        obtain ⟨A5, c5, rfl, _, _⟩ := (sliceAt_of_own ho1).form
                        have b := below_own Bb hg1 Bb.size (fun g hg => Nat.le_trans hga (own_base O1 hg).1)
                        try replace GZ := (hg1.block gz (Array.getElem?_eq_some_iff.1 GZ).1 (fun e => by obtain ⟨cur, hc⟩ := own_type28 O1 e.symm; rw [GZ] at hc; cases hc)).trans GZ
                        clear hg1 hw1 Bb O1 G4
                        have O5 : SliceAt V' 1 (.slice A5 (m + 1) c5) (Bp ++ [0#8]).length (u8s (Bp ++ [0#8])) := by
                          rw [HL9.out.1]
                          have h := sliceAt_of_own ho1
                          simpa [u8s] using h
                        have Bb := b
                        clear b ho1
                        generalize V' = V1 at *
                        refine hK.out _ _ (range_of (V.later Bb).l) (fun _ => ?_)
                        clear hK K
                        try simp only [List.getElem_toArray, List.getElem_cons_succ, List.getElem_cons_zero, Act.put, List.setIfInBounds_toArray, List.set_cons_zero, List.set_cons_succ]
                        refine wpAnyH_ready (rs := [6, 10]) (by kernel_rfl) (by simp) ?_
                        refine AllReadyH.cons rfl (fun K hK => ?_) (AllReadyH.cons rfl (fun K hK => ?_) AllReadyH.nil)
                        · skip
                          refine Node.wp_fn 12 [.tmp 69, .tmp 74] _ [.agg L.toArray, .slice A5 (m + 1) c5] (by rfl) (by rfl) HENT.out (Take_c L kinds ss nsig clr st A c A1 c1 (.slice A5 (m + 1) c5) (Bp ++ [0#8]) _ (V.later Bb).ly HK2.out O5 (by rw [HL9.out.1]; omega)) ?_
                          rintro e V1 ⟨b, r, err, rfl, hT⟩
                          obtain ⟨rfl, rfl⟩ : r = s0 ∧ err = 41 := by
                            rcases hT with ⟨h, _⟩ | ⟨_, h2, h3⟩
                            · exact absurd h HL9.out.2
                            · exact ⟨h2, h3⟩
                          refine ⟨_, rfl, ?_⟩
                          rw [HS3.out]
                          replace Bb := below_step Bb b
                          try replace GZ := var_later GZ b
                          clear b O5 hT
                          refine hK.out _ _ (range_of (V.later Bb).l) (fun _ => ?_)
                          clear hK K
                          try simp only [List.getElem_toArray, List.getElem_cons_succ, List.getElem_cons_zero, Act.put, List.setIfInBounds_toArray, List.set_cons_zero, List.set_cons_succ]
                          have hHeld : V1.rangeAt w.heap.size 0 L := range_of (V.later Bb).l
                          refine wpAnyH_take (i := 7) (v := ?_) rfl (by kernel_rfl) (by kernel_rfl) (by kernel_rfl) (fun _ _ _ h => h) (Or.inl ⟨by kernel_rfl, ?_⟩) (by assumption) ?_
                          rotate_left
                          · intro w hSw
                            try dsimp only at hSw
                            go_simp
                            try with_reducible rfl
                          simp only [List.getElem_toArray, List.getElem_cons_succ, List.getElem_cons_zero, Act.put, List.setIfInBounds_toArray, List.set_cons_zero, List.set_cons_succ]
                          refine wpAnyH_take (i := 8) (v := ?_) rfl (by kernel_rfl) (by kernel_rfl) (by kernel_rfl) (fun _ _ _ h => h) (Or.inl ⟨by kernel_rfl, ?_⟩) (by assumption) ?_
                          rotate_left
                          · intro w hSw
                            try dsimp only at hSw
                            go_simp
                            try with_reducible rfl
                          simp only [List.getElem_toArray, List.getElem_cons_succ, List.getElem_cons_zero, Act.put, List.setIfInBounds_toArray, List.set_cons_zero, List.set_cons_succ]
                          refine wpAnyH_take (i := 9) (v := ?_) rfl (by kernel_rfl) (by kernel_rfl) (by kernel_rfl) (fun _ _ _ h => h) (Or.inl ⟨by kernel_rfl, ?_⟩) (by assumption) ?_
                          rotate_left
                          · intro w hSw
                            try dsimp only at hSw
                            go_simp
                            try with_reducible rfl
                          simp only [List.getElem_toArray, List.getElem_cons_succ, List.getElem_cons_zero, Act.put, List.setIfInBounds_toArray, List.set_cons_zero, List.set_cons_succ]
                          clear hHeld
                          refine wpAnyH_ready (rs := [10]) (by kernel_rfl) (by simp) ?_
                          refine AllReadyH.cons rfl (fun K hK => ?_) AllReadyH.nil
                          have GZ := new_at (w := V1) rfl (.cells zc 56)
                          have b := below_new V1 (.cells zc 56)
                          have hgz : wc.heap.size ≤ V1.heap.size := Bb.size
                          refine Node.wp_new 56 zs zc hzi hzc (by rfl) ?_
                          replace Bb := below_step Bb b
                          try replace O1 := own_bel O1 b
                          try replace G4 := var_later G4 b
                          try replace O5 := O5.later b
                          clear b
                          generalize V1.heap.size = gz at *
                          generalize V1.alloc (.cells zc 56) = V1 at *
                          refine hK.out _ _ (range_of (V.later Bb).l) (fun _ => ?_)
                          clear hK K
                          try simp only [List.getElem_toArray, List.getElem_cons_succ, List.getElem_cons_zero, Act.put, List.setIfInBounds_toArray, List.set_cons_zero, List.set_cons_succ]
                          refine wpAnyH_ready (rs := [11]) (by kernel_rfl) (by simp) ?_
                          refine AllReadyH.cons rfl (fun K hK => ?_) AllReadyH.nil
                          obtain ⟨V', hW, F, b, far, ths⟩ := fill_new S3 GZ lS3 Bb hgz
                          refine wp_store_mid 56 (.tmp 12) (.tmp 76) (by rfl) gz 0 S3.toArray (by rfl) (by rfl) ths szs3 oS3 ?_
                          rw [hW]
                          clear hW ths far F Bb GZ
                          have Bb := b
                          clear b
                          generalize V' = V1 at *
                          refine hK.out _ _ (range_of (V.later Bb).l) (fun _ => ?_)
                          clear hK K
                          try simp only [List.getElem_toArray, List.getElem_cons_succ, List.getElem_cons_zero, Act.put, List.setIfInBounds_toArray, List.set_cons_zero, List.set_cons_succ]
                          refine wpAnyH_ready (rs := [12]) (by kernel_rfl) (by simp) ?_
                          refine AllReadyH.cons rfl (fun K hK => ?_) AllReadyH.nil
                          refine Node.wp_set (.int .i64 41) (.tmp 77) (.inr rfl) (by rfl) ?_
                          refine hK.out _ _ (range_of (V.later Bb).l) (fun _ => ?_)
                          clear hK K
                          try simp only [List.getElem_toArray, List.getElem_cons_succ, List.getElem_cons_zero, Act.put, List.setIfInBounds_toArray, List.set_cons_zero, List.set_cons_succ]
                          refine wpAnyH_done (by kernel_rfl) ?_ _
                          go_wp2
                          go_meet
                          exact ⟨rfl, Bb⟩
                        · skip
                          have GZ := new_at (w := V1) rfl (.cells zc 56)
                          have b := below_new V1 (.cells zc 56)
                          have hgz : wc.heap.size ≤ V1.heap.size := Bb.size
                          refine Node.wp_new 56 zs zc hzi hzc (by rfl) ?_
                          replace Bb := below_step Bb b
                          try replace O1 := own_bel O1 b
                          try replace G4 := var_later G4 b
                          try replace O5 := O5.later b
                          clear b
                          generalize V1.heap.size = gz at *
                          generalize V1.alloc (.cells zc 56) = V1 at *
                          refine hK.out _ _ (range_of (V.later Bb).l) (fun _ => ?_)
                          clear hK K
                          try simp only [List.getElem_toArray, List.getElem_cons_succ, List.getElem_cons_zero, Act.put, List.setIfInBounds_toArray, List.set_cons_zero, List.set_cons_succ]
                          refine wpAnyH_ready (rs := [6]) (by kernel_rfl) (by simp) ?_
                          refine AllReadyH.cons rfl (fun K hK => ?_) AllReadyH.nil
                          refine Node.wp_fn 12 [.tmp 69, .tmp 74] _ [.agg L.toArray, .slice A5 (m + 1) c5] (by rfl) (by rfl) HENT.out (Take_c L kinds ss nsig clr st A c A1 c1 (.slice A5 (m + 1) c5) (Bp ++ [0#8]) _ (V.later Bb).ly HK2.out O5 (by rw [HL9.out.1]; omega)) ?_
                          rintro e V1 ⟨b, r, err, rfl, hT⟩
                          obtain ⟨rfl, rfl⟩ : r = s0 ∧ err = 41 := by
                            rcases hT with ⟨h, _⟩ | ⟨_, h2, h3⟩
                            · exact absurd h HL9.out.2
                            · exact ⟨h2, h3⟩
                          refine ⟨_, rfl, ?_⟩
                          rw [HS3.out]
                          replace Bb := below_step Bb b
                          try replace GZ := var_later GZ b
                          clear b O5 hT
                          refine hK.out _ _ (range_of (V.later Bb).l) (fun _ => ?_)
                          clear hK K
                          try simp only [List.getElem_toArray, List.getElem_cons_succ, List.getElem_cons_zero, Act.put, List.setIfInBounds_toArray, List.set_cons_zero, List.set_cons_succ]
                          have hHeld : V1.rangeAt w.heap.size 0 L := range_of (V.later Bb).l
                          refine wpAnyH_take (i := 7) (v := ?_) rfl (by kernel_rfl) (by kernel_rfl) (by kernel_rfl) (fun _ _ _ h => h) (Or.inl ⟨by kernel_rfl, ?_⟩) (by assumption) ?_
                          rotate_left
                          · intro w hSw
                            try dsimp only at hSw
                            go_simp
                            try with_reducible rfl
                          simp only [List.getElem_toArray, List.getElem_cons_succ, List.getElem_cons_zero, Act.put, List.setIfInBounds_toArray, List.set_cons_zero, List.set_cons_succ]
                          refine wpAnyH_take (i := 8) (v := ?_) rfl (by kernel_rfl) (by kernel_rfl) (by kernel_rfl) (fun _ _ _ h => h) (Or.inl ⟨by kernel_rfl, ?_⟩) (by assumption) ?_
                          rotate_left
                          · intro w hSw
                            try dsimp only at hSw
                            go_simp
                            try with_reducible rfl
                          simp only [List.getElem_toArray, List.getElem_cons_succ, List.getElem_cons_zero, Act.put, List.setIfInBounds_toArray, List.set_cons_zero, List.set_cons_succ]
                          refine wpAnyH_take (i := 9) (v := ?_) rfl (by kernel_rfl) (by kernel_rfl) (by kernel_rfl) (fun _ _ _ h => h) (Or.inl ⟨by kernel_rfl, ?_⟩) (by assumption) ?_
                          rotate_left
                          · intro w hSw
                            try dsimp only at hSw
                            go_simp
                            try with_reducible rfl
                          simp only [List.getElem_toArray, List.getElem_cons_succ, List.getElem_cons_zero, Act.put, List.setIfInBounds_toArray, List.set_cons_zero, List.set_cons_succ]
                          clear hHeld
                          refine wpAnyH_ready (rs := [11]) (by kernel_rfl) (by simp) ?_
                          refine AllReadyH.cons rfl (fun K hK => ?_) AllReadyH.nil
                          obtain ⟨V', hW, F, b, far, ths⟩ := fill_new S3 GZ lS3 Bb hgz
                          refine wp_store_mid 56 (.tmp 12) (.tmp 76) (by rfl) gz 0 S3.toArray (by rfl) (by rfl) ths szs3 oS3 ?_
                          rw [hW]
                          clear hW ths far F Bb GZ
                          have Bb := b
                          clear b
                          generalize V' = V1 at *
                          refine hK.out _ _ (range_of (V.later Bb).l) (fun _ => ?_)
                          clear hK K
                          try simp only [List.getElem_toArray, List.getElem_cons_succ, List.getElem_cons_zero, Act.put, List.setIfInBounds_toArray, List.set_cons_zero, List.set_cons_succ]
                          refine wpAnyH_ready (rs := [12]) (by kernel_rfl) (by simp) ?_
                          refine AllReadyH.cons rfl (fun K hK => ?_) AllReadyH.nil
                          refine Node.wp_set (.int .i64 41) (.tmp 77) (.inr rfl) (by rfl) ?_
                          refine hK.out _ _ (range_of (V.later Bb).l) (fun _ => ?_)
                          clear hK K
                          try simp only [List.getElem_toArray, List.getElem_cons_succ, List.getElem_cons_zero, Act.put, List.setIfInBounds_toArray, List.set_cons_zero, List.set_cons_succ]
                          refine wpAnyH_done (by kernel_rfl) ?_ _
                          go_wp2
                          go_meet
                          exact ⟨rfl, Bb⟩
                      · skip
                        have GZ := new_at (w := V1) rfl (.cells zc 56)
                        have b := below_new V1 (.cells zc 56)
                        have hgz : wc.heap.size ≤ V1.heap.size := Bb.size
                        refine Node.wp_new 56 zs zc hzi hzc (by rfl) ?_
                        replace Bb := below_step Bb b
                        try replace O1 := own_bel O1 b
                        try replace G4 := var_later G4 b
                        try replace O5 := O5.later b
                        clear b
                        generalize V1.heap.size = gz at *
                        generalize V1.alloc (.cells zc 56) = V1 at *
                        refine hK.out _ _ (range_of (V.later Bb).l) (fun _ => ?_)
                        clear hK K
                        try simp only [List.getElem_toArray, List.getElem_cons_succ, List.getElem_cons_zero, Act.put, List.setIfInBounds_toArray, List.set_cons_zero, List.set_cons_succ]
                        refine wpAnyH_ready (rs := [5]) (by kernel_rfl) (by simp) ?_
                        refine AllReadyH.cons rfl (fun K hK => ?_) AllReadyH.nil
                        refine wp_app28 (.tmp 72) (.tmp 73) _ (by rfl) wc.heap.size 5 i0 _ 1 1 Try.underlying60 hi hz0 hz1 hz2 rfl (by omega) (.slice Aa m ca) m (u8s Bp) (by rfl) (own_mono28 O1 hga) (.slice (some ⟨g4', 0, none⟩) 1 1) 1 [.int .u8 0] (by rfl) (sliceAt_blk G4 rfl (by decide)) (by simp [Value.oneCell']) (by simp only [maxLen]; omega) (by omega) Bb.size ?_
                        intro v1 V' ho1 hg1 hw1
                        obtain ⟨A5, c5, rfl, _, _⟩ := (sliceAt_of_own ho1).form
                        have b := below_own Bb hg1 Bb.size (fun g hg => Nat.le_trans hga (own_base O1 hg).1)
                        try replace GZ := (hg1.block gz (Array.getElem?_eq_some_iff.1 GZ).1 (fun e => by obtain ⟨cur, hc⟩ := own_type28 O1 e.symm; rw [GZ] at hc; cases hc)).trans GZ
                        clear hg1 hw1 Bb O1 G4
                        have O5 : SliceAt V' 1 (.slice A5 (m + 1) c5) (Bp ++ [0#8]).length (u8s (Bp ++ [0#8])) := by
                          rw [HL9.out.1]
                          have h := sliceAt_of_own ho1
                          simpa [u8s] using h
                        have Bb := b
                        clear b ho1
                        generalize V' = V1 at *
                        refine hK.out _ _ (range_of (V.later Bb).l) (fun _ => ?_)
                        clear hK K
                        try simp only [List.getElem_toArray, List.getElem_cons_succ, List.getElem_cons_zero, Act.put, List.setIfInBounds_toArray, List.set_cons_zero, List.set_cons_succ]
                        refine wpAnyH_ready (rs := [6]) (by kernel_rfl) (by simp) ?_
                        refine AllReadyH.cons rfl (fun K hK => ?_) AllReadyH.nil
                        refine Node.wp_fn 12 [.tmp 69, .tmp 74] _ [.agg L.toArray, .slice A5 (m + 1) c5] (by rfl) (by rfl) HENT.out (Take_c L kinds ss nsig clr st A c A1 c1 (.slice A5 (m + 1) c5) (Bp ++ [0#8]) _ (V.later Bb).ly HK2.out O5 (by rw [HL9.out.1]; omega)) ?_
                        rintro e V1 ⟨b, r, err, rfl, hT⟩
                        obtain ⟨rfl, rfl⟩ : r = s0 ∧ err = 41 := by
                          rcases hT with ⟨h, _⟩ | ⟨_, h2, h3⟩
                          · exact absurd h HL9.out.2
                          · exact ⟨h2, h3⟩
                        refine ⟨_, rfl, ?_⟩
                        rw [HS3.out]
                        replace Bb := below_step Bb b
                        try replace GZ := var_later GZ b
                        clear b O5 hT
                        refine hK.out _ _ (range_of (V.later Bb).l) (fun _ => ?_)
                        clear hK K
                        try simp only [List.getElem_toArray, List.getElem_cons_succ, List.getElem_cons_zero, Act.put, List.setIfInBounds_toArray, List.set_cons_zero, List.set_cons_succ]
                        have hHeld : V1.rangeAt w.heap.size 0 L := range_of (V.later Bb).l
                        refine wpAnyH_take (i := 7) (v := ?_) rfl (by kernel_rfl) (by kernel_rfl) (by kernel_rfl) (fun _ _ _ h => h) (Or.inl ⟨by kernel_rfl, ?_⟩) (by assumption) ?_
                        rotate_left
                        · intro w hSw
                          try dsimp only at hSw
                          go_simp
                          try with_reducible rfl
                        simp only [List.getElem_toArray, List.getElem_cons_succ, List.getElem_cons_zero, Act.put, List.setIfInBounds_toArray, List.set_cons_zero, List.set_cons_succ]
                        refine wpAnyH_take (i := 8) (v := ?_) rfl (by kernel_rfl) (by kernel_rfl) (by kernel_rfl) (fun _ _ _ h => h) (Or.inl ⟨by kernel_rfl, ?_⟩) (by assumption) ?_
                        rotate_left
                        · intro w hSw
                          try dsimp only at hSw
                          go_simp
                          try with_reducible rfl
                        simp only [List.getElem_toArray, List.getElem_cons_succ, List.getElem_cons_zero, Act.put, List.setIfInBounds_toArray, List.set_cons_zero, List.set_cons_succ]
                        refine wpAnyH_take (i := 9) (v := ?_) rfl (by kernel_rfl) (by kernel_rfl) (by kernel_rfl) (fun _ _ _ h => h) (Or.inl ⟨by kernel_rfl, ?_⟩) (by assumption) ?_
                        rotate_left
                        · intro w hSw
                          try dsimp only at hSw
                          go_simp
                          try with_reducible rfl
                        simp only [List.getElem_toArray, List.getElem_cons_succ, List.getElem_cons_zero, Act.put, List.setIfInBounds_toArray, List.set_cons_zero, List.set_cons_succ]
                        clear hHeld
                        refine wpAnyH_ready (rs := [11]) (by kernel_rfl) (by simp) ?_
                        refine AllReadyH.cons rfl (fun K hK => ?_) AllReadyH.nil
                        obtain ⟨V', hW, F, b, far, ths⟩ := fill_new S3 GZ lS3 Bb hgz
                        refine wp_store_mid 56 (.tmp 12) (.tmp 76) (by rfl) gz 0 S3.toArray (by rfl) (by rfl) ths szs3 oS3 ?_
                        rw [hW]
                        clear hW ths far F Bb GZ
                        have Bb := b
                        clear b
                        generalize V' = V1 at *
                        refine hK.out _ _ (range_of (V.later Bb).l) (fun _ => ?_)
                        clear hK K
                        try simp only [List.getElem_toArray, List.getElem_cons_succ, List.getElem_cons_zero, Act.put, List.setIfInBounds_toArray, List.set_cons_zero, List.set_cons_succ]
                        refine wpAnyH_ready (rs := [12]) (by kernel_rfl) (by simp) ?_
                        refine AllReadyH.cons rfl (fun K hK => ?_) AllReadyH.nil
                        refine Node.wp_set (.int .i64 41) (.tmp 77) (.inr rfl) (by rfl) ?_
                        refine hK.out _ _ (range_of (V.later Bb).l) (fun _ => ?_)
                        clear hK K
                        try simp only [List.getElem_toArray, List.getElem_cons_succ, List.getElem_cons_zero, Act.put, List.setIfInBounds_toArray, List.set_cons_zero, List.set_cons_succ]
                        refine wpAnyH_done (by kernel_rfl) ?_ _
                        go_wp2
                        go_meet
                        exact ⟨rfl, Bb⟩
                    · skip
                      have GZ := new_at (w := V1) rfl (.cells zc 56)
                      have b := below_new V1 (.cells zc 56)
                      have hgz : wc.heap.size ≤ V1.heap.size := Bb.size
                      refine Node.wp_new 56 zs zc hzi hzc (by rfl) ?_
                      replace Bb := below_step Bb b
                      try replace O1 := own_bel O1 b
                      try replace G4 := var_later G4 b
                      try replace O5 := O5.later b
                      clear b
                      generalize V1.heap.size = gz at *
                      generalize V1.alloc (.cells zc 56) = V1 at *
                      refine hK.out _ _ (range_of (V.later Bb).l) (fun _ => ?_)
                      clear hK K
                      try simp only [List.getElem_toArray, List.getElem_cons_succ, List.getElem_cons_zero, Act.put, List.setIfInBounds_toArray, List.set_cons_zero, List.set_cons_succ]
                      refine wpAnyH_ready (rs := [3]) (by kernel_rfl) (by simp) ?_
                      refine AllReadyH.cons rfl (fun K hK => ?_) AllReadyH.nil
                      have hgaV := (own_base O1 rfl).2
                      refine wp_app28 (.tmp 70) (.tmp 71) _ (by rfl) ga 5 i0 _ 1 1 Try.underlying60 hi hz0 hz1 hz2 rfl (by omega) (.slice (some ⟨ga, 0, none⟩) 0 0) 0 [] (by rfl) O1 (.slice Ap m cp) m (u8s Bp) (by rfl) (sp.later Bb) (u8s_one Bp) (by simp only [maxLen]; omega) (by omega) (Nat.le_of_lt hgaV) ?_
                      intro v1 V' ho1 hg1 hw1
                      simp only [Nat.zero_add, List.nil_append] at ho1
                      obtain ⟨Aa, ca, rfl, _, _⟩ := (sliceAt_of_own ho1).form
                      have b := below_own Bb hg1 Bb.size (fun g hg => by cases hg; exact hga)
                      try replace G4 := (hg1.block g4' (Array.getElem?_eq_some_iff.1 G4).1 (fun e => hne (Option.some.inj e))).trans G4
                      try replace GZ := (hg1.block gz (Array.getElem?_eq_some_iff.1 GZ).1 (fun e => by obtain ⟨cur, hc⟩ := own_type28 O1 e.symm; rw [GZ] at hc; cases hc)).trans GZ
                      clear hgaV hg1 hw1 Bb O1
                      have O1 := ho1
                      have Bb := b
                      clear b ho1
                      generalize V' = V1 at *
                      refine hK.out _ _ (range_of (V.later Bb).l) (fun _ => ?_)
                      clear hK K
                      try simp only [List.getElem_toArray, List.getElem_cons_succ, List.getElem_cons_zero, Act.put, List.setIfInBounds_toArray, List.set_cons_zero, List.set_cons_succ]
                      refine wpAnyH_ready (rs := [5]) (by kernel_rfl) (by simp) ?_
                      refine AllReadyH.cons rfl (fun K hK => ?_) AllReadyH.nil
                      refine wp_app28 (.tmp 72) (.tmp 73) _ (by rfl) wc.heap.size 5 i0 _ 1 1 Try.underlying60 hi hz0 hz1 hz2 rfl (by omega) (.slice Aa m ca) m (u8s Bp) (by rfl) (own_mono28 O1 hga) (.slice (some ⟨g4', 0, none⟩) 1 1) 1 [.int .u8 0] (by rfl) (sliceAt_blk G4 rfl (by decide)) (by simp [Value.oneCell']) (by simp only [maxLen]; omega) (by omega) Bb.size ?_
                      intro v1 V' ho1 hg1 hw1
                      obtain ⟨A5, c5, rfl, _, _⟩ := (sliceAt_of_own ho1).form
                      have b := below_own Bb hg1 Bb.size (fun g hg => Nat.le_trans hga (own_base O1 hg).1)
                      try replace GZ := (hg1.block gz (Array.getElem?_eq_some_iff.1 GZ).1 (fun e => by obtain ⟨cur, hc⟩ := own_type28 O1 e.symm; rw [GZ] at hc; cases hc)).trans GZ
                      clear hg1 hw1 Bb O1 G4
                      have O5 : SliceAt V' 1 (.slice A5 (m + 1) c5) (Bp ++ [0#8]).length (u8s (Bp ++ [0#8])) := by
                        rw [HL9.out.1]
                        have h := sliceAt_of_own ho1
                        simpa [u8s] using h
                      have Bb := b
                      clear b ho1
                      generalize V' = V1 at *
                      refine hK.out _ _ (range_of (V.later Bb).l) (fun _ => ?_)
                      clear hK K
                      try simp only [List.getElem_toArray, List.getElem_cons_succ, List.getElem_cons_zero, Act.put, List.setIfInBounds_toArray, List.set_cons_zero, List.set_cons_succ]
                      refine wpAnyH_ready (rs := [6]) (by kernel_rfl) (by simp) ?_
                      refine AllReadyH.cons rfl (fun K hK => ?_) AllReadyH.nil
                      refine Node.wp_fn 12 [.tmp 69, .tmp 74] _ [.agg L.toArray, .slice A5 (m + 1) c5] (by rfl) (by rfl) HENT.out (Take_c L kinds ss nsig clr st A c A1 c1 (.slice A5 (m + 1) c5) (Bp ++ [0#8]) _ (V.later Bb).ly HK2.out O5 (by rw [HL9.out.1]; omega)) ?_
                      rintro e V1 ⟨b, r, err, rfl, hT⟩
                      obtain ⟨rfl, rfl⟩ : r = s0 ∧ err = 41 := by
                        rcases hT with ⟨h, _⟩ | ⟨_, h2, h3⟩
                        · exact absurd h HL9.out.2
                        · exact ⟨h2, h3⟩
                      refine ⟨_, rfl, ?_⟩
                      rw [HS3.out]
                      replace Bb := below_step Bb b
                      try replace GZ := var_later GZ b
                      clear b O5 hT
                      refine hK.out _ _ (range_of (V.later Bb).l) (fun _ => ?_)
                      clear hK K
                      try simp only [List.getElem_toArray, List.getElem_cons_succ, List.getElem_cons_zero, Act.put, List.setIfInBounds_toArray, List.set_cons_zero, List.set_cons_succ]
                      have hHeld : V1.rangeAt w.heap.size 0 L := range_of (V.later Bb).l
                      refine wpAnyH_take (i := 7) (v := ?_) rfl (by kernel_rfl) (by kernel_rfl) (by kernel_rfl) (fun _ _ _ h => h) (Or.inl ⟨by kernel_rfl, ?_⟩) (by assumption) ?_
                      rotate_left
                      · intro w hSw
                        try dsimp only at hSw
                        go_simp
                        try with_reducible rfl
                      simp only [List.getElem_toArray, List.getElem_cons_succ, List.getElem_cons_zero, Act.put, List.setIfInBounds_toArray, List.set_cons_zero, List.set_cons_succ]
                      refine wpAnyH_take (i := 8) (v := ?_) rfl (by kernel_rfl) (by kernel_rfl) (by kernel_rfl) (fun _ _ _ h => h) (Or.inl ⟨by kernel_rfl, ?_⟩) (by assumption) ?_
                      rotate_left
                      · intro w hSw
                        try dsimp only at hSw
                        go_simp
                        try with_reducible rfl
                      simp only [List.getElem_toArray, List.getElem_cons_succ, List.getElem_cons_zero, Act.put, List.setIfInBounds_toArray, List.set_cons_zero, List.set_cons_succ]
                      refine wpAnyH_take (i := 9) (v := ?_) rfl (by kernel_rfl) (by kernel_rfl) (by kernel_rfl) (fun _ _ _ h => h) (Or.inl ⟨by kernel_rfl, ?_⟩) (by assumption) ?_
                      rotate_left
                      · intro w hSw
                        try dsimp only at hSw
                        go_simp
                        try with_reducible rfl
                      simp only [List.getElem_toArray, List.getElem_cons_succ, List.getElem_cons_zero, Act.put, List.setIfInBounds_toArray, List.set_cons_zero, List.set_cons_succ]
                      clear hHeld
                      refine wpAnyH_ready (rs := [11]) (by kernel_rfl) (by simp) ?_
                      refine AllReadyH.cons rfl (fun K hK => ?_) AllReadyH.nil
                      obtain ⟨V', hW, F, b, far, ths⟩ := fill_new S3 GZ lS3 Bb hgz
                      refine wp_store_mid 56 (.tmp 12) (.tmp 76) (by rfl) gz 0 S3.toArray (by rfl) (by rfl) ths szs3 oS3 ?_
                      rw [hW]
                      clear hW ths far F Bb GZ
                      have Bb := b
                      clear b
                      generalize V' = V1 at *
                      refine hK.out _ _ (range_of (V.later Bb).l) (fun _ => ?_)
                      clear hK K
                      try simp only [List.getElem_toArray, List.getElem_cons_succ, List.getElem_cons_zero, Act.put, List.setIfInBounds_toArray, List.set_cons_zero, List.set_cons_succ]
                      refine wpAnyH_ready (rs := [12]) (by kernel_rfl) (by simp) ?_
                      refine AllReadyH.cons rfl (fun K hK => ?_) AllReadyH.nil
                      refine Node.wp_set (.int .i64 41) (.tmp 77) (.inr rfl) (by rfl) ?_
                      refine hK.out _ _ (range_of (V.later Bb).l) (fun _ => ?_)
                      clear hK K
                      try simp only [List.getElem_toArray, List.getElem_cons_succ, List.getElem_cons_zero, Act.put, List.setIfInBounds_toArray, List.set_cons_zero, List.set_cons_succ]
                      refine wpAnyH_done (by kernel_rfl) ?_ _
                      go_wp2
                      go_meet
                      exact ⟨rfl, Bb⟩
                  · skip
                    have GZ := new_at (w := V1) rfl (.cells zc 56)
                    have b := below_new V1 (.cells zc 56)
                    have hgz : wc.heap.size ≤ V1.heap.size := Bb.size
                    refine Node.wp_new 56 zs zc hzi hzc (by rfl) ?_
                    replace Bb := below_step Bb b
                    try replace O1 := own_bel O1 b
                    try replace G4 := var_later G4 b
                    try replace O5 := O5.later b
                    clear b
                    generalize V1.heap.size = gz at *
                    generalize V1.alloc (.cells zc 56) = V1 at *
                    refine hK.out _ _ (range_of (V.later Bb).l) (fun _ => ?_)
                    clear hK K
                    try simp only [List.getElem_toArray, List.getElem_cons_succ, List.getElem_cons_zero, Act.put, List.setIfInBounds_toArray, List.set_cons_zero, List.set_cons_succ]
                    refine wpAnyH_ready (rs := [3, 4]) (by kernel_rfl) (by simp) ?_
                    refine AllReadyH.cons rfl (fun K hK => ?_) (AllReadyH.cons rfl (fun K hK => ?_) AllReadyH.nil)
                    · skip
                      have hgaV := (own_base O1 rfl).2
                      refine wp_app28 (.tmp 70) (.tmp 71) _ (by rfl) ga 5 i0 _ 1 1 Try.underlying60 hi hz0 hz1 hz2 rfl (by omega) (.slice (some ⟨ga, 0, none⟩) 0 0) 0 [] (by rfl) O1 (.slice Ap m cp) m (u8s Bp) (by rfl) (sp.later Bb) (u8s_one Bp) (by simp only [maxLen]; omega) (by omega) (Nat.le_of_lt hgaV) ?_
                      intro v1 V' ho1 hg1 hw1
                      simp only [Nat.zero_add, List.nil_append] at ho1
                      obtain ⟨Aa, ca, rfl, _, _⟩ := (sliceAt_of_own ho1).form
                      have b := below_own Bb hg1 Bb.size (fun g hg => by cases hg; exact hga)
                      try replace G4 := (hg1.block g4' (Array.getElem?_eq_some_iff.1 G4).1 (fun e => hne (Option.some.inj e))).trans G4
                      try replace GZ := (hg1.block gz (Array.getElem?_eq_some_iff.1 GZ).1 (fun e => by obtain ⟨cur, hc⟩ := own_type28 O1 e.symm; rw [GZ] at hc; cases hc)).trans GZ
                      clear hgaV hg1 hw1 Bb O1
                      have O1 := ho1
                      have Bb := b
                      clear b ho1
                      generalize V' = V1 at *
                      refine hK.out _ _ (range_of (V.later Bb).l) (fun _ => ?_)
                      clear hK K
                      try simp only [List.getElem_toArray, List.getElem_cons_succ, List.getElem_cons_zero, Act.put, List.setIfInBounds_toArray, List.set_cons_zero, List.set_cons_succ]
                      refine wpAnyH_ready (rs := [4]) (by kernel_rfl) (by simp) ?_
                      refine AllReadyH.cons rfl (fun K hK => ?_) AllReadyH.nil
                      have G4 := new_at (w := V1) rfl (.cells ([.int .u8 0] : List Value).toArray 5)
                      have b := below_new V1 (.cells ([.int .u8 0] : List Value).toArray 5)
                      try have hne : V1.heap.size ≠ ga := by have h : ga < V1.heap.size := (own_base O1 rfl).2; omega
                      refine Node.wp_bs 60 1 [(0, .const (.int .u8 0))] [(0, .int .u8 0)] _ (by rfl) (by rfl) (run_bs128 V1) ?_
                      replace Bb := below_step Bb b
                      try replace O1 := own_bel O1 b
                      try replace GZ := var_later GZ b
                      clear b
                      generalize V1.heap.size = g4' at *
                      generalize V1.alloc (.cells ([.int .u8 0] : List Value).toArray 5) = V1 at *
                      refine hK.out _ _ (range_of (V.later Bb).l) (fun _ => ?_)
                      clear hK K
                      try simp only [List.getElem_toArray, List.getElem_cons_succ, List.getElem_cons_zero, Act.put, List.setIfInBounds_toArray, List.set_cons_zero, List.set_cons_succ]
                      refine wpAnyH_ready (rs := [5]) (by kernel_rfl) (by simp) ?_
                      refine AllReadyH.cons rfl (fun K hK => ?_) AllReadyH.nil
                      refine wp_app28 (.tmp 72) (.tmp 73) _ (by rfl) wc.heap.size 5 i0 _ 1 1 Try.underlying60 hi hz0 hz1 hz2 rfl (by omega) (.slice Aa m ca) m (u8s Bp) (by rfl) (own_mono28 O1 hga) (.slice (some ⟨g4', 0, none⟩) 1 1) 1 [.int .u8 0] (by rfl) (sliceAt_blk G4 rfl (by decide)) (by simp [Value.oneCell']) (by simp only [maxLen]; omega) (by omega) Bb.size ?_
                      intro v1 V' ho1 hg1 hw1
                      obtain ⟨A5, c5, rfl, _, _⟩ := (sliceAt_of_own ho1).form
                      have b := below_own Bb hg1 Bb.size (fun g hg => Nat.le_trans hga (own_base O1 hg).1)
                      try replace GZ := (hg1.block gz (Array.getElem?_eq_some_iff.1 GZ).1 (fun e => by obtain ⟨cur, hc⟩ := own_type28 O1 e.symm; rw [GZ] at hc; cases hc)).trans GZ
                      clear hg1 hw1 Bb O1 G4
                      have O5 : SliceAt V' 1 (.slice A5 (m + 1) c5) (Bp ++ [0#8]).length (u8s (Bp ++ [0#8])) := by
                        rw [HL9.out.1]
                        have h := sliceAt_of_own ho1
                        simpa [u8s] using h
                      have Bb := b
                      clear b ho1
                      generalize V' = V1 at *
                      refine hK.out _ _ (range_of (V.later Bb).l) (fun _ => ?_)
                      clear hK K
                      try simp only [List.getElem_toArray, List.getElem_cons_succ, List.getElem_cons_zero, Act.put, List.setIfInBounds_toArray, List.set_cons_zero, List.set_cons_succ]
                      refine wpAnyH_ready (rs := [6]) (by kernel_rfl) (by simp) ?_
                      refine AllReadyH.cons rfl (fun K hK => ?_) AllReadyH.nil
                      refine Node.wp_fn 12 [.tmp 69, .tmp 74] _ [.agg L.toArray, .slice A5 (m + 1) c5] (by rfl) (by rfl) HENT.out (Take_c L kinds ss nsig clr st A c A1 c1 (.slice A5 (m + 1) c5) (Bp ++ [0#8]) _ (V.later Bb).ly HK2.out O5 (by rw [HL9.out.1]; omega)) ?_
                      rintro e V1 ⟨b, r, err, rfl, hT⟩
                      obtain ⟨rfl, rfl⟩ : r = s0 ∧ err = 41 := by
                        rcases hT with ⟨h, _⟩ | ⟨_, h2, h3⟩
                        · exact absurd h HL9.out.2
                        · exact ⟨h2, h3⟩
                      refine ⟨_, rfl, ?_⟩
                      rw [HS3.out]
                      replace Bb := below_step Bb b
                      try replace GZ := var_later GZ b
                      clear b O5 hT
                      refine hK.out _ _ (range_of (V.later Bb).l) (fun _ => ?_)
                      clear hK K
                      try simp only [List.getElem_toArray, List.getElem_cons_succ, List.getElem_cons_zero, Act.put, List.setIfInBounds_toArray, List.set_cons_zero, List.set_cons_succ]
                      have hHeld : V1.rangeAt w.heap.size 0 L := range_of (V.later Bb).l
                      refine wpAnyH_take (i := 7) (v := ?_) rfl (by kernel_rfl) (by kernel_rfl) (by kernel_rfl) (fun _ _ _ h => h) (Or.inl ⟨by kernel_rfl, ?_⟩) (by assumption) ?_
                      rotate_left
                      · intro w hSw
                        try dsimp only at hSw
                        go_simp
                        try with_reducible rfl
                      simp only [List.getElem_toArray, List.getElem_cons_succ, List.getElem_cons_zero, Act.put, List.setIfInBounds_toArray, List.set_cons_zero, List.set_cons_succ]
                      refine wpAnyH_take (i := 8) (v := ?_) rfl (by kernel_rfl) (by kernel_rfl) (by kernel_rfl) (fun _ _ _ h => h) (Or.inl ⟨by kernel_rfl, ?_⟩) (by assumption) ?_
                      rotate_left
                      · intro w hSw
                        try dsimp only at hSw
                        go_simp
                        try with_reducible rfl
                      simp only [List.getElem_toArray, List.getElem_cons_succ, List.getElem_cons_zero, Act.put, List.setIfInBounds_toArray, List.set_cons_zero, List.set_cons_succ]
                      refine wpAnyH_take (i := 9) (v := ?_) rfl (by kernel_rfl) (by kernel_rfl) (by kernel_rfl) (fun _ _ _ h => h) (Or.inl ⟨by kernel_rfl, ?_⟩) (by assumption) ?_
                      rotate_left
                      · intro w hSw
                        try dsimp only at hSw
                        go_simp
                        try with_reducible rfl
                      simp only [List.getElem_toArray, List.getElem_cons_succ, List.getElem_cons_zero, Act.put, List.setIfInBounds_toArray, List.set_cons_zero, List.set_cons_succ]
                      clear hHeld
                      refine wpAnyH_ready (rs := [11]) (by kernel_rfl) (by simp) ?_
                      refine AllReadyH.cons rfl (fun K hK => ?_) AllReadyH.nil
                      obtain ⟨V', hW, F, b, far, ths⟩ := fill_new S3 GZ lS3 Bb hgz
                      refine wp_store_mid 56 (.tmp 12) (.tmp 76) (by rfl) gz 0 S3.toArray (by rfl) (by rfl) ths szs3 oS3 ?_
                      rw [hW]
                      clear hW ths far F Bb GZ
                      have Bb := b
                      clear b
                      generalize V' = V1 at *
                      refine hK.out _ _ (range_of (V.later Bb).l) (fun _ => ?_)
                      clear hK K
                      try simp only [List.getElem_toArray, List.getElem_cons_succ, List.getElem_cons_zero, Act.put, List.setIfInBounds_toArray, List.set_cons_zero, List.set_cons_succ]
                      refine wpAnyH_ready (rs := [12]) (by kernel_rfl) (by simp) ?_
                      refine AllReadyH.cons rfl (fun K hK => ?_) AllReadyH.nil
                      refine Node.wp_set (.int .i64 41) (.tmp 77) (.inr rfl) (by rfl) ?_
                      refine hK.out _ _ (range_of (V.later Bb).l) (fun _ => ?_)
                      clear hK K
                      try simp only [List.getElem_toArray, List.getElem_cons_succ, List.getElem_cons_zero, Act.put, List.setIfInBounds_toArray, List.set_cons_zero, List.set_cons_succ]
                      refine wpAnyH_done (by kernel_rfl) ?_ _
                      go_wp2
                      go_meet
                      exact ⟨rfl, Bb⟩
                    · skip
                      have G4 := new_at (w := V1) rfl (.cells ([.int .u8 0] : List Value).toArray 5)
                      have b := below_new V1 (.cells ([.int .u8 0] : List Value).toArray 5)
                      try have hne : V1.heap.size ≠ ga := by have h : ga < V1.heap.size := (own_base O1 rfl).2; omega
                      refine Node.wp_bs 60 1 [(0, .const (.int .u8 0))] [(0, .int .u8 0)] _ (by rfl) (by rfl) (run_bs128 V1) ?_
                      replace Bb := below_step Bb b
                      try replace O1 := own_bel O1 b
                      try replace GZ := var_later GZ b
                      clear b
                      generalize V1.heap.size = g4' at *
                      generalize V1.alloc (.cells ([.int .u8 0] : List Value).toArray 5) = V1 at *
                      refine hK.out _ _ (range_of (V.later Bb).l) (fun _ => ?_)
                      clear hK K
                      try simp only [List.getElem_toArray, List.getElem_cons_succ, List.getElem_cons_zero, Act.put, List.setIfInBounds_toArray, List.set_cons_zero, List.set_cons_succ]
                      refine wpAnyH_ready (rs := [3]) (by kernel_rfl) (by simp) ?_
                      refine AllReadyH.cons rfl (fun K hK => ?_) AllReadyH.nil
                      have hgaV := (own_base O1 rfl).2
                      refine wp_app28 (.tmp 70) (.tmp 71) _ (by rfl) ga 5 i0 _ 1 1 Try.underlying60 hi hz0 hz1 hz2 rfl (by omega) (.slice (some ⟨ga, 0, none⟩) 0 0) 0 [] (by rfl) O1 (.slice Ap m cp) m (u8s Bp) (by rfl) (sp.later Bb) (u8s_one Bp) (by simp only [maxLen]; omega) (by omega) (Nat.le_of_lt hgaV) ?_
                      intro v1 V' ho1 hg1 hw1
                      simp only [Nat.zero_add, List.nil_append] at ho1
                      obtain ⟨Aa, ca, rfl, _, _⟩ := (sliceAt_of_own ho1).form
                      have b := below_own Bb hg1 Bb.size (fun g hg => by cases hg; exact hga)
                      try replace G4 := (hg1.block g4' (Array.getElem?_eq_some_iff.1 G4).1 (fun e => hne (Option.some.inj e))).trans G4
                      try replace GZ := (hg1.block gz (Array.getElem?_eq_some_iff.1 GZ).1 (fun e => by obtain ⟨cur, hc⟩ := own_type28 O1 e.symm; rw [GZ] at hc; cases hc)).trans GZ
                      clear hgaV hg1 hw1 Bb O1
                      have O1 := ho1
                      have Bb := b
                      clear b ho1
                      generalize V' = V1 at *
                      refine hK.out _ _ (range_of (V.later Bb).l) (fun _ => ?_)
                      clear hK K
                      try simp only [List.getElem_toArray, List.getElem_cons_succ, List.getElem_cons_zero, Act.put, List.setIfInBounds_toArray, List.set_cons_zero, List.set_cons_succ]
                      refine wpAnyH_ready (rs := [5]) (by kernel_rfl) (by simp) ?_
                      refine AllReadyH.cons rfl (fun K hK => ?_) AllReadyH.nil
                      refine wp_app28 (.tmp 72) (.tmp 73) _ (by rfl) wc.heap.size 5 i0 _ 1 1 Try.underlying60 hi hz0 hz1 hz2 rfl (by omega) (.slice Aa m ca) m (u8s Bp) (by rfl) (own_mono28 O1 hga) (.slice (some ⟨g4', 0, none⟩) 1 1) 1 [.int .u8 0] (by rfl) (sliceAt_blk G4 rfl (by decide)) (by simp [Value.oneCell']) (by simp only [maxLen]; omega) (by omega) Bb.size ?_
                      intro v1 V' ho1 hg1 hw1
                      obtain ⟨A5, c5, rfl, _, _⟩ := (sliceAt_of_own ho1).form
                      have b := below_own Bb hg1 Bb.size (fun g hg => Nat.le_trans hga (own_base O1 hg).1)
                      try replace GZ := (hg1.block gz (Array.getElem?_eq_some_iff.1 GZ).1 (fun e => by obtain ⟨cur, hc⟩ := own_type28 O1 e.symm; rw [GZ] at hc; cases hc)).trans GZ
                      clear hg1 hw1 Bb O1 G4
                      have O5 : SliceAt V' 1 (.slice A5 (m + 1) c5) (Bp ++ [0#8]).length (u8s (Bp ++ [0#8])) := by
                        rw [HL9.out.1]
                        have h := sliceAt_of_own ho1
                        simpa [u8s] using h
                      have Bb := b
                      clear b ho1
                      generalize V' = V1 at *
                      refine hK.out _ _ (range_of (V.later Bb).l) (fun _ => ?_)
                      clear hK K
                      try simp only [List.getElem_toArray, List.getElem_cons_succ, List.getElem_cons_zero, Act.put, List.setIfInBounds_toArray, List.set_cons_zero, List.set_cons_succ]
                      refine wpAnyH_ready (rs := [6]) (by kernel_rfl) (by simp) ?_
                      refine AllReadyH.cons rfl (fun K hK => ?_) AllReadyH.nil
                      refine Node.wp_fn 12 [.tmp 69, .tmp 74] _ [.agg L.toArray, .slice A5 (m + 1) c5] (by rfl) (by rfl) HENT.out (Take_c L kinds ss nsig clr st A c A1 c1 (.slice A5 (m + 1) c5) (Bp ++ [0#8]) _ (V.later Bb).ly HK2.out O5 (by rw [HL9.out.1]; omega)) ?_
                      rintro e V1 ⟨b, r, err, rfl, hT⟩
                      obtain ⟨rfl, rfl⟩ : r = s0 ∧ err = 41 := by
                        rcases hT with ⟨h, _⟩ | ⟨_, h2, h3⟩
                        · exact absurd h HL9.out.2
                        · exact ⟨h2, h3⟩
                      refine ⟨_, rfl, ?_⟩
                      rw [HS3.out]
                      replace Bb := below_step Bb b
                      try replace GZ := var_later GZ b
                      clear b O5 hT
                      refine hK.out _ _ (range_of (V.later Bb).l) (fun _ => ?_)
                      clear hK K
                      try simp only [List.getElem_toArray, List.getElem_cons_succ, List.getElem_cons_zero, Act.put, List.setIfInBounds_toArray, List.set_cons_zero, List.set_cons_succ]
                      have hHeld : V1.rangeAt w.heap.size 0 L := range_of (V.later Bb).l
                      refine wpAnyH_take (i := 7) (v := ?_) rfl (by kernel_rfl) (by kernel_rfl) (by kernel_rfl) (fun _ _ _ h => h) (Or.inl ⟨by kernel_rfl, ?_⟩) (by assumption) ?_
                      rotate_left
                      · intro w hSw
                        try dsimp only at hSw
                        go_simp
                        try with_reducible rfl
                      simp only [List.getElem_toArray, List.getElem_cons_succ, List.getElem_cons_zero, Act.put, List.setIfInBounds_toArray, List.set_cons_zero, List.set_cons_succ]
                      refine wpAnyH_take (i := 8) (v := ?_) rfl (by kernel_rfl) (by kernel_rfl) (by kernel_rfl) (fun _ _ _ h => h) (Or.inl ⟨by kernel_rfl, ?_⟩) (by assumption) ?_
                      rotate_left
                      · intro w hSw
                        try dsimp only at hSw
                        go_simp
                        try with_reducible rfl
                      simp only [List.getElem_toArray, List.getElem_cons_succ, List.getElem_cons_zero, Act.put, List.setIfInBounds_toArray, List.set_cons_zero, List.set_cons_succ]
                      refine wpAnyH_take (i := 9) (v := ?_) rfl (by kernel_rfl) (by kernel_rfl) (by kernel_rfl) (fun _ _ _ h => h) (Or.inl ⟨by kernel_rfl, ?_⟩) (by assumption) ?_
                      rotate_left
                      · intro w hSw
                        try dsimp only at hSw
                        go_simp
                        try with_reducible rfl
                      simp only [List.getElem_toArray, List.getElem_cons_succ, List.getElem_cons_zero, Act.put, List.setIfInBounds_toArray, List.set_cons_zero, List.set_cons_succ]
                      clear hHeld
                      refine wpAnyH_ready (rs := [11]) (by kernel_rfl) (by simp) ?_
                      refine AllReadyH.cons rfl (fun K hK => ?_) AllReadyH.nil
                      obtain ⟨V', hW, F, b, far, ths⟩ := fill_new S3 GZ lS3 Bb hgz
                      refine wp_store_mid 56 (.tmp 12) (.tmp 76) (by rfl) gz 0 S3.toArray (by rfl) (by rfl) ths szs3 oS3 ?_
                      rw [hW]
                      clear hW ths far F Bb GZ
                      have Bb := b
                      clear b
                      generalize V' = V1 at *
                      refine hK.out _ _ (range_of (V.later Bb).l) (fun _ => ?_)
                      clear hK K
                      try simp only [List.getElem_toArray, List.getElem_cons_succ, List.getElem_cons_zero, Act.put, List.setIfInBounds_toArray, List.set_cons_zero, List.set_cons_succ]
                      refine wpAnyH_ready (rs := [12]) (by kernel_rfl) (by simp) ?_
                      refine AllReadyH.cons rfl (fun K hK => ?_) AllReadyH.nil
                      refine Node.wp_set (.int .i64 41) (.tmp 77) (.inr rfl) (by rfl) ?_
                      refine hK.out _ _ (range_of (V.later Bb).l) (fun _ => ?_)
                      clear hK K
                      try simp only [List.getElem_toArray, List.getElem_cons_succ, List.getElem_cons_zero, Act.put, List.setIfInBounds_toArray, List.set_cons_zero, List.set_cons_succ]
                      refine wpAnyH_done (by kernel_rfl) ?_ _
                      go_wp2
                      go_meet
                      exact ⟨rfl, Bb⟩
                · skip
                  have G4 := new_at (w := V1) rfl (.cells ([.int .u8 0] : List Value).toArray 5)
                  have b := below_new V1 (.cells ([.int .u8 0] : List Value).toArray 5)
                  try have hne : V1.heap.size ≠ ga := by have h : ga < V1.heap.size := (own_base O1 rfl).2; omega
                  refine Node.wp_bs 60 1 [(0, .const (.int .u8 0))] [(0, .int .u8 0)] _ (by rfl) (by rfl) (run_bs128 V1) ?_
                  replace Bb := below_step Bb b
                  try replace O1 := own_bel O1 b
                  try replace GZ := var_later GZ b
                  clear b
                  generalize V1.heap.size = g4' at *
                  generalize V1.alloc (.cells ([.int .u8 0] : List Value).toArray 5) = V1 at *
                  refine hK.out _ _ (range_of (V.later Bb).l) (fun _ => ?_)
                  clear hK K
                  try simp only [List.getElem_toArray, List.getElem_cons_succ, List.getElem_cons_zero, Act.put, List.setIfInBounds_toArray, List.set_cons_zero, List.set_cons_succ]
                  refine wpAnyH_ready (rs := [1, 10]) (by kernel_rfl) (by simp) ?_
                  refine AllReadyH.cons rfl (fun K hK => ?_) (AllReadyH.cons rfl (fun K hK => ?_) AllReadyH.nil)
                  · skip
                    have O1 := own_empty V1 5 1
                    have b := below_new V1 (.cells #[] 5)
                    have hga : wc.heap.size ≤ V1.heap.size := Bb.size
                    try have hne : g4' ≠ V1.heap.size := by have := (Array.getElem?_eq_some_iff.1 G4).1; omega
                    refine Node.wp_bs 60 0 [] [] _ (by rfl) (by rfl) (run_bs028 V1) ?_
                    replace Bb := below_step Bb b
                    try replace G4 := var_later G4 b
                    try replace GZ := var_later GZ b
                    clear b
                    generalize V1.heap.size = ga at *
                    generalize V1.alloc (.cells #[] 5) = V1 at *
                    refine hK.out _ _ (range_of (V.later Bb).l) (fun _ => ?_)
                    clear hK K
                    try simp only [List.getElem_toArray, List.getElem_cons_succ, List.getElem_cons_zero, Act.put, List.setIfInBounds_toArray, List.set_cons_zero, List.set_cons_succ]
                    refine wpAnyH_ready (rs := [3, 10]) (by kernel_rfl) (by simp) ?_
                    refine AllReadyH.cons rfl (fun K hK => ?_) (AllReadyH.cons rfl (fun K hK => ?_) AllReadyH.nil)
                    · skip
                      have hgaV := (own_base O1 rfl).2
                      refine wp_app28 (.tmp 70) (.tmp 71) _ (by rfl) ga 5 i0 _ 1 1 Try.underlying60 hi hz0 hz1 hz2 rfl (by omega) (.slice (some ⟨ga, 0, none⟩) 0 0) 0 [] (by rfl) O1 (.slice Ap m cp) m (u8s Bp) (by rfl) (sp.later Bb) (u8s_one Bp) (by simp only [maxLen]; omega) (by omega) (Nat.le_of_lt hgaV) ?_
                      intro v1 V' ho1 hg1 hw1
                      simp only [Nat.zero_add, List.nil_append] at ho1
                      obtain ⟨Aa, ca, rfl, _, _⟩ := (sliceAt_of_own ho1).form
                      have b := below_own Bb hg1 Bb.size (fun g hg => by cases hg; exact hga)
                      try replace G4 := (hg1.block g4' (Array.getElem?_eq_some_iff.1 G4).1 (fun e => hne (Option.some.inj e))).trans G4
                      try replace GZ := (hg1.block gz (Array.getElem?_eq_some_iff.1 GZ).1 (fun e => by obtain ⟨cur, hc⟩ := own_type28 O1 e.symm; rw [GZ] at hc; cases hc)).trans GZ
                      clear hgaV hg1 hw1 Bb O1
                      have O1 := ho1
                      have Bb := b
                      clear b ho1
                      generalize V' = V1 at *
                      refine hK.out _ _ (range_of (V.later Bb).l) (fun _ => ?_)
                      clear hK K
                      try simp only [List.getElem_toArray, List.getElem_cons_succ, List.getElem_cons_zero, Act.put, List.setIfInBounds_toArray, List.set_cons_zero, List.set_cons_succ]
                      refine wpAnyH_ready (rs := [5, 10]) (by kernel_rfl) (by simp) ?_
                      refine AllReadyH.cons rfl (fun K hK => ?_) (AllReadyH.cons rfl (fun K hK => ?_) AllReadyH.nil)
                      · skip
                        refine wp_app28 (.tmp 72) (.tmp 73) _ (by rfl) wc.heap.size 5 i0 _ 1 1 Try.underlying60 hi hz0 hz1 hz2 rfl (by omega) (.slice Aa m ca) m (u8s Bp) (by rfl) (own_mono28 O1 hga) (.slice (some ⟨g4', 0, none⟩) 1 1) 1 [.int .u8 0] (by rfl) (sliceAt_blk G4 rfl (by decide)) (by simp [Value.oneCell']) (by simp only [maxLen]; omega) (by omega) Bb.size ?_
                        intro v1 V' ho1 hg1 hw1
                        obtain ⟨A5, c5, rfl, _, _⟩ := (sliceAt_of_own ho1).form
                        have b := below_own Bb hg1 Bb.size (fun g hg => Nat.le_trans hga (own_base O1 hg).1)
                        try replace GZ := (hg1.block gz (Array.getElem?_eq_some_iff.1 GZ).1 (fun e => by obtain ⟨cur, hc⟩ := own_type28 O1 e.symm; rw [GZ] at hc; cases hc)).trans GZ
                        clear hg1 hw1 Bb O1 G4
                        have O5 : SliceAt V' 1 (.slice A5 (m + 1) c5) (Bp ++ [0#8]).length (u8s (Bp ++ [0#8])) := by
                          rw [HL9.out.1]
                          have h := sliceAt_of_own ho1
                          simpa [u8s] using h
                        have Bb := b
                        clear b ho1
                        generalize V' = V1 at *
                        refine hK.out _ _ (range_of (V.later Bb).l) (fun _ => ?_)
                        clear hK K
                        try simp only [List.getElem_toArray, List.getElem_cons_succ, List.getElem_cons_zero, Act.put, List.setIfInBounds_toArray, List.set_cons_zero, List.set_cons_succ]
                        refine wpAnyH_ready (rs := [6, 10]) (by kernel_rfl) (by simp) ?_
                        refine AllReadyH.cons rfl (fun K hK => ?_) (AllReadyH.cons rfl (fun K hK => ?_) AllReadyH.nil)
                        · skip
                          refine Node.wp_fn 12 [.tmp 69, .tmp 74] _ [.agg L.toArray, .slice A5 (m + 1) c5] (by rfl) (by rfl) HENT.out (Take_c L kinds ss nsig clr st A c A1 c1 (.slice A5 (m + 1) c5) (Bp ++ [0#8]) _ (V.later Bb).ly HK2.out O5 (by rw [HL9.out.1]; omega)) ?_
                          rintro e V1 ⟨b, r, err, rfl, hT⟩
                          obtain ⟨rfl, rfl⟩ : r = s0 ∧ err = 41 := by
                            rcases hT with ⟨h, _⟩ | ⟨_, h2, h3⟩
                            · exact absurd h HL9.out.2
                            · exact ⟨h2, h3⟩
                          refine ⟨_, rfl, ?_⟩
                          rw [HS3.out]
                          replace Bb := below_step Bb b
                          try replace GZ := var_later GZ b
                          clear b O5 hT
                          refine hK.out _ _ (range_of (V.later Bb).l) (fun _ => ?_)
                          clear hK K
                          try simp only [List.getElem_toArray, List.getElem_cons_succ, List.getElem_cons_zero, Act.put, List.setIfInBounds_toArray, List.set_cons_zero, List.set_cons_succ]
                          have hHeld : V1.rangeAt w.heap.size 0 L := range_of (V.later Bb).l
                          refine wpAnyH_take (i := 7) (v := ?_) rfl (by kernel_rfl) (by kernel_rfl) (by kernel_rfl) (fun _ _ _ h => h) (Or.inl ⟨by kernel_rfl, ?_⟩) (by assumption) ?_
                          rotate_left
                          · intro w hSw
                            try dsimp only at hSw
                            go_simp
                            try with_reducible rfl
                          simp only [List.getElem_toArray, List.getElem_cons_succ, List.getElem_cons_zero, Act.put, List.setIfInBounds_toArray, List.set_cons_zero, List.set_cons_succ]
                          refine wpAnyH_take (i := 8) (v := ?_) rfl (by kernel_rfl) (by kernel_rfl) (by kernel_rfl) (fun _ _ _ h => h) (Or.inl ⟨by kernel_rfl, ?_⟩) (by assumption) ?_
                          rotate_left
                          · intro w hSw
                            try dsimp only at hSw
                            go_simp
                            try with_reducible rfl
                          simp only [List.getElem_toArray, List.getElem_cons_succ, List.getElem_cons_zero, Act.put, List.setIfInBounds_toArray, List.set_cons_zero, List.set_cons_succ]
                          refine wpAnyH_take (i := 9) (v := ?_) rfl (by kernel_rfl) (by kernel_rfl) (by kernel_rfl) (fun _ _ _ h => h) (Or.inl ⟨by kernel_rfl, ?_⟩) (by assumption) ?_
                          rotate_left
                          · intro w hSw
                            try dsimp only at hSw
                            go_simp
                            try with_reducible rfl
                          simp only [List.getElem_toArray, List.getElem_cons_succ, List.getElem_cons_zero, Act.put, List.setIfInBounds_toArray, List.set_cons_zero, List.set_cons_succ]
                          clear hHeld
                          refine wpAnyH_ready (rs := [10]) (by kernel_rfl) (by simp) ?_
                          refine AllReadyH.cons rfl (fun K hK => ?_) AllReadyH.nil
                          have GZ := new_at (w := V1) rfl (.cells zc 56)
                          have b := below_new V1 (.cells zc 56)
                          have hgz : wc.heap.size ≤ V1.heap.size := Bb.size
                          refine Node.wp_new 56 zs zc hzi hzc (by rfl) ?_
                          replace Bb := below_step Bb b
                          try replace O1 := own_bel O1 b
                          try replace G4 := var_later G4 b
                          try replace O5 := O5.later b
                          clear b
                          generalize V1.heap.size = gz at *
                          generalize V1.alloc (.cells zc 56) = V1 at *
                          refine hK.out _ _ (range_of (V.later Bb).l) (fun _ => ?_)
                          clear hK K
                          try simp only [List.getElem_toArray, List.getElem_cons_succ, List.getElem_cons_zero, Act.put, List.setIfInBounds_toArray, List.set_cons_zero, List.set_cons_succ]
                          refine wpAnyH_ready (rs := [11]) (by kernel_rfl) (by simp) ?_
                          refine AllReadyH.cons rfl (fun K hK => ?_) AllReadyH.nil
                          obtain ⟨V', hW, F, b, far, ths⟩ := fill_new S3 GZ lS3 Bb hgz
                          refine wp_store_mid 56 (.tmp 12) (.tmp 76) (by rfl) gz 0 S3.toArray (by rfl) (by rfl) ths szs3 oS3 ?_
                          rw [hW]
                          clear hW ths far F Bb GZ
                          have Bb := b
                          clear b
                          generalize V' = V1 at *
                          refine hK.out _ _ (range_of (V.later Bb).l) (fun _ => ?_)
                          clear hK K
                          try simp only [List.getElem_toArray, List.getElem_cons_succ, List.getElem_cons_zero, Act.put, List.setIfInBounds_toArray, List.set_cons_zero, List.set_cons_succ]
                          refine wpAnyH_ready (rs := [12]) (by kernel_rfl) (by simp) ?_
                          refine AllReadyH.cons rfl (fun K hK => ?_) AllReadyH.nil
                          refine Node.wp_set (.int .i64 41) (.tmp 77) (.inr rfl) (by rfl) ?_
                          refine hK.out _ _ (range_of (V.later Bb).l) (fun _ => ?_)
                          clear hK K
                          try simp only [List.getElem_toArray, List.getElem_cons_succ, List.getElem_cons_zero, Act.put, List.setIfInBounds_toArray, List.set_cons_zero, List.set_cons_succ]
                          refine wpAnyH_done (by kernel_rfl) ?_ _
                          go_wp2
                          go_meet
                          exact ⟨rfl, Bb⟩
                        · skip
                          have GZ := new_at (w := V1) rfl (.cells zc 56)
                          have b := below_new V1 (.cells zc 56)
                          have hgz : wc.heap.size ≤ V1.heap.size := Bb.size
                          refine Node.wp_new 56 zs zc hzi hzc (by rfl) ?_
                          replace Bb := below_step Bb b
                          try replace O1 := own_bel O1 b
                          try replace G4 := var_later G4 b
                          try replace O5 := O5.later b
                          clear b
                          generalize V1.heap.size = gz at *
                          generalize V1.alloc (.cells zc 56) = V1 at *
                          refine hK.out _ _ (range_of (V.later Bb).l) (fun _ => ?_)
                          clear hK K
                          try simp only [List.getElem_toArray, List.getElem_cons_succ, List.getElem_cons_zero, Act.put, List.setIfInBounds_toArray, List.set_cons_zero, List.set_cons_succ]
                          refine wpAnyH_ready (rs := [6]) (by kernel_rfl) (by simp) ?_
                          refine AllReadyH.cons rfl (fun K hK => ?_) AllReadyH.nil
                          refine Node.wp_fn 12 [.tmp 69, .tmp 74] _ [.agg L.toArray, .slice A5 (m + 1) c5] (by rfl) (by rfl) HENT.out (Take_c L kinds ss nsig clr st A c A1 c1 (.slice A5 (m + 1) c5) (Bp ++ [0#8]) _ (V.later Bb).ly HK2.out O5 (by rw [HL9.out.1]; omega)) ?_
                          rintro e V1 ⟨b, r, err, rfl, hT⟩
                          obtain ⟨rfl, rfl⟩ : r = s0 ∧ err = 41 := by
                            rcases hT with ⟨h, _⟩ | ⟨_, h2, h3⟩
                            · exact absurd h HL9.out.2
                            · exact ⟨h2, h3⟩
                          refine ⟨_, rfl, ?_⟩
                          rw [HS3.out]
                          replace Bb := below_step Bb b
                          try replace GZ := var_later GZ b
                          clear b O5 hT
                          refine hK.out _ _ (range_of (V.later Bb).l) (fun _ => ?_)
                          clear hK K
                          try simp only [List.getElem_toArray, List.getElem_cons_succ, List.getElem_cons_zero, Act.put, List.setIfInBounds_toArray, List.set_cons_zero, List.set_cons_succ]
                          have hHeld : V1.rangeAt w.heap.size 0 L := range_of (V.later Bb).l
                          refine wpAnyH_take (i := 7) (v := ?_) rfl (by kernel_rfl) (by kernel_rfl) (by kernel_rfl) (fun _ _ _ h => h) (Or.inl ⟨by kernel_rfl, ?_⟩) (by assumption) ?_
                          rotate_left
                          · intro w hSw
                            try dsimp only at hSw
                            go_simp
                            try with_reducible rfl
                          simp only [List.getElem_toArray, List.getElem_cons_succ, List.getElem_cons_zero, Act.put, List.setIfInBounds_toArray, List.set_cons_zero, List.set_cons_succ]
                          refine wpAnyH_take (i := 8) (v := ?_) rfl (by kernel_rfl) (by kernel_rfl) (by kernel_rfl) (fun _ _ _ h => h) (Or.inl ⟨by kernel_rfl, ?_⟩) (by assumption) ?_
                          rotate_left
                          · intro w hSw
                            try dsimp only at hSw
                            go_simp
                            try with_reducible rfl
                          simp only [List.getElem_toArray, List.getElem_cons_succ, List.getElem_cons_zero, Act.put, List.setIfInBounds_toArray, List.set_cons_zero, List.set_cons_succ]
                          refine wpAnyH_take (i := 9) (v := ?_) rfl (by kernel_rfl) (by kernel_rfl) (by kernel_rfl) (fun _ _ _ h => h) (Or.inl ⟨by kernel_rfl, ?_⟩) (by assumption) ?_
                          rotate_left
                          · intro w hSw
                            try dsimp only at hSw
                            go_simp
                            try with_reducible rfl
                          simp only [List.getElem_toArray, List.getElem_cons_succ, List.getElem_cons_zero, Act.put, List.setIfInBounds_toArray, List.set_cons_zero, List.set_cons_succ]
                          clear hHeld
                          refine wpAnyH_ready (rs := [11]) (by kernel_rfl) (by simp) ?_
                          refine AllReadyH.cons rfl (fun K hK => ?_) AllReadyH.nil
                          obtain ⟨V', hW, F, b, far, ths⟩ := fill_new S3 GZ lS3 Bb hgz
                          refine wp_store_mid 56 (.tmp 12) (.tmp 76) (by rfl) gz 0 S3.toArray (by rfl) (by rfl) ths szs3 oS3 ?_
                          rw [hW]
                          clear hW ths far F Bb GZ
                          have Bb := b
                          clear b
                          generalize V' = V1 at *
                          refine hK.out _ _ (range_of (V.later Bb).l) (fun _ => ?_)
                          clear hK K
                          try simp only [List.getElem_toArray, List.getElem_cons_succ, List.getElem_cons_zero, Act.put, List.setIfInBounds_toArray, List.set_cons_zero, List.set_cons_succ]
                          refine wpAnyH_ready (rs := [12]) (by kernel_rfl) (by simp) ?_
                          refine AllReadyH.cons rfl (fun K hK => ?_) AllReadyH.nil
                          refine Node.wp_set (.int .i64 41) (.tmp 77) (.inr rfl) (by rfl) ?_
                          refine hK.out _ _ (range_of (V.later Bb).l) (fun _ => ?_)
                          clear hK K
                          try simp only [List.getElem_toArray, List.getElem_cons_succ, List.getElem_cons_zero, Act.put, List.setIfInBounds_toArray, List.set_cons_zero, List.set_cons_succ]
                          refine wpAnyH_done (by kernel_rfl) ?_ _
                          go_wp2
                          go_meet
                          exact ⟨rfl, Bb⟩
                      · skip
                        have GZ := new_at (w := V1) rfl (.cells zc 56)
                        have b := below_new V1 (.cells zc 56)
                        have hgz : wc.heap.size ≤ V1.heap.size := Bb.size
                        refine Node.wp_new 56 zs zc hzi hzc (by rfl) ?_
                        replace Bb := below_step Bb b
                        try replace O1 := own_bel O1 b
                        try replace G4 := var_later G4 b
                        try replace O5 := O5.later b
                        clear b
                        generalize V1.heap.size = gz at *
                        generalize V1.alloc (.cells zc 56) = V1 at *
                        refine hK.out _ _ (range_of (V.later Bb).l) (fun _ => ?_)
                        clear hK K
                        try simp only [List.getElem_toArray, List.getElem_cons_succ, List.getElem_cons_zero, Act.put, List.setIfInBounds_toArray, List.set_cons_zero, List.set_cons_succ]
                        refine wpAnyH_ready (rs := [5]) (by kernel_rfl) (by simp) ?_
                        refine AllReadyH.cons rfl (fun K hK => ?_) AllReadyH.nil
                        refine wp_app28 (.tmp 72) (.tmp 73) _ (by rfl) wc.heap.size 5 i0 _ 1 1 Try.underlying60 hi hz0 hz1 hz2 rfl (by omega) (.slice Aa m ca) m (u8s Bp) (by rfl) (own_mono28 O1 hga) (.slice (some ⟨g4', 0, none⟩) 1 1) 1 [.int .u8 0] (by rfl) (sliceAt_blk G4 rfl (by decide)) (by simp [Value.oneCell']) (by simp only [maxLen]; omega) (by omega) Bb.size ?_
                        intro v1 V' ho1 hg1 hw1
                        obtain ⟨A5, c5, rfl, _, _⟩ := (sliceAt_of_own ho1).form
                        have b := below_own Bb hg1 Bb.size (fun g hg => Nat.le_trans hga (own_base O1 hg).1)
                        try replace GZ := (hg1.block gz (Array.getElem?_eq_some_iff.1 GZ).1 (fun e => by obtain ⟨cur, hc⟩ := own_type28 O1 e.symm; rw [GZ] at hc; cases hc)).trans GZ
                        clear hg1 hw1 Bb O1 G4
                        have O5 : SliceAt V' 1 (.slice A5 (m + 1) c5) (Bp ++ [0#8]).length (u8s (Bp ++ [0#8])) := by
                          rw [HL9.out.1]
                          have h := sliceAt_of_own ho1
                          simpa [u8s] using h
                        have Bb := b
                        clear b ho1
                        generalize V' = V1 at *
                        refine hK.out _ _ (range_of (V.later Bb).l) (fun _ => ?_)
                        clear hK K
                        try simp only [List.getElem_toArray, List.getElem_cons_succ, List.getElem_cons_zero, Act.put, List.setIfInBounds_toArray, List.set_cons_zero, List.set_cons_succ]
                        refine wpAnyH_ready (rs := [6]) (by kernel_rfl) (by simp) ?_
                        refine AllReadyH.cons rfl (fun K hK => ?_) AllReadyH.nil
                        refine Node.wp_fn 12 [.tmp 69, .tmp 74] _ [.agg L.toArray, .slice A5 (m + 1) c5] (by rfl) (by rfl) HENT.out (Take_c L kinds ss nsig clr st A c A1 c1 (.slice A5 (m + 1) c5) (Bp ++ [0#8]) _ (V.later Bb).ly HK2.out O5 (by rw [HL9.out.1]; omega)) ?_
                        rintro e V1 ⟨b, r, err, rfl, hT⟩
                        obtain ⟨rfl, rfl⟩ : r = s0 ∧ err = 41 := by
                          rcases hT with ⟨h, _⟩ | ⟨_, h2, h3⟩
                          · exact absurd h HL9.out.2
                          · exact ⟨h2, h3⟩
                        refine ⟨_, rfl, ?_⟩
                        rw [HS3.out]
                        replace Bb := below_step Bb b
                        try replace GZ := var_later GZ b
                        clear b O5 hT
                        refine hK.out _ _ (range_of (V.later Bb).l) (fun _ => ?_)
                        clear hK K
                        try simp only [List.getElem_toArray, List.getElem_cons_succ, List.getElem_cons_zero, Act.put, List.setIfInBounds_toArray, List.set_cons_zero, List.set_cons_succ]
                        have hHeld : V1.rangeAt w.heap.size 0 L := range_of (V.later Bb).l
                        refine wpAnyH_take (i := 7) (v := ?_) rfl (by kernel_rfl) (by kernel_rfl) (by kernel_rfl) (fun _ _ _ h => h) (Or.inl ⟨by kernel_rfl, ?_⟩) (by assumption) ?_
                        rotate_left
                        · intro w hSw
                          try dsimp only at hSw
                          go_simp
                          try with_reducible rfl
                        simp only [List.getElem_toArray, List.getElem_cons_succ, List.getElem_cons_zero, Act.put, List.setIfInBounds_toArray, List.set_cons_zero, List.set_cons_succ]
                        refine wpAnyH_take (i := 8) (v := ?_) rfl (by kernel_rfl) (by kernel_rfl) (by kernel_rfl) (fun _ _ _ h => h) (Or.inl ⟨by kernel_rfl, ?_⟩) (by assumption) ?_
                        rotate_left
                        · intro w hSw
                          try dsimp only at hSw
                          go_simp
                          try with_reducible rfl
                        simp only [List.getElem_toArray, List.getElem_cons_succ, List.getElem_cons_zero, Act.put, List.setIfInBounds_toArray, List.set_cons_zero, List.set_cons_succ]
                        refine wpAnyH_take (i := 9) (v := ?_) rfl (by kernel_rfl) (by kernel_rfl) (by kernel_rfl) (fun _ _ _ h => h) (Or.inl ⟨by kernel_rfl, ?_⟩) (by assumption) ?_
                        rotate_left
                        · intro w hSw
                          try dsimp only at hSw
                          go_simp
                          try with_reducible rfl
                        simp only [List.getElem_toArray, List.getElem_cons_succ, List.getElem_cons_zero, Act.put, List.setIfInBounds_toArray, List.set_cons_zero, List.set_cons_succ]
                        clear hHeld
                        refine wpAnyH_ready (rs := [11]) (by kernel_rfl) (by simp) ?_
                        refine AllReadyH.cons rfl (fun K hK => ?_) AllReadyH.nil
                        obtain ⟨V', hW, F, b, far, ths⟩ := fill_new S3 GZ lS3 Bb hgz
                        refine wp_store_mid 56 (.tmp 12) (.tmp 76) (by rfl) gz 0 S3.toArray (by rfl) (by rfl) ths szs3 oS3 ?_
                        rw [hW]
                        clear hW ths far F Bb GZ
                        have Bb := b
                        clear b
                        generalize V' = V1 at *
                        refine hK.out _ _ (range_of (V.later Bb).l) (fun _ => ?_)
                        clear hK K
                        try simp only [List.getElem_toArray, List.getElem_cons_succ, List.getElem_cons_zero, Act.put, List.setIfInBounds_toArray, List.set_cons_zero, List.set_cons_succ]
                        refine wpAnyH_ready (rs := [12]) (by kernel_rfl) (by simp) ?_
                        refine AllReadyH.cons rfl (fun K hK => ?_) AllReadyH.nil
                        refine Node.wp_set (.int .i64 41) (.tmp 77) (.inr rfl) (by rfl) ?_
                        refine hK.out _ _ (range_of (V.later Bb).l) (fun _ => ?_)
                        clear hK K
                        try simp only [List.getElem_toArray, List.getElem_cons_succ, List.getElem_cons_zero, Act.put, List.setIfInBounds_toArray, List.set_cons_zero, List.set_cons_succ]
                        refine wpAnyH_done (by kernel_rfl) ?_ _
                        go_wp2
                        go_meet
                        exact ⟨rfl, Bb⟩
                    · skip
                      have GZ := new_at (w := V1) rfl (.cells zc 56)
                      have b := below_new V1 (.cells zc 56)
                      have hgz : wc.heap.size ≤ V1.heap.size := Bb.size
                      refine Node.wp_new 56 zs zc hzi hzc (by rfl) ?_
                      replace Bb := below_step Bb b
                      try replace O1 := own_bel O1 b
                      try replace G4 := var_later G4 b
                      try replace O5 := O5.later b
                      clear b
                      generalize V1.heap.size = gz at *
                      generalize V1.alloc (.cells zc 56) = V1 at *
                      refine hK.out _ _ (range_of (V.later Bb).l) (fun _ => ?_)
                      clear hK K
                      try simp only [List.getElem_toArray, List.getElem_cons_succ, List.getElem_cons_zero, Act.put, List.setIfInBounds_toArray, List.set_cons_zero, List.set_cons_succ]
                      refine wpAnyH_ready (rs := [3]) (by kernel_rfl) (by simp) ?_
                      refine AllReadyH.cons rfl (fun K hK => ?_) AllReadyH.nil
                      have hgaV := (own_base O1 rfl).2
                      refine wp_app28 (.tmp 70) (.tmp 71) _ (by rfl) ga 5 i0 _ 1 1 Try.underlying60 hi hz0 hz1 hz2 rfl (by omega) (.slice (some ⟨ga, 0, none⟩) 0 0) 0 [] (by rfl) O1 (.slice Ap m cp) m (u8s Bp) (by rfl) (sp.later Bb) (u8s_one Bp) (by simp only [maxLen]; omega) (by omega) (Nat.le_of_lt hgaV) ?_
                      intro v1 V' ho1 hg1 hw1
                      simp only [Nat.zero_add, List.nil_append] at ho1
                      obtain ⟨Aa, ca, rfl, _, _⟩ := (sliceAt_of_own ho1).form
                      have b := below_own Bb hg1 Bb.size (fun g hg => by cases hg; exact hga)
                      try replace G4 := (hg1.block g4' (Array.getElem?_eq_some_iff.1 G4).1 (fun e => hne (Option.some.inj e))).trans G4
                      try replace GZ := (hg1.block gz (Array.getElem?_eq_some_iff.1 GZ).1 (fun e => by obtain ⟨cur, hc⟩ := own_type28 O1 e.symm; rw [GZ] at hc; cases hc)).trans GZ
                      clear hgaV hg1 hw1 Bb O1
                      have O1 := ho1
                      have Bb := b
                      clear b ho1
                      generalize V' = V1 at *
                      refine hK.out _ _ (range_of (V.later Bb).l) (fun _ => ?_)
                      clear hK K
                      try simp only [List.getElem_toArray, List.getElem_cons_succ, List.getElem_cons_zero, Act.put, List.setIfInBounds_toArray, List.set_cons_zero, List.set_cons_succ]
                      refine wpAnyH_ready (rs := [5]) (by kernel_rfl) (by simp) ?_
                      refine AllReadyH.cons rfl (fun K hK => ?_) AllReadyH.nil
                      refine wp_app28 (.tmp 72) (.tmp 73) _ (by rfl) wc.heap.size 5 i0 _ 1 1 Try.underlying60 hi hz0 hz1 hz2 rfl (by omega) (.slice Aa m ca) m (u8s Bp) (by rfl) (own_mono28 O1 hga) (.slice (some ⟨g4', 0, none⟩) 1 1) 1 [.int .u8 0] (by rfl) (sliceAt_blk G4 rfl (by decide)) (by simp [Value.oneCell']) (by simp only [maxLen]; omega) (by omega) Bb.size ?_
                      intro v1 V' ho1 hg1 hw1
                      obtain ⟨A5, c5, rfl, _, _⟩ := (sliceAt_of_own ho1).form
                      have b := below_own Bb hg1 Bb.size (fun g hg => Nat.le_trans hga (own_base O1 hg).1)
                      try replace GZ := (hg1.block gz (Array.getElem?_eq_some_iff.1 GZ).1 (fun e => by obtain ⟨cur, hc⟩ := own_type28 O1 e.symm; rw [GZ] at hc; cases hc)).trans GZ
                      clear hg1 hw1 Bb O1 G4
                      have O5 : SliceAt V' 1 (.slice A5 (m + 1) c5) (Bp ++ [0#8]).length (u8s (Bp ++ [0#8])) := by
                        rw [HL9.out.1]
                        have h := sliceAt_of_own ho1
                        simpa [u8s] using h
                      have Bb := b
                      clear b ho1
                      generalize V' = V1 at *
                      refine hK.out _ _ (range_of (V.later Bb).l) (fun _ => ?_)
                      clear hK K
                      try simp only [List.getElem_toArray, List.getElem_cons_succ, List.getElem_cons_zero, Act.put, List.setIfInBounds_toArray, List.set_cons_zero, List.set_cons_succ]
                      refine wpAnyH_ready (rs := [6]) (by kernel_rfl) (by simp) ?_
                      refine AllReadyH.cons rfl (fun K hK => ?_) AllReadyH.nil
                      refine Node.wp_fn 12 [.tmp 69, .tmp 74] _ [.agg L.toArray, .slice A5 (m + 1) c5] (by rfl) (by rfl) HENT.out (Take_c L kinds ss nsig clr st A c A1 c1 (.slice A5 (m + 1) c5) (Bp ++ [0#8]) _ (V.later Bb).ly HK2.out O5 (by rw [HL9.out.1]; omega)) ?_
                      rintro e V1 ⟨b, r, err, rfl, hT⟩
                      obtain ⟨rfl, rfl⟩ : r = s0 ∧ err = 41 := by
                        rcases hT with ⟨h, _⟩ | ⟨_, h2, h3⟩
                        · exact absurd h HL9.out.2
                        · exact ⟨h2, h3⟩
                      refine ⟨_, rfl, ?_⟩
                      rw [HS3.out]
                      replace Bb := below_step Bb b
                      try replace GZ := var_later GZ b
                      clear b O5 hT
                      refine hK.out _ _ (range_of (V.later Bb).l) (fun _ => ?_)
                      clear hK K
                      try simp only [List.getElem_toArray, List.getElem_cons_succ, List.getElem_cons_zero, Act.put, List.setIfInBounds_toArray, List.set_cons_zero, List.set_cons_succ]
                      have hHeld : V1.rangeAt w.heap.size 0 L := range_of (V.later Bb).l
                      refine wpAnyH_take (i := 7) (v := ?_) rfl (by kernel_rfl) (by kernel_rfl) (by kernel_rfl) (fun _ _ _ h => h) (Or.inl ⟨by kernel_rfl, ?_⟩) (by assumption) ?_
                      rotate_left
                      · intro w hSw
                        try dsimp only at hSw
                        go_simp
                        try with_reducible rfl
                      simp only [List.getElem_toArray, List.getElem_cons_succ, List.getElem_cons_zero, Act.put, List.setIfInBounds_toArray, List.set_cons_zero, List.set_cons_succ]
                      refine wpAnyH_take (i := 8) (v := ?_) rfl (by kernel_rfl) (by kernel_rfl) (by kernel_rfl) (fun _ _ _ h => h) (Or.inl ⟨by kernel_rfl, ?_⟩) (by assumption) ?_
                      rotate_left
                      · intro w hSw
                        try dsimp only at hSw
                        go_simp
                        try with_reducible rfl
                      simp only [List.getElem_toArray, List.getElem_cons_succ, List.getElem_cons_zero, Act.put, List.setIfInBounds_toArray, List.set_cons_zero, List.set_cons_succ]
                      refine wpAnyH_take (i := 9) (v := ?_) rfl (by kernel_rfl) (by kernel_rfl) (by kernel_rfl) (fun _ _ _ h => h) (Or.inl ⟨by kernel_rfl, ?_⟩) (by assumption) ?_
                      rotate_left
                      · intro w hSw
                        try dsimp only at hSw
                        go_simp
                        try with_reducible rfl
                      simp only [List.getElem_toArray, List.getElem_cons_succ, List.getElem_cons_zero, Act.put, List.setIfInBounds_toArray, List.set_cons_zero, List.set_cons_succ]
                      clear hHeld
                      refine wpAnyH_ready (rs := [11]) (by kernel_rfl) (by simp) ?_
                      refine AllReadyH.cons rfl (fun K hK => ?_) AllReadyH.nil
                      obtain ⟨V', hW, F, b, far, ths⟩ := fill_new S3 GZ lS3 Bb hgz
                      refine wp_store_mid 56 (.tmp 12) (.tmp 76) (by rfl) gz 0 S3.toArray (by rfl) (by rfl) ths szs3 oS3 ?_
                      rw [hW]
                      clear hW ths far F Bb GZ
                      have Bb := b
                      clear b
                      generalize V' = V1 at *
                      refine hK.out _ _ (range_of (V.later Bb).l) (fun _ => ?_)
                      clear hK K
                      try simp only [List.getElem_toArray, List.getElem_cons_succ, List.getElem_cons_zero, Act.put, List.setIfInBounds_toArray, List.set_cons_zero, List.set_cons_succ]
                      refine wpAnyH_ready (rs := [12]) (by kernel_rfl) (by simp) ?_
                      refine AllReadyH.cons rfl (fun K hK => ?_) AllReadyH.nil
                      refine Node.wp_set (.int .i64 41) (.tmp 77) (.inr rfl) (by rfl) ?_
                      refine hK.out _ _ (range_of (V.later Bb).l) (fun _ => ?_)
                      clear hK K
                      try simp only [List.getElem_toArray, List.getElem_cons_succ, List.getElem_cons_zero, Act.put, List.setIfInBounds_toArray, List.set_cons_zero, List.set_cons_succ]
                      refine wpAnyH_done (by kernel_rfl) ?_ _
                      go_wp2
                      go_meet
                      exact ⟨rfl, Bb⟩
                  · skip
                    have GZ := new_at (w := V1) rfl (.cells zc 56)
                    have b := below_new V1 (.cells zc 56)
                    have hgz : wc.heap.size ≤ V1.heap.size := Bb.size
                    refine Node.wp_new 56 zs zc hzi hzc (by rfl) ?_
                    replace Bb := below_step Bb b
                    try replace O1 := own_bel O1 b
                    try replace G4 := var_later G4 b
                    try replace O5 := O5.later b
                    clear b
                    generalize V1.heap.size = gz at *
                    generalize V1.alloc (.cells zc 56) = V1 at *
                    refine hK.out _ _ (range_of (V.later Bb).l) (fun _ => ?_)
                    clear hK K
                    try simp only [List.getElem_toArray, List.getElem_cons_succ, List.getElem_cons_zero, Act.put, List.setIfInBounds_toArray, List.set_cons_zero, List.set_cons_succ]
                    refine wpAnyH_ready (rs := [1]) (by kernel_rfl) (by simp) ?_
                    refine AllReadyH.cons rfl (fun K hK => ?_) AllReadyH.nil
                    have O1 := own_empty V1 5 1
                    have b := below_new V1 (.cells #[] 5)
                    have hga : wc.heap.size ≤ V1.heap.size := Bb.size
                    try have hne : g4' ≠ V1.heap.size := by have := (Array.getElem?_eq_some_iff.1 G4).1; omega
                    refine Node.wp_bs 60 0 [] [] _ (by rfl) (by rfl) (run_bs028 V1) ?_
                    replace Bb := below_step Bb b
                    try replace G4 := var_later G4 b
                    try replace GZ := var_later GZ b
                    clear b
                    generalize V1.heap.size = ga at *
                    generalize V1.alloc (.cells #[] 5) = V1 at *
                    refine hK.out _ _ (range_of (V.later Bb).l) (fun _ => ?_)
                    clear hK K
                    try simp only [List.getElem_toArray, List.getElem_cons_succ, List.getElem_cons_zero, Act.put, List.setIfInBounds_toArray, List.set_cons_zero, List.set_cons_succ]
                    refine wpAnyH_ready (rs := [3]) (by kernel_rfl) (by simp) ?_
                    refine AllReadyH.cons rfl (fun K hK => ?_) AllReadyH.nil
                    have hgaV := (own_base O1 rfl).2
                    refine wp_app28 (.tmp 70) (.tmp 71) _ (by rfl) ga 5 i0 _ 1 1 Try.underlying60 hi hz0 hz1 hz2 rfl (by omega) (.slice (some ⟨ga, 0, none⟩) 0 0) 0 [] (by rfl) O1 (.slice Ap m cp) m (u8s Bp) (by rfl) (sp.later Bb) (u8s_one Bp) (by simp only [maxLen]; omega) (by omega) (Nat.le_of_lt hgaV) ?_
                    intro v1 V' ho1 hg1 hw1
                    simp only [Nat.zero_add, List.nil_append] at ho1
                    obtain ⟨Aa, ca, rfl, _, _⟩ := (sliceAt_of_own ho1).form
                    have b := below_own Bb hg1 Bb.size (fun g hg => by cases hg; exact hga)
                    try replace G4 := (hg1.block g4' (Array.getElem?_eq_some_iff.1 G4).1 (fun e => hne (Option.some.inj e))).trans G4
                    try replace GZ := (hg1.block gz (Array.getElem?_eq_some_iff.1 GZ).1 (fun e => by obtain ⟨cur, hc⟩ := own_type28 O1 e.symm; rw [GZ] at hc; cases hc)).trans GZ
                    clear hgaV hg1 hw1 Bb O1
                    have O1 := ho1
                    have Bb := b
                    clear b ho1
                    generalize V' = V1 at *
                    refine hK.out _ _ (range_of (V.later Bb).l) (fun _ => ?_)
                    clear hK K
                    try simp only [List.getElem_toArray, List.getElem_cons_succ, List.getElem_cons_zero, Act.put, List.setIfInBounds_toArray, List.set_cons_zero, List.set_cons_succ]
                    refine wpAnyH_ready (rs := [5]) (by kernel_rfl) (by simp) ?_
                    refine AllReadyH.cons rfl (fun K hK => ?_) AllReadyH.nil
                    refine wp_app28 (.tmp 72) (.tmp 73) _ (by rfl) wc.heap.size 5 i0 _ 1 1 Try.underlying60 hi hz0 hz1 hz2 rfl (by omega) (.slice Aa m ca) m (u8s Bp) (by rfl) (own_mono28 O1 hga) (.slice (some ⟨g4', 0, none⟩) 1 1) 1 [.int .u8 0] (by rfl) (sliceAt_blk G4 rfl (by decide)) (by simp [Value.oneCell']) (by simp only [maxLen]; omega) (by omega) Bb.size ?_
                    intro v1 V' ho1 hg1 hw1
                    obtain ⟨A5, c5, rfl, _, _⟩ := (sliceAt_of_own ho1).form
                    have b := below_own Bb hg1 Bb.size (fun g hg => Nat.le_trans hga (own_base O1 hg).1)
                    try replace GZ := (hg1.block gz (Array.getElem?_eq_some_iff.1 GZ).1 (fun e => by obtain ⟨cur, hc⟩ := own_type28 O1 e.symm; rw [GZ] at hc; cases hc)).trans GZ
                    clear hg1 hw1 Bb O1 G4
                    have O5 : SliceAt V' 1 (.slice A5 (m + 1) c5) (Bp ++ [0#8]).length (u8s (Bp ++ [0#8])) := by
                      rw [HL9.out.1]
                      have h := sliceAt_of_own ho1
                      simpa [u8s] using h
                    have Bb := b
                    clear b ho1
                    generalize V' = V1 at *
                    refine hK.out _ _ (range_of (V.later Bb).l) (fun _ => ?_)
                    clear hK K
                    try simp only [List.getElem_toArray, List.getElem_cons_succ, List.getElem_cons_zero, Act.put, List.setIfInBounds_toArray, List.set_cons_zero, List.set_cons_succ]
                    refine wpAnyH_ready (rs := [6]) (by kernel_rfl) (by simp) ?_
                    refine AllReadyH.cons rfl (fun K hK => ?_) AllReadyH.nil
                    refine Node.wp_fn 12 [.tmp 69, .tmp 74] _ [.agg L.toArray, .slice A5 (m + 1) c5] (by rfl) (by rfl) HENT.out (Take_c L kinds ss nsig clr st A c A1 c1 (.slice A5 (m + 1) c5) (Bp ++ [0#8]) _ (V.later Bb).ly HK2.out O5 (by rw [HL9.out.1]; omega)) ?_
                    rintro e V1 ⟨b, r, err, rfl, hT⟩
                    obtain ⟨rfl, rfl⟩ : r = s0 ∧ err = 41 := by
                      rcases hT with ⟨h, _⟩ | ⟨_, h2, h3⟩
                      · exact absurd h HL9.out.2
                      · exact ⟨h2, h3⟩
                    refine ⟨_, rfl, ?_⟩
                    rw [HS3.out]
                    replace Bb := below_step Bb b
                    try replace GZ := var_later GZ b
                    clear b O5 hT
                    refine hK.out _ _ (range_of (V.later Bb).l) (fun _ => ?_)
                    clear hK K
                    try simp only [List.getElem_toArray, List.getElem_cons_succ, List.getElem_cons_zero, Act.put, List.setIfInBounds_toArray, List.set_cons_zero, List.set_cons_succ]
                    have hHeld : V1.rangeAt w.heap.size 0 L := range_of (V.later Bb).l
                    refine wpAnyH_take (i := 7) (v := ?_) rfl (by kernel_rfl) (by kernel_rfl) (by kernel_rfl) (fun _ _ _ h => h) (Or.inl ⟨by kernel_rfl, ?_⟩) (by assumption) ?_
                    rotate_left
                    · intro w hSw
                      try dsimp only at hSw
                      go_simp
                      try with_reducible rfl
                    simp only [List.getElem_toArray, List.getElem_cons_succ, List.getElem_cons_zero, Act.put, List.setIfInBounds_toArray, List.set_cons_zero, List.set_cons_succ]
                    refine wpAnyH_take (i := 8) (v := ?_) rfl (by kernel_rfl) (by kernel_rfl) (by kernel_rfl) (fun _ _ _ h => h) (Or.inl ⟨by kernel_rfl, ?_⟩) (by assumption) ?_
                    rotate_left
                    · intro w hSw
                      try dsimp only at hSw
                      go_simp
                      try with_reducible rfl
                    simp only [List.getElem_toArray, List.getElem_cons_succ, List.getElem_cons_zero, Act.put, List.setIfInBounds_toArray, List.set_cons_zero, List.set_cons_succ]
                    refine wpAnyH_take (i := 9) (v := ?_) rfl (by kernel_rfl) (by kernel_rfl) (by kernel_rfl) (fun _ _ _ h => h) (Or.inl ⟨by kernel_rfl, ?_⟩) (by assumption) ?_
                    rotate_left
                    · intro w hSw
                      try dsimp only at hSw
                      go_simp
                      try with_reducible rfl
                    simp only [List.getElem_toArray, List.getElem_cons_succ, List.getElem_cons_zero, Act.put, List.setIfInBounds_toArray, List.set_cons_zero, List.set_cons_succ]
                    clear hHeld
                    refine wpAnyH_ready (rs := [11]) (by kernel_rfl) (by simp) ?_
                    refine AllReadyH.cons rfl (fun K hK => ?_) AllReadyH.nil
                    obtain ⟨V', hW, F, b, far, ths⟩ := fill_new S3 GZ lS3 Bb hgz
                    refine wp_store_mid 56 (.tmp 12) (.tmp 76) (by rfl) gz 0 S3.toArray (by rfl) (by rfl) ths szs3 oS3 ?_
                    rw [hW]
                    clear hW ths far F Bb GZ
                    have Bb := b
                    clear b
                    generalize V' = V1 at *
                    refine hK.out _ _ (range_of (V.later Bb).l) (fun _ => ?_)
                    clear hK K
                    try simp only [List.getElem_toArray, List.getElem_cons_succ, List.getElem_cons_zero, Act.put, List.setIfInBounds_toArray, List.set_cons_zero, List.set_cons_succ]
                    refine wpAnyH_ready (rs := [12]) (by kernel_rfl) (by simp) ?_
                    refine AllReadyH.cons rfl (fun K hK => ?_) AllReadyH.nil
                    refine Node.wp_set (.int .i64 41) (.tmp 77) (.inr rfl) (by rfl) ?_
                    refine hK.out _ _ (range_of (V.later Bb).l) (fun _ => ?_)
                    clear hK K
                    try simp only [List.getElem_toArray, List.getElem_cons_succ, List.getElem_cons_zero, Act.put, List.setIfInBounds_toArray, List.set_cons_zero, List.set_cons_succ]
                    refine wpAnyH_done (by kernel_rfl) ?_ _
                    go_wp2
                    go_meet
                    exact ⟨rfl, Bb⟩
                · skip
                  have GZ := new_at (w := V1) rfl (.cells zc 56)
                  have b := below_new V1 (.cells zc 56)
                  have hgz : wc.heap.size ≤ V1.heap.size := Bb.size
                  refine Node.wp_new 56 zs zc hzi hzc (by rfl) ?_
                  replace Bb := below_step Bb b
                  try replace O1 := own_bel O1 b
                  try replace G4 := var_later G4 b
                  try replace O5 := O5.later b
                  clear b
                  generalize V1.heap.size = gz at *
                  generalize V1.alloc (.cells zc 56) = V1 at *
                  refine hK.out _ _ (range_of (V.later Bb).l) (fun _ => ?_)
                  clear hK K
                  try simp only [List.getElem_toArray, List.getElem_cons_succ, List.getElem_cons_zero, Act.put, List.setIfInBounds_toArray, List.set_cons_zero, List.set_cons_succ]
                  refine wpAnyH_ready (rs := [1, 4]) (by kernel_rfl) (by simp) ?_
                  refine AllReadyH.cons rfl (fun K hK => ?_) (AllReadyH.cons rfl (fun K hK => ?_) AllReadyH.nil)
                  · skip
                    have O1 := own_empty V1 5 1
                    have b := below_new V1 (.cells #[] 5)
                    have hga : wc.heap.size ≤ V1.heap.size := Bb.size
                    try have hne : g4' ≠ V1.heap.size := by have := (Array.getElem?_eq_some_iff.1 G4).1; omega
                    refine Node.wp_bs 60 0 [] [] _ (by rfl) (by rfl) (run_bs028 V1) ?_
                    replace Bb := below_step Bb b
                    try replace G4 := var_later G4 b
                    try replace GZ := var_later GZ b
                    clear b
                    generalize V1.heap.size = ga at *
                    generalize V1.alloc (.cells #[] 5) = V1 at *
                    refine hK.out _ _ (range_of (V.later Bb).l) (fun _ => ?_)
                    clear hK K
                    try simp only [List.getElem_toArray, List.getElem_cons_succ, List.getElem_cons_zero, Act.put, List.setIfInBounds_toArray, List.set_cons_zero, List.set_cons_succ]
                    refine wpAnyH_ready (rs := [3, 4]) (by kernel_rfl) (by simp) ?_
                    refine AllReadyH.cons rfl (fun K hK => ?_) (AllReadyH.cons rfl (fun K hK => ?_) AllReadyH.nil)
                    · skip
                      have hgaV := (own_base O1 rfl).2
                      refine wp_app28 (.tmp 70) (.tmp 71) _ (by rfl) ga 5 i0 _ 1 1 Try.underlying60 hi hz0 hz1 hz2 rfl (by omega) (.slice (some ⟨ga, 0, none⟩) 0 0) 0 [] (by rfl) O1 (.slice Ap m cp) m (u8s Bp) (by rfl) (sp.later Bb) (u8s_one Bp) (by simp only [maxLen]; omega) (by omega) (Nat.le_of_lt hgaV) ?_
                      intro v1 V' ho1 hg1 hw1
                      simp only [Nat.zero_add, List.nil_append] at ho1
                      obtain ⟨Aa, ca, rfl, _, _⟩ := (sliceAt_of_own ho1).form
                      have b := below_own Bb hg1 Bb.size (fun g hg => by cases hg; exact hga)
                      try replace G4 := (hg1.block g4' (Array.getElem?_eq_some_iff.1 G4).1 (fun e => hne (Option.some.inj e))).trans G4
                      try replace GZ := (hg1.block gz (Array.getElem?_eq_some_iff.1 GZ).1 (fun e => by obtain ⟨cur, hc⟩ := own_type28 O1 e.symm; rw [GZ] at hc; cases hc)).trans GZ
                      clear hgaV hg1 hw1 Bb O1
                      have O1 := ho1
                      have Bb := b
                      clear b ho1
                      generalize V' = V1 at *
                      refine hK.out _ _ (range_of (V.later Bb).l) (fun _ => ?_)
                      clear hK K
                      try simp only [List.getElem_toArray, List.getElem_cons_succ, List.getElem_cons_zero, Act.put, List.setIfInBounds_toArray, List.set_cons_zero, List.set_cons_succ]
                      refine wpAnyH_ready (rs := [4]) (by kernel_rfl) (by simp) ?_
                      refine AllReadyH.cons rfl (fun K hK => ?_) AllReadyH.nil
                      have G4 := new_at (w := V1) rfl (.cells ([.int .u8 0] : List Value).toArray 5)
                      have b := below_new V1 (.cells ([.int .u8 0] : List Value).toArray 5)
                      try have hne : V1.heap.size ≠ ga := by have h : ga < V1.heap.size := (own_base O1 rfl).2; omega
                      refine Node.wp_bs 60 1 [(0, .const (.int .u8 0))] [(0, .int .u8 0)] _ (by rfl) (by rfl) (run_bs128 V1) ?_
                      replace Bb := below_step Bb b
                      try replace O1 := own_bel O1 b
                      try replace GZ := var_later GZ b
                      clear b
                      generalize V1.heap.size = g4' at *
                      generalize V1.alloc (.cells ([.int .u8 0] : List Value).toArray 5) = V1 at *
                      refine hK.out _ _ (range_of (V.later Bb).l) (fun _ => ?_)
                      clear hK K
                      try simp only [List.getElem_toArray, List.getElem_cons_succ, List.getElem_cons_zero, Act.put, List.setIfInBounds_toArray, List.set_cons_zero, List.set_cons_succ]
                      refine wpAnyH_ready (rs := [5]) (by kernel_rfl) (by simp) ?_
                      refine AllReadyH.cons rfl (fun K hK => ?_) AllReadyH.nil
                      refine wp_app28 (.tmp 72) (.tmp 73) _ (by rfl) wc.heap.size 5 i0 _ 1 1 Try.underlying60 hi hz0 hz1 hz2 rfl (by omega) (.slice Aa m ca) m (u8s Bp) (by rfl) (own_mono28 O1 hga) (.slice (some ⟨g4', 0, none⟩) 1 1) 1 [.int .u8 0] (by rfl) (sliceAt_blk G4 rfl (by decide)) (by simp [Value.oneCell']) (by simp only [maxLen]; omega) (by omega) Bb.size ?_
                      intro v1 V' ho1 hg1 hw1
                      obtain ⟨A5, c5, rfl, _, _⟩ := (sliceAt_of_own ho1).form
                      have b := below_own Bb hg1 Bb.size (fun g hg => Nat.le_trans hga (own_base O1 hg).1)
                      try replace GZ := (hg1.block gz (Array.getElem?_eq_some_iff.1 GZ).1 (fun e => by obtain ⟨cur, hc⟩ := own_type28 O1 e.symm; rw [GZ] at hc; cases hc)).trans GZ
                      clear hg1 hw1 Bb O1 G4
                      have O5 : SliceAt V' 1 (.slice A5 (m + 1) c5) (Bp ++ [0#8]).length (u8s (Bp ++ [0#8])) := by
                        rw [HL9.out.1]
                        have h := sliceAt_of_own ho1
                        simpa [u8s] using h
                      have Bb := b
                      clear b ho1
                      generalize V' = V1 at *
                      refine hK.out _ _ (range_of (V.later Bb).l) (fun _ => ?_)
                      clear hK K
                      try simp only [List.getElem_toArray, List.getElem_cons_succ, List.getElem_cons_zero, Act.put, List.setIfInBounds_toArray, List.set_cons_zero, List.set_cons_succ]
                      refine wpAnyH_ready (rs := [6]) (by kernel_rfl) (by simp) ?_
                      refine AllReadyH.cons rfl (fun K hK => ?_) AllReadyH.nil
                      refine Node.wp_fn 12 [.tmp 69, .tmp 74] _ [.agg L.toArray, .slice A5 (m + 1) c5] (by rfl) (by rfl) HENT.out (Take_c L kinds ss nsig clr st A c A1 c1 (.slice A5 (m + 1) c5) (Bp ++ [0#8]) _ (V.later Bb).ly HK2.out O5 (by rw [HL9.out.1]; omega)) ?_
                      rintro e V1 ⟨b, r, err, rfl, hT⟩
                      obtain ⟨rfl, rfl⟩ : r = s0 ∧ err = 41 := by
                        rcases hT with ⟨h, _⟩ | ⟨_, h2, h3⟩
                        · exact absurd h HL9.out.2
                        · exact ⟨h2, h3⟩
                      refine ⟨_, rfl, ?_⟩
                      rw [HS3.out]
                      replace Bb := below_step Bb b
                      try replace GZ := var_later GZ b
                      clear b O5 hT
                      refine hK.out _ _ (range_of (V.later Bb).l) (fun _ => ?_)
                      clear hK K
                      try simp only [List.getElem_toArray, List.getElem_cons_succ, List.getElem_cons_zero, Act.put, List.setIfInBounds_toArray, List.set_cons_zero, List.set_cons_succ]
                      have hHeld : V1.rangeAt w.heap.size 0 L := range_of (V.later Bb).l
                      refine wpAnyH_take (i := 7) (v := ?_) rfl (by kernel_rfl) (by kernel_rfl) (by kernel_rfl) (fun _ _ _ h => h) (Or.inl ⟨by kernel_rfl, ?_⟩) (by assumption) ?_
                      rotate_left
                      · intro w hSw
                        try dsimp only at hSw
                        go_simp
                        try with_reducible rfl
                      simp only [List.getElem_toArray, List.getElem_cons_succ, List.getElem_cons_zero, Act.put, List.setIfInBounds_toArray, List.set_cons_zero, List.set_cons_succ]
                      refine wpAnyH_take (i := 8) (v := ?_) rfl (by kernel_rfl) (by kernel_rfl) (by kernel_rfl) (fun _ _ _ h => h) (Or.inl ⟨by kernel_rfl, ?_⟩) (by assumption) ?_
                      rotate_left
                      · intro w hSw
                        try dsimp only at hSw
                        go_simp
                        try with_reducible rfl
                      simp only [List.getElem_toArray, List.getElem_cons_succ, List.getElem_cons_zero, Act.put, List.setIfInBounds_toArray, List.set_cons_zero, List.set_cons_succ]
                      refine wpAnyH_take (i := 9) (v := ?_) rfl (by kernel_rfl) (by kernel_rfl) (by kernel_rfl) (fun _ _ _ h => h) (Or.inl ⟨by kernel_rfl, ?_⟩) (by assumption) ?_
                      rotate_left
                      · intro w hSw
                        try dsimp only at hSw
                        go_simp
                        try with_reducible rfl
                      simp only [List.getElem_toArray, List.getElem_cons_succ, List.getElem_cons_zero, Act.put, List.setIfInBounds_toArray, List.set_cons_zero, List.set_cons_succ]
                      clear hHeld
                      refine wpAnyH_ready (rs := [11]) (by kernel_rfl) (by simp) ?_
                      refine AllReadyH.cons rfl (fun K hK => ?_) AllReadyH.nil
                      obtain ⟨V', hW, F, b, far, ths⟩ := fill_new S3 GZ lS3 Bb hgz
                      refine wp_store_mid 56 (.tmp 12) (.tmp 76) (by rfl) gz 0 S3.toArray (by rfl) (by rfl) ths szs3 oS3 ?_
                      rw [hW]
                      clear hW ths far F Bb GZ
                      have Bb := b
                      clear b
                      generalize V' = V1 at *
                      refine hK.out _ _ (range_of (V.later Bb).l) (fun _ => ?_)
                      clear hK K
                      try simp only [List.getElem_toArray, List.getElem_cons_succ, List.getElem_cons_zero, Act.put, List.setIfInBounds_toArray, List.set_cons_zero, List.set_cons_succ]
                      refine wpAnyH_ready (rs := [12]) (by kernel_rfl) (by simp) ?_
                      refine AllReadyH.cons rfl (fun K hK => ?_) AllReadyH.nil
                      refine Node.wp_set (.int .i64 41) (.tmp 77) (.inr rfl) (by rfl) ?_
                      refine hK.out _ _ (range_of (V.later Bb).l) (fun _ => ?_)
                      clear hK K
                      try simp only [List.getElem_toArray, List.getElem_cons_succ, List.getElem_cons_zero, Act.put, List.setIfInBounds_toArray, List.set_cons_zero, List.set_cons_succ]
                      refine wpAnyH_done (by kernel_rfl) ?_ _
                      go_wp2
                      go_meet
                      exact ⟨rfl, Bb⟩
                    · skip
                      have G4 := new_at (w := V1) rfl (.cells ([.int .u8 0] : List Value).toArray 5)
                      have b := below_new V1 (.cells ([.int .u8 0] : List Value).toArray 5)
                      try have hne : V1.heap.size ≠ ga := by have h : ga < V1.heap.size := (own_base O1 rfl).2; omega
                      refine Node.wp_bs 60 1 [(0, .const (.int .u8 0))] [(0, .int .u8 0)] _ (by rfl) (by rfl) (run_bs128 V1) ?_
                      replace Bb := below_step Bb b
                      try replace O1 := own_bel O1 b
                      try replace GZ := var_later GZ b
                      clear b
                      generalize V1.heap.size = g4' at *
                      generalize V1.alloc (.cells ([.int .u8 0] : List Value).toArray 5) = V1 at *
                      refine hK.out _ _ (range_of (V.later Bb).l) (fun _ => ?_)
                      clear hK K
                      try simp only [List.getElem_toArray, List.getElem_cons_succ, List.getElem_cons_zero, Act.put, List.setIfInBounds_toArray, List.set_cons_zero, List.set_cons_succ]
                      refine wpAnyH_ready (rs := [3]) (by kernel_rfl) (by simp) ?_
                      refine AllReadyH.cons rfl (fun K hK => ?_) AllReadyH.nil
                      have hgaV := (own_base O1 rfl).2
                      refine wp_app28 (.tmp 70) (.tmp 71) _ (by rfl) ga 5 i0 _ 1 1 Try.underlying60 hi hz0 hz1 hz2 rfl (by omega) (.slice (some ⟨ga, 0, none⟩) 0 0) 0 [] (by rfl) O1 (.slice Ap m cp) m (u8s Bp) (by rfl) (sp.later Bb) (u8s_one Bp) (by simp only [maxLen]; omega) (by omega) (Nat.le_of_lt hgaV) ?_
                      intro v1 V' ho1 hg1 hw1
                      simp only [Nat.zero_add, List.nil_append] at ho1
                      obtain ⟨Aa, ca, rfl, _, _⟩ := (sliceAt_of_own ho1).form
                      have b := below_own Bb hg1 Bb.size (fun g hg => by cases hg; exact hga)
                      try replace G4 := (hg1.block g4' (Array.getElem?_eq_some_iff.1 G4).1 (fun e => hne (Option.some.inj e))).trans G4
                      try replace GZ := (hg1.block gz (Array.getElem?_eq_some_iff.1 GZ).1 (fun e => by obtain ⟨cur, hc⟩ := own_type28 O1 e.symm; rw [GZ] at hc; cases hc)).trans GZ
                      clear hgaV hg1 hw1 Bb O1
                      have O1 := ho1
                      have Bb := b
                      clear b ho1
                      generalize V' = V1 at *
                      refine hK.out _ _ (range_of (V.later Bb).l) (fun _ => ?_)
                      clear hK K
                      try simp only [List.getElem_toArray, List.getElem_cons_succ, List.getElem_cons_zero, Act.put, List.setIfInBounds_toArray, List.set_cons_zero, List.set_cons_succ]
                      refine wpAnyH_ready (rs := [5]) (by kernel_rfl) (by simp) ?_
                      refine AllReadyH.cons rfl (fun K hK => ?_) AllReadyH.nil
                      refine wp_app28 (.tmp 72) (.tmp 73) _ (by rfl) wc.heap.size 5 i0 _ 1 1 Try.underlying60 hi hz0 hz1 hz2 rfl (by omega) (.slice Aa m ca) m (u8s Bp) (by rfl) (own_mono28 O1 hga) (.slice (some ⟨g4', 0, none⟩) 1 1) 1 [.int .u8 0] (by rfl) (sliceAt_blk G4 rfl (by decide)) (by simp [Value.oneCell']) (by simp only [maxLen]; omega) (by omega) Bb.size ?_
                      intro v1 V' ho1 hg1 hw1
                      obtain ⟨A5, c5, rfl, _, _⟩ := (sliceAt_of_own ho1).form
                      have b := below_own Bb hg1 Bb.size (fun g hg => Nat.le_trans hga (own_base O1 hg).1)
                      try replace GZ := (hg1.block gz (Array.getElem?_eq_some_iff.1 GZ).1 (fun e => by obtain ⟨cur, hc⟩ := own_type28 O1 e.symm; rw [GZ] at hc; cases hc)).trans GZ
                      clear hg1 hw1 Bb O1 G4
                      have O5 : SliceAt V' 1 (.slice A5 (m + 1) c5) (Bp ++ [0#8]).length (u8s (Bp ++ [0#8])) := by
                        rw [HL9.out.1]
                        have h := sliceAt_of_own ho1
                        simpa [u8s] using h
                      have Bb := b
                      clear b ho1
                      generalize V' = V1 at *
                      refine hK.out _ _ (range_of (V.later Bb).l) (fun _ => ?_)
                      clear hK K
                      try simp only [List.getElem_toArray, List.getElem_cons_succ, List.getElem_cons_zero, Act.put, List.setIfInBounds_toArray, List.set_cons_zero, List.set_cons_succ]
                      refine wpAnyH_ready (rs := [6]) (by kernel_rfl) (by simp) ?_
                      refine AllReadyH.cons rfl (fun K hK => ?_) AllReadyH.nil
                      refine Node.wp_fn 12 [.tmp 69, .tmp 74] _ [.agg L.toArray, .slice A5 (m + 1) c5] (by rfl) (by rfl) HENT.out (Take_c L kinds ss nsig clr st A c A1 c1 (.slice A5 (m + 1) c5) (Bp ++ [0#8]) _ (V.later Bb).ly HK2.out O5 (by rw [HL9.out.1]; omega)) ?_
                      rintro e V1 ⟨b, r, err, rfl, hT⟩
                      obtain ⟨rfl, rfl⟩ : r = s0 ∧ err = 41 := by
                        rcases hT with ⟨h, _⟩ | ⟨_, h2, h3⟩
                        · exact absurd h HL9.out.2
                        · exact ⟨h2, h3⟩
                      refine ⟨_, rfl, ?_⟩
                      rw [HS3.out]
                      replace Bb := below_step Bb b
                      try replace GZ := var_later GZ b
                      clear b O5 hT
                      refine hK.out _ _ (range_of (V.later Bb).l) (fun _ => ?_)
                      clear hK K
                      try simp only [List.getElem_toArray, List.getElem_cons_succ, List.getElem_cons_zero, Act.put, List.setIfInBounds_toArray, List.set_cons_zero, List.set_cons_succ]
                      have hHeld : V1.rangeAt w.heap.size 0 L := range_of (V.later Bb).l
                      refine wpAnyH_take (i := 7) (v := ?_) rfl (by kernel_rfl) (by kernel_rfl) (by kernel_rfl) (fun _ _ _ h => h) (Or.inl ⟨by kernel_rfl, ?_⟩) (by assumption) ?_
                      rotate_left
                      · intro w hSw
                        try dsimp only at hSw
                        go_simp
                        try with_reducible rfl
                      simp only [List.getElem_toArray, List.getElem_cons_succ, List.getElem_cons_zero, Act.put, List.setIfInBounds_toArray, List.set_cons_zero, List.set_cons_succ]
                      refine wpAnyH_take (i := 8) (v := ?_) rfl (by kernel_rfl) (by kernel_rfl) (by kernel_rfl) (fun _ _ _ h => h) (Or.inl ⟨by kernel_rfl, ?_⟩) (by assumption) ?_
                      rotate_left
                      · intro w hSw
                        try dsimp only at hSw
                        go_simp
                        try with_reducible rfl
                      simp only [List.getElem_toArray, List.getElem_cons_succ, List.getElem_cons_zero, Act.put, List.setIfInBounds_toArray, List.set_cons_zero, List.set_cons_succ]
                      refine wpAnyH_take (i := 9) (v := ?_) rfl (by kernel_rfl) (by kernel_rfl) (by kernel_rfl) (fun _ _ _ h => h) (Or.inl ⟨by kernel_rfl, ?_⟩) (by assumption) ?_
                      rotate_left
                      · intro w hSw
                        try dsimp only at hSw
                        go_simp
                        try with_reducible rfl
                      simp only [List.getElem_toArray, List.getElem_cons_succ, List.getElem_cons_zero, Act.put, List.setIfInBounds_toArray, List.set_cons_zero, List.set_cons_succ]
                      clear hHeld
                      refine wpAnyH_ready (rs := [11]) (by kernel_rfl) (by simp) ?_
                      refine AllReadyH.cons rfl (fun K hK => ?_) AllReadyH.nil
                      obtain ⟨V', hW, F, b, far, ths⟩ := fill_new S3 GZ lS3 Bb hgz
                      refine wp_store_mid 56 (.tmp 12) (.tmp 76) (by rfl) gz 0 S3.toArray (by rfl) (by rfl) ths szs3 oS3 ?_
                      rw [hW]
                      clear hW ths far F Bb GZ
                      have Bb := b
                      clear b
                      generalize V' = V1 at *
                      refine hK.out _ _ (range_of (V.later Bb).l) (fun _ => ?_)
                      clear hK K
                      try simp only [List.getElem_toArray, List.getElem_cons_succ, List.getElem_cons_zero, Act.put, List.setIfInBounds_toArray, List.set_cons_zero, List.set_cons_succ]
                      refine wpAnyH_ready (rs := [12]) (by kernel_rfl) (by simp) ?_
                      refine AllReadyH.cons rfl (fun K hK => ?_) AllReadyH.nil
                      refine Node.wp_set (.int .i64 41) (.tmp 77) (.inr rfl) (by rfl) ?_
                      refine hK.out _ _ (range_of (V.later Bb).l) (fun _ => ?_)
                      clear hK K
                      try simp only [List.getElem_toArray, List.getElem_cons_succ, List.getElem_cons_zero, Act.put, List.setIfInBounds_toArray, List.set_cons_zero, List.set_cons_succ]
                      refine wpAnyH_done (by kernel_rfl) ?_ _
                      go_wp2
                      go_meet
                      exact ⟨rfl, Bb⟩
                  · skip
                    have G4 := new_at (w := V1) rfl (.cells ([.int .u8 0] : List Value).toArray 5)
                    have b := below_new V1 (.cells ([.int .u8 0] : List Value).toArray 5)
                    try have hne : V1.heap.size ≠ ga := by have h : ga < V1.heap.size := (own_base O1 rfl).2; omega
                    refine Node.wp_bs 60 1 [(0, .const (.int .u8 0))] [(0, .int .u8 0)] _ (by rfl) (by rfl) (run_bs128 V1) ?_
                    replace Bb := below_step Bb b
                    try replace O1 := own_bel O1 b
                    try replace GZ := var_later GZ b
                    clear b
                    generalize V1.heap.size = g4' at *
                    generalize V1.alloc (.cells ([.int .u8 0] : List Value).toArray 5) = V1 at *
                    refine hK.out _ _ (range_of (V.later Bb).l) (fun _ => ?_)
                    clear hK K
                    try simp only [List.getElem_toArray, List.getElem_cons_succ, List.getElem_cons_zero, Act.put, List.setIfInBounds_toArray, List.set_cons_zero, List.set_cons_succ]
                    refine wpAnyH_ready (rs := [1]) (by kernel_rfl) (by simp) ?_
                    refine AllReadyH.cons rfl (fun K hK => ?_) AllReadyH.nil
                    have O1 := own_empty V1 5 1
                    have b := below_new V1 (.cells #[] 5)
                    have hga : wc.heap.size ≤ V1.heap.size := Bb.size
                    try have hne : g4' ≠ V1.heap.size := by have := (Array.getElem?_eq_some_iff.1 G4).1; omega
                    refine Node.wp_bs 60 0 [] [] _ (by rfl) (by rfl) (run_bs028 V1) ?_
                    replace Bb := below_step Bb b
                    try replace G4 := var_later G4 b
                    try replace GZ := var_later GZ b
                    clear b
                    generalize V1.heap.size = ga at *
                    generalize V1.alloc (.cells #[] 5) = V1 at *
                    refine hK.out _ _ (range_of (V.later Bb).l) (fun _ => ?_)
                    clear hK K
                    try simp only [List.getElem_toArray, List.getElem_cons_succ, List.getElem_cons_zero, Act.put, List.setIfInBounds_toArray, List.set_cons_zero, List.set_cons_succ]
                    refine wpAnyH_ready (rs := [3]) (by kernel_rfl) (by simp) ?_
                    refine AllReadyH.cons rfl (fun K hK => ?_) AllReadyH.nil
                    have hgaV := (own_base O1 rfl).2
                    refine wp_app28 (.tmp 70) (.tmp 71) _ (by rfl) ga 5 i0 _ 1 1 Try.underlying60 hi hz0 hz1 hz2 rfl (by omega) (.slice (some ⟨ga, 0, none⟩) 0 0) 0 [] (by rfl) O1 (.slice Ap m cp) m (u8s Bp) (by rfl) (sp.later Bb) (u8s_one Bp) (by simp only [maxLen]; omega) (by omega) (Nat.le_of_lt hgaV) ?_
                    intro v1 V' ho1 hg1 hw1
                    simp only [Nat.zero_add, List.nil_append] at ho1
                    obtain ⟨Aa, ca, rfl, _, _⟩ := (sliceAt_of_own ho1).form
                    have b := below_own Bb hg1 Bb.size (fun g hg => by cases hg; exact hga)
                    try replace G4 := (hg1.block g4' (Array.getElem?_eq_some_iff.1 G4).1 (fun e => hne (Option.some.inj e))).trans G4
                    try replace GZ := (hg1.block gz (Array.getElem?_eq_some_iff.1 GZ).1 (fun e => by obtain ⟨cur, hc⟩ := own_type28 O1 e.symm; rw [GZ] at hc; cases hc)).trans GZ
                    clear hgaV hg1 hw1 Bb O1
                    have O1 := ho1
                    have Bb := b
                    clear b ho1
                    generalize V' = V1 at *
                    refine hK.out _ _ (range_of (V.later Bb).l) (fun _ => ?_)
                    clear hK K
                    try simp only [List.getElem_toArray, List.getElem_cons_succ, List.getElem_cons_zero, Act.put, List.setIfInBounds_toArray, List.set_cons_zero, List.set_cons_succ]
                    refine wpAnyH_ready (rs := [5]) (by kernel_rfl) (by simp) ?_
                    refine AllReadyH.cons rfl (fun K hK => ?_) AllReadyH.nil
                    refine wp_app28 (.tmp 72) (.tmp 73) _ (by rfl) wc.heap.size 5 i0 _ 1 1 Try.underlying60 hi hz0 hz1 hz2 rfl (by omega) (.slice Aa m ca) m (u8s Bp) (by rfl) (own_mono28 O1 hga) (.slice (some ⟨g4', 0, none⟩) 1 1) 1 [.int .u8 0] (by rfl) (sliceAt_blk G4 rfl (by decide)) (by simp [Value.oneCell']) (by simp only [maxLen]; omega) (by omega) Bb.size ?_
                    intro v1 V' ho1 hg1 hw1
                    obtain ⟨A5, c5, rfl, _, _⟩ := (sliceAt_of_own ho1).form
                    have b := below_own Bb hg1 Bb.size (fun g hg => Nat.le_trans hga (own_base O1 hg).1)
                    try replace GZ := (hg1.block gz (Array.getElem?_eq_some_iff.1 GZ).1 (fun e => by obtain ⟨cur, hc⟩ := own_type28 O1 e.symm; rw [GZ] at hc; cases hc)).trans GZ
                    clear hg1 hw1 Bb O1 G4
                    have O5 : SliceAt V' 1 (.slice A5 (m + 1) c5) (Bp ++ [0#8]).length (u8s (Bp ++ [0#8])) := by
                      rw [HL9.out.1]
                      have h := sliceAt_of_own ho1
                      simpa [u8s] using h
                    have Bb := b
                    clear b ho1
                    generalize V' = V1 at *
                    refine hK.out _ _ (range_of (V.later Bb).l) (fun _ => ?_)
                    clear hK K
                    try simp only [List.getElem_toArray, List.getElem_cons_succ, List.getElem_cons_zero, Act.put, List.setIfInBounds_toArray, List.set_cons_zero, List.set_cons_succ]
                    refine wpAnyH_ready (rs := [6]) (by kernel_rfl) (by simp) ?_
                    refine AllReadyH.cons rfl (fun K hK => ?_) AllReadyH.nil
                    refine Node.wp_fn 12 [.tmp 69, .tmp 74] _ [.agg L.toArray, .slice A5 (m + 1) c5] (by rfl) (by rfl) HENT.out (Take_c L kinds ss nsig clr st A c A1 c1 (.slice A5 (m + 1) c5) (Bp ++ [0#8]) _ (V.later Bb).ly HK2.out O5 (by rw [HL9.out.1]; omega)) ?_
                    rintro e V1 ⟨b, r, err, rfl, hT⟩
                    obtain ⟨rfl, rfl⟩ : r = s0 ∧ err = 41 := by
                      rcases hT with ⟨h, _⟩ | ⟨_, h2, h3⟩
                      · exact absurd h HL9.out.2
                      · exact ⟨h2, h3⟩
                    refine ⟨_, rfl, ?_⟩
                    rw [HS3.out]
                    replace Bb := below_step Bb b
                    try replace GZ := var_later GZ b
                    clear b O5 hT
                    refine hK.out _ _ (range_of (V.later Bb).l) (fun _ => ?_)
                    clear hK K
                    try simp only [List.getElem_toArray, List.getElem_cons_succ, List.getElem_cons_zero, Act.put, List.setIfInBounds_toArray, List.set_cons_zero, List.set_cons_succ]
                    have hHeld : V1.rangeAt w.heap.size 0 L := range_of (V.later Bb).l
                    refine wpAnyH_take (i := 7) (v := ?_) rfl (by kernel_rfl) (by kernel_rfl) (by kernel_rfl) (fun _ _ _ h => h) (Or.inl ⟨by kernel_rfl, ?_⟩) (by assumption) ?_
                    rotate_left
                    · intro w hSw
                      try dsimp only at hSw
                      go_simp
                      try with_reducible rfl
                    simp only [List.getElem_toArray, List.getElem_cons_succ, List.getElem_cons_zero, Act.put, List.setIfInBounds_toArray, List.set_cons_zero, List.set_cons_succ]
                    refine wpAnyH_take (i := 8) (v := ?_) rfl (by kernel_rfl) (by kernel_rfl) (by kernel_rfl) (fun _ _ _ h => h) (Or.inl ⟨by kernel_rfl, ?_⟩) (by assumption) ?_
                    rotate_left
                    · intro w hSw
                      try dsimp only at hSw
                      go_simp
                      try with_reducible rfl
                    simp only [List.getElem_toArray, List.getElem_cons_succ, List.getElem_cons_zero, Act.put, List.setIfInBounds_toArray, List.set_cons_zero, List.set_cons_succ]
                    refine wpAnyH_take (i := 9) (v := ?_) rfl (by kernel_rfl) (by kernel_rfl) (by kernel_rfl) (fun _ _ _ h => h) (Or.inl ⟨by kernel_rfl, ?_⟩) (by assumption) ?_
                    rotate_left
                    · intro w hSw
                      try dsimp only at hSw
                      go_simp
                      try with_reducible rfl
                    simp only [List.getElem_toArray, List.getElem_cons_succ, List.getElem_cons_zero, Act.put, List.setIfInBounds_toArray, List.set_cons_zero, List.set_cons_succ]
                    clear hHeld
                    refine wpAnyH_ready (rs := [11]) (by kernel_rfl) (by simp) ?_
                    refine AllReadyH.cons rfl (fun K hK => ?_) AllReadyH.nil
                    obtain ⟨V', hW, F, b, far, ths⟩ := fill_new S3 GZ lS3 Bb hgz
                    refine wp_store_mid 56 (.tmp 12) (.tmp 76) (by rfl) gz 0 S3.toArray (by rfl) (by rfl) ths szs3 oS3 ?_
                    rw [hW]
                    clear hW ths far F Bb GZ
                    have Bb := b
                    clear b
                    generalize V' = V1 at *
                    refine hK.out _ _ (range_of (V.later Bb).l) (fun _ => ?_)
                    clear hK K
                    try simp only [List.getElem_toArray, List.getElem_cons_succ, List.getElem_cons_zero, Act.put, List.setIfInBounds_toArray, List.set_cons_zero, List.set_cons_succ]
                    refine wpAnyH_ready (rs := [12]) (by kernel_rfl) (by simp) ?_
                    refine AllReadyH.cons rfl (fun K hK => ?_) AllReadyH.nil
                    refine Node.wp_set (.int .i64 41) (.tmp 77) (.inr rfl) (by rfl) ?_
                    refine hK.out _ _ (range_of (V.later Bb).l) (fun _ => ?_)
                    clear hK K
                    try simp only [List.getElem_toArray, List.getElem_cons_succ, List.getElem_cons_zero, Act.put, List.setIfInBounds_toArray, List.set_cons_zero, List.set_cons_succ]
                    refine wpAnyH_done (by kernel_rfl) ?_ _
                    go_wp2
                    go_meet
                    exact ⟨rfl, Bb⟩
              case rest =>
                obtain ⟨rfl, bF⟩ := hcut
                replace V := V.later bF
                clear bF sp
                go_upto_region 11 with (fail)
                go_cut [14, 15] from 84 to 89 (fun x14 x15 wx => ∃ (g14 : Nat) (y : ShowM) (h : Int), x14 = .pointer (some ⟨g14, 0, none⟩) ∧ x15 = .int .i64 h ∧ Below wc.heap.size wc wx ∧ wx.heap[g14]? = some (.cells (showL y).toArray 56 (0, 0)) ∧ TakeR pl kinds nsig y h)
                case first =>
                  have RL := range_of V.l
                  have CP := Take_c L kinds ss nsig clr st A c A1 c1 (.slice Au pl.length cu) pl wc V.ly HK2.out V.up (by have := HPL.out; omega)
                  go_wp2_with (first
                    | refine wpList_load_k 29 (.tmp 3) (by rfl) w.heap.size 0 (by rfl) L _ RL Try.underlying29 rfl szL (by kernel_rfl) ?_
                    | fail)
                  refine CP.mono ?_
                  rintro e W2 ⟨b2, y, err, rfl, ht⟩
                  obtain ⟨X, hX⟩ : ∃ X, showL y = X := ⟨_, rfl⟩
                  rw [hX]
                  have szx : (Try.prog.info? 56).map (·.size) = some X.length := by rw [← hX]; exact show_size _
                  have oX : X.toArray.all (·.oneCell') = true := all_one (by rw [← hX]; exact show_one _)
                  have lX : X.length = zc.size := by rw [hzs, ← hX]; rfl
                  have HXX := Lib.hid hX
                  have HT := Lib.hid ht
                  clear hX ht
                  obtain ⟨Wn, hWn, XX, bV, ths⟩ := newv (V := W2) X zc 56 lX
                  have HWN := Lib.hid hWn
                  have HX := Lib.hid XX
                  have HBV := Lib.hid (below_step b2 bV)
                  clear hWn XX bV CP RL b2
                  go_wp2_with (first
                    | refine wpList_new (by rfl) 56 zs zc hzi hzc (by rfl) ?_
                    | (refine wpList_store_mid rfl 56 (.tmp 14) (.tmp 88) (by rfl) W2.heap.size 0 X.toArray (by rfl) (by rfl) ths (by simpa using szx) oX ?_; rw [HWN.out])
                    | fail)
                  go_meet
                  exact ⟨_, y, err, rfl, rfl, HBV.out, HXX.out ▸ HX.out, HT.out⟩
                case rest =>
                  obtain ⟨g14, y, h, rfl, rfl, bF, hy, ht⟩ := hcut
                  replace V := V.later bF
                  clear bF
                  rcases ht with ⟨ht0, ht1, ht2, rfl⟩ | ⟨_, rfl, rfl⟩
                  rotate_left
                  · skip
                    rw [HS3.out] at hy
                    have okZ : ShOk s0 := ⟨by decide, by decide, by decide⟩
                    have szz : (Try.prog.info? 56).map (·.size) = some S3.length := by simpa using szs3
                    have heZ : ∀ W : World, (Op.equalIn 10000 56 (.agg S3.toArray) (.agg S3.toArray)).run Try.prog W = .ok true W := fun W => by rw [← HS3.out, eq_show _ _ okZ okZ W, decide_eq_true rfl]
                    have r0 : ∀ W : World, (Instr.build 56 #[]).run Try.prog W = .ok (.agg S3.toArray) W := fun W => HS3.out ▸ run_none W
                    have RY := range_of hy
                    clear okZ
                    go_wp2_with (first
                      | refine wpList_load_k 56 (.tmp 14) (by rfl) g14 0 (by rfl) S3 _ RY Try.underlying56 rfl szz (by kernel_rfl) ?_
                      | refine wpList_bld_k 56 [] _ _ (by rfl) (by rfl) (r0 _) (by kernel_rfl) ?_
                      | fail)
                    refine (wakes28_c _).mono ?_
                    rintro e W2 ⟨rfl, b2⟩
                    have B := below_step V.bel b2
                    clear RY r0 heZ
                    go_wp2
                    go_ret
                    exact ⟨rfl, B⟩
                  obtain ⟨hPy, hdk⟩ := taken (y := y) (.inl ⟨ht0, ht1, ht2, rfl⟩)
                  clear ht0 ht1 ht2
                  have HPY := Lib.hid hPy
                  have HDK := Lib.hid hdk
                  clear hPy hdk
                  go_upto_region 14 with (fail)
                  obtain ⟨ks, hks⟩ : ∃ ks, min kinds.length 24 = ks := ⟨_, rfl⟩
                  obtain ⟨kg, hkg⟩ : ∃ ks, min nsig 12 = ks := ⟨_, rfl⟩
                  have hmin1 : min ((kinds.length : Nat) : Int) 24 = (ks : Int) := by omega
                  have hmin2 : min ((nsig : Nat) : Int) 12 = (kg : Int) := by omega
                  have hks24 : ks ≤ 24 := by omega
                  have hkg12 : kg ≤ 12 := by omega
                  have HKS := Lib.hid hks
                  have HKG := Lib.hid hkg
                  clear hks hkg
                  go_cut [16, 17] from 102 to 115 (fun x16 x17 wx => x16 = .int .u32 (maskN ks).toNat ∧ x17 = .int .u32 (maskN kg).toNat ∧ Below wc.heap.size wc wx)
                  case first =>
                    have x0 := cell_list V.l V.ly.f.sec
                    have x1 := cell_list V.l V.ly.f.sig
                    obtain ⟨u1, u2, u3, u4⟩ := mask_u ks hks24
                    obtain ⟨v1, v2, v3, v4⟩ := mask_u kg (by omega)
                    generalize 2 ^ ks = p1 at *
                    generalize 2 ^ kg = p2 at *
                    generalize (maskN ks).toNat = m1 at *
                    generalize (maskN kg).toNat = m2 at *
                    refine wp_region_held_drew (S := (fun w' => w'.cell? ⟨w.heap.size, 0, none⟩ = some (.slice A kinds.length c) ∧ w'.cell? ⟨w.heap.size, 1, none⟩ = some (.slice A1 nsig c1))) (by kernel_rfl) ?_ (fun hHeld => ?_)
                    · exact ⟨x0, x1⟩
                    have Bb : Below wc.heap.size wc wc.drew := (Below.refl _ wc).drew
                    refine wpAnyH_take (i := 0) (v := ?_) rfl (by kernel_rfl) (by kernel_rfl) (by kernel_rfl) (fun _ _ _ h => h) (Or.inl ⟨by kernel_rfl, ?_⟩) (by assumption) ?_
                    rotate_left
                    · intro w hSw
                      try dsimp only at hSw
                      go_simp
                      try with_reducible rfl
                    simp only [List.getElem_toArray, List.getElem_cons_succ, List.getElem_cons_zero, Act.put, List.setIfInBounds_toArray, List.set_cons_zero, List.set_cons_succ]
                    refine wpAnyH_take (i := 1) (v := ?_) rfl (by kernel_rfl) (by kernel_rfl) (by kernel_rfl) (fun _ _ _ h => h) (Or.inl ⟨by kernel_rfl, ?_⟩) (by assumption) ?_
                    rotate_left
                    · intro w hSw
                      try dsimp only at hSw
                      go_simp
                      try with_reducible rfl
                    simp only [List.getElem_toArray, List.getElem_cons_succ, List.getElem_cons_zero, Act.put, List.setIfInBounds_toArray, List.set_cons_zero, List.set_cons_succ]
                    refine wpAnyH_take (i := 2) (v := ?_) rfl (by kernel_rfl) (by kernel_rfl) (by kernel_rfl) (fun _ _ _ h => h) (Or.inl ⟨by kernel_rfl, ?_⟩) (by assumption) ?_
                    rotate_left
                    · intro w hSw
                      try dsimp only at hSw
                      go_simp
                      try with_reducible rfl
                    simp only [List.getElem_toArray, List.getElem_cons_succ, List.getElem_cons_zero, Act.put, List.setIfInBounds_toArray, List.set_cons_zero, List.set_cons_succ]
                    refine wpAnyH_take (i := 3) (v := ?_) rfl (by kernel_rfl) (by kernel_rfl) (by kernel_rfl) (fun _ _ _ h => h) (Or.inl ⟨by kernel_rfl, ?_⟩) (by assumption) ?_
                    rotate_left
                    · intro w hSw
                      try dsimp only at hSw
                      go_simp
                      try with_reducible rfl
                    simp only [List.getElem_toArray, List.getElem_cons_succ, List.getElem_cons_zero, Act.put, List.setIfInBounds_toArray, List.set_cons_zero, List.set_cons_succ]
                    refine wpAnyH_take (i := 4) (v := ?_) rfl (by kernel_rfl) (by kernel_rfl) (by kernel_rfl) (fun _ _ _ h => h) (Or.inl ⟨by kernel_rfl, ?_⟩) (by assumption) ?_
                    rotate_left
                    · intro w hSw
                      try dsimp only at hSw
                      go_simp
                      try with_reducible rfl
                    simp only [List.getElem_toArray, List.getElem_cons_succ, List.getElem_cons_zero, Act.put, List.setIfInBounds_toArray, List.set_cons_zero, List.set_cons_succ]
                    refine wpAnyH_take (i := 5) (v := ?_) rfl (by kernel_rfl) (by kernel_rfl) (by kernel_rfl) (fun _ _ _ h => h) (Or.inl ⟨by kernel_rfl, ?_⟩) (by assumption) ?_
                    rotate_left
                    · intro w hSw
                      try dsimp only at hSw
                      go_simp
                      try with_reducible rfl
                    simp only [List.getElem_toArray, List.getElem_cons_succ, List.getElem_cons_zero, Act.put, List.setIfInBounds_toArray, List.set_cons_zero, List.set_cons_succ]
                    refine wpAnyH_take (i := 6) (v := ?_) rfl (by kernel_rfl) (by kernel_rfl) (by kernel_rfl) (fun _ _ _ h => h) (Or.inl ⟨by kernel_rfl, ?_⟩) (by assumption) ?_
                    rotate_left
                    · intro w hSw
                      try dsimp only at hSw
                      go_simp
                      try with_reducible rfl
                    simp only [List.getElem_toArray, List.getElem_cons_succ, List.getElem_cons_zero, Act.put, List.setIfInBounds_toArray, List.set_cons_zero, List.set_cons_succ]
                    refine wpAnyH_take (i := 7) (v := ?_) rfl (by kernel_rfl) (by kernel_rfl) (by kernel_rfl) (fun _ _ _ h => h) (Or.inl ⟨by kernel_rfl, ?_⟩) (by assumption) ?_
                    rotate_left
                    · intro w hSw
                      try dsimp only at hSw
                      go_simp
                      try with_reducible rfl
                    simp only [List.getElem_toArray, List.getElem_cons_succ, List.getElem_cons_zero, Act.put, List.setIfInBounds_toArray, List.set_cons_zero, List.set_cons_succ]
                    refine wpAnyH_take (i := 8) (v := ?_) rfl (by kernel_rfl) (by kernel_rfl) (by kernel_rfl) (fun _ _ _ h => h) (Or.inl ⟨by kernel_rfl, ?_⟩) (by assumption) ?_
                    rotate_left
                    · intro w hSw
                      try dsimp only at hSw
                      go_simp
                      try with_reducible rfl
                    simp only [List.getElem_toArray, List.getElem_cons_succ, List.getElem_cons_zero, Act.put, List.setIfInBounds_toArray, List.set_cons_zero, List.set_cons_succ]
                    refine wpAnyH_take (i := 9) (v := ?_) rfl (by kernel_rfl) (by kernel_rfl) (by kernel_rfl) (fun _ _ _ h => h) (Or.inl ⟨by kernel_rfl, ?_⟩) (by assumption) ?_
                    rotate_left
                    · intro w hSw
                      try dsimp only at hSw
                      go_simp
                      try with_reducible rfl
                    simp only [List.getElem_toArray, List.getElem_cons_succ, List.getElem_cons_zero, Act.put, List.setIfInBounds_toArray, List.set_cons_zero, List.set_cons_succ]
                    refine wpAnyH_take (i := 10) (v := ?_) rfl (by kernel_rfl) (by kernel_rfl) (by kernel_rfl) (fun _ _ _ h => h) (Or.inl ⟨by kernel_rfl, ?_⟩) (by assumption) ?_
                    rotate_left
                    · intro w hSw
                      try dsimp only at hSw
                      go_simp
                      try with_reducible rfl
                    simp only [List.getElem_toArray, List.getElem_cons_succ, List.getElem_cons_zero, Act.put, List.setIfInBounds_toArray, List.set_cons_zero, List.set_cons_succ]
                    refine wpAnyH_take (i := 11) (v := ?_) rfl (by kernel_rfl) (by kernel_rfl) (by kernel_rfl) (fun _ _ _ h => h) (Or.inl ⟨by kernel_rfl, ?_⟩) (by assumption) ?_
                    rotate_left
                    · intro w hSw
                      try dsimp only at hSw
                      go_simp
                      try with_reducible rfl
                    simp only [List.getElem_toArray, List.getElem_cons_succ, List.getElem_cons_zero, Act.put, List.setIfInBounds_toArray, List.set_cons_zero, List.set_cons_succ]
                    refine wpAnyH_take (i := 12) (v := ?_) rfl (by kernel_rfl) (by kernel_rfl) (by kernel_rfl) (fun _ _ _ h => h) (Or.inl ⟨by kernel_rfl, ?_⟩) (by assumption) ?_
                    rotate_left
                    · intro w hSw
                      try dsimp only at hSw
                      go_simp
                      try with_reducible rfl
                    simp only [List.getElem_toArray, List.getElem_cons_succ, List.getElem_cons_zero, Act.put, List.setIfInBounds_toArray, List.set_cons_zero, List.set_cons_succ]
                    refine wpAnyH_take (i := 13) (v := ?_) rfl (by kernel_rfl) (by kernel_rfl) (by kernel_rfl) (fun _ _ _ h => h) (Or.inl ⟨by kernel_rfl, ?_⟩) (by assumption) ?_
                    rotate_left
                    · intro w hSw
                      try dsimp only at hSw
                      go_simp
                      try with_reducible rfl
                    simp only [List.getElem_toArray, List.getElem_cons_succ, List.getElem_cons_zero, Act.put, List.setIfInBounds_toArray, List.set_cons_zero, List.set_cons_succ]
                    refine wpAnyH_take (i := 14) (v := ?_) rfl (by kernel_rfl) (by kernel_rfl) (by kernel_rfl) (fun _ _ _ h => h) (Or.inl ⟨by kernel_rfl, ?_⟩) (by assumption) ?_
                    rotate_left
                    · intro w hSw
                      try dsimp only at hSw
                      go_simp
                      try with_reducible rfl
                    simp only [List.getElem_toArray, List.getElem_cons_succ, List.getElem_cons_zero, Act.put, List.setIfInBounds_toArray, List.set_cons_zero, List.set_cons_succ]
                    refine wpAnyH_take (i := 15) (v := ?_) rfl (by kernel_rfl) (by kernel_rfl) (by kernel_rfl) (fun _ _ _ h => h) (Or.inl ⟨by kernel_rfl, ?_⟩) (by assumption) ?_
                    rotate_left
                    · intro w hSw
                      try dsimp only at hSw
                      go_simp
                      try with_reducible rfl
                    simp only [List.getElem_toArray, List.getElem_cons_succ, List.getElem_cons_zero, Act.put, List.setIfInBounds_toArray, List.set_cons_zero, List.set_cons_succ]
                    clear hHeld
                    refine wpAnyH_done (by kernel_rfl) ?_ _
                    go_wp2
                    go_meet
                    exact ⟨rfl, rfl, Bb⟩
                  case rest =>
                    obtain ⟨rfl, rfl, bF⟩ := hcut
                    replace V := V.later bF
                    replace hy := var_later hy bF
                    clear bF hmin1 hmin2 hks24 hkg12
                    obtain ⟨k1, k2, k3, k4⟩ := taken_masks HDK.out
                    rw [HKS.out] at k1
                    rw [HKG.out] at k2
                    obtain ⟨n1, n2, n3, n4, n5, n6⟩ := taken_nums HDK.out
                    obtain ⟨Y, hY⟩ : ∃ Y, showL y = Y := ⟨_, rfl⟩
                    rw [hY] at hy
                    have szy : (Try.prog.info? 56).map (·.size) = some Y.length := by rw [← hY]; exact show_size _
                    have HXC := Lib.hid (show 0 ≤ y.code ∧ y.code ≤ 255 by omega)
                    have HYY := Lib.hid hY
                    have Y0 := Lib.hid (show Y[0]? = some (.int .u32 y.clear.toNat) by rw [← hY]; rfl)
                    have Y1 := Lib.hid (show Y[1]? = some (.int .u32 y.held.toNat) by rw [← hY]; rfl)
                    have Y2 := Lib.hid (show Y[2]? = some (.int .u32 y.normal.toNat) by rw [← hY]; rfl)
                    have Y3 := Lib.hid (show Y[3]? = some (.int .u32 y.reverse.toNat) by rw [← hY]; rfl)
                    have Y4 := Lib.hid (show Y[4]? = some (.int .u32 y.locked.toNat) by rw [← hY]; rfl)
                    have Y5 := Lib.hid (show Y[5]? = some (.int .u32 y.off.toNat) by rw [← hY]; rfl)
                    have Y6 := Lib.hid (show Y[6]? = some (.int .u32 y.steady.toNat) by rw [← hY]; rfl)
                    have Y7 := Lib.hid (show Y[7]? = some (.int .u32 y.flash.toNat) by rw [← hY]; rfl)
                    have Y8 := Lib.hid (show Y[8]? = some (.int .u32 y.autos.toNat) by rw [← hY]; rfl)
                    have Y9 := Lib.hid (show Y[9]? = some (.int .u8 y.code) by rw [← hY]; rfl)
                    have Y10 := Lib.hid (show Y[10]? = some (.int .i64 y.waiting) by rw [← hY]; rfl)
                    have Y11 := Lib.hid (show Y[11]? = some (.int .i64 y.errors) by rw [← hY]; rfl)
                    have HNN := Lib.hid (And.intro (And.intro n2 (And.intro n3 n4)) (And.intro n5 n6))
                    clear hY n1 n2 n3 n4 n5 n6
                    go_upto_region 15 with (fail)
                    go_cut [164] from 116 to 163 (fun x164 wx => x164 = .bool false ∧ wx = wc)
                    case first =>
                      have x0 := cell_list hy Y0.out
                      have x1 := cell_list hy Y1.out
                      have x2 := cell_list hy Y2.out
                      have x3 := cell_list hy Y3.out
                      have x4 := cell_list hy Y4.out
                      have x5 := cell_list hy Y5.out
                      have x6 := cell_list hy Y6.out
                      have x7 := cell_list hy Y7.out
                      have x8 := cell_list hy Y8.out
                      generalize y.clear = f0 at *
                      generalize y.held = f1 at *
                      generalize y.normal = f2 at *
                      generalize y.reverse = f3 at *
                      generalize y.locked = f4 at *
                      generalize y.off = f5 at *
                      generalize y.steady = f6 at *
                      generalize y.flash = f7 at *
                      generalize y.autos = f8 at *
                      generalize maskN ks = m1 at *
                      generalize maskN kg = m2 at *
                      have r1 : Go.bits .or .u32 (f0.toNat : Int) (f1.toNat : Int) = ((f0 ||| f1).toNat : Int) := Bv.bits_or .u32 rfl f0 f1
                      generalize f0 ||| f1 = z1 at *
                      have r2 : Go.bits .or .u32 (z1.toNat : Int) (f2.toNat : Int) = ((z1 ||| f2).toNat : Int) := Bv.bits_or .u32 rfl z1 f2
                      generalize z1 ||| f2 = z2 at *
                      have r3 : Go.bits .or .u32 (z2.toNat : Int) (f3.toNat : Int) = ((z2 ||| f3).toNat : Int) := Bv.bits_or .u32 rfl z2 f3
                      generalize z2 ||| f3 = z3 at *
                      have r4 : Go.bits .or .u32 (z3.toNat : Int) (f4.toNat : Int) = ((z3 ||| f4).toNat : Int) := Bv.bits_or .u32 rfl z3 f4
                      generalize z3 ||| f4 = z4 at *
                      have r5 : Go.bits .andNot .u32 (z4.toNat : Int) (m1.toNat : Int) = 0 := (Bv.bits_andNot .u32 rfl z4 m1).trans (congrArg (fun z : BitVec 32 => (z.toNat : Int)) k1)
                      have r6 : Go.bits .or .u32 (f5.toNat : Int) (f6.toNat : Int) = ((f5 ||| f6).toNat : Int) := Bv.bits_or .u32 rfl f5 f6
                      generalize f5 ||| f6 = z5 at *
                      have r7 : Go.bits .or .u32 (z5.toNat : Int) (f7.toNat : Int) = ((z5 ||| f7).toNat : Int) := Bv.bits_or .u32 rfl z5 f7
                      generalize z5 ||| f7 = z6 at *
                      have r8 : Go.bits .or .u32 (z6.toNat : Int) (f8.toNat : Int) = ((z6 ||| f8).toNat : Int) := Bv.bits_or .u32 rfl z6 f8
                      generalize z6 ||| f8 = z7 at *
                      have r9 : Go.bits .andNot .u32 (z7.toNat : Int) (m2.toNat : Int) = 0 := (Bv.bits_andNot .u32 rfl z7 m2).trans (congrArg (fun z : BitVec 32 => (z.toNat : Int)) k2)
                      have r10 : Go.bits .and .u32 (f2.toNat : Int) (f3.toNat : Int) = 0 := (Bv.bits_and .u32 rfl f2 f3).trans (congrArg (fun z : BitVec 32 => (z.toNat : Int)) k3)
                      have r11 : Go.bits .and .u32 (f6.toNat : Int) (f7.toNat : Int) = 0 := (Bv.bits_and .u32 rfl f6 f7).trans (congrArg (fun z : BitVec 32 => (z.toNat : Int)) k4)
                      clear k1 k2 k3 k4
                      go_wp2
                      go_meet
                      exact ⟨rfl, rfl⟩
                    case rest =>
                      obtain ⟨rfl, rfl⟩ := hcut
                      clear k1 k2 k3 k4
                      go_upto_region 17 with (fail)
                      have cvl : ∀ W : World, SliceAt W 1 (.slice Au pl.length cu) pl.length (u8s pl) → (convert 60 9 (.slice Au pl.length cu)).run Try.prog W = .ok (.string (strOf pl)) W := fun W h => conv_str (P := Try.prog) (dst := 9) h Try.underlying60 Try.underlying5 Try.underlying9
                      have CP := Lib.hid (fun (W : World) (h : LY W L kinds ss nsig clr st A c A1 c1) => HYY.out ▸ Put_c L kinds ss nsig clr st A c A1 c1 y W h HXC.out HK2.out)
                      obtain ⟨⟨n2, n3, n4⟩, n5, n6⟩ := HNN.out
                      generalize y.code = cd at *
                      generalize y.waiting = wt at *
                      generalize y.errors = er at *
                      have d1 : decide (cd ≤ 7) = true := decide_eq_true n2
                      have d2 : decide (0 ≤ wt) = true := decide_eq_true n3
                      have d3 : decide (wt ≤ 7) = true := decide_eq_true n4
                      have d4 : decide (0 ≤ er) = true := decide_eq_true n5
                      have d5 : decide (er ≤ 255) = true := decide_eq_true n6
                      refine wp_region_held_drew (S := (fun w' => (w'.rangeAt w.heap.size 0 L ∧ w'.rangeAt g14 0 Y ∧ (convert 60 9 (.slice Au pl.length cu)).run Try.prog w' = .ok (.string (strOf pl)) w') ∧ w'.cell? ⟨g14, 9, none⟩ = some (.int .u8 cd) ∧ w'.cell? ⟨g14, 10, none⟩ = some (.int .i64 wt) ∧ w'.cell? ⟨g14, 11, none⟩ = some (.int .i64 er))) (by kernel_rfl) ?_ (fun hHeld => ?_)
                      · have bd : Below wc.heap.size wc wc.drew := (Below.refl _ wc).drew
                        have hy' := var_later hy bd
                        exact ⟨⟨range_of V.l, range_of hy, cvl _ (V.later bd).up⟩, cell_list hy' Y9.out, cell_list hy' Y10.out, cell_list hy' Y11.out⟩
                      have Bb : Below wc.heap.size wc wc.drew := (Below.refl _ wc).drew
                      replace V := V.later Bb
                      replace hy := var_later hy Bb
                      clear Bb
                      generalize wc.drew = X1 at *
                      refine wpAnyH_take (i := 0) (v := .agg (L : List Value).toArray) rfl (by kernel_rfl) (by kernel_rfl) (by kernel_rfl) (fun _ _ _ h => h) (yieldsIf_load_mid (by kernel_rfl) 29 (.tmp 3) (by kernel_rfl) (w.heap.size) 0 (by kernel_rfl) L _ (fun w' h => h.1.1) (by first | exact Try.underlying29) rfl (by first | assumption | (simp only [*]; kernel_rfl))) (by assumption) ?_
                      try simp only [List.getElem_toArray, List.getElem_cons_succ, List.getElem_cons_zero, Act.put, List.setIfInBounds_toArray, List.set_cons_zero, List.set_cons_succ]
                      refine wpAnyH_take (i := 1) (v := .agg (Y : List Value).toArray) rfl (by kernel_rfl) (by kernel_rfl) (by kernel_rfl) (fun _ _ _ h => h) (yieldsIf_load_mid (by kernel_rfl) 56 (.tmp 14) (by kernel_rfl) (g14) 0 (by kernel_rfl) Y _ (fun w' h => h.1.2.1) (by first | exact Try.underlying56) rfl (by first | assumption | (simp only [*]; kernel_rfl))) (by assumption) ?_
                      try simp only [List.getElem_toArray, List.getElem_cons_succ, List.getElem_cons_zero, Act.put, List.setIfInBounds_toArray, List.set_cons_zero, List.set_cons_succ]
                      refine wpAnyH_take (i := 4) (v := ?_) rfl (by kernel_rfl) (by kernel_rfl) (by kernel_rfl) (fun _ _ _ h => h) (Or.inl ⟨by kernel_rfl, ?_⟩) (by assumption) ?_
                      rotate_left
                      · intro w hSw
                        try dsimp only at hSw
                        go_simp
                        try with_reducible rfl
                      simp only [List.getElem_toArray, List.getElem_cons_succ, List.getElem_cons_zero, Act.put, List.setIfInBounds_toArray, List.set_cons_zero, List.set_cons_succ]
                      refine wpAnyH_take (i := 5) (v := ?_) rfl (by kernel_rfl) (by kernel_rfl) (by kernel_rfl) (fun _ _ _ h => h) (Or.inl ⟨by kernel_rfl, ?_⟩) (by assumption) ?_
                      rotate_left
                      · intro w hSw
                        try dsimp only at hSw
                        go_simp
                        try with_reducible rfl
                      simp only [List.getElem_toArray, List.getElem_cons_succ, List.getElem_cons_zero, Act.put, List.setIfInBounds_toArray, List.set_cons_zero, List.set_cons_succ]
                      clear hHeld
                      refine ready1 (i := 2) rfl (by kernel_rfl) (by kernel_rfl) (fun K hK => ?_)
                      refine Node.wp_fn 11 [.tmp 165, .tmp 166] _ [.agg L.toArray, .agg Y.toArray] (by rfl) (by kernel_rfl) (enters Try.func11 (by kernel_rfl) rfl) (CP.out _ V.ly) ?_
                      rintro e X3 ⟨bF, A2, c2, B2, rfl, ho, hh⟩
                      refine ⟨_, rfl, ?_⟩
                      obtain rfl : B2 = pl := holds_unique hh HPY.out
                      replace V := V.later bF
                      replace hy := var_later hy bF
                      have s2 := sliceAt_of_own ho
                      clear bF hh ho
                      refine hK.out _ _ ⟨⟨range_of V.l, range_of hy, cvl _ V.up⟩, cell_list hy Y9.out, cell_list hy Y10.out, cell_list hy Y11.out⟩ (fun _ => ?_)
                      clear hK K
                      try simp only [List.getElem_toArray, List.getElem_cons_succ, List.getElem_cons_zero, Act.put, List.setIfInBounds_toArray, List.set_cons_zero, List.set_cons_succ]
                      have cv2 : (convert 60 9 (.slice A2 B2.length c2)).run Try.prog X3 = .ok (.string (strOf B2)) X3 := conv_str (P := Try.prog) (dst := 9) s2 Try.underlying60 Try.underlying5 Try.underlying9
                      refine strengthen (S' := fun w' => ((w'.rangeAt w.heap.size 0 L ∧ w'.rangeAt g14 0 Y ∧ (convert 60 9 (.slice Au B2.length cu)).run Try.prog w' = .ok (.string (strOf B2)) w') ∧ w'.cell? ⟨g14, 9, none⟩ = some (.int .u8 cd) ∧ w'.cell? ⟨g14, 10, none⟩ = some (.int .i64 wt) ∧ w'.cell? ⟨g14, 11, none⟩ = some (.int .i64 er)) ∧ (convert 60 9 (.slice A2 B2.length c2)).run Try.prog w' = .ok (.string (strOf B2)) w') (fun w h => h.1) _ _ _ _ ?_
                      have hHeld : ((X3.rangeAt w.heap.size 0 L ∧ X3.rangeAt g14 0 Y ∧ (convert 60 9 (.slice Au B2.length cu)).run Try.prog X3 = .ok (.string (strOf B2)) X3) ∧ X3.cell? ⟨g14, 9, none⟩ = some (.int .u8 cd) ∧ X3.cell? ⟨g14, 10, none⟩ = some (.int .i64 wt) ∧ X3.cell? ⟨g14, 11, none⟩ = some (.int .i64 er)) ∧ (convert 60 9 (.slice A2 B2.length c2)).run Try.prog X3 = .ok (.string (strOf B2)) X3 := ⟨⟨⟨range_of V.l, range_of hy, cvl _ V.up⟩, cell_list hy Y9.out, cell_list hy Y10.out, cell_list hy Y11.out⟩, cv2⟩
                      refine wpAnyH_take (i := 3) (v := ?_) rfl (by kernel_rfl) (by kernel_rfl) (by kernel_rfl) (fun _ _ _ h => h) (Or.inl ⟨by kernel_rfl, ?_⟩) (by assumption) ?_
                      rotate_left
                      · intro w hSw
                        try dsimp only at hSw
                        go_simp
                        try with_reducible rfl
                      simp only [List.getElem_toArray, List.getElem_cons_succ, List.getElem_cons_zero, Act.put, List.setIfInBounds_toArray, List.set_cons_zero, List.set_cons_succ]
                      refine wpAnyH_take (i := 6) (v := ?_) rfl (by kernel_rfl) (by kernel_rfl) (by kernel_rfl) (fun _ _ _ h => h) (Or.inl ⟨by kernel_rfl, ?_⟩) (by assumption) ?_
                      rotate_left
                      · intro w hSw
                        try dsimp only at hSw
                        go_simp
                        try with_reducible rfl
                      simp only [List.getElem_toArray, List.getElem_cons_succ, List.getElem_cons_zero, Act.put, List.setIfInBounds_toArray, List.set_cons_zero, List.set_cons_succ]
                      refine wpAnyH_take (i := 7) (v := ?_) rfl (by kernel_rfl) (by kernel_rfl) (by kernel_rfl) (fun _ _ _ h => h) (Or.inl ⟨by kernel_rfl, ?_⟩) (by assumption) ?_
                      rotate_left
                      · intro w hSw
                        try dsimp only at hSw
                        go_simp
                        try with_reducible rfl
                      simp only [List.getElem_toArray, List.getElem_cons_succ, List.getElem_cons_zero, Act.put, List.setIfInBounds_toArray, List.set_cons_zero, List.set_cons_succ]
                      refine wpAnyH_take (i := 8) (v := ?_) rfl (by kernel_rfl) (by kernel_rfl) (by kernel_rfl) (fun _ _ _ h => h) (Or.inl ⟨by kernel_rfl, ?_⟩) (by assumption) ?_
                      rotate_left
                      · intro w hSw
                        try dsimp only at hSw
                        go_simp
                        try with_reducible rfl
                      simp only [List.getElem_toArray, List.getElem_cons_succ, List.getElem_cons_zero, Act.put, List.setIfInBounds_toArray, List.set_cons_zero, List.set_cons_succ]
                      refine wpAnyH_take (i := 9) (v := ?_) rfl (by kernel_rfl) (by kernel_rfl) (by kernel_rfl) (fun _ _ _ h => h) (Or.inl ⟨by kernel_rfl, ?_⟩) (by assumption) ?_
                      rotate_left
                      · intro w hSw
                        try dsimp only at hSw
                        go_simp
                        try with_reducible rfl
                      simp only [List.getElem_toArray, List.getElem_cons_succ, List.getElem_cons_zero, Act.put, List.setIfInBounds_toArray, List.set_cons_zero, List.set_cons_succ]
                      refine wpAnyH_take (i := 10) (v := ?_) rfl (by kernel_rfl) (by kernel_rfl) (by kernel_rfl) (fun _ _ _ h => h) (Or.inl ⟨by kernel_rfl, ?_⟩) (by assumption) ?_
                      rotate_left
                      · intro w hSw
                        try dsimp only at hSw
                        go_simp
                        try with_reducible rfl
                      simp only [List.getElem_toArray, List.getElem_cons_succ, List.getElem_cons_zero, Act.put, List.setIfInBounds_toArray, List.set_cons_zero, List.set_cons_succ]
                      refine wpAnyH_take (i := 11) (v := ?_) rfl (by kernel_rfl) (by kernel_rfl) (by kernel_rfl) (fun _ _ _ h => h) (Or.inl ⟨by kernel_rfl, ?_⟩) (by assumption) ?_
                      rotate_left
                      · intro w hSw
                        try dsimp only at hSw
                        go_simp
                        try with_reducible rfl
                      simp only [List.getElem_toArray, List.getElem_cons_succ, List.getElem_cons_zero, Act.put, List.setIfInBounds_toArray, List.set_cons_zero, List.set_cons_succ]
                      refine wpAnyH_take (i := 12) (v := ?_) rfl (by kernel_rfl) (by kernel_rfl) (by kernel_rfl) (fun _ _ _ h => h) (Or.inl ⟨by kernel_rfl, ?_⟩) (by assumption) ?_
                      rotate_left
                      · intro w hSw
                        try dsimp only at hSw
                        go_simp
                        try with_reducible rfl
                      simp only [List.getElem_toArray, List.getElem_cons_succ, List.getElem_cons_zero, Act.put, List.setIfInBounds_toArray, List.set_cons_zero, List.set_cons_succ]
                      refine wpAnyH_take (i := 13) (v := ?_) rfl (by kernel_rfl) (by kernel_rfl) (by kernel_rfl) (fun _ _ _ h => h) (Or.inl ⟨by kernel_rfl, ?_⟩) (by assumption) ?_
                      rotate_left
                      · intro w hSw
                        try dsimp only at hSw
                        go_simp
                        try with_reducible rfl
                      simp only [List.getElem_toArray, List.getElem_cons_succ, List.getElem_cons_zero, Act.put, List.setIfInBounds_toArray, List.set_cons_zero, List.set_cons_succ]
                      refine wpAnyH_take (i := 14) (v := ?_) rfl (by kernel_rfl) (by kernel_rfl) (by kernel_rfl) (fun _ _ _ h => h) (Or.inl ⟨by kernel_rfl, ?_⟩) (by assumption) ?_
                      rotate_left
                      · intro w hSw
                        try dsimp only at hSw
                        go_simp
                        try with_reducible rfl
                      simp only [List.getElem_toArray, List.getElem_cons_succ, List.getElem_cons_zero, Act.put, List.setIfInBounds_toArray, List.set_cons_zero, List.set_cons_succ]
                      refine wpAnyH_take (i := 15) (v := ?_) rfl (by kernel_rfl) (by kernel_rfl) (by kernel_rfl) (fun _ _ _ h => h) (Or.inl ⟨by kernel_rfl, ?_⟩) (by assumption) ?_
                      rotate_left
                      · intro w hSw
                        try dsimp only at hSw
                        go_simp
                        try with_reducible rfl
                      simp only [List.getElem_toArray, List.getElem_cons_succ, List.getElem_cons_zero, Act.put, List.setIfInBounds_toArray, List.set_cons_zero, List.set_cons_succ]
                      refine wpAnyH_take (i := 16) (v := ?_) rfl (by kernel_rfl) (by kernel_rfl) (by kernel_rfl) (fun _ _ _ h => h) (Or.inl ⟨by kernel_rfl, ?_⟩) (by assumption) ?_
                      rotate_left
                      · intro w hSw
                        try dsimp only at hSw
                        go_simp
                        try with_reducible rfl
                      simp only [List.getElem_toArray, List.getElem_cons_succ, List.getElem_cons_zero, Act.put, List.setIfInBounds_toArray, List.set_cons_zero, List.set_cons_succ]
                      refine wpAnyH_take (i := 17) (v := ?_) rfl (by kernel_rfl) (by kernel_rfl) (by kernel_rfl) (fun _ _ _ h => h) (Or.inl ⟨by kernel_rfl, ?_⟩) (by assumption) ?_
                      rotate_left
                      · intro w hSw
                        try dsimp only at hSw
                        go_simp
                        try with_reducible rfl
                      simp only [List.getElem_toArray, List.getElem_cons_succ, List.getElem_cons_zero, Act.put, List.setIfInBounds_toArray, List.set_cons_zero, List.set_cons_succ]
                      refine wpAnyH_take (i := 18) (v := ?_) rfl (by kernel_rfl) (by kernel_rfl) (by kernel_rfl) (fun _ _ _ h => h) (Or.inl ⟨by kernel_rfl, ?_⟩) (by assumption) ?_
                      rotate_left
                      · intro w hSw
                        try dsimp only at hSw
                        go_simp
                        try with_reducible rfl
                      simp only [List.getElem_toArray, List.getElem_cons_succ, List.getElem_cons_zero, Act.put, List.setIfInBounds_toArray, List.set_cons_zero, List.set_cons_succ]
                      refine wpAnyH_take (i := 19) (v := ?_) rfl (by kernel_rfl) (by kernel_rfl) (by kernel_rfl) (fun _ _ _ h => h) (Or.inl ⟨by kernel_rfl, ?_⟩) (by assumption) ?_
                      rotate_left
                      · intro w hSw
                        try dsimp only at hSw
                        go_simp
                        try with_reducible rfl
                      simp only [List.getElem_toArray, List.getElem_cons_succ, List.getElem_cons_zero, Act.put, List.setIfInBounds_toArray, List.set_cons_zero, List.set_cons_succ]
                      refine wpAnyH_take (i := 20) (v := ?_) rfl (by kernel_rfl) (by kernel_rfl) (by kernel_rfl) (fun _ _ _ h => h) (Or.inl ⟨by kernel_rfl, ?_⟩) (by assumption) ?_
                      rotate_left
                      · intro w hSw
                        try dsimp only at hSw
                        go_simp
                        try with_reducible rfl
                      simp only [List.getElem_toArray, List.getElem_cons_succ, List.getElem_cons_zero, Act.put, List.setIfInBounds_toArray, List.set_cons_zero, List.set_cons_succ]
                      refine wpAnyH_take (i := 21) (v := ?_) rfl (by kernel_rfl) (by kernel_rfl) (by kernel_rfl) (fun _ _ _ h => h) (Or.inl ⟨by kernel_rfl, ?_⟩) (by assumption) ?_
                      rotate_left
                      · intro w hSw
                        try dsimp only at hSw
                        go_simp
                        try with_reducible rfl
                      simp only [List.getElem_toArray, List.getElem_cons_succ, List.getElem_cons_zero, Act.put, List.setIfInBounds_toArray, List.set_cons_zero, List.set_cons_succ]
                      refine wpAnyH_take (i := 22) (v := ?_) rfl (by kernel_rfl) (by kernel_rfl) (by kernel_rfl) (fun _ _ _ h => h) (Or.inl ⟨by kernel_rfl, ?_⟩) (by assumption) ?_
                      rotate_left
                      · intro w hSw
                        try dsimp only at hSw
                        go_simp
                        try with_reducible rfl
                      simp only [List.getElem_toArray, List.getElem_cons_succ, List.getElem_cons_zero, Act.put, List.setIfInBounds_toArray, List.set_cons_zero, List.set_cons_succ]
                      refine wpAnyH_take (i := 23) (v := ?_) rfl (by kernel_rfl) (by kernel_rfl) (by kernel_rfl) (fun _ _ _ h => h) (Or.inl ⟨by kernel_rfl, ?_⟩) (by assumption) ?_
                      rotate_left
                      · intro w hSw
                        try dsimp only at hSw
                        go_simp
                        try with_reducible rfl
                      simp only [List.getElem_toArray, List.getElem_cons_succ, List.getElem_cons_zero, Act.put, List.setIfInBounds_toArray, List.set_cons_zero, List.set_cons_succ]
                      refine wpAnyH_take (i := 24) (v := ?_) rfl (by kernel_rfl) (by kernel_rfl) (by kernel_rfl) (fun _ _ _ h => h) (Or.inl ⟨by kernel_rfl, ?_⟩) (by assumption) ?_
                      rotate_left
                      · intro w hSw
                        try dsimp only at hSw
                        go_simp
                        try with_reducible rfl
                      simp only [List.getElem_toArray, List.getElem_cons_succ, List.getElem_cons_zero, Act.put, List.setIfInBounds_toArray, List.set_cons_zero, List.set_cons_succ]
                      refine wpAnyH_take (i := 25) (v := ?_) rfl (by kernel_rfl) (by kernel_rfl) (by kernel_rfl) (fun _ _ _ h => h) (Or.inl ⟨by kernel_rfl, ?_⟩) (by assumption) ?_
                      rotate_left
                      · intro w hSw
                        try dsimp only at hSw
                        go_simp
                        try with_reducible rfl
                      simp only [List.getElem_toArray, List.getElem_cons_succ, List.getElem_cons_zero, Act.put, List.setIfInBounds_toArray, List.set_cons_zero, List.set_cons_succ]
                      refine wpAnyH_take (i := 26) (v := ?_) rfl (by kernel_rfl) (by kernel_rfl) (by kernel_rfl) (fun _ _ _ h => h) (Or.inl ⟨by kernel_rfl, ?_⟩) (by assumption) ?_
                      rotate_left
                      · intro w hSw
                        try dsimp only at hSw
                        go_simp
                        try with_reducible rfl
                      simp only [List.getElem_toArray, List.getElem_cons_succ, List.getElem_cons_zero, Act.put, List.setIfInBounds_toArray, List.set_cons_zero, List.set_cons_succ]
                      refine wpAnyH_take (i := 27) (v := ?_) rfl (by kernel_rfl) (by kernel_rfl) (by kernel_rfl) (fun _ _ _ h => h) (Or.inl ⟨by kernel_rfl, ?_⟩) (by assumption) ?_
                      rotate_left
                      · intro w hSw
                        try dsimp only at hSw
                        go_simp
                        try with_reducible rfl
                      simp only [List.getElem_toArray, List.getElem_cons_succ, List.getElem_cons_zero, Act.put, List.setIfInBounds_toArray, List.set_cons_zero, List.set_cons_succ]
                      refine wpAnyH_take (i := 28) (v := ?_) rfl (by kernel_rfl) (by kernel_rfl) (by kernel_rfl) (fun _ _ _ h => h) (Or.inl ⟨by kernel_rfl, ?_⟩) (by assumption) ?_
                      rotate_left
                      · intro w hSw
                        try dsimp only at hSw
                        go_simp
                        try with_reducible rfl
                      simp only [List.getElem_toArray, List.getElem_cons_succ, List.getElem_cons_zero, Act.put, List.setIfInBounds_toArray, List.set_cons_zero, List.set_cons_succ]
                      refine wpAnyH_take (i := 29) (v := ?_) rfl (by kernel_rfl) (by kernel_rfl) (by kernel_rfl) (fun _ _ _ h => h) (Or.inl ⟨by kernel_rfl, ?_⟩) (by assumption) ?_
                      rotate_left
                      · intro w hSw
                        try dsimp only at hSw
                        go_simp
                        try with_reducible rfl
                      simp only [List.getElem_toArray, List.getElem_cons_succ, List.getElem_cons_zero, Act.put, List.setIfInBounds_toArray, List.set_cons_zero, List.set_cons_succ]
                      refine wpAnyH_take (i := 30) (v := ?_) rfl (by kernel_rfl) (by kernel_rfl) (by kernel_rfl) (fun _ _ _ h => h) (Or.inl ⟨by kernel_rfl, ?_⟩) (by assumption) ?_
                      rotate_left
                      · intro w hSw
                        try dsimp only at hSw
                        go_simp
                        try with_reducible rfl
                      simp only [List.getElem_toArray, List.getElem_cons_succ, List.getElem_cons_zero, Act.put, List.setIfInBounds_toArray, List.set_cons_zero, List.set_cons_succ]
                      refine wpAnyH_take (i := 31) (v := ?_) rfl (by kernel_rfl) (by kernel_rfl) (by kernel_rfl) (fun _ _ _ h => h) (Or.inl ⟨by kernel_rfl, ?_⟩) (by assumption) ?_
                      rotate_left
                      · intro w hSw
                        try dsimp only at hSw
                        go_simp
                        try with_reducible rfl
                      simp only [List.getElem_toArray, List.getElem_cons_succ, List.getElem_cons_zero, Act.put, List.setIfInBounds_toArray, List.set_cons_zero, List.set_cons_succ]
                      refine wpAnyH_take (i := 32) (v := ?_) rfl (by kernel_rfl) (by kernel_rfl) (by kernel_rfl) (fun _ _ _ h => h) (Or.inl ⟨by kernel_rfl, ?_⟩) (by assumption) ?_
                      rotate_left
                      · intro w hSw
                        try dsimp only at hSw
                        go_simp
                        try with_reducible rfl
                      simp only [List.getElem_toArray, List.getElem_cons_succ, List.getElem_cons_zero, Act.put, List.setIfInBounds_toArray, List.set_cons_zero, List.set_cons_succ]
                      clear hHeld
                      refine ready1 (i := 33) rfl (by kernel_rfl) (by kernel_rfl) (fun K hK => ?_)
                      refine Node.wp_fn 8 [] _ [] (by rfl) (by kernel_rfl) (enters Try.func8 (by kernel_rfl) rfl) (wakes28_c X3) ?_
                      rintro e X4 ⟨rfl, bF⟩
                      refine ⟨_, rfl, ?_⟩
                      replace V := V.later bF
                      replace hy := var_later hy bF
                      have cv3 : (convert 60 9 (.slice A2 B2.length c2)).run Try.prog X4 = .ok (.string (strOf B2)) X4 := conv_str (P := Try.prog) (dst := 9) (s2.later bF) Try.underlying60 Try.underlying5 Try.underlying9
                      clear bF
                      refine hK.out _ _ ⟨⟨⟨range_of V.l, range_of hy, cvl _ V.up⟩, cell_list hy Y9.out, cell_list hy Y10.out, cell_list hy Y11.out⟩, cv3⟩ (fun hHeld => ?_)
                      clear hK K
                      try simp only [List.getElem_toArray, List.getElem_cons_succ, List.getElem_cons_zero, Act.put, List.setIfInBounds_toArray, List.set_cons_zero, List.set_cons_succ]
                      refine wpAnyH_take (i := 34) (v := ?_) rfl (by kernel_rfl) (by kernel_rfl) (by kernel_rfl) (fun _ _ _ h => h) (Or.inl ⟨by kernel_rfl, ?_⟩) (by assumption) ?_
                      rotate_left
                      · intro w hSw
                        try dsimp only at hSw
                        go_simp
                        try with_reducible rfl
                      simp only [List.getElem_toArray, List.getElem_cons_succ, List.getElem_cons_zero, Act.put, List.setIfInBounds_toArray, List.set_cons_zero, List.set_cons_succ]
                      refine wpAnyH_take (i := 35) (v := ?_) rfl (by kernel_rfl) (by kernel_rfl) (by kernel_rfl) (fun _ _ _ h => h) (Or.inl ⟨by kernel_rfl, ?_⟩) (by assumption) ?_
                      rotate_left
                      · intro w hSw
                        try dsimp only at hSw
                        go_simp
                        try with_reducible rfl
                      simp only [List.getElem_toArray, List.getElem_cons_succ, List.getElem_cons_zero, Act.put, List.setIfInBounds_toArray, List.set_cons_zero, List.set_cons_succ]
                      clear hHeld
                      refine wpAnyH_done (by kernel_rfl) ?_ _
                      go_wp2
                      go_ret
                      exact ⟨rfl, V.bel⟩

theorem own : ownKnob Try.prog.godebug = none := by kernel_rfl
theorem laidOut : laidOutB Try.prog = true := by kernel_rfl
noncomputable def wit (os : Os) : World := World.holding Try.prog os ⟨#[], #[], []⟩
set_option maxRecDepth 100000 in
theorem lifted (os : Os) (started : os.Started) (H : Type) (enc : TypeId × Value → H) (F : Stop.Interp) :
    ReturnsInHanded {} Try.checked os 4 .any ((OpenSpec.ofChange Rows.showOnlySpec).preRow enc Try.prog Try.f4 Rows.showOnlyRow.domain false Rows.showOnlyRow.laid) (((OpenSpec.ofChange Rows.showOnlySpec).at F).post enc Try.prog Try.f4 false true false false) := by
  obtain ⟨x, hx⟩ : ∃ x, DataW.whole enc Try.prog ((wit os).forCall (fun _ _ => 0) ⟨#[], #[.agg zLay, .slice none 0 0, .agg (showL s0).toArray], []⟩).memory Try.f4.params.toList Rows.showOnlySpec.vars false (#[.agg zLay, .slice none 0 0, .agg (showL s0).toArray] : Array Value).toList 8 = some x := Option.isSome_iff_exists.1 (by kernel_rfl)
  refine Fr.lift (C := Try.checked) (s := OpenSpec.ofChange Rows.showOnlySpec) own started (by kernel_rfl) Try.func4
    (witness_row_at (enc := enc) (C := Try.checked) false (wit os) #[.agg zLay, .slice none 0 0, .agg (showL s0).toArray] rfl (by kernel_rfl) (by kernel_rfl) (by kernel_rfl)
      (OpenSpec.preRow_of_cond 8 hx rfl (fun k hk => by cases hk) (by kernel_rfl) (laidMet_of_run' 8 (by kernel_rfl) (by kernel_rfl))))
    laidOut (by kernel_rfl) rfl Try.underlying4 rfl rfl ?_ ?_
  · intro ds hds
    match ds, hds with
    | [_, _, _], _ => rfl
  · intro W base args ds before hval hA hlt _ hz hL
    rw [Try.params4] at hA hval
    obtain ⟨v0, vs0, d0, ds0, p0, q0, hargs, rfl, rfl, h0, r0⟩ := trodAll_cons hA
    obtain ⟨v1, vs1, d1, ds1, p1, q1, rfl, rfl, rfl, h1, r1⟩ := trodAll_cons r0
    obtain ⟨v2, vs2, d2, ds2, p2, q2, rfl, rfl, rfl, h2, r2⟩ := trodAll_cons r1
    obtain ⟨rfl, rfl, rfl⟩ := trodAll_nil r2
    obtain rfl : args = #[v0, v1, v2] := by cases args; simp_all
    obtain ⟨L, kinds, ss, lens, nsig, nfl, clr, st, A, c, A1, c1, A3, c3, ve, rfl, hLA, hk2⟩ := open_layoutK (hval 0 _ v0 rfl rfl) h0
    obtain ⟨pl, hpl⟩ := Bv.open_bytes_arg Try.underlying60 Try.underlying5 (by kernel_rfl) (hval 1 _ v1 rfl rfl) h1
    obtain ⟨s, rfl, hok⟩ := open_show (hval 2 _ v2 rfl rfl) h2
    exact walk L kinds ss nsig nfl lens clr st A c A1 c1 A3 c3 ve v1 pl s W ⟨hLA.f, hLA.sa, hLA.sl, hLA.sr⟩ hk2 hLA.ex hLA.fl hLA.ea hpl hok

theorem said : Rows.ShowOnlySaid :=
  OpenClaim.holds_of_cond 4 Try.f4 rfl rfl rfl rfl rfl rfl rfl ⟨rfl, rfl, rfl, rfl, rfl⟩ rfl rfl rfl rfl rfl (by kernel_rfl) Try.func4 (by kernel_rfl)
    (of_decide_eq_true (by kernel_rfl)) (by unfold Func.isWrapper; first | (rw [if_pos (by decide +kernel)]; kernel_rfl) | (rw [if_neg (by decide +kernel)]; exact ⟨rfl, rfl⟩))
    (fun os started H enc _ F => by rw [OpenClaim.pre_eq_preRow]; exact lifted os started H enc F)
#print axioms said
end Go.Proofs.Ytbeijbhgpddbmaa.showOnly
