/- Shows: the contract of Take. Nothing that was there is turned. -/
import Derived.Test.YtppcdmbpbbjecaaGreatShG
namespace Go.Proofs.YtppcdmbpbbjecaaGreat
open List renaming getElem_toArray → zA, getElem_cons_succ → zS, getElem_cons_zero → zZ, setIfInBounds_toArray → zP, set_cons_zero → zQ, set_cons_succ → zR
open Go.RowKit Rf Mem Bv AM SM Bits
attribute [local go_sem ↓] run_max2 run_min2
attribute [local go_sem] Oper.semAt_some
theorem res_mid2 {T : TypeId} {d : TypeDesc} (hu : Tryz.prog.underlying T = some d) (hd : d.isRow = true) {fn : Func} {t u : Tmp} (hf : fn.results = #[.cell t T, .tmp u]) {tmps : Array Value} {W : World} {g : Nat} {M : List Value} {ty : TypeId} {f : Nat × Nat} (hi : (Tryz.prog.info? T).map (·.size) = some M.length)
    (hs : tmps.getD t undef = .pointer (some ⟨g, 0, none⟩)) (hg : W.heap[g]? = some (.cells M.toArray ty f)) : (results fn tmps).run Tryz.prog W = .ok (.tuple #[.agg M.toArray, tmps.getD u undef]) W := by
  have hs' : tmps[t]?.getD undef = .pointer (some ⟨g, 0, none⟩) := by simpa using hs
  have h := run_loadVar_mid (P := Tryz.prog) W g 0 T M _ (range_of hg) hu hd hi
  simp [results, hf, hs', asAddr, h]
theorem self_set {W : World} {g : Nat} {M : List Value} {t : TypeId} (h : W.heap[g]? = some (.cells M.toArray t (0, 0))) : (W.setCells g 0 M.toArray.toList).heap[g]? = some (.cells M.toArray t (0, 0)) := by
  rw [setCells_at _ _ h, setL_all (by simp)]
theorem wpList_build0 {w : World} {ops : Array Oper} {rest : List Oper} {o : Oper} {a : Act} {Q : Exit → Act → World → Prop} (hgd : o.guard = none) (T : TypeId) (ho : o.op = .build T #[]) (cs : Value)
    (hr : (Instr.build T #[]).run Tryz.prog w = .ok cs w) (h : wpList Tryz.prog ops Q rest (a.put o.dst cs) w) : wpList Tryz.prog ops Q (o :: rest) a w := by
  refine wpList_plain hgd fun K hK => ?_
  unfold Oper.wp execOp
  simp [ho, hr]
  exact hK _ _ h
theorem build_show0 (w : World) : (Instr.build 52 #[]).run Tryz.prog w = .ok (.agg (showL s0).toArray) w := run_build w _ _ _ (by kernel_rfl)
theorem holds_all (pl : List (BitVec 8)) : Bits.Holds pl (bitsOf pl) := ⟨by rw [bitsOf_length]; omega, 0, by simp⟩
set_option maxHeartbeats 4000000 in
set_option maxRecDepth 100000 in
theorem Take_c (L : List Value) (kinds : List Int) (ss : List (List Value)) (nsig : Nat) (clr st : Int) (A : Option Addr) (c : Nat) (A1 : Option Addr) (c1 : Nat) (u : Value) (pl : List (BitVec 8)) (w : World) (hL : LY w L kinds ss nsig clr st A c A1 c1) (hk2 : ∀ z ∈ kinds, 0 ≤ z ∧ z ≤ 255) (hs : SliceAt w 1 u pl.length (u8s pl)) (hpl : pl.length ≤ 100000) :
    Calls Tryz.prog 8 #[.agg L.toArray, u] w fun e w' => Below w.heap.size w w' ∧ ∃ r err, e = .returned (.tuple #[.agg (showL r).toArray, .int .i64 err]) ∧ TakeR pl kinds nsig r err := by
  have szL := lay_size hL.f.len
  obtain ⟨W0, hW0⟩ : ∃ W0, (w.alloc (.cells L.toArray 29)).alloc (.cells (showL s0).toArray 52) = W0 := ⟨_, rfl⟩
  have B0 : Below w.heap.size w W0 := by rw [← hW0]; exact below_step (below_new _ _) (below_new _ _)
  have VL : W0.heap[w.heap.size]? = some (.cells L.toArray 29 (0, 0)) := by rw [← hW0]; exact old_at (new_at rfl _) _
  have VB : W0.heap[w.heap.size + 1]? = some (.cells (showL s0).toArray 52 (0, 0)) := by rw [← hW0]; exact new_at (by simp) _
  have hL0 := hL.later B0
  have hs0 := hs.later B0
  obtain ⟨sz, hsz⟩ : ∃ sz : Int, sz = (((sumW (flds s0 kinds nsig) + 7) / 8 : Nat) : Int) := ⟨_, rfl⟩
  obtain ⟨Au, cu, rfl, _, _⟩ := hs.form
  obtain ⟨n, hn⟩ : ∃ n : Nat, n = pl.length := ⟨_, rfl⟩
  rw [← hn] at hs hs0 ⊢
  have hne0 : ((n : Int) != sz) = !decide (pl.length = (sumW (flds s0 kinds nsig) + 7) / 8) := by
    rw [hn, hsz, bne, Bool.eq_iff_iff]
    simp
    omega
  have HSZ := Lib.hid hsz
  have HN := Lib.hid hn
  have HL0 := Lib.hid hL0
  have HS0 := Lib.hid hs0
  have HLw := Lib.hid hL
  have HSw := Lib.hid hs
  have HK2 := Lib.hid hk2
  clear hL hL0 hsz hn hs hs0 hk2
  rw [show showL s0 = [.int .u32 0, .int .u32 0, .int .u32 0, .int .u32 0, .int .u32 0, .int .u32 0, .int .u32 0, .int .u32 0, .int .u32 0, .int .u8 0, .int .i64 0, .int .i64 0] from rfl] at hW0
  go_enter Tryz.func8, Tryz.ntmps8
  go_upto_region 1 with (fail)
  clear hW0
  refine wp_scope_fwd 0 (by simp only [findLabel]; rfl) ?_
  go_wp2_with fail
  refine (Bt.Of_c (.slice Au n cu) pl _ (by have := HS0.out; rwa [HN.out] at this ⊢) (by omega)).mono ?_
  rintro e W3 ⟨v3, rfl, o3, b3⟩
  have s2 := (Array.getElem?_eq_some_iff.1 VB).1
  replace VL := var_later VL b3
  replace VB := var_later VB b3
  have BB1 := below_step B0 b3
  have HL3 := Lib.hid (HL0.out.later b3)
  have s3 := (Array.getElem?_eq_some_iff.1 VB).1
  have hlow : ∀ j, v3.ownBlock = some j → j < W3.heap.size := fun j hj => (own_base o3 hj).2
  have o3' := Bt.own_base_le o3 (base' := w.heap.size + 1 + 1) (by omega)
  obtain ⟨A3, k3, rfl, _, _⟩ := (sliceAt_of_own o3).form
  rw [show (pl.length : Int) * 8 = (((bitsOf pl).length : Nat) : Int) from by rw [bitsOf_length]; omega]
  clear b3 o3 B0
  go_upto_region 2 with (fail)
  obtain ⟨V, hV⟩ : ∃ V, (W3.alloc (.cells #[.slice A3 pl.length k3, .int .i64 (((bitsOf pl).length : Nat) : Int)] 84)).alloc (.cells #[.int .i64 0] 3) = V := ⟨_, rfl⟩
  have VX : V.heap[W3.heap.size]? = some (.cells #[.slice A3 pl.length k3, .int .i64 (((bitsOf pl).length : Nat) : Int)] 84 (0, 0)) := by rw [← hV]; exact old_at (new_at rfl _) _
  have VA : V.heap[W3.heap.size + 1]? = some (.cells #[.int .i64 0] 3 (0, 0)) := by rw [← hV]; exact new_at (by simp) _
  have sV : V.heap.size = W3.heap.size + 1 + 1 := by rw [← hV]; simp
  have b4 : Below W3.heap.size W3 V := by rw [← hV]; exact below_step (below_new _ _) (below_new _ _)
  rw [hV]
  clear hV
  replace BB1 := below_step BB1 b4
  replace VL := var_later VL b4
  replace VB := var_later VB b4
  replace o3' := own_later o3' (fun g hg => b4.block g (own_base o3' hg).2)
  replace HL3 := Lib.hid (HL3.out.later b4)
  clear b4 HL0
  generalize W3.heap.size = g at *
  have hst := store_one (P := Tryz.prog) (new_at sV (.cells #[.nilFunc] 88)) (v := .func (.func 19) #[] #[.pointer (some ⟨g, 0, none⟩), .pointer (some ⟨g + 1, 0, none⟩)]) rfl
  have T0 : TkS w L (showL s0) g (.slice A3 pl.length k3) pl (bitsOf pl) 0 (V.alloc (.cells #[.func (.func 19) #[] #[.pointer (some ⟨g, 0, none⟩), .pointer (some ⟨g + 1, 0, none⟩)]] 88)) :=
    ⟨below_step BB1 (below_new _ _), old_at VL _, old_at VB _, old_at VX _, old_at VA _, new_at sV _, own_later o3' (fun k hk => Below.heap_alloc _ _ _ (own_base o3' hk).2), hlow, s3⟩
  have HT0 := Lib.hid T0
  replace HL3 := Lib.hid (HL3.out.later (below_new V (.cells #[.func (.func 19) #[] #[.pointer (some ⟨g, 0, none⟩), .pointer (some ⟨g + 1, 0, none⟩)]] 88)))
  clear T0 VL VB VX VA BB1 o3' s2 s3 hlow
  go_upto_region 5 with (fail)
  clear hst
  have T0 := HT0.out
  clear HT0
  generalize V.alloc (.cells #[.func (.func 19) #[] #[.pointer (some ⟨g, 0, none⟩), .pointer (some ⟨g + 1, 0, none⟩)]] 88) = V0 at *
  have hhp := holds_all pl
  have hln : (bitsOf pl).length = 8 * pl.length := bitsOf_length pl
  obtain ⟨l, hl⟩ : ∃ l, l = bitsOf pl := ⟨_, rfl⟩
  rw [← hl] at T0 hhp hln
  have HHP := Lib.hid hhp
  have HLN := Lib.hid hln
  have HLL := Lib.hid hl
  clear hl hhp hln
  have RL := range_of T0.lay
  go_wp2_with (first
    | refine wpList_load_g (by rfl) 29 (.tmp 2) (by rfl) w.heap.size 0 (by rfl) L _ RL Tryz.underlying29 rfl szL ?_
    | fail)
  refine (Size_c L kinds ss nsig clr st A c A1 c1 sz _ HSZ.out HL3.out HK2.out).mono ?_
  rintro e W1 ⟨rfl, b1⟩
  replace T0 := T0.later b1
  replace HL3 := Lib.hid (HL3.out.later b1)
  clear b1 RL
  by_cases hsize : pl.length = (sumW (flds s0 kinds nsig) + 7) / 8
  · rw [decide_eq_true hsize] at hne0
    have HSIZE := Lib.hid hsize
    clear hsize
    have RL := range_of T0.lay
    go_wp2_with (first
      | refine wpList_load_g (by rfl) 29 (.tmp 2) (by rfl) w.heap.size 0 (by rfl) L _ RL Tryz.underlying29 rfl szL ?_
      | fail)
    obtain ⟨m, hm⟩ : ∃ m, m = min kinds.length 24 := ⟨_, rfl⟩
    refine (sections_c L kinds ss nsig clr st A c A1 c1 m _ hm HL3.out).mono ?_
    rintro e W2 ⟨rfl, b2⟩
    replace T0 := T0.later b2
    replace HL3 := Lib.hid (HL3.out.later b2)
    have HM := Lib.hid hm
    have hml : m ≤ kinds.length := by omega
    have hm24 : m ≤ 24 := by omega
    obtain ⟨hc1, hc2⟩ := HL3.out.cap
    have i0 : m ≤ c := by omega
    clear b2 RL hm
    have HSP : Hid (∀ i, i < m → (dSecs l kinds i).2 + (if kinds.getD i 0 == 2 then 5 else 2) ≤ l.length) := Lib.hid (fun i hi => by
      have h1 := dSecs_mono l kinds (show i < min kinds.length 24 by rw [← HM.out]; exact hi)
      have h2 := flds_w s0 l kinds nsig
      have h3 := HLN.out
      have h4 := HSIZE.out
      omega)
    have HGP : Hid (∀ i, i < min nsig 12 → (dSigs l (dSecs l kinds m) i).2 + 4 ≤ l.length) := Lib.hid (fun i hi => by
      rw [dSigs_pos, HM.out]
      have h2 := flds_w s0 l kinds nsig
      have h3 := HLN.out
      have h4 := HSIZE.out
      omega)
    have HEP : Hid ((dSigs l (dSecs l kinds m) (min nsig 12)).2 + 14 ≤ l.length) := Lib.hid (by
      rw [dSigs_pos, HM.out]
      have h2 := flds_w s0 l kinds nsig
      have h3 := HLN.out
      have h4 := HSIZE.out
      omega)
    have HLQ : Hid (l.length ≤ 1000000) := Lib.hid (by have := HLN.out; omega)
    have TK : TkS w L (showL (dSecs l kinds 0).1) g (.slice A3 pl.length k3) pl l (dSecs l kinds 0).2 W2 := T0
    clear T0
    go_wp2_with fail
    go_loopw [27] (fun i wr => ∃ j : Nat, j ≤ m ∧ i = .int .i64 j ∧ TkS w L (showL (dSecs l kinds j).1) g (.slice A3 pl.length k3) pl l (dSecs l kinds j).2 wr) (fun i _ => m - (intOf i).toNat)
    case atStart => exact ⟨0, Nat.zero_le _, rfl, TK⟩
    case round =>
      obtain ⟨j, hj, rfl, HI⟩ := hrel
      clear TK
      by_cases hlt : j < m
      · have i1 : (j : Int) < (m : Int) := by omega
        have i2 : (j : Int) < 32 := by omega
        have hpos := HSP.out j hlt
        have hLr := HLw.out.later HI.bel
        obtain ⟨b, off, sc, rfl, hb, hr, hscl, hsone, hk0⟩ := hLr.row (k := j) (by omega)
        obtain ⟨⟨s, k⟩, hP⟩ : ∃ p, dSecs l kinds j = p := ⟨_, rfl⟩
        rw [hP] at HI hpos
        obtain ⟨kd, hkd⟩ : ∃ z, kinds.getD j 0 = z := ⟨_, rfl⟩
        rw [hkd] at hk0 hpos
        have szS := sec_size hscl
        obtain ⟨Ws, hWs, k3', k4, k2⟩ := newv (V := wr) sc zSec 96 (by rw [hscl]; rfl)
        have szm : (Tryz.prog.info? 96).map (·.size) = some sc.toArray.size := by simpa using szS
        have oneS : sc.toArray.all (·.oneCell') = true := all_one hsone
        have HWS := Lib.hid hWs
        have HP := Lib.hid hP
        have HKD := Lib.hid hkd
        have HPOS := Lib.hid hpos
        have hp2 : k + 2 ≤ l.length := by
          have : 2 ≤ (if (kd == 2) = true then 5 else 2) := by split <;> omega
          omega
        have HP2 := Lib.hid hp2
        have T1 := HI.later k4
        have HG12 : Hid (w.heap.size + 1 < wr.heap.size ∧ g + 1 < wr.heap.size) := Lib.hid ⟨(Array.getElem?_eq_some_iff.1 HI.sh).1, (Array.getElem?_eq_some_iff.1 HI.at_).1⟩
        clear hWs hP hkd hLr hsone HI hpos hp2
        go_wp2_with (first
          | refine wpList_load_g (by rfl) 96 (.tmp 30) (by rfl) b (off + j * 11) (by rfl) sc _ hr Tryz.underlying96 rfl szS ?_
          | (refine wpList_store_mid rfl 96 (.tmp 12) (.tmp 31) (by rfl) wr.heap.size 0 sc.toArray (by rfl) (by rfl) k2 szm oneS ?_; rw [HWS.out])
          | fail)
        refine (tflag_c w L (showL s) g (.slice A3 pl.length k3) pl l k 0 j (j : Int) s.clear Ws rfl (by omega) rfl T1 HHP.out HLQ.out (by have := HP2.out; omega)).mono ?_
        rintro e W3 ⟨rfl, T2, K2⟩
        have hlo := T1.bel.size
        have h12 : w.heap.size + 1 < wr.heap.size ∧ g + 1 < wr.heap.size := HG12.out
        have x12 := K2.at_ k3' ⟨by omega, by omega⟩
        clear T1 hr k2 szm oneS k4 HWS k3' i1 K2 hlo HG12
        generalize wr.heap.size = g12 at *
        go_wp2_with fail
        refine (tflag_c w L _ g (.slice A3 pl.length k3) pl l (k + 1) 1 j (j : Int) s.held W3 rfl (by omega) rfl T2 HHP.out HLQ.out (by have := HP2.out; omega)).mono ?_
        rintro e W4 ⟨rfl, T3, K3⟩
        replace x12 := K3.at_ x12 ⟨by omega, by omega⟩
        clear T2 K3
        have xk := cell_list x12 hk0
        by_cases h2 : kd = 2
        · subst h2
          go_wp2_with fail
          refine (twhich_c w L _ g (.slice A3 pl.length k3) pl l (k + 1 + 1) 2 3 j (j : Int) s.normal s.reverse W4 rfl (by omega) rfl rfl (by decide) T3 HHP.out HLQ.out (by have : k + 5 ≤ l.length := HPOS.out; omega)).mono ?_
          rintro e W5 ⟨rfl, T4, _⟩
          clear T3 xk x12
          go_wp2_with fail
          refine (tflag_c w L _ g (.slice A3 pl.length k3) pl l (k + 1 + 1 + 2) 4 j (j : Int) s.locked W5 rfl (by omega) rfl T4 HHP.out HLQ.out (by have : k + 5 ≤ l.length := HPOS.out; omega)).mono ?_
          rintro e W6 ⟨rfl, T5, _⟩
          have T6 : TkS w L (showL (dSecs l kinds (j + 1)).1) g (.slice A3 pl.length k3) pl l (dSecs l kinds (j + 1)).2 W6 := by
            rw [dSecs, HP.out, dSec, HKD.out]
            exact T5
          have HT6 := Lib.hid T6
          clear T4 T5 T6
          go_wp2
          go_roundw
          case rel => exact ⟨j + 1, by omega, by go_num, HT6.out⟩
          case measure => simp [intOf]; omega
        · have h2' : (kd == 2) = false := by simpa using h2
          have T6 : TkS w L (showL (dSecs l kinds (j + 1)).1) g (.slice A3 pl.length k3) pl l (dSecs l kinds (j + 1)).2 W4 := by
            rw [dSecs, HP.out, dSec, HKD.out, h2']
            exact T3
          have HT6 := Lib.hid T6
          clear T3 T6
          go_wp2
          exact ⟨⟨j + 1, by omega, by go_num, HT6.out⟩, by simp [intOf]; omega⟩
      · obtain rfl : j = m := by omega
        have RL := range_of HI.lay
        have HL4 := HLw.out.later HI.bel
        go_wp2_with (first
          | refine wpList_load_g (by rfl) 29 (.tmp 2) (by rfl) w.heap.size 0 (by rfl) L _ RL Tryz.underlying29 rfl szL ?_
          | fail)
        obtain ⟨m2, hm2⟩ : ∃ m2, m2 = min nsig 12 := ⟨_, rfl⟩
        refine (signals_c L kinds nsig clr st A c A1 c1 m2 _ hm2 HL4.f).mono ?_
        rintro e W5 ⟨rfl, b5⟩
        have T5 : TkS w L (showL (dSigs l (dSecs l kinds j) 0).1) g (.slice A3 pl.length k3) pl l (dSigs l (dSecs l kinds j) 0).2 W5 := HI.later b5
        rw [← hm2] at HGP HEP
        have HM2 := Lib.hid hm2
        have hm12 : m2 ≤ 12 := by omega
        clear HI HL4 RL b5 hm2
        go_wp2_with fail
        go_loopw [55] (fun i wr => ∃ n : Nat, n ≤ m2 ∧ i = .int .i64 n ∧ TkS w L (showL (dSigs l (dSecs l kinds j) n).1) g (.slice A3 pl.length k3) pl l (dSigs l (dSecs l kinds j) n).2 wr) (fun i _ => m2 - (intOf i).toNat)
        case atStart => exact ⟨0, Nat.zero_le _, rfl, T5⟩
        case round =>
          obtain ⟨q, hq, rfl, HI⟩ := hrel
          clear T5
          by_cases hlt2 : q < m2
          · have i3 : (q : Int) < (m2 : Int) := by omega
            have i4 : (q : Int) < 32 := by omega
            have hpos := HGP.out q hlt2
            obtain ⟨⟨s, k⟩, hP⟩ : ∃ p, dSigs l (dSecs l kinds j) q = p := ⟨_, rfl⟩
            rw [hP] at HI hpos
            have HP := Lib.hid hP
            have HPOS : Hid (k + 4 ≤ l.length) := Lib.hid hpos
            clear hP hpos
            go_wp2_with fail
            refine (tflag_c w L (showL s) g (.slice A3 pl.length k3) pl l k 5 q (q : Int) s.off _ rfl (by omega) rfl HI HHP.out HLQ.out (by have := HPOS.out; omega)).mono ?_
            rintro e W6 ⟨rfl, T6, _⟩
            clear HI
            go_wp2_with fail
            refine (twhich_c w L _ g (.slice A3 pl.length k3) pl l (k + 1) 6 7 q (q : Int) s.steady s.flash W6 rfl (by omega) rfl rfl (by decide) T6 HHP.out HLQ.out (by have := HPOS.out; omega)).mono ?_
            rintro e W7 ⟨rfl, T7, _⟩
            clear T6
            go_wp2_with fail
            refine (tflag_c w L _ g (.slice A3 pl.length k3) pl l (k + 1 + 2) 8 q (q : Int) s.autos W7 rfl (by omega) rfl T7 HHP.out HLQ.out (by have := HPOS.out; omega)).mono ?_
            rintro e W8 ⟨rfl, T8, _⟩
            have HT8 : Hid (TkS w L (showL (dSigs l (dSecs l kinds j) (q + 1)).1) g (.slice A3 pl.length k3) pl l (dSigs l (dSecs l kinds j) (q + 1)).2 W8) := Lib.hid (by
              rw [dSigs, HP.out, dSig]
              exact T8)
            clear T7 T8
            go_wp2
            go_roundw
            case rel => exact ⟨q + 1, by omega, by go_num, HT8.out⟩
            case measure => simp [intOf]; omega
          · obtain rfl : q = m2 := by omega
            obtain ⟨⟨s, k⟩, hP⟩ : ∃ p, dSigs l (dSecs l kinds j) q = p := ⟨_, rfl⟩
            rw [hP] at HI HEP
            have HP := Lib.hid hP
            have hdec : dec (bitsOf pl) kinds nsig = dEnd l (s, k) := by rw [dec, ← HLL.out, ← HM.out, ← HM2.out, hP]
            have HDEC := Lib.hid hdec
            clear hP hdec
            obtain ⟨r1, hr1⟩ : ∃ r : Int, r = ((rd l k 3 : Nat) : Int) := ⟨_, rfl⟩
            obtain ⟨r2, hr2⟩ : ∃ r : Int, r = ((rd l (k + 3) 3 : Nat) : Int) := ⟨_, rfl⟩
            obtain ⟨r3, hr3⟩ : ∃ r : Int, r = ((rd l (k + 3 + 3) 8 : Nat) : Int) := ⟨_, rfl⟩
            have q1 : 0 ≤ r1 ∧ r1 < 8 := by have := rd_lt l k 3; omega
            have q2 : 0 ≤ r2 ∧ r2 < 8 := by have := rd_lt l (k + 3) 3; omega
            have q3 : 0 ≤ r3 ∧ r3 < 256 := by have := rd_lt l (k + 3 + 3) 8; omega
            have hr1w : IntKind.u8.wrap r1 = r1 := Bv.wrap_small .u8 rfl q1.1 (show r1 < (2 : Int) ^ 8 by omega)
            have HR1 := Lib.hid hr1
            have HR2 := Lib.hid hr2
            have HR3 := Lib.hid hr3
            clear hr1 hr2 hr3
            go_wp2
            refine wp_region_held_drew (S := (fun w' => w'.cell? ⟨g + 1 + 1, 0, none⟩ = some (.func (.func 19) #[] #[.pointer (some ⟨g, 0, none⟩), .pointer (some ⟨g + 1, 0, none⟩)]))) (by kernel_rfl) ?_ (fun hHeld => ?_)
            · exact cell_list (cs := [_]) HI.nx rfl
            replace HI := HI.later (Below.refl _ _).drew
            generalize World.drew _ = V1 at *
            refine Node.tk 0 ?_ rfl ?_ ?_
            rotate_left
            · intro w hSw; (try dsimp only at hSw); go_simp; try with_reducible rfl
            simp only [zA, zS, zZ, Act.put, zP, zQ, zR]
            refine Node.tk 3 ?_ rfl ?_ ?_
            rotate_left
            · intro w hSw; (try dsimp only at hSw); go_simp; try with_reducible rfl
            simp only [zA, zS, zZ, Act.put, zP, zQ, zR]
            clear hHeld
            refine Node.on 1 rfl (fun K hK => ?_)
            go_simp
            refine (tnext_c w L _ g (.slice A3 pl.length k3) pl l k 3 3 r1 _ rfl HR1.out HI HHP.out HLQ.out (by omega) (by have := HEP.out; omega)).mono ?_
            rintro e V1 ⟨rfl, HI, _⟩
            refine hK.out _ _ (cell_list (cs := [_]) HI.nx rfl) (fun _ => ?_)
            clear hK K
            try simp only [zA, zS, zZ, Act.put, zP, zQ, zR]
            have hHeld := cell_list (cs := [_]) HI.nx (i := 0) rfl
            refine Node.tk 2 ?_ rfl ?_ ?_
            rotate_left
            · intro w hSw; (try dsimp only at hSw); go_simp; try with_reducible rfl
            simp only [zA, zS, zZ, Act.put, zP, zQ, zR]
            clear hHeld
            refine Node.on 4 rfl (fun K hK => ?_)
            go_simp
            refine (tnext_c w L _ g (.slice A3 pl.length k3) pl l (k + 3) 3 3 r2 _ rfl HR2.out HI HHP.out HLQ.out (by omega) (by have := HEP.out; omega)).mono ?_
            rintro e V1 ⟨rfl, HI, _⟩
            refine hK.out _ _ (cell_list (cs := [_]) HI.nx rfl) (fun _ => ?_)
            clear hK K
            try simp only [zA, zS, zZ, Act.put, zP, zQ, zR]
            have hHeld := cell_list (cs := [_]) HI.nx (i := 0) rfl
            refine Node.tk 5 ?_ rfl ?_ ?_
            rotate_left
            · intro w hSw; (try dsimp only at hSw); go_simp; try with_reducible rfl
            simp only [zA, zS, zZ, Act.put, zP, zQ, zR]
            clear hHeld
            refine Node.on 6 rfl (fun K hK => ?_)
            have x0 := cell_list HI.sh (i := 9) rfl
            have f0 := free_at HI.sh 9
            go_simp
            replace HI := HI.setS (o := 9) (u := .int .u8 r1)
            clear x0 f0
            generalize World.setCell _ _ _ = V1 at *
            refine hK.out _ _ (cell_list (cs := [_]) HI.nx rfl) (fun _ => ?_)
            clear hK K
            try simp only [zA, zS, zZ, Act.put, zP, zQ, zR]
            have hHeld := cell_list (cs := [_]) HI.nx (i := 0) rfl
            refine Node.tk 7 ?_ rfl ?_ ?_
            rotate_left
            · intro w hSw; (try dsimp only at hSw); go_simp; try with_reducible rfl
            simp only [zA, zS, zZ, Act.put, zP, zQ, zR]
            clear hHeld
            refine Node.on 8 rfl (fun K hK => ?_)
            have x0 := cell_list HI.sh (i := 10) rfl
            have f0 := free_at HI.sh 10
            go_simp
            replace HI := HI.setS (o := 10) (u := .int .i64 r2)
            clear x0 f0
            generalize World.setCell _ _ _ = V1 at *
            refine hK.out _ _ (cell_list (cs := [_]) HI.nx rfl) (fun _ => ?_)
            clear hK K
            try simp only [zA, zS, zZ, Act.put, zP, zQ, zR]
            refine wpAnyH_done (by kernel_rfl) ?_ _
            have hx := cell_list (cs := [_]) HI.nx (i := 0) rfl
            go_wp2_with fail
            refine (tnext_c w L _ g (.slice A3 pl.length k3) pl l (k + 3 + 3) 8 8 r3 _ rfl HR3.out HI HHP.out HLQ.out (by omega) (by have := HEP.out; omega)).mono ?_
            rintro e V2 ⟨rfl, T2, _⟩
            clear HI hx
            have x11 := cell_list T2.sh (i := 11) rfl
            have f11 := free_at T2.sh 11
            have T3 := T2.setS (o := 11) (u := .int .i64 r3)
            obtain ⟨dd, hdd⟩ : ∃ dd, dEnd l (s, k) = dd := ⟨_, rfl⟩
            have hS : (((showL s).set 9 (.int .u8 r1)).set 10 (.int .i64 r2)).set 11 (.int .i64 r3) = showL dd := by rw [← hdd, HR1.out, HR2.out, HR3.out]; rfl
            have hcd : 0 ≤ dd.code ∧ dd.code ≤ 255 := by rw [← hdd]; show 0 ≤ ((rd l k 3 : Nat) : Int) ∧ ((rd l k 3 : Nat) : Int) ≤ 255; rw [← HR1.out]; omega
            rw [hS] at T3
            have HCD := Lib.hid hcd
            have HDD := Lib.hid hdd
            have HT3 := Lib.hid T3
            clear hS T3 T2 hdd hcd
            go_upto_region 24 with (fail)
            have T3 := HT3.out
            generalize World.setCell _ _ _ = V3 at *
            clear HT3 x11 f11
            have RL := range_of T3.lay
            have RB := range_of T3.sh
            have szB : (Tryz.prog.info? 52).map (·.size) = some (showL dd).length := show_size dd
            go_wp2_with (first
              | refine wpList_load_g (by rfl) 29 (.tmp 2) (by rfl) w.heap.size 0 (by rfl) L _ RL Tryz.underlying29 rfl szL ?_
              | refine wpList_load_g (by rfl) 52 (.tmp 4) (by rfl) (w.heap.size + 1) 0 (by rfl) (showL dd) _ RB Tryz.underlying52 rfl szB ?_
              | fail)
            refine (Put_c L kinds ss nsig clr st A c A1 c1 dd _ (HLw.out.later T3.bel) HCD.out HK2.out).mono ?_
            rintro e W5 ⟨b5, A5, k5, B5, rfl, o5, h5⟩
            have T5 := T3.later b5
            clear T3 RL RB
            have HS5 : Hid (SliceAt W5 1 (.slice Au n cu) pl.length (u8s pl)) := Lib.hid (by have := HSw.out.later T5.bel; rwa [HN.out] at this ⊢)
            have H5 := Lib.hid h5
            have O5 := Lib.hid (sliceAt_of_own o5)
            clear o5 h5
            go_wp2_with fail
            refine (Bt.Equal_c _ _ B5 pl _ O5.out HS5.out).mono ?_
            rintro e W6 ⟨rfl, rfl⟩
            have VB := T5.sh
            have BB1 := T5.bel
            clear T5
            by_cases heq : B5 = pl
            · rw [decide_eq_true heq]
              have HEQ := Lib.hid heq
              clear heq
              have RB := range_of VB
              have th := there_of VB 0 (showL dd).toArray.size (by rw [List.size_toArray]; exact Nat.le_of_eq (Nat.zero_add _))
              have szB2 : (Tryz.prog.info? 52).map (·.size) = some (showL dd).toArray.size := by simpa using szB
              have K1 := Lib.hid (And.intro (self_set VB) (below_setCells (g := w.heap.size + 1) (by omega) (showL dd).toArray.toList 0 BB1))
              go_wp2_with (first
                | refine wpList_load_g (by rfl) 52 (.tmp 4) (by rfl) (w.heap.size + 1) 0 (by rfl) (showL dd) _ RB Tryz.underlying52 rfl szB ?_
                | (refine wpList_store_mid rfl 52 (.tmp 4) (.tmp 87) (by rfl) (w.heap.size + 1) 0 (showL dd).toArray (by rfl) (by rfl) th szB2 (all_one (show_one _)) ?_; generalize hWs : World.setCells _ (w.heap.size + 1) 0 (showL dd).toArray.toList = Ws at *)
                | fail)
              rw [jump_ret]
              refine bodyPost_ret (res_mid2 (t := 4) (u := 5) (M := showL dd) Tryz.underlying52 rfl rfl szB rfl K1.out.1) rfl ⟨K1.out.2, dd, 0, rfl, .inl ⟨HSIZE.out, ?_, by rw [HDEC.out, HDD.out], rfl⟩⟩
              have := H5.out
              rw [HEQ.out] at this
              rw [HDEC.out, HDD.out]
              exact this
            · rw [decide_eq_false heq]
              have HEQ := Lib.hid heq
              clear heq
              have hbz := fun W => build_show0 W
              have szB0 := show_size s0
              have th := there_of VB 0 (showL s0).toArray.size (by simp only [List.size_toArray]; exact Nat.le_of_eq rfl)
              have szB2 : (Tryz.prog.info? 52).map (·.size) = some (showL s0).toArray.size := by kernel_rfl
              have k1 : ∀ W : World, W.heap[w.heap.size + 1]? = some (.cells (showL dd).toArray 52 (0, 0)) → (W.setCells (w.heap.size + 1) 0 (showL s0).toArray.toList).heap[w.heap.size + 1]? = some (.cells (showL s0).toArray 52 (0, 0)) := fun W h => by
                rw [setCells_at _ _ h, setL_all (by rw [List.size_toArray]; rfl)]
              have K1 := Lib.hid (And.intro (k1 _ VB) (below_setCells (g := w.heap.size + 1) (by omega) (showL s0).toArray.toList 0 BB1))
              clear k1
              go_wp2
              go_step3
              go_wp2_with (first
                | refine wpList_build0 rfl 52 (by rfl) _ (hbz _) ?_
                | (refine wpList_store_mid rfl 52 (.tmp 4) (.tmp 88) (by rfl) (w.heap.size + 1) 0 (showL s0).toArray (by rfl) (by rfl) th szB2 (all_one (show_one _)) ?_; generalize hWs : World.setCells _ (w.heap.size + 1) 0 (showL s0).toArray.toList = Ws at *)
                | fail)
              rw [jump_ret]
              refine bodyPost_ret (res_mid2 (t := 4) (u := 5) (M := showL s0) Tryz.underlying52 rfl rfl szB0 rfl K1.out.1) rfl ⟨K1.out.2, s0, 41, rfl, .inr ⟨fun h => HEQ.out (holds_unique H5.out (by have h2 := h.2; rw [HDEC.out, HDD.out] at h2; exact h2)), rfl, rfl⟩⟩
  · rw [decide_eq_false hsize] at hne0
    have HSIZE := Lib.hid hsize
    clear hsize
    have hbz := fun W => build_show0 W
    have VB := T0.sh
    have th := there_of VB 0 (showL s0).toArray.size (by decide)
    have szB := show_size s0
    have szB2 : (Tryz.prog.info? 52).map (·.size) = some (showL s0).toArray.size := by kernel_rfl
    have K1 := Lib.hid (And.intro (self_set VB) (below_setCells (g := w.heap.size + 1) (by omega) (showL s0).toArray.toList 0 T0.bel))
    go_wp2
    go_step3
    go_wp2
    rw [jump_goto]
    go_wp2_with (first
      | refine wpList_build0 rfl 52 (by rfl) _ (hbz _) ?_
      | (refine wpList_store_mid rfl 52 (.tmp 4) (.tmp 88) (by rfl) (w.heap.size + 1) 0 (showL s0).toArray (by rfl) (by rfl) th szB2 (all_one (show_one _)) ?_; generalize hWs : World.setCells _ (w.heap.size + 1) 0 (showL s0).toArray.toList = Ws at *)
      | fail)
    refine bodyPost_ret (res_mid2 (t := 4) (u := 5) (M := showL s0) Tryz.underlying52 rfl rfl szB rfl K1.out.1) rfl ⟨K1.out.2, s0, 41, rfl, .inr ⟨fun h => HSIZE.out h.1, rfl, rfl⟩⟩
end Go.Proofs.YtppcdmbpbbjecaaGreat
