/- Points that are wanted, locked: contracts of Wants, Locked; routes of a signal. Nothing that was there is turned. -/
import Derived.Test.YtppcdmbpbbjecaaGreatShN
namespace Go.Proofs.YtppcdmbpbbjecaaGreat
open Go.RowKit Rf Mem Bv AM
attribute [local go_sem ↓] run_max2 run_min2
attribute [local go_sem] Oper.semAt_some
/-- the need that wants a point -/
def wantsB (h : HeldM) (p : Int) : Bool := (needsL h).any fun n => n.1 == p
theorem need_size (x : T3) : (Tryz.prog.info? 81).map (·.size) = some (t3V x).length := by kernel_rfl
theorem anyt_snoc {l : List T3} {j : Nat} {x : T3} {s : Int} (hz : l[j]? = some x) : (l.take (j + 1)).any (fun x => x.1 == s) = ((l.take j).any (fun x => x.1 == s) || x.1 == s) := by
  rw [List.take_add_one, hz, List.any_append]; simp
set_option maxHeartbeats 1000000 in
set_option maxRecDepth 100000 in
theorem Wants_c (cs : List Value) (q : HeldM) (p : Int) (w : World) (hH : HeldAt w cs q) (hl1 : q.needs.length ≤ 5864062014700) :
    Calls Tryz.prog 79 #[.agg cs.toArray, .int .i64 p] w fun e w' => Below w.heap.size w w' ∧ ∃ (z : Int) (b : Bool), e = .returned (.tuple #[.int .i64 z, .bool b]) ∧ b = wantsB q p := by
  have szH := held_size hH.len
  have b0 := below_new w (.cells cs.toArray 75)
  have G := new_at (w := w) rfl (.cells cs.toArray 75)
  have RH := range_of G
  have HH := Lib.hid (hH.later b0)
  have hnl : (needsL q).length ≤ q.needs.length := List.length_filter_le _ _
  obtain ⟨l, hl⟩ : ∃ l, needsL q = l := ⟨_, rfl⟩
  have HL := Lib.hid hl
  rw [hl] at hnl
  clear hH hl
  go_enter Tryz.func79, Tryz.ntmps79
  go_upto_region 1 with (fail)
  generalize w.alloc (.cells cs.toArray 75) = W0 at *
  go_wp2_with (first
    | refine wpList_load_g (by rfl) 75 (.tmp 2) (by rfl) w.heap.size 0 (by rfl) cs _ RH Tryz.underlying75 rfl szH ?_
    | fail)
  refine (Needs_c cs q W0 HH.out hl1).mono ?_
  rintro e W1 ⟨v, rfl, b1, ht⟩
  rw [HL.out] at ht
  obtain ⟨A, c, rfl⟩ := ht.form
  have B1 := below_step b0 b1
  have HT := Lib.hid ht
  clear ht RH G b0 b1
  go_wp2
  go_loopw [11] (fun i wr => ∃ j : Nat, j ≤ l.length ∧ i = .int .i64 j ∧ Below W1.heap.size W1 wr ∧ Hid ((l.take j).any (fun x => x.1 == p) = false)) (fun i _ => l.length - (intOf i).toNat)
  case atStart => exact ⟨0, Nat.zero_le _, rfl, Below.refl _ _, Lib.hid rfl⟩
  case round =>
    obtain ⟨j, hj, rfl, B, HN⟩ := hrel
    have B2 := B1.trans (B.mono B1.size)
    by_cases hlt : j < l.length
    · obtain ⟨x, hx⟩ : ∃ x, l[j]? = some x := ⟨_, List.getElem?_eq_getElem hlt⟩
      obtain ⟨b, off, c', hv, hr⟩ := t3_row (HT.out.later B) hx
      obtain ⟨rfl, hd0, rfl⟩ := Value.slice.inj hv
      clear hd0 hv
      have szS := need_size x
      obtain ⟨Ws, hWs, k3, k4, k2⟩ := newv (V := wr) (t3V x) zStep 81 rfl
      have szm : (Tryz.prog.info? 81).map (·.size) = some (t3V x).toArray.size := by simpa using szS
      have oneS := t3_one x
      have i1 : (j : Int) < (l.length : Int) := by omega
      have y0 : Ws.cell? ⟨wr.heap.size, 0, none⟩ = some (.int .i64 x.1) := by rw [cell_at k3]; rfl
      have y1 : Ws.cell? ⟨wr.heap.size, 1, none⟩ = some (.int .i64 x.2.1) := by rw [cell_at k3]; rfl
      have HWS := Lib.hid hWs
      have BW := below_step B k4
      have BW2 := below_step B2 k4
      have HA := Lib.hid (anyt_snoc (s := p) hx)
      have HMM := Lib.hid (List.mem_of_getElem? hx)
      obtain ⟨d, hd⟩ : ∃ d, (x.1 == p) = d := ⟨_, rfl⟩
      rw [hd, HN.out] at HA
      have HD := Lib.hid hd
      generalize t3V x = xv at *
      have hd2 := hd
      obtain ⟨a1, a2, a3⟩ := x
      simp only at y0 y1 hd2
      clear hx hWs k4 B2 B hd HN
      cases d
      · go_wp2_with (first
          | refine wpList_load_g (by rfl) 81 (.tmp 13) (by rfl) b (off + j * 3) (by rfl) xv _ hr Tryz.underlying81 rfl szS ?_
          | (refine wpList_store_mid rfl 81 (.tmp 7) (.tmp 14) (by rfl) wr.heap.size 0 xv.toArray (by rfl) (by rfl) k2 szm oneS ?_; rw [HWS.out])
          | fail)
        go_roundw
        case rel => exact ⟨j + 1, by omega, by go_num, BW, HA⟩
        case measure => simp [intOf]; omega
      · go_wp2_with (first
          | refine wpList_load_g (by rfl) 81 (.tmp 13) (by rfl) b (off + j * 3) (by rfl) xv _ hr Tryz.underlying81 rfl szS ?_
          | (refine wpList_store_mid rfl 81 (.tmp 7) (.tmp 14) (by rfl) wr.heap.size 0 xv.toArray (by rfl) (by rfl) k2 szm oneS ?_; rw [HWS.out])
          | fail)
        refine bodyPost_ret (results_tmp2 rfl _ _ _) rfl ?_
        have hw : wantsB q p = true := by unfold wantsB; rw [HL.out]; exact List.any_eq_true.2 ⟨_, HMM.out, HD.out⟩
        exact ⟨BW2, a2, by rw [hw]; rfl⟩
    · obtain rfl : j = l.length := by omega
      rw [List.take_length] at HN
      go_wp2
      refine bodyPost_ret (results_tmp2 rfl _ _ _) rfl ?_
      have hw : wantsB q p = false := by unfold wantsB; rw [HL.out, HN.out]
      refine ⟨B2, ?_⟩
      exact ⟨_, _, rfl, hw.symm⟩
theorem stage_u8 {cs : List Value} {q : HeldM} {W : World} (h : HeldAt W cs q) : cs[6]? = some (.int .u8 q.stage) := h.stage
set_option maxHeartbeats 1000000 in
set_option maxRecDepth 100000 in
theorem locked1_c (cs : List Value) (q : HeldM) (gp : Nat) (p : Int) (r : Bool) (w : World) (hr : r = (wantsB q p && q.stage != 1)) (hH : HeldAt w cs q) (hl1 : q.needs.length ≤ 5864062014700) (hp : w.heap[gp]? = some (.cells #[.int .i64 p] 3 (0, 0))) :
    Calls Tryz.prog 78 #[.agg cs.toArray, .pointer (some ⟨gp, 0, none⟩)] w fun e w' => e = .returned (.bool r) ∧ Below w.heap.size w w' := by
  have szH := held_size hH.len
  have b0 := below_new w (.cells cs.toArray 75)
  have G := new_at (w := w) rfl (.cells cs.toArray 75)
  have RH := range_of G
  have HH := Lib.hid (hH.later b0)
  have x0 := cell_at (old_at hp (.cells cs.toArray 75)) 0
  have HR := Lib.hid hr
  have HST := Lib.hid hH.stage
  clear hH hr
  go_enter Tryz.func78, Tryz.ntmps78
  go_upto_region 1 with (fail)
  generalize w.alloc (.cells cs.toArray 75) = W0 at *
  go_wp2_with (first
    | refine wpList_load_g (by rfl) 75 (.tmp 2) (by rfl) w.heap.size 0 (by rfl) cs _ RH Tryz.underlying75 rfl szH ?_
    | fail)
  refine (Wants_c cs q p W0 HH.out hl1).mono ?_
  rintro e W1 ⟨b1, z, b, rfl, hb⟩
  have G1 := var_later G b1
  have B1 := below_step b0 b1
  have x4 := cell_list G1 HST.out
  obtain ⟨st, hst⟩ : ∃ s, q.stage = s := ⟨_, rfl⟩
  rw [hst] at x4 HR
  obtain ⟨d, hd⟩ : ∃ d, (st != 1) = d := ⟨_, rfl⟩
  rw [← hb, hd] at HR
  clear RH G b0 b1 x0 hb hst G1
  cases b
  · go_wp2
    go_ret
    exact ⟨by rw [HR.out]; rfl, B1⟩
  · go_wp2
    go_ret
    exact ⟨by rw [HR.out, ← hd]; rfl, B1⟩
set_option maxHeartbeats 1000000 in
set_option maxRecDepth 100000 in
theorem steady1_c (cs : List Value) (q : HeldM) (gp : Nat) (p : Int) (r : Bool) (w : World) (hr : r = (q.sig == p)) (hH : HeldAt w cs q) (hp : w.heap[gp]? = some (.cells #[.int .i64 p] 3 (0, 0))) :
    Calls Tryz.prog 46 #[.agg cs.toArray, .pointer (some ⟨gp, 0, none⟩)] w fun e w' => e = .returned (.bool r) ∧ Below w.heap.size w w' := by
  have b0 := below_new w (.cells cs.toArray 75)
  have G := new_at (w := w) rfl (.cells cs.toArray 75)
  have x0 := cell_at (old_at hp (.cells cs.toArray 75)) 0
  have x1 := cell_list G hH.sig
  have HR := Lib.hid hr
  clear hH hr
  go_enter Tryz.func46, Tryz.ntmps46
  go_upto_region 1 with (fail)
  generalize w.alloc (.cells cs.toArray 75) = W0 at *
  go_wp2
  go_ret
  exact ⟨by rw [HR.out]; rfl, b0⟩
set_option maxHeartbeats 1000000 in
set_option maxRecDepth 100000 in
theorem index_locked (vh : Value) (css : List (List Value)) (hs : List HeldM) (gp : Nat) (p : Int) (w : World) (hK : HsAt w vh css hs) (hlen : hs.length ≤ 5864062014700) (hsm : ∀ h ∈ hs, h.needs.length ≤ 5864062014700) (hp : w.heap[gp]? = some (.cells #[.int .i64 p] 3 (0, 0))) :
    Calls Tryz.prog 80 #[vh, .func (.func 78) #[] #[.pointer (some ⟨gp, 0, none⟩)]] w fun e w' => Below w.heap.size w w' ∧ ∃ z : Int, e = .returned (.int .i64 z) ∧ decide (0 ≤ z) = hs.any (fun h => wantsB h p && h.stage != 1) := by
  obtain ⟨A, c, rfl, _⟩ := hK.sl.form
  have hll := hK.len
  obtain ⟨n, hn⟩ : ∃ n, css.length = n := ⟨_, rfl⟩
  have HN0 := Lib.hid hn
  have hn1 : n ≤ 5864062014700 := by omega
  have HK := Lib.hid hK
  have HP := Lib.hid hp
  rw [hn]
  clear hK hp
  go_enter Tryz.func80, Tryz.ntmps80
  go_wp2
  go_loopw [8] (fun i wr => ∃ j : Nat, j ≤ n ∧ i = .int .i64 j ∧ Below w.heap.size w wr ∧ Hid ((hs.take j).any (fun h => wantsB h p && h.stage != 1) = false)) (fun i _ => n - (intOf i).toNat)
  case atStart => exact ⟨0, Nat.zero_le _, rfl, Below.refl _ _, Lib.hid rfl⟩
  case round =>
    obtain ⟨k, hk, rfl, B, HF⟩ := hrel
    by_cases hlt : k < n
    · obtain ⟨cs, hcs⟩ : ∃ s, css[k]? = some s := ⟨_, List.getElem?_eq_getElem (by omega)⟩
      obtain ⟨q, hq⟩ : ∃ s, hs[k]? = some s := ⟨_, List.getElem?_eq_getElem (by omega)⟩
      have hKr := HK.out.later B
      obtain ⟨b, off, c', hv, hr⟩ := hKr.row hcs
      have hHq := hKr.at_ k cs q hcs hq
      obtain ⟨rfl, hd0, rfl⟩ := Value.slice.inj hv
      clear hd0
      have szS := held_size hHq.len
      have i1 : (k : Int) < (n : Int) := by omega
      have hnq := hsm q (List.mem_of_getElem? hq)
      obtain ⟨r, hr0⟩ : ∃ r, (fun h => wantsB h p && h.stage != 1) q = r := ⟨_, rfl⟩
      have HR := Lib.hid hr0
      have HQ := Lib.hid (List.mem_of_getElem? hq)
      have HX : Hid ((hs.take (k + 1)).any (fun h => wantsB h p && h.stage != 1) = ((hs.take k).any (fun h => wantsB h p && h.stage != 1) || r)) := Lib.hid (by rw [List.take_add_one, hq, List.any_append, ← hr0]; simp)
      have HH := Lib.hid hHq
      clear hcs hq hv hr0 hHq hKr
      go_wp2_with (first
        | refine wpList_load_g (by rfl) 75 (.tmp 14) (by rfl) b (off + k * 23) (by rfl) cs _ hr Tryz.underlying75 rfl szS ?_
        | fail)
      refine (locked1_c cs q gp p r _ HR.out.symm HH.out hnq (var_later HP.out B)).mono ?_
      rintro e W1 ⟨rfl, b1⟩
      have B1 := below_step B b1
      clear hr B b1
      cases r
      · go_wp2
        go_roundw
        case rel => exact ⟨k + 1, by omega, by go_num, B1, Lib.hid (by rw [HX.out, HF.out]; rfl)⟩
        case measure => simp [intOf]; omega
      · go_wp2
        go_ret
        exact ⟨B1, _, rfl, by rw [decide_eq_true (by omega)]; exact (List.any_eq_true.2 ⟨q, HQ.out, HR.out⟩).symm⟩
    · obtain rfl : k = n := by omega
      have hfin : hs.any (fun h => wantsB h p && h.stage != 1) = false := by have h := HF.out; rwa [List.take_of_length_le (by omega)] at h
      have HFIN := Lib.hid hfin
      clear hfin
      go_wp2
      go_ret
      exact ⟨B, _, rfl, by rw [HFIN.out]; rfl⟩
theorem contains_locked (vh : Value) (css : List (List Value)) (hs : List HeldM) (gp : Nat) (p : Int) (r : Bool) (w : World) (hr : r = hs.any (fun h => wantsB h p && h.stage != 1)) (hK : HsAt w vh css hs) (hlen : hs.length ≤ 5864062014700) (hsm : ∀ h ∈ hs, h.needs.length ≤ 5864062014700) (hp : w.heap[gp]? = some (.cells #[.int .i64 p] 3 (0, 0))) :
    Calls Tryz.prog 45 #[vh, .func (.func 78) #[] #[.pointer (some ⟨gp, 0, none⟩)]] w fun e w' => e = .returned (.bool r) ∧ Below w.heap.size w w' := by
  obtain ⟨A, c, rfl, _⟩ := hK.sl.form
  have HR := Lib.hid hr
  clear hr
  go_enter Tryz.func45, Tryz.ntmps45
  go_wp2_with fail
  refine (index_locked _ css hs gp p w hK hlen hsm hp).mono ?_
  rintro e W1 ⟨b1, z, rfl, hz⟩
  rw [← HR.out] at hz
  go_wp2
  go_ret
  exact ⟨rfl, b1⟩
set_option maxHeartbeats 1000000 in
set_option maxRecDepth 100000 in
theorem index_steady (vh : Value) (css : List (List Value)) (hs : List HeldM) (gp : Nat) (p : Int) (w : World) (hK : HsAt w vh css hs) (hlen : hs.length ≤ 5864062014700) (hsm : ∀ h ∈ hs, h.needs.length ≤ 5864062014700) (hp : w.heap[gp]? = some (.cells #[.int .i64 p] 3 (0, 0))) :
    Calls Tryz.prog 80 #[vh, .func (.func 46) #[] #[.pointer (some ⟨gp, 0, none⟩)]] w fun e w' => Below w.heap.size w w' ∧ ∃ z : Int, e = .returned (.int .i64 z) ∧ decide (0 ≤ z) = hs.any (fun h => h.sig == p) := by
  obtain ⟨A, c, rfl, _⟩ := hK.sl.form
  have hll := hK.len
  obtain ⟨n, hn⟩ : ∃ n, css.length = n := ⟨_, rfl⟩
  have HN0 := Lib.hid hn
  have hn1 : n ≤ 5864062014700 := by omega
  have HK := Lib.hid hK
  have HP := Lib.hid hp
  rw [hn]
  clear hK hp
  go_enter Tryz.func80, Tryz.ntmps80
  go_wp2
  go_loopw [8] (fun i wr => ∃ j : Nat, j ≤ n ∧ i = .int .i64 j ∧ Below w.heap.size w wr ∧ Hid ((hs.take j).any (fun h => h.sig == p) = false)) (fun i _ => n - (intOf i).toNat)
  case atStart => exact ⟨0, Nat.zero_le _, rfl, Below.refl _ _, Lib.hid rfl⟩
  case round =>
    obtain ⟨k, hk, rfl, B, HF⟩ := hrel
    by_cases hlt : k < n
    · obtain ⟨cs, hcs⟩ : ∃ s, css[k]? = some s := ⟨_, List.getElem?_eq_getElem (by omega)⟩
      obtain ⟨q, hq⟩ : ∃ s, hs[k]? = some s := ⟨_, List.getElem?_eq_getElem (by omega)⟩
      have hKr := HK.out.later B
      obtain ⟨b, off, c', hv, hr⟩ := hKr.row hcs
      have hHq := hKr.at_ k cs q hcs hq
      obtain ⟨rfl, hd0, rfl⟩ := Value.slice.inj hv
      clear hd0
      have szS := held_size hHq.len
      have i1 : (k : Int) < (n : Int) := by omega
      have hnq := hsm q (List.mem_of_getElem? hq)
      obtain ⟨r, hr0⟩ : ∃ r, (fun h => h.sig == p) q = r := ⟨_, rfl⟩
      have HR := Lib.hid hr0
      have HQ := Lib.hid (List.mem_of_getElem? hq)
      have HX : Hid ((hs.take (k + 1)).any (fun h => h.sig == p) = ((hs.take k).any (fun h => h.sig == p) || r)) := Lib.hid (by rw [List.take_add_one, hq, List.any_append, ← hr0]; simp)
      have HH := Lib.hid hHq
      clear hcs hq hv hr0 hHq hKr
      go_wp2_with (first
        | refine wpList_load_g (by rfl) 75 (.tmp 14) (by rfl) b (off + k * 23) (by rfl) cs _ hr Tryz.underlying75 rfl szS ?_
        | fail)
      refine (steady1_c cs q gp p r _ HR.out.symm HH.out (var_later HP.out B)).mono ?_
      rintro e W1 ⟨rfl, b1⟩
      have B1 := below_step B b1
      clear hr B b1
      cases r
      · go_wp2
        go_roundw
        case rel => exact ⟨k + 1, by omega, by go_num, B1, Lib.hid (by rw [HX.out, HF.out]; rfl)⟩
        case measure => simp [intOf]; omega
      · go_wp2
        go_ret
        exact ⟨B1, _, rfl, by rw [decide_eq_true (by omega)]; exact (List.any_eq_true.2 ⟨q, HQ.out, HR.out⟩).symm⟩
    · obtain rfl : k = n := by omega
      have hfin : hs.any (fun h => h.sig == p) = false := by have h := HF.out; rwa [List.take_of_length_le (by omega)] at h
      have HFIN := Lib.hid hfin
      clear hfin
      go_wp2
      go_ret
      exact ⟨B, _, rfl, by rw [HFIN.out]; rfl⟩
theorem contains_steady (vh : Value) (css : List (List Value)) (hs : List HeldM) (gp : Nat) (p : Int) (r : Bool) (w : World) (hr : r = hs.any (fun h => h.sig == p)) (hK : HsAt w vh css hs) (hlen : hs.length ≤ 5864062014700) (hsm : ∀ h ∈ hs, h.needs.length ≤ 5864062014700) (hp : w.heap[gp]? = some (.cells #[.int .i64 p] 3 (0, 0))) :
    Calls Tryz.prog 45 #[vh, .func (.func 46) #[] #[.pointer (some ⟨gp, 0, none⟩)]] w fun e w' => e = .returned (.bool r) ∧ Below w.heap.size w w' := by
  obtain ⟨A, c, rfl, _⟩ := hK.sl.form
  have HR := Lib.hid hr
  clear hr
  go_enter Tryz.func45, Tryz.ntmps45
  go_wp2_with fail
  refine (index_steady _ css hs gp p w hK hlen hsm hp).mono ?_
  rintro e W1 ⟨b1, z, rfl, hz⟩
  rw [← HR.out] at hz
  go_wp2
  go_ret
  exact ⟨rfl, b1⟩
end Go.Proofs.YtppcdmbpbbjecaaGreat
