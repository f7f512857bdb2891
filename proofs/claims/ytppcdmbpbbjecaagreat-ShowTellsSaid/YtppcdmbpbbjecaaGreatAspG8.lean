/- Kernels too great: the contract of the document's Great. Nothing that was there is turned. -/
import Derived.Test.YtppcdmbpbbjecaaGreatAspH
import Derived.Deep.CutRange
namespace Go.Proofs.YtppcdmbpbbjecaaGreat
open Go.RowKit Rf Mem Bv AM
attribute [local go_sem ↓] run_max2 run_min2
/-- a route that is small enough to be asked -/
def smallH (h : HeldM) : Prop := h.steps.length ≤ 30 ∧ h.over.length ≤ 10 ∧ h.needs.length ≤ 100
/-- whether kernels are too great: what is told of those that are not -/
def Gr18 (e : Ending) (hs : List HeldM) : Prop := ∃ r : Bool, e = .returned (.bool r) ∧ (r = false → hs.length ≤ 10 ∧ ∀ h ∈ hs, smallH h)
set_option maxHeartbeats 4000000 in
set_option maxRecDepth 100000 in
theorem Great18_c (K : List Value) (vh : Value) (css : List (List Value)) (hs : List HeldM) (nx : Int) (ms : List (Int × Int × Bool)) (w : World) (hK : KerAt w K vh css hs nx ms) :
    Calls Tryz.prog 5 #[.agg K.toArray] w fun e w' => Below w.heap.size w w' ∧ Gr18 e hs := by
  have b0 := below_new w (.cells K.toArray 41)
  have G0 := new_at (w := w) rfl (.cells K.toArray 41)
  have K0 := hK.later b0
  obtain ⟨Ah, ch, rfl, _⟩ := hK.hs.sl.form
  have hll := hK.hs.len
  obtain ⟨n, hn⟩ : ∃ n, css.length = n := ⟨_, rfl⟩
  have HN := Lib.hid hn
  have KH := Lib.hid K0
  have HE := Lib.hid (hn ▸ K0.held)
  clear hK K0
  go_enter Tryz.func5, Tryz.ntmps5
  go_upto_region 1 with (fail)
  generalize w.alloc (.cells K.toArray 41) = W0 at *
  go_wp2
  go_loopw [3] (fun i wr => ∃ k : Nat, k ≤ n ∧ k ≤ 11 ∧ i = .int .i64 k ∧ Below W0.heap.size W0 wr ∧ Hid (∀ (j : Nat) (h : HeldM), j < k → hs[j]? = some h → smallH h)) (fun i _ => 11 - (intOf i).toNat)
  case atStart => exact ⟨0, Nat.zero_le _, by omega, rfl, Below.refl _ _, Lib.hid (fun j h hj => by omega)⟩
  case round =>
    obtain ⟨k, hk, hk2, rfl, hb, HK⟩ := hrel
    have GW := var_later G0 hb
    have y1 := cell_list GW HE.out
    by_cases hlt : k < n
    · by_cases hle : k ≤ 10
      · obtain ⟨cs, hcs⟩ : ∃ s, css[k]? = some s := ⟨_, List.getElem?_eq_getElem (by omega)⟩
        obtain ⟨q, hq⟩ : ∃ s, hs[k]? = some s := ⟨_, List.getElem?_eq_getElem (by omega)⟩
        have KW := KH.out.later hb
        obtain ⟨b, off, c', hv, hr⟩ := KW.hs.row hcs
        have hHq := KW.hs.at_ k cs q hcs hq
        obtain ⟨rfl, _, rfl⟩ := Value.slice.inj hv
        have szS := held_size hHq.len
        obtain ⟨Ws, hWs, k3, k4, k2⟩ := newv (V := wr) cs zHeld 75 (by rw [hHq.len]; rfl)
        have szm : (Tryz.prog.info? 75).map (·.size) = some cs.toArray.size := by simpa using szS
        have oneS : cs.toArray.all (·.oneCell') = true := all_one hHq.one
        have i1 : (k : Int) < (n : Int) := by omega
        have i2 : decide ((k : Int) ≤ 10) = true := decide_eq_true (by omega)
        have i3 : decide (k < n) = true := decide_eq_true hlt
        have HWS := Lib.hid hWs
        have HQ := Lib.hid hq
        obtain ⟨v3, e3, t3⟩ := hHq.st
        obtain ⟨v4, e4, t4⟩ := hHq.ov
        obtain ⟨v5, e5, t5⟩ := hHq.nd
        obtain ⟨A3, c3, rfl⟩ := t3.form
        obtain ⟨A4, c4, rfl⟩ := t4.form
        obtain ⟨A5, c5, rfl⟩ := t5.form
        have HE3 := Lib.hid e3
        have HE4 := Lib.hid e4
        have HE5 := Lib.hid e5
        obtain ⟨d3, hd3⟩ : ∃ d, decide ((30 : Int) < (q.steps.length : Int)) = d := ⟨_, rfl⟩
        obtain ⟨d4, hd4⟩ : ∃ d, decide ((10 : Int) < (q.over.length : Int)) = d := ⟨_, rfl⟩
        obtain ⟨d5, hd5⟩ : ∃ d, decide ((100 : Int) < (q.needs.length : Int)) = d := ⟨_, rfl⟩
        have HD := Lib.hid (show d3 = false → d4 = false → d5 = false → smallH q from fun h1 h2 h3 => by
          rw [h1] at hd3; rw [h2] at hd4; rw [h3] at hd5
          have := of_decide_eq_false hd3; have := of_decide_eq_false hd4; have := of_decide_eq_false hd5
          exact ⟨by omega, by omega, by omega⟩)
        have B2 := below_step hb k4
        clear hWs hcs hq hv hHq KW t3 t4 t5 e3 e4 e5 hn
        go_upto_region 5 with (first
          | refine wpList_load_g (by rfl) 75 (.tmp 19) (by rfl) b (off + k * 23) (by rfl) cs _ hr Tryz.underlying75 rfl szS ?_
          | (refine wpList_store_mid rfl 75 (.tmp 4) (.tmp 20) (by rfl) wr.heap.size 0 cs.toArray (by rfl) (by rfl) k2 szm oneS ?_; rw [HWS.out])
          | fail)
        clear hr k2 szm oneS y1 GW i1 i2 i3
        have z3 := cell_list k3 HE3.out
        have z4 := cell_list k3 HE4.out
        have z5 := cell_list k3 HE5.out
        cases d3
        · cases d4
          · cases d5
            · have HS := Lib.hid (HD.out rfl rfl rfl)
              go_wp2
              go_roundw
              case rel => exact ⟨k + 1, by omega, by omega, by go_num, B2, Lib.hid (fun j h hj hh => by
                rcases Nat.lt_or_ge j k with h1 | h1
                · exact HK.out j h h1 hh
                · obtain rfl : j = k := by omega
                  rw [HQ.out] at hh; cases hh; exact HS.out)⟩
              case measure => simp [intOf]; omega
            · go_wp2
              go_ret
              exact ⟨below_step b0 B2, ⟨true, rfl, fun h => by cases h⟩⟩
          · go_wp2
            go_ret
            exact ⟨below_step b0 B2, ⟨true, rfl, fun h => by cases h⟩⟩
        · go_wp2
          go_ret
          exact ⟨below_step b0 B2, ⟨true, rfl, fun h => by cases h⟩⟩
      · have i2 : decide ((k : Int) ≤ 10) = false := decide_eq_false (by omega)
        have i3 : decide (k < n) = true := decide_eq_true hlt
        have i4 : decide ((10 : Int) < (n : Int)) = true := decide_eq_true (by omega)
        have i5 : decide (10 < n) = true := decide_eq_true (by omega)
        go_wp2
        go_ret
        exact ⟨below_step b0 hb, ⟨true, rfl, fun h => by cases h⟩⟩
    · have i3 : decide (k < n) = false := decide_eq_false hlt
      obtain ⟨r, hr⟩ : ∃ r, decide ((10 : Int) < (n : Int)) = r := ⟨_, rfl⟩
      have HR := Lib.hid hr
      go_wp2
      go_ret
      refine ⟨below_step b0 hb, ⟨r, rfl, fun h => ?_⟩⟩
      subst h
      have := of_decide_eq_false HR.out
      refine ⟨by omega, fun h hh => ?_⟩
      obtain ⟨j, hj⟩ := List.getElem?_of_mem hh
      exact HK.out j h (by have := (List.getElem?_eq_some_iff.1 hj).1; omega) hj
end Go.Proofs.YtppcdmbpbbjecaaGreat
