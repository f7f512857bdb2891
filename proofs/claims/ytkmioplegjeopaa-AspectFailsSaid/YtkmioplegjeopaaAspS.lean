/- Needs that want one point both ways: the contract of the document's clash. Nothing that was there is turned. -/
import Derived.Test.YtkmioplegjeopaaAspG8
import Derived.BigQuiet
namespace Go.Proofs.Ytkmioplegjeopaa
open Go.RowKit Rf Mem Bv AM
attribute [local go_sem ↓] run_max2 run_min2
set_option maxHeartbeats 4000000 in
set_option maxRecDepth 100000 in
theorem refclash_c (va vb : Value) (la lb : List T3) (r : Bool) (w : World) (hr : r = clashB la lb) (ha : TAt w va la) (hb : TAt w vb lb) (h1 : la.length ≤ 5864062014700) (h2 : lb.length ≤ 5864062014700) :
    Calls Try.prog 31 #[va, vb] w fun e w' => e = .returned (.bool r) ∧ Below w.heap.size w w' := by
  obtain ⟨Aa, ca, rfl⟩ := ha.form
  obtain ⟨Ab, cb, rfl⟩ := hb.form
  have HA := Lib.hid ha
  have HB := Lib.hid hb
  have HR := Lib.hid hr
  clear ha hb hr
  go_enter Try.func31, Try.ntmps31
  go_wp2
  go_loopw [5] (fun i wr => ∃ k : Nat, k ≤ la.length ∧ i = .int .i64 k ∧ Below w.heap.size w wr ∧ Hid ((la.take k).any (fun x => lb.any fun y => bothB x y) = false)) (fun i _ => la.length - (intOf i).toNat)
  case atStart => exact ⟨0, Nat.zero_le _, rfl, Below.refl _ _, Lib.hid rfl⟩
  case round =>
    obtain ⟨k, hk, rfl, bel, HK⟩ := hrel
    by_cases hkl : k < la.length
    · have i1 : (k : Int) < (la.length : Int) := by omega
      have i2 : decide (k < la.length) = true := decide_eq_true hkl
      obtain ⟨x, hx⟩ : ∃ x, la[k]? = some x := ⟨_, List.getElem?_eq_getElem hkl⟩
      have HX := Lib.hid hx
      clear hx
      go_wp2
      go_loopw [6] (fun j wj => ∃ m : Nat, m ≤ lb.length ∧ j = .int .i64 m ∧ Below w.heap.size w wj ∧ Hid ((lb.take m).any (fun y => bothB x y) = false)) (fun j _ => lb.length - (intOf j).toNat)
      case atStart => exact ⟨0, Nat.zero_le _, rfl, bel, Lib.hid rfl⟩
      case round =>
        clear bel
        obtain ⟨m, hm, rfl, bel, HM⟩ := hrel
        by_cases hml : m < lb.length
        · have j1 : (m : Int) < (lb.length : Int) := by omega
          have j2 : decide (m < lb.length) = true := decide_eq_true hml
          obtain ⟨y, hy⟩ : ∃ y, lb[m]? = some y := ⟨_, List.getElem?_eq_getElem hml⟩
          obtain ⟨ba, oa, cca, hva, x0, x1, x2⟩ := t3_cells (HA.out.later bel) HX.out
          obtain ⟨bb, ob, ccb, hvb, y0, y1, y2⟩ := t3_cells (HB.out.later bel) hy
          obtain ⟨rfl, _, rfl⟩ := Value.slice.inj hva
          obtain ⟨rfl, _, rfl⟩ := Value.slice.inj hvb
          have HY := Lib.hid hy
          obtain ⟨a1, a2, a3⟩ := x
          obtain ⟨b1, b2, b3⟩ := y
          simp only at x0 x1 y0 y1
          obtain ⟨d1, hd1⟩ : ∃ d, (a1 == b1) = d := ⟨_, rfl⟩
          obtain ⟨d2, hd2⟩ : ∃ d, (a2 != b2) = d := ⟨_, rfl⟩
          have HD := Lib.hid (show bothB (a1, a2, a3) (b1, b2, b3) = (d1 && d2) by unfold bothB; rw [hd1, hd2])
          clear hva hvb hy x2 y2
          go_upto_region 7 with (fail)
          cases d1
          · go_quiet (fail)
            go_wp2
            go_roundw
            case rel => exact ⟨m + 1, by omega, by go_num, below_drewN bel _, Lib.hid (by rw [List.take_add_one, HY.out, List.any_append, HM.out]; simp [HD.out])⟩
            case measure => simp [intOf]; omega
          · cases d2
            · go_quiet (fail)
              go_wp2
              go_roundw
              case rel => exact ⟨m + 1, by omega, by go_num, below_drewN bel _, Lib.hid (by rw [List.take_add_one, HY.out, List.any_append, HM.out]; simp [HD.out])⟩
              case measure => simp [intOf]; omega
            · go_quiet (fail)
              go_wp2
              go_ret
              refine ⟨?_, below_drewN bel _⟩
              have e : clashB la lb = true := List.any_eq_true.2 ⟨_, List.mem_of_getElem? HX.out, List.any_eq_true.2 ⟨_, List.mem_of_getElem? HY.out, HD.out⟩⟩
              rw [HR.out, e]; rfl
        · obtain rfl : m = lb.length := by omega
          have j2 : decide (lb.length < lb.length) = false := decide_eq_false (by omega)
          have HM2 := HM.out
          rw [List.take_length] at HM2
          have HM3 := Lib.hid HM2
          clear HM2
          go_wp2
          go_roundw
          case rel => exact ⟨k + 1, by omega, by go_num, bel, Lib.hid (by rw [List.take_add_one, HX.out, List.any_append, HK.out]; simp [HM3.out])⟩
          case measure => simp [intOf]; omega
    · obtain rfl : k = la.length := by omega
      have i2 : decide (la.length < la.length) = false := decide_eq_false (by omega)
      go_wp2
      go_ret
      have e := HK.out
      rw [List.take_length] at e
      exact ⟨by rw [HR.out, clashB, e]; rfl, bel⟩
end Go.Proofs.Ytkmioplegjeopaa
