/- Images: the contract of the document's Right. Nothing that was there is turned. -/
import Derived.Test.YtlcahkkpbikccaaDoorImgL
namespace Go.Proofs.YtlcahkkpbikccaaDoor
open Go.RowKit Rf Mem
attribute [local go_sem ↓] run_max2 run_min2
theorem isCount_is (n : Int) : isCount n = (!(decide (n < 0) || decide (65535 < n))) := by
  unfold isCount clamp
  rw [Bool.eq_iff_iff]
  simp
  omega
set_option maxHeartbeats 1000000 in
set_option maxRecDepth 100000 in
theorem refRight_c (M : List Value) (age : Int) (free : List Int) (occ nor rev lam : BitVec 32) (w : World) (hM : ImgF M age free occ nor rev lam) :
    Calls Tryd.prog 12 #[.agg M.toArray] w fun e w' => e = .returned (.bool (rightI free age)) ∧ Below w.heap.size w w' := by
  have b0 := below_new w (.cells M.toArray 39)
  have G0 : (w.alloc (.cells M.toArray 39)).heap[w.heap.size]? = some (.cells M.toArray 39 (0, 0)) := new_at rfl _
  have x0 := cell_list G0 hM.age
  obtain ⟨r, hr⟩ : ∃ r, rightI free age = r := ⟨_, rfl⟩
  rw [hr]
  have HR := Lib.hid hr
  clear hr
  go_enter Tryd.func12, Tryd.ntmps12
  go_wp2
  generalize w.alloc (.cells M.toArray 39) = W0 at *
  go_loopw [3] (fun i wr => ∃ k : Nat, k ≤ 24 ∧ i = .int .i64 k ∧ wr = W0 ∧ Hid ((free.take k).all isCount = true)) (fun i _ => 24 - (intOf i).toNat)
  case atStart => exact ⟨0, Nat.zero_le _, rfl, rfl, Lib.hid rfl⟩
  case round =>
    obtain ⟨k, hk, rfl, rfl, HK⟩ := hrel
    by_cases hlt : k < 24
    · obtain ⟨z, hz⟩ : ∃ z, free[k]? = some z := ⟨_, List.getElem?_eq_getElem (by rw [hM.fl]; exact hlt)⟩
      have xz := cell_list G0 (hM.free k z hz)
      have HZ := Lib.hid hz
      have i1 : (k : Int) < 24 := by omega
      have hcz := isCount_is z
      have HC := Lib.hid hcz
      have hq : (decide (z < 0) = true) ∨ (decide (z < 0) = false ∧ decide (65535 < z) = true) ∨ (decide (z < 0) = false ∧ decide (65535 < z) = false) := by
        cases decide (z < 0) <;> cases decide (65535 < z) <;> simp
      clear hz hcz
      have bad : isCount z = false → r = false := fun h => by
        rw [← HR.out]; unfold rightI
        have : free.all isCount = false := by
          rw [List.all_eq_false]
          exact ⟨z, List.mem_of_getElem? HZ.out, by rw [h]; simp⟩
        rw [this]; rfl
      have HBAD := Lib.hid bad
      clear bad
      rcases hq with t1 | ⟨t1, t2⟩ | ⟨t1, t2⟩
      · go_wp2
        go_ret
        exact ⟨by rw [HBAD.out (by rw [HC.out, t1]; rfl)]; rfl, b0⟩
      · go_wp2
        go_ret
        exact ⟨by rw [HBAD.out (by rw [HC.out, t1, t2]; rfl)]; rfl, b0⟩
      · have hcc : isCount z = true := by rw [HC.out, t1, t2]; rfl
        have HCC := Lib.hid hcc
        clear hcc
        go_wp2
        go_roundw
        case rel => exact ⟨k + 1, by omega, by go_num, trivial, Lib.hid (by rw [List.take_add_one, HZ.out, List.all_append, HK.out]; simp [HCC.out])⟩
        case measure => simp [intOf]; omega
    · obtain rfl : k = 24 := by omega
      have hfin : free.all isCount = true := by have := HK.out; rwa [List.take_of_length_le (by rw [hM.fl]; omega)] at this
      have hrb : r = isCount age := by rw [← HR.out]; unfold rightI; rw [hfin]; rfl
      rw [isCount_is] at hrb
      have HRB := Lib.hid hrb
      have hq : (decide (0 ≤ age) = false ∧ decide (age < 0) = true) ∨ (decide (0 ≤ age) = true ∧ decide (age < 0) = false ∧ decide (age ≤ 65535) = true ∧ decide (65535 < age) = false) ∨ (decide (0 ≤ age) = true ∧ decide (age < 0) = false ∧ decide (age ≤ 65535) = false ∧ decide (65535 < age) = true) := by
        simp only [decide_eq_true_eq, decide_eq_false_iff_not]; omega
      clear hfin hrb
      rcases hq with ⟨t1, t2⟩ | ⟨t1, t2, t3, t4⟩ | ⟨t1, t2, t3, t4⟩
      · have e := HRB.out
        rw [t2] at e
        have HE := Lib.hid e
        clear e t2
        go_wp2
        go_ret
        exact ⟨by rw [HE.out]; rfl, b0⟩
      all_goals
        have e := HRB.out
        rw [t2, t4] at e
        have HE := Lib.hid e
        clear e t2 t4
        go_wp2
        go_ret
        exact ⟨by rw [HE.out]; rfl, b0⟩
end Go.Proofs.YtlcahkkpbikccaaDoor
