/- Images: the contract of Right. Nothing that was there is turned. -/
import Derived.Test.YtlcahkkpbikccaaDoorImgK
namespace Go.Proofs.YtlcahkkpbikccaaDoor
open Go.RowKit Rf Mem
attribute [local go_sem ↓] run_max2 run_min2
def isCount (n : Int) : Bool := n == clamp n 65535
/-- may this image be? -/
def rightI (free : List Int) (age : Int) : Bool := free.all isCount && isCount age
theorem counter_g (n : Int) (b : Bool) (w : World) (hb : b = isCount n) (hT : Tops w) : Calls Tryd.prog 22 #[.int .i64 n] w fun e w' => e = .returned (.bool b) ∧ w = w' := by subst hb; exact counter_c n w hT
theorem index24 (cs : List Int) (k : Nat) (z : Int) (w : World) (hz : cs[k]? = some z) (hk : k < 24) : (Instr.index 34 (.agg (ints .i64 cs).toArray) (.int .i64 k)).run Tryd.prog w = .ok (.int .i64 z) w := by
  have hlt := (List.getElem?_eq_some_iff.1 hz).1
  have hp := part_int cs k hlt w
  have hg : cs.getD k 0 = z := by simp [List.getD, hz]
  rw [hg, Nat.mul_one] at hp
  have i1 : (k : Int) < 24 := by omega
  simp [Instr.index, asIntOf, go_sem, hk, hz]
set_option maxHeartbeats 1000000 in
set_option maxRecDepth 100000 in
theorem Right_c (M : List Value) (age : Int) (free : List Int) (occ nor rev lam : BitVec 32) (w : World) (hT : Tops w) (hM : ImgF M age free occ nor rev lam) :
    Calls Tryd.prog 11 #[.agg M.toArray] w fun e w' => e = .returned (.bool (rightI free age)) ∧ Below w.heap.size w w' := by
  have b0 := below_new w (.cells M.toArray 39)
  have G0 : (w.alloc (.cells M.toArray 39)).heap[w.heap.size]? = some (.cells M.toArray 39 (0, 0)) := new_at rfl _
  have sz2 : (Tryd.prog.info? 34).map (·.size) = some (ints .i64 free).length := by rw [show (ints .i64 free).length = 24 by simp [ints, hM.fl]]; kernel_rfl
  have x0 := cell_list G0 hM.age
  have hT0 := hT.below b0
  obtain ⟨r, hr⟩ : ∃ r, rightI free age = r := ⟨_, rfl⟩
  rw [hr]
  have HR := Lib.hid hr
  clear hr
  go_enter Tryd.func11, Tryd.ntmps11
  go_upto_region 1 with (fail)
  generalize w.alloc (.cells M.toArray 39) = W0 at *
  have RF : W0.rangeAt w.heap.size 1 (ints .i64 free) := fun j v hv => by
    simp only [ints, List.getElem?_map] at hv
    obtain ⟨z, hz, rfl⟩ := Option.map_eq_some_iff.1 hv
    exact cell_list G0 (hM.free j z hz)
  go_wp2_with (first
    | refine wpList_load_g (by rfl) 34 (.tmp 5) (by rfl) w.heap.size 1 (by rfl) (ints .i64 free) _ RF Tryd.underlying34 rfl sz2 ?_)
  go_loopw [7] (fun i wr => ∃ k : Nat, k ≤ 24 ∧ i = .int .i64 k ∧ wr = W0 ∧ Hid ((free.take k).all isCount = true)) (fun i _ => 24 - (intOf i).toNat)
  case atStart => exact ⟨0, Nat.zero_le _, rfl, rfl, Lib.hid rfl⟩
  case round =>
    obtain ⟨k, hk, rfl, rfl, HK⟩ := hrel
    by_cases hlt : k < 24
    · obtain ⟨z, hz⟩ : ∃ z, free[k]? = some z := ⟨_, List.getElem?_eq_getElem (by rw [hM.fl]; exact hlt)⟩
      have hix := index24 free k z wr hz hlt
      have HZ := Lib.hid hz
      have i1 : (k : Int) < 24 := by omega
      obtain ⟨b, hb⟩ : ∃ b, isCount z = b := ⟨_, rfl⟩
      have HB := Lib.hid hb.symm
      clear hz hb
      go_wp2_with fail
      refine (counter_g z b _ HB.out hT0).mono ?_
      rintro e w' ⟨rfl, rfl⟩
      cases b
      · go_wp2
        go_ret
        refine ⟨?_, b0⟩
        rw [← HR.out]
        have : free.all isCount = false := by
          rw [List.all_eq_false]
          exact ⟨z, List.mem_of_getElem? HZ.out, by rw [← HB.out]; simp⟩
        unfold rightI
        rw [this]; rfl
      · go_wp2
        go_roundw
        case rel => exact ⟨k + 1, by omega, by go_num, trivial, Lib.hid (by rw [List.take_add_one, HZ.out, List.all_append, HK.out]; simp [← HB.out])⟩
        case measure => simp [intOf]; omega
    · obtain rfl : k = 24 := by omega
      obtain ⟨b, hb⟩ : ∃ b, isCount age = b := ⟨_, rfl⟩
      have HB := Lib.hid hb.symm
      have hfin : free.all isCount = true := by have := HK.out; rwa [List.take_of_length_le (by rw [hM.fl]; omega)] at this
      have hrb : r = b := by rw [← HR.out]; unfold rightI; rw [hfin, hb]; rfl
      have HRB := Lib.hid hrb
      clear hb hfin hrb
      go_wp2_with fail
      refine (counter_g age b _ HB.out hT0).mono ?_
      rintro e w' ⟨rfl, rfl⟩
      go_wp2
      go_ret
      exact ⟨by rw [HRB.out]; rfl, b0⟩
end Go.Proofs.YtlcahkkpbikccaaDoor
