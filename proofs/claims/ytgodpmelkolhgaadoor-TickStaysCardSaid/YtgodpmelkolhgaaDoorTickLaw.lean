/- What the document says of two clocks and a counter holds; the row's list gives the table of tops. -/
import Derived.Test.YtgodpmelkolhgaaDoorTickRef
import Derived.Test.YtgodpmelkolhgaaDoorFrame
import Derived.Lib.Hide
namespace Go.Proofs.YtgodpmelkolhgaaDoor
open Go.RowKit Rf
attribute [local go_sem ↓] run_max2 run_min2
theorem wakes_c (w : World) (hT : Tops w) : Calls Tryd.prog 22 #[] w fun e w' => e = .returned (.bool true) ∧ Below w.heap.size w w' := by
  have e1 : onV 0 1 1073741824 = 1 := by decide
  have e2 : onV 1073741824 1 1073741824 = 1073741824 := by decide
  have e3 : onV 65530 9 65535 = 65535 := by decide
  have e4 : clamp (-4) 1073741824 = 0 := by decide
  have e5 : clamp 1048576 65535 = 65535 := by decide
  have e6 : downV 3 = 2 := by decide
  have e7 : downV 0 = 0 := by decide
  have e8 : rowV true 6 = 7 := by decide
  have e9 : rowV false 6 = 0 := by decide
  go_enter Tryd.func22, Tryd.ntmps22
  go_wp2_with fail
  refine (Next_c _ _ hT).mono ?_
  rintro e w1 ⟨rfl, b1⟩
  have t1 := hT.below b1
  go_wp2_with fail
  refine (Next_c _ _ t1).mono ?_
  rintro e w2 ⟨rfl, b2⟩
  have t2 := t1.below b2
  go_wp2_with fail
  refine (More_c _ _ _ t2).mono ?_
  rintro e w3 ⟨rfl, b3⟩
  have t3 := t2.below b3
  go_wp2_with fail
  refine (Clock_c _ _ t3).mono ?_
  rintro e w' ⟨rfl, rfl⟩
  go_wp2_with fail
  refine (Count_c _ _ t3).mono ?_
  rintro e w' ⟨rfl, rfl⟩
  go_wp2_with fail
  refine (Down_c _ _ (by omega)).mono ?_
  rintro e w' ⟨rfl, rfl⟩
  go_wp2_with fail
  refine (Down_c _ _ (by omega)).mono ?_
  rintro e w' ⟨rfl, rfl⟩
  go_wp2_with fail
  refine (Late_c _ _ _).mono ?_
  rintro e w' ⟨rfl, rfl⟩
  go_wp2_with fail
  refine (Late_c _ _ _).mono ?_
  rintro e w' ⟨rfl, rfl⟩
  go_wp2_with fail
  refine (Row_c _ _ _ t3).mono ?_
  rintro e w4 ⟨rfl, b4⟩
  have t4 := t3.below b4
  go_wp2_with fail
  refine (Row_c _ _ _ t4).mono ?_
  rintro e w5 ⟨rfl, b5⟩
  go_wp2
  go_ret
  have s1 := b1.size
  have s2 := b2.size
  have s3 := b3.size
  have s4 := b4.size
  exact ⟨rfl, (((b1.trans (b2.mono (by omega))).trans (b3.mono (by omega))).trans (b4.mono (by omega))).trans (b5.mono (by omega))⟩
/-- WHAT THE ROW's LIST GIVES. -/
theorem tops_of_laid {W : World} (h : laidMetH Tryd.prog [("lockbar/tick.tops", Rows.laid_lockbar_tick_tops)] W) : Tops W := by
  have hg : Tryd.prog.globalNamed "lockbar/tick.tops" = some 0 := by kernel_rfl
  have t : Lib.TabIs Tryd.prog W "lockbar/tick.tops" .i64 [1073741824, 65535] := Lib.tabIs_of_head (rest := []) hg (t := 34) (by kernel_rfl) Tryd.underlying34 Tryd.underlying3 (by kernel_rfl) (by kernel_rfl) h
  have c0 := t.cell hg 0 (by decide)
  refine ⟨c0, t.cell hg 1 (by decide), ?_⟩
  unfold World.cell? at c0
  cases ho : W.heap[0]? with
  | none => simp [ho] at c0
  | some o => exact (Array.getElem?_eq_some_iff.1 ho).1
end Go.Proofs.YtgodpmelkolhgaaDoor
