/- Contracts of the package lockbarref03: each function returns its number and turns nothing. -/
import Derived.Test.YtgodpmelkolhgaaDoorTick
namespace Go.Proofs.YtgodpmelkolhgaaDoor
open Go.RowKit Rf
attribute [local go_sem ↓] run_max2 run_min2
theorem r3within_c (n t : Int) (w : World) : Calls Tryd.prog 24 #[.int .i64 n, .int .i64 t] w fun e w' => e = .returned (.int .i64 (min (max n 0) t)) ∧ w = w' := by
  go_enter Tryd.func24, Tryd.ntmps24
  go_wp2
  go_ret
  exact ⟨rfl, rfl⟩
theorem r3Clock_c (n : Int) (w : World) : Calls Tryd.prog 9 #[.int .i64 n] w fun e w' => e = .returned (.int .i64 (min (max n 0) 1073741824)) ∧ w = w' := by
  go_enter Tryd.func9, Tryd.ntmps9
  go_wp2_with fail
  refine (r3within_c _ _ _).mono ?_
  rintro e w' ⟨rfl, rfl⟩
  go_wp2
  go_ret
  exact ⟨rfl, rfl⟩
theorem r3Count_c (n : Int) (w : World) : Calls Tryd.prog 13 #[.int .i64 n] w fun e w' => e = .returned (.int .i64 (min (max n 0) 65535)) ∧ w = w' := by
  go_enter Tryd.func13, Tryd.ntmps13
  go_wp2_with fail
  refine (r3within_c _ _ _).mono ?_
  rintro e w' ⟨rfl, rfl⟩
  go_wp2
  go_ret
  exact ⟨rfl, rfl⟩
theorem r3Next_c (n : Int) (w : World) : Calls Tryd.prog 11 #[.int .i64 n] w fun e w' => e = .returned (.int .i64 (min (min (max n 0) 1073741824 + 1) 1073741824)) ∧ w = w' := by
  have hwr : IntKind.i64.wrap (min (max n 0) 1073741824 + 1) = min (max n 0) 1073741824 + 1 := IntWalk.i64_in _ (by omega)
  go_enter Tryd.func11, Tryd.ntmps11
  go_wp2_with fail
  refine (r3Clock_c _ _).mono ?_
  rintro e w' ⟨rfl, rfl⟩
  go_wp2
  go_ret
  exact ⟨rfl, rfl⟩
theorem r3More_c (n b : Int) (w : World) : Calls Tryd.prog 15 #[.int .i64 n, .int .i64 b] w fun e w' => e = .returned (.int .i64 (min (min (max n 0) 65535 + min (max b 0) 65535) 65535)) ∧ w = w' := by
  have hwr : IntKind.i64.wrap (min (max n 0) 65535 + min (max b 0) 65535) = min (max n 0) 65535 + min (max b 0) 65535 := IntWalk.i64_in _ (by omega)
  go_enter Tryd.func15, Tryd.ntmps15
  go_wp2_with fail
  refine (r3Count_c n _).mono ?_
  rintro e w' ⟨rfl, rfl⟩
  go_wp2_with fail
  refine (r3Count_c b _).mono ?_
  rintro e w' ⟨rfl, rfl⟩
  go_wp2
  go_ret
  exact ⟨rfl, rfl⟩
theorem r3Down_c (n : Int) (w : World) (h1 : -9223372036854775808 ≤ n) (h2 : n ≤ 9223372036854775807) : Calls Tryd.prog 17 #[.int .i64 n] w fun e w' => e = .returned (.int .i64 (downV n)) ∧ w = w' := by
  by_cases h : n ≤ 0
  · have hd : downV n = 0 := by unfold downV; omega
    go_enter Tryd.func17, Tryd.ntmps17
    go_wp2
    go_ret
    exact ⟨by rw [hd]; rfl, rfl⟩
  · have hd : n - 1 = downV n := by unfold downV; omega
    have hwr : IntKind.i64.wrap (n - 1) = n - 1 := IntWalk.i64_in _ (by omega)
    go_enter Tryd.func17, Tryd.ntmps17
    go_wp2
    go_ret
    exact ⟨by rw [← hd]; rfl, rfl⟩
theorem r3Late_c (n t : Int) (w : World) : Calls Tryd.prog 19 #[.int .i64 n, .int .i64 t] w fun e w' => e = .returned (.bool (decide (t < n))) ∧ w = w' := by
  go_enter Tryd.func19, Tryd.ntmps19
  go_wp2
  go_ret
  exact ⟨rfl, rfl⟩
theorem more_eq (n b : Int) : min (min (max n 0) 65535 + min (max b 0) 65535) 65535 = onV n b 65535 := by unfold onV clamp; omega
theorem r3Row_c (told : Bool) (n : Int) (w : World) : Calls Tryd.prog 21 #[.bool told, .int .i64 n] w fun e w' => e = .returned (.int .i64 (rowV told n)) ∧ w = w' := by
  cases told
  · go_enter Tryd.func21, Tryd.ntmps21
    go_wp2
    go_ret
    exact ⟨rfl, rfl⟩
  · go_enter Tryd.func21, Tryd.ntmps21
    go_wp2_with fail
    refine (r3More_c n 1 _).mono ?_
    rw [more_eq]
    rintro e w' ⟨rfl, rfl⟩
    go_wp2
    go_ret
    exact ⟨rfl, rfl⟩
end Go.Proofs.YtgodpmelkolhgaaDoor
