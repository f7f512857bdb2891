/- Contracts of the package lockbarref03: each function returns its number and turns nothing. -/
import Derived.Test.YtppcdmbpbbjecaaGreatAspB
namespace Go.Proofs.YtppcdmbpbbjecaaGreat
open Go.RowKit Rf
attribute [local go_sem ↓] run_max2 run_min2
theorem r3within_c (n t : Int) (w : World) : Calls Tryz.prog 135 #[.int .i64 n, .int .i64 t] w fun e w' => e = .returned (.int .i64 (min (max n 0) t)) ∧ w = w' := by
  go_enter Tryz.func135, Tryz.ntmps135
  go_wp2
  go_ret
  exact ⟨rfl, rfl⟩
theorem r3Count_c (n : Int) (w : World) : Calls Tryz.prog 132 #[.int .i64 n] w fun e w' => e = .returned (.int .i64 (min (max n 0) 65535)) ∧ w = w' := by
  go_enter Tryz.func132, Tryz.ntmps132
  go_wp2_with fail
  refine (r3within_c _ _ _).mono ?_
  rintro e w' ⟨rfl, rfl⟩
  go_wp2
  go_ret
  exact ⟨rfl, rfl⟩
theorem r3More_c (n b : Int) (w : World) : Calls Tryz.prog 125 #[.int .i64 n, .int .i64 b] w fun e w' => e = .returned (.int .i64 (min (min (max n 0) 65535 + min (max b 0) 65535) 65535)) ∧ w = w' := by
  have hwr : IntKind.i64.wrap (min (max n 0) 65535 + min (max b 0) 65535) = min (max n 0) 65535 + min (max b 0) 65535 := IntWalk.i64_in _ (by omega)
  go_enter Tryz.func125, Tryz.ntmps125
  go_wp2_with fail
  refine (r3Count_c n _).mono ?_
  rintro e w' ⟨rfl, rfl⟩
  go_wp2_with fail
  refine (r3Count_c b _).mono ?_
  rintro e w' ⟨rfl, rfl⟩
  go_wp2
  go_ret
  exact ⟨rfl, rfl⟩
theorem r3Late_c (n t : Int) (w : World) : Calls Tryz.prog 110 #[.int .i64 n, .int .i64 t] w fun e w' => e = .returned (.bool (decide (t < n))) ∧ w = w' := by
  go_enter Tryz.func110, Tryz.ntmps110
  go_wp2
  go_ret
  exact ⟨rfl, rfl⟩
theorem more_eq (n b : Int) : min (min (max n 0) 65535 + min (max b 0) 65535) 65535 = onV n b 65535 := by unfold onV clamp; omega
theorem r3Row_c (told : Bool) (n : Int) (w : World) : Calls Tryz.prog 117 #[.bool told, .int .i64 n] w fun e w' => e = .returned (.int .i64 (rowV told n)) ∧ w = w' := by
  cases told
  · go_enter Tryz.func117, Tryz.ntmps117
    go_wp2
    go_ret
    exact ⟨rfl, rfl⟩
  · go_enter Tryz.func117, Tryz.ntmps117
    go_wp2_with fail
    refine (r3More_c n 1 _).mono ?_
    rw [more_eq]
    rintro e w' ⟨rfl, rfl⟩
    go_wp2
    go_ret
    exact ⟨rfl, rfl⟩
end Go.Proofs.YtppcdmbpbbjecaaGreat
