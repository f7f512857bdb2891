/- FrameNewer: for every argument the statement's Go text returns true and turns nothing that was there. It is proved at every argument, without a condition beyond the row. -/
import Derived.Test.YtbjhmaefjgihlaaFrmW
import Derived.Test.YtbjhmaefjgihlaaArg
import Derived.Test.YtbjhmaefjgihlaaFrame
import Derived.Deep.RegionHeld3
import Derived.Deep.DrawnRows
namespace Go.Proofs.Ytbjhmaefjgihlaa.frameNewer
open Go.ChangeShapes Go.WideShapes Go.ChangeAt Go.RowKit Rf
attribute [local go_sem ↓] run_max2 run_min2
open Mem Bv Crc Str
theorem newer_is {x y : Int} {r : Bool} (h : r = true ↔ (0 < (x - y) % 256 ∧ (x - y) % 256 < 128)) : r = newer x y := by
  unfold newer; rw [Bool.eq_iff_iff, decide_eq_true_eq]; exact h
set_option maxHeartbeats 1000000 in
set_option maxRecDepth 100000 in
theorem walk (n was by_ : Int) (w : World) (h1 : 0 ≤ n) (h2 : n < 256) (h3 : 0 ≤ was) (h4 : was < 256) (h5 : 0 ≤ by_) (h6 : by_ < 256) : Calls Try.prog 6 #[.int .u8 n, .int .u8 was, .int .u8 by_] w fun e w' => e = .returned (.bool true) ∧ Below w.heap.size w w' := by
  have hcase : (((n - was) % 256 == 128) = true ∧ false = newer n was ∧ false = newer was n) ∨ (((n - was) % 256 == 128) = false ∧ (n == was) = true ∧ false = newer n was ∧ false = newer was n) ∨ (((n - was) % 256 == 128) = false ∧ (n == was) = false ∧ ((true = newer n was ∧ false = newer was n ∧ true = newer ((n + by_) % 256) ((was + by_) % 256)) ∨ (false = newer n was ∧ true = newer was n ∧ false = newer ((n + by_) % 256) ((was + by_) % 256)))) := by
    by_cases d1 : (n - was) % 256 = 128
    · exact .inl ⟨beq_iff_eq.2 d1, newer_is (by simp; omega), newer_is (by simp; omega)⟩
    · by_cases d2 : n = was
      · exact .inr (.inl ⟨beq_eq_false_iff_ne.2 d1, beq_iff_eq.2 d2, newer_is (by simp; omega), newer_is (by simp; omega)⟩)
      · refine .inr (.inr ⟨beq_eq_false_iff_ne.2 d1, beq_eq_false_iff_ne.2 d2, ?_⟩)
        by_cases d3 : (n - was) % 256 < 128
        · exact .inl ⟨newer_is (by simp; omega), newer_is (by simp; omega), newer_is (by simp; omega)⟩
        · exact .inr ⟨newer_is (by simp; omega), newer_is (by simp; omega), newer_is (by simp; omega)⟩
  have hn1 : true = newer ((was + 1) % 256) was := newer_is (by simp; omega)
  have H0 := Lib.hid hn1
  clear hn1
  rcases hcase with ⟨q1, r1, r2⟩ | ⟨q1, q2, r1, r2⟩ | ⟨q1, q2, ⟨r1, r2, r3⟩ | ⟨r1, r2, r3⟩⟩
  all_goals
    have R1 := Lib.hid r1
    have R2 := Lib.hid r2
    try have R3 := Lib.hid r3
    clear r1 r2
    try clear r3
    go_enter Try.func6, Try.ntmps6
    go_wp2_with fail
    refine (Newer_g _ _ _ _ R1.out h1 h2 h3 h4).mono ?_
    rintro e w' ⟨rfl, rfl⟩
    go_wp2_with fail
    refine (Newer_g _ _ _ _ R2.out h3 h4 h1 h2).mono ?_
    rintro e w' ⟨rfl, rfl⟩
    go_wp2_with fail
    first
      | (refine (Newer_g _ _ _ _ R3.out (by omega) (by omega) (by omega) (by omega)).mono ?_
         rintro e w' ⟨rfl, rfl⟩
         go_wp2_with fail
         refine (Newer_g _ _ _ _ H0.out (by omega) (by omega) h3 h4).mono ?_
         rintro e w' ⟨rfl, rfl⟩
         go_wp2_with fail
         refine (wakes_c _).mono ?_)
      | refine (wakes_c _).mono ?_
    rintro e w9 ⟨rfl, b9⟩
    go_wp2
    go_ret
    exact ⟨rfl, b9⟩

theorem own : ownKnob Try.prog.godebug = none := by kernel_rfl
theorem laidOut : laidOutB Try.prog = true := by kernel_rfl
noncomputable def wit (os : Os) : World := World.holding Try.prog os ⟨#[], #[], []⟩
set_option maxRecDepth 100000 in
theorem lifted (os : Os) (started : os.Started) (H : Type) (enc : TypeId × Value → H) (F : Stop.Interp) :
    ReturnsInHanded {} Try.checked os 6 .any ((OpenSpec.ofChange Rows.frameNewerSpec).preRow enc Try.prog Try.f6 Rows.frameNewerRow.domain false Rows.frameNewerRow.laid) (((OpenSpec.ofChange Rows.frameNewerSpec).at F).post enc Try.prog Try.f6 false true false false) := by
  obtain ⟨x, hx⟩ : ∃ x, DataW.whole enc Try.prog ((wit os).forCall (fun _ _ => 0) ⟨#[], #[.int .u8 0, .int .u8 0, .int .u8 0], []⟩).memory Try.f6.params.toList Rows.frameNewerSpec.vars false (#[.int .u8 0, .int .u8 0, .int .u8 0] : Array Value).toList 8 = some x := Option.isSome_iff_exists.1 (by kernel_rfl)
  refine Fr.lift (C := Try.checked) (s := OpenSpec.ofChange Rows.frameNewerSpec) own started (by kernel_rfl) Try.func6
    (witness_row_at (enc := enc) (C := Try.checked) false (wit os) #[.int .u8 0, .int .u8 0, .int .u8 0] rfl (by kernel_rfl) (by kernel_rfl) (by kernel_rfl)
      (OpenSpec.preRow_of_cond 8 hx rfl (fun k hk => by cases hk) (by kernel_rfl) (laidMet_of_run' 8 (by kernel_rfl) (by kernel_rfl))))
    laidOut (by kernel_rfl) rfl Try.underlying4 rfl rfl ?_ ?_
  · intro ds hds
    match ds, hds with
    | [_, _, _], _ => rfl
  · intro W base args ds before hval hA hlt _ hz hL
    rw [Try.params6] at hA hval
    obtain ⟨v0, vs0, d0, ds0, p0, q0, hargs, rfl, rfl, h0, r0⟩ := trodAll_cons hA
    obtain ⟨v1, vs1, d1, ds1, p1, q1, rfl, rfl, rfl, h1, r1⟩ := trodAll_cons r0
    obtain ⟨v2, vs2, d2, ds2, p2, q2, rfl, rfl, rfl, h2, r2⟩ := trodAll_cons r1
    obtain ⟨rfl, rfl, rfl⟩ := trodAll_nil r2
    obtain rfl : args = #[v0, v1, v2] := by cases args; simp_all
    obtain ⟨a0, rfl, rfl, rfl, w0⟩ := open_int Try.underlying5 (hval 0 _ v0 rfl rfl) h0
    obtain ⟨a1, rfl, rfl, rfl, w1⟩ := open_int Try.underlying5 (hval 1 _ v1 rfl rfl) h1
    obtain ⟨a2, rfl, rfl, rfl, w2⟩ := open_int Try.underlying5 (hval 2 _ v2 rfl rfl) h2
    obtain ⟨s0, rfl⟩ := Bv.of_u8 w0
    obtain ⟨s1, rfl⟩ := Bv.of_u8 w1
    obtain ⟨s2, rfl⟩ := Bv.of_u8 w2
    have i0 := s0.isLt
    have i1 := s1.isLt
    have i2 := s2.isLt
    exact walk _ _ _ W (by omega) (by omega) (by omega) (by omega) (by omega) (by omega)

theorem said : Rows.FrameNewerSaid :=
  OpenClaim.holds_of_cond 6 Try.f6 rfl rfl rfl rfl rfl rfl rfl ⟨rfl, rfl, rfl, rfl, rfl⟩ rfl rfl rfl rfl rfl (by kernel_rfl) Try.func6 (by kernel_rfl)
    (of_decide_eq_true (by kernel_rfl)) (by unfold Func.isWrapper; first | (rw [if_pos (by decide +kernel)]; kernel_rfl) | (rw [if_neg (by decide +kernel)]; exact ⟨rfl, rfl⟩))
    (fun os started H enc _ F => by rw [OpenClaim.pre_eq_preRow]; exact lifted os started H enc F)
#print axioms said
end Go.Proofs.Ytbjhmaefjgihlaa.frameNewer
