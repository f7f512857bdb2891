/- TickDown: for every argument the statement's Go text returns true and turns nothing that was there. It is proved at every argument, without a condition beyond the row. -/
import Derived.Test.YtgodpmelkolhgaaDoorTickLaw
import Derived.Test.YtgodpmelkolhgaaDoorMem
import Derived.Test.YtgodpmelkolhgaaDoorCards
import Derived.Test.YtgodpmelkolhgaaDoorTie
import Derived.SevenTiedAt
import Derived.Test.YtgodpmelkolhgaaDoorFrame
namespace Go.Proofs.YtgodpmelkolhgaaDoor.tickDown
open Go.ChangeShapes Go.WideShapes Go.ChangeAt Go.RowKit Rf
def atK (left : Int) (k : Nat) : Int := if left ≤ 0 then (if k = 0 then left else 0) else max (left - k) 0
theorem atK_succ (left : Int) (k : Nat) : atK left (k + 1) = downV (atK left k) := by
  unfold atK downV
  by_cases h : left ≤ 0
  · rw [if_pos h, if_pos h, if_neg (by omega)]; split <;> omega
  · rw [if_neg h, if_neg h]; omega
set_option maxHeartbeats 1000000 in
theorem walk (left top : Int) (w : World) (hT : Tops w) (h1 : -9223372036854775808 ≤ left) (h2 : left ≤ 9223372036854775807) : Calls Tryd.prog 6 #[.int .i64 left, .int .i64 top] w fun e w' => e = .returned (.bool true) ∧ Below w.heap.size w w' := by
  go_enter Tryd.func6, Tryd.ntmps6
  go_wp2_with fail
  go_loopw [5, 6, 7] (fun a i _ wr => ∃ k : Nat, k ≤ 50 ∧ i = .int .i64 k ∧ a = .int .i64 (atK left k) ∧ wr = w) (fun _ i _ _ => 50 - (intOf i).toNat)
  case atStart => exact ⟨0, by omega, rfl, by rw [show atK left 0 = left by unfold atK; split <;> simp <;> omega], rfl⟩
  case round =>
    obtain ⟨k, hk, rfl, rfl, rfl⟩ := hrel
    have hat : atK left k ≤ 9223372036854775807 := by unfold atK; split <;> (try split) <;> omega
    have hs := Lib.hid (atK_succ left k)
    by_cases hlt : k < 50
    · have hn1 : 0 ≤ downV (atK left k) := by unfold downV; omega
      rcases Int.lt_or_le 0 (atK left k) with hp | hp
      · have hn2 : downV (atK left k) = atK left k - 1 := by unfold downV; omega
        have hwr : IntKind.i64.wrap (atK left k - 1) = atK left k - 1 := IntWalk.i64_in _ (by omega)
        have hne : (atK left k - 1 != atK left k - 1) = false := by simp
        generalize atK left k = a at *
        go_wp2_with fail
        refine (Down_c a _ hat).mono ?_
        rintro e w' ⟨rfl, rfl⟩
        go_wp2
        go_roundw
        case rel => exact ⟨k + 1, by omega, by go_num, by rw [hs.out, hn2], by trivial⟩
        case measure => simp [intOf]; omega
      · have hn2 : downV (atK left k) = 0 := by unfold downV; omega
        generalize atK left k = a at *
        go_wp2_with fail
        refine (Down_c a _ hat).mono ?_
        rintro e w' ⟨rfl, rfl⟩
        go_wp2
        go_roundw
        case rel => exact ⟨k + 1, by omega, by go_num, by rw [hs.out, hn2], by trivial⟩
        case measure => simp [intOf]; omega
    · obtain rfl : k = 50 := by omega
      have hle : (decide (top < left) = false ∧ decide (left ≤ top) = true) ∨ (decide (top < left) = true ∧ decide (left ≤ top) = false) := by simp; omega
      rcases Int.lt_or_le 50 left with h50 | h50
      · have hv : atK left 50 = left - 50 := by unfold atK; rw [if_neg (by omega)]; omega
        have hwr : IntKind.i64.wrap (left - 50) = left - 50 := IntWalk.i64_in _ (by omega)
        have hne : (left - 50 != left - 50) = false := by simp
        rw [hv]
        clear hs hv hat
        rcases hle with ⟨hl1, hl2⟩ | ⟨hl1, hl2⟩
        all_goals
          go_wp2_with fail
          refine (Late_c _ _ _).mono ?_
          rintro e w' ⟨rfl, rfl⟩
          go_wp2_with fail
          refine (wakes_c _ hT).mono ?_
          rintro e w1 ⟨rfl, b1⟩
          go_wp2
          go_ret
          exact ⟨rfl, b1⟩
      · rcases Int.lt_or_le left 0 with h0 | h0
        · have hv : atK left 50 = 0 := by unfold atK; rw [if_pos (by omega), if_neg (by omega)]
          rw [hv]
          clear hs hv hat
          rcases hle with ⟨hl1, hl2⟩ | ⟨hl1, hl2⟩
          all_goals
            go_wp2_with fail
            refine (Late_c _ _ _).mono ?_
            rintro e w' ⟨rfl, rfl⟩
            go_wp2_with fail
            refine (wakes_c _ hT).mono ?_
            rintro e w1 ⟨rfl, b1⟩
            go_wp2
            go_ret
            exact ⟨rfl, b1⟩
        · have hv : atK left 50 = 0 := by
            unfold atK
            by_cases hz : left ≤ 0
            · rw [if_pos hz, if_neg (by omega)]
            · rw [if_neg hz]; omega
          rw [hv]
          clear hs hv hat
          rcases hle with ⟨hl1, hl2⟩ | ⟨hl1, hl2⟩
          all_goals
            go_wp2_with fail
            refine (Late_c _ _ _).mono ?_
            rintro e w' ⟨rfl, rfl⟩
            go_wp2_with fail
            refine (wakes_c _ hT).mono ?_
            rintro e w1 ⟨rfl, b1⟩
            go_wp2
            go_ret
            exact ⟨rfl, b1⟩

theorem own : ownKnob Tryd.prog.godebug = none := by kernel_rfl
theorem laidOut : laidOutB Tryd.prog = true := by kernel_rfl
noncomputable def wit (os : Os) : World :=
  { World.holding Tryd.prog os ⟨#[], #[], []⟩ with heap := (World.holding Tryd.prog os ⟨#[], #[], []⟩).heap.modify 0 fun
      | .cells _ t frozen => .cells #[.int .i64 1073741824, .int .i64 65535] t frozen
      | o => o }
set_option maxRecDepth 100000 in
theorem lifted (os : Os) (started : os.Started) (H : Type) (enc : TypeId × Value → H) (F : Stop.Interp) :
    ReturnsInHanded {} Tryd.checked os 6 .any ((OpenSpec.ofChange Rows.tickDownSpec).preRow enc Tryd.prog Tryd.f6 Rows.tickDownRow.domain false Rows.tickDownRow.laid) (((OpenSpec.ofChange Rows.tickDownSpec).at F).post enc Tryd.prog Tryd.f6 false true false false) := by
  obtain ⟨x, hx⟩ : ∃ x, DataW.whole enc Tryd.prog ((wit os).forCall (fun _ _ => 0) ⟨#[], #[.int .i64 0, .int .i64 0], []⟩).memory Tryd.f6.params.toList Rows.tickDownSpec.vars false (#[.int .i64 0, .int .i64 0] : Array Value).toList 8 = some x := Option.isSome_iff_exists.1 (by kernel_rfl)
  refine Fr.lift (C := Tryd.checked) (s := OpenSpec.ofChange Rows.tickDownSpec) own started (by kernel_rfl) Tryd.func6
    (witness_row_at (enc := enc) (C := Tryd.checked) false (wit os) #[.int .i64 0, .int .i64 0] rfl (by kernel_rfl) (by kernel_rfl) (by kernel_rfl)
      (OpenSpec.preRow_of_cond 8 hx rfl (fun k hk => by cases hk) (by kernel_rfl) (laidMet_of_run' 8 (by kernel_rfl) (by kernel_rfl))))
    laidOut (by kernel_rfl) rfl Tryd.underlying4 rfl rfl ?_ ?_
  · intro ds hds
    match ds, hds with
    | [_, _], _ => rfl
  · intro W base args ds before hval hA hlt _ hz hL
    rw [Tryd.params6] at hA hval
    obtain ⟨v0, vs0, d0, ds0, p0, q0, hargs, rfl, rfl, h0, r0⟩ := trodAll_cons hA
    obtain ⟨v1, vs1, d1, ds1, p1, q1, rfl, rfl, rfl, h1, r1⟩ := trodAll_cons r0
    obtain ⟨rfl, rfl, rfl⟩ := trodAll_nil r1
    obtain rfl : args = #[v0, v1] := by cases args; simp_all
    obtain ⟨a0, rfl, rfl, rfl, w0⟩ := open_int Tryd.underlying3 (hval 0 _ v0 rfl rfl) h0
    obtain ⟨a1, rfl, rfl, rfl, w1⟩ := open_int Tryd.underlying3 (hval 1 _ v1 rfl rfl) h1
    have bd0 := bounds_i64 w0
    exact walk a0 a1 W (tops_of_laid hL) bd0.1 bd0.2

theorem said : Rows.TickDownSaid :=
  OpenClaim.holds_of_cond 6 Tryd.f6 rfl rfl rfl rfl rfl rfl rfl ⟨rfl, rfl, rfl, rfl, rfl⟩ rfl rfl rfl rfl rfl (by kernel_rfl) Tryd.func6 (by kernel_rfl)
    (of_decide_eq_true (by kernel_rfl)) (by unfold Func.isWrapper; first | (rw [if_pos (by decide +kernel)]; kernel_rfl) | (rw [if_neg (by decide +kernel)]; exact ⟨rfl, rfl⟩))
    (fun os started H enc _ F => by rw [OpenClaim.pre_eq_preRow]; exact lifted os started H enc F)

theorem plain (f : FuncId) (fn : Func) (hf : Tryd.pinned.checked.prog.funcNamed "lockbar/lockbarlaw03.TickDown" = some f) (hfn : Tryd.pinned.checked.prog.funcs[f]? = some fn) :
    false = Tryd.pinned.checked.prog.looks [] ∧ ∀ (j : Nat) t, fn.params[j]? = some t → Tryd.pinned.checked.prog.wantsStandIn t = false := by
  obtain rfl : f = 6 := Option.some.inj ((show Tryd.prog.funcNamed "lockbar/lockbarlaw03.TickDown" = some 6 by kernel_rfl).symm.trans hf) |>.symm
  obtain rfl : fn = Tryd.f6 := (Option.some.inj (Tryd.func6.symm.trans hfn)).symm
  refine ⟨by kernel_rfl, fun j t ht => ?_⟩
  have hm : t ∈ Tryd.f6.params.toList := by simpa using Array.mem_of_getElem? ht
  have hall : (Tryd.f6.params.toList.all fun u => !Tryd.prog.wantsStandIn u) = true := by kernel_rfl
  exact (show Tryd.prog.wantsStandIn t = false by simpa using List.all_eq_true.1 hall t hm)

theorem card : Rows.TickDownCardSaid :=
  Claim7.holds_tied_plain_at .later [] _ _ _ _ said (fun _ h => by cases h) (by kernel_rfl) (fun _ h => by cases h) tickDown_row_tie rfl ⟨rfl, rfl⟩ (by kernel_rfl) rfl plain (by kernel_rfl)
#print axioms card
end Go.Proofs.YtgodpmelkolhgaaDoor.tickDown
