/- TickParts: for every argument the statement's Go text returns true and turns nothing that was there. It is proved at every argument, without a condition beyond the row. -/
import Derived.Test.YtgodpmelkolhgaaDoorTickLaw
import Derived.Test.YtgodpmelkolhgaaDoorMem
import Derived.Test.YtgodpmelkolhgaaDoorCards
import Derived.Test.YtgodpmelkolhgaaDoorTie
import Derived.SevenTiedAt
import Derived.Test.YtgodpmelkolhgaaDoorFrame
namespace Go.Proofs.YtgodpmelkolhgaaDoor.tickParts
open Go.ChangeShapes Go.WideShapes Go.ChangeAt Go.RowKit Rf
attribute [local go_sem ↓] run_max2 run_min2
def mK (n : Int) (k : Nat) : Int := if k = 0 then n else min (clamp n 65535 + k) 65535
theorem mK_succ (n : Int) (k : Nat) : mK n (k + 1) = onV (mK n k) 1 65535 := by
  unfold mK onV
  rw [if_neg (by omega)]
  by_cases h : k = 0
  · subst h; rw [if_pos rfl]; omega
  · rw [if_neg h]; unfold clamp; omega
theorem mK_end (n a : Int) (k : Nat) (ha : 0 ≤ a) (hk : (k : Int) = min a 50) : onV n (min a 50) 65535 = clamp (mK n k) 65535 := by
  unfold mK onV
  split <;> unfold clamp <;> omega
theorem more_more (n a b : Int) (ha : 0 ≤ a) (hb : 0 ≤ b) : onV (onV n a 65535) b 65535 = onV n (a + b) 65535 := by unfold onV clamp; omega
set_option maxHeartbeats 1000000 in
theorem walk (n a b : Int) (w : World) (hT : Tops w) : Calls Tryd.prog 5 #[.int .i64 n, .int .i64 a, .int .i64 b] w fun e w' => e = .returned (.bool true) ∧ Below w.heap.size w w' := by
  by_cases hc1 : min a b < 0
  · go_enter Tryd.func5, Tryd.ntmps5
    go_wp2_with fail
    refine (wakes_c _ hT).mono ?_
    rintro e w1 ⟨rfl, b1⟩
    go_wp2
    go_ret
    exact ⟨rfl, b1⟩
  by_cases hc2 : 1099511627776 < max a b
  · have d1 : decide (min a b < 0) = false := by simp; omega
    have d2 : decide (1099511627776 < max a b) = true := by simp; omega
    go_enter Tryd.func5, Tryd.ntmps5
    go_wp2_with fail
    refine (wakes_c _ hT).mono ?_
    rintro e w1 ⟨rfl, b1⟩
    go_wp2
    go_ret
    exact ⟨rfl, b1⟩
  have d1 : decide (min a b < 0) = false := by simp; omega
  have d2 : decide (1099511627776 < max a b) = false := by simp; omega
  have hwr : IntKind.i64.wrap (a + b) = a + b := IntWalk.i64_in _ (by omega)
  have HM := Lib.hid (more_more n a b (by omega) (by omega))
  have ha0 : 0 ≤ a := by omega
  have ha1 : a ≤ 1099511627776 := by omega
  clear hc1 hc2
  go_enter Tryd.func5, Tryd.ntmps5
  go_wp2_with fail
  refine (More_c n a _ hT).mono ?_
  rintro e w1 ⟨rfl, b1⟩
  have t1 := hT.below b1
  go_wp2_with fail
  refine (More_c _ b _ t1).mono ?_
  rintro e w2 ⟨rfl, b2⟩
  have t2 := t1.below b2
  go_wp2_with fail
  refine (More_c n (a + b) _ t2).mono ?_
  rintro e w3 ⟨rfl, b3⟩
  have t3 := t2.below b3
  have s1 := b1.size
  have s2 := b2.size
  have s3 := b3.size
  have B3 : Below w.heap.size w w3 := (b1.trans (b2.mono (by omega))).trans (b3.mono (by omega))
  rw [HM.out]
  have hne : (onV n (a + b) 65535 != onV n (a + b) 65535) = false := by simp
  clear b1 b2 b3 t1 t2
  go_wp2_with fail
  go_loopw [7, 8] (fun m i wr => ∃ k : Nat, (k : Int) ≤ min a 50 ∧ i = .int .i64 k ∧ m = .int .i64 (mK n k) ∧ Below w.heap.size w wr) (fun _ i _ => 50 - (intOf i).toNat)
  case atStart => exact ⟨0, by omega, rfl, rfl, B3⟩
  case round =>
    obtain ⟨k, hk, rfl, rfl, hb⟩ := hrel
    have tr := hT.below hb
    have HS := Lib.hid (mK_succ n k)
    by_cases hlt : (k : Int) < min a 50
    · have f1 : decide ((k : Int) < a) = true := by simp; omega
      have f2 : decide ((k : Int) < 50) = true := by simp; omega
      go_wp2_with fail
      refine (More_c _ _ _ tr).mono ?_
      rintro e w4 ⟨rfl, b4⟩
      go_wp2
      go_roundw
      case rel => exact ⟨k + 1, by omega, by go_num, by rw [HS.out], hb.trans (b4.mono hb.size)⟩
      case measure => simp [intOf]; omega
    · have HE := Lib.hid (mK_end n a k ha0 (by omega))
      have hcond : decide ((k : Int) < a) = false ∨ (decide ((k : Int) < a) = true ∧ decide ((k : Int) < 50) = false) := by simp; omega
      rcases hcond with f1 | ⟨f1, f2⟩
      all_goals
        go_wp2_with fail
        refine (More_c n _ _ tr).mono ?_
        rintro e w4 ⟨rfl, b4⟩
        have t4 := tr.below b4
        go_wp2_with fail
        refine (Count_c _ _ t4).mono ?_
        rintro e w' ⟨rfl, rfl⟩
        rw [HE.out]
        go_wp2_with fail
        refine (wakes_c _ t4).mono ?_
        rintro e w5 ⟨rfl, b5⟩
        go_wp2
        go_ret
        have s4 := b4.size
        have s5 := hb.size
        exact ⟨rfl, (hb.trans (b4.mono (by omega))).trans (b5.mono (by omega))⟩

theorem own : ownKnob Tryd.prog.godebug = none := by kernel_rfl
theorem laidOut : laidOutB Tryd.prog = true := by kernel_rfl
noncomputable def wit (os : Os) : World :=
  { World.holding Tryd.prog os ⟨#[], #[], []⟩ with heap := (World.holding Tryd.prog os ⟨#[], #[], []⟩).heap.modify 0 fun
      | .cells _ t frozen => .cells #[.int .i64 1073741824, .int .i64 65535] t frozen
      | o => o }
set_option maxRecDepth 100000 in
theorem lifted (os : Os) (started : os.Started) (H : Type) (enc : TypeId × Value → H) (F : Stop.Interp) :
    ReturnsInHanded {} Tryd.checked os 5 .any ((OpenSpec.ofChange Rows.tickPartsSpec).preRow enc Tryd.prog Tryd.f5 Rows.tickPartsRow.domain false Rows.tickPartsRow.laid) (((OpenSpec.ofChange Rows.tickPartsSpec).at F).post enc Tryd.prog Tryd.f5 false true false false) := by
  obtain ⟨x, hx⟩ : ∃ x, DataW.whole enc Tryd.prog ((wit os).forCall (fun _ _ => 0) ⟨#[], #[.int .i64 0, .int .i64 0, .int .i64 0], []⟩).memory Tryd.f5.params.toList Rows.tickPartsSpec.vars false (#[.int .i64 0, .int .i64 0, .int .i64 0] : Array Value).toList 8 = some x := Option.isSome_iff_exists.1 (by kernel_rfl)
  refine Fr.lift (C := Tryd.checked) (s := OpenSpec.ofChange Rows.tickPartsSpec) own started (by kernel_rfl) Tryd.func5
    (witness_row_at (enc := enc) (C := Tryd.checked) false (wit os) #[.int .i64 0, .int .i64 0, .int .i64 0] rfl (by kernel_rfl) (by kernel_rfl) (by kernel_rfl)
      (OpenSpec.preRow_of_cond 8 hx rfl (fun k hk => by cases hk) (by kernel_rfl) (laidMet_of_run' 8 (by kernel_rfl) (by kernel_rfl))))
    laidOut (by kernel_rfl) rfl Tryd.underlying4 rfl rfl ?_ ?_
  · intro ds hds
    match ds, hds with
    | [_, _, _], _ => rfl
  · intro W base args ds before hval hA hlt _ hz hL
    rw [Tryd.params5] at hA hval
    obtain ⟨v0, vs0, d0, ds0, p0, q0, hargs, rfl, rfl, h0, r0⟩ := trodAll_cons hA
    obtain ⟨v1, vs1, d1, ds1, p1, q1, rfl, rfl, rfl, h1, r1⟩ := trodAll_cons r0
    obtain ⟨v2, vs2, d2, ds2, p2, q2, rfl, rfl, rfl, h2, r2⟩ := trodAll_cons r1
    obtain ⟨rfl, rfl, rfl⟩ := trodAll_nil r2
    obtain rfl : args = #[v0, v1, v2] := by cases args; simp_all
    obtain ⟨a0, rfl, rfl, rfl, w0⟩ := open_int Tryd.underlying3 (hval 0 _ v0 rfl rfl) h0
    obtain ⟨a1, rfl, rfl, rfl, w1⟩ := open_int Tryd.underlying3 (hval 1 _ v1 rfl rfl) h1
    obtain ⟨a2, rfl, rfl, rfl, w2⟩ := open_int Tryd.underlying3 (hval 2 _ v2 rfl rfl) h2
    exact walk a0 a1 a2 W (tops_of_laid hL)

theorem said : Rows.TickPartsSaid :=
  OpenClaim.holds_of_cond 5 Tryd.f5 rfl rfl rfl rfl rfl rfl rfl ⟨rfl, rfl, rfl, rfl, rfl⟩ rfl rfl rfl rfl rfl (by kernel_rfl) Tryd.func5 (by kernel_rfl)
    (of_decide_eq_true (by kernel_rfl)) (by unfold Func.isWrapper; first | (rw [if_pos (by decide +kernel)]; kernel_rfl) | (rw [if_neg (by decide +kernel)]; exact ⟨rfl, rfl⟩))
    (fun os started H enc _ F => by rw [OpenClaim.pre_eq_preRow]; exact lifted os started H enc F)

theorem plain (f : FuncId) (fn : Func) (hf : Tryd.pinned.checked.prog.funcNamed "lockbar/lockbarlaw03.TickParts" = some f) (hfn : Tryd.pinned.checked.prog.funcs[f]? = some fn) :
    false = Tryd.pinned.checked.prog.looks [] ∧ ∀ (j : Nat) t, fn.params[j]? = some t → Tryd.pinned.checked.prog.wantsStandIn t = false := by
  obtain rfl : f = 5 := Option.some.inj ((show Tryd.prog.funcNamed "lockbar/lockbarlaw03.TickParts" = some 5 by kernel_rfl).symm.trans hf) |>.symm
  obtain rfl : fn = Tryd.f5 := (Option.some.inj (Tryd.func5.symm.trans hfn)).symm
  refine ⟨by kernel_rfl, fun j t ht => ?_⟩
  have hm : t ∈ Tryd.f5.params.toList := by simpa using Array.mem_of_getElem? ht
  have hall : (Tryd.f5.params.toList.all fun u => !Tryd.prog.wantsStandIn u) = true := by kernel_rfl
  exact (show Tryd.prog.wantsStandIn t = false by simpa using List.all_eq_true.1 hall t hm)

theorem card : Rows.TickPartsCardSaid :=
  Claim7.holds_tied_plain_at .later [] _ _ _ _ said (fun _ h => by cases h) (by kernel_rfl) (fun _ h => by cases h) tickParts_row_tie rfl ⟨rfl, rfl⟩ (by kernel_rfl) rfl plain (by kernel_rfl)
#print axioms card
end Go.Proofs.YtgodpmelkolhgaaDoor.tickParts
