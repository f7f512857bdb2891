/- LinkOnce: for every argument the statement's Go text returns true and turns nothing that was there, on every schedule, without a data race. It is proved at every argument, without a condition beyond the row. -/
import Derived.Test.YtlanlkpamnoekaaDoorZO19
import Derived.Test.YtlanlkpamnoekaaDoorZO18
import Derived.Test.YtlanlkpamnoekaaDoorCards
import Derived.Test.YtlanlkpamnoekaaDoorTie
import Derived.Test.YtlanlkpamnoekaaDoorZD12
import Derived.Conc.Holds
import Derived.Test.YtlanlkpamnoekaaDoorZD11
import Derived.Deep.RegionHeld3
import Derived.Deep.CutRange
import Derived.Deep.DrawnRows
set_option linter.unusedSimpArgs false
set_option linter.unusedVariables false
namespace Go.Proofs.YtlanlkpamnoekaaDoor.linkOnce
open Go.ChangeShapes Go.WideShapes Go.ChangeAt Go.RowKit Rf Mem Go.Conc
attribute [local go_sem ↓] run_max2 run_min2
open Go.Proofs.YtlanlkpamnoekaaDoor.Lk Go.Proofs.YtlanlkpamnoekaaDoor.Bv in
theorem walk (s q e kd : Int) (v : Value) (us : List Value) (xs : List (List (BitVec 8))) (W : World) (hT : Tops W) (hs : SliceAt W 1 v us.length us) (hE : ElsW W us xs) :
    ∃ M last o w' t', runNT Tryd.prog (M + 1) (crowd #[Conc.G (Frame.enter Tryd.prog 4 #[lk s q e, .int .u8 kd, v] .normal) []] W none) #[] = (.ended o w', t') ∧ runN Tryd.prog M (crowd #[Conc.G (Frame.enter Tryd.prog 4 #[lk s q e, .int .u8 kd, v] .normal) []] W none) = .next last ∧ step Tryd.prog last = .ended o w' ∧
      Conc.Good Tryd.prog (fun v W' => v = .bool true ∧ Below W.heap.size W W') last o w' t' := by
  obtain ⟨Af, cf, rfl, _⟩ := hs.form
  exact law_ends (r := 6) Tryd.func4 rfl (by decide) fun m t h => once_runs s q e kd Af cf us.length us xs rfl W hT hs hE m t h

theorem own : ownKnob Tryd.prog.godebug = none := by kernel_rfl
theorem laidOut : laidOutB Tryd.prog = true := by kernel_rfl
noncomputable def wit (os : Os) : World :=
  { World.holding Tryd.prog os ⟨#[], #[], []⟩ with heap := (World.holding Tryd.prog os ⟨#[], #[], []⟩).heap.modify 0 fun
      | .cells _ t frozen => .cells #[.int .i64 1073741824, .int .i64 65535] t frozen
      | o => o }
set_option maxRecDepth 100000 in
theorem lifted (os : Os) (started : os.Started) (H : Type) (enc : TypeId × Value → H) :
    ReturnsInLeavingWide {} Tryd.checked os 4 .any ((OpenSpec.ofChange Rows.linkOnceSpec).preRow enc Tryd.prog Tryd.f4 Rows.linkOnceRow.domain false Rows.linkOnceRow.laid) (Rows.linkOnceSpec.post enc Tryd.prog Tryd.f4 false true false false) := by
  obtain ⟨x, hx⟩ : ∃ x, DataW.whole enc Tryd.prog ((wit os).forCall (fun _ _ => 0) ⟨#[], #[.agg #[.int .i64 0, .int .i64 0, .int .i64 0], .int .u8 0, .slice none 0 0], []⟩).memory Tryd.f4.params.toList Rows.linkOnceSpec.vars false (#[.agg #[.int .i64 0, .int .i64 0, .int .i64 0], .int .u8 0, .slice none 0 0] : Array Value).toList 8 = some x := Option.isSome_iff_exists.1 (by kernel_rfl)
  refine Fr.liftL (C := Tryd.checked) (s := Rows.linkOnceSpec) own started Tryd.func4
    (witness_row_at (enc := enc) (C := Tryd.checked) false (wit os) #[.agg #[.int .i64 0, .int .i64 0, .int .i64 0], .int .u8 0, .slice none 0 0] rfl (by kernel_rfl) (by kernel_rfl) (by kernel_rfl)
      (OpenSpec.preRow_of_cond 8 hx rfl (fun k hk => by cases hk) (by kernel_rfl) (laidMet_of_run' 8 (by kernel_rfl) (by kernel_rfl))))
    laidOut (by kernel_rfl) rfl Tryd.underlying4 rfl ?_ ?_
  · intro ds hds
    match ds, hds with
    | [_, _, _], _ => rfl
  · intro W base args ds before hval hA hlt _ hL
    rw [Tryd.params4] at hA hval
    obtain ⟨v0, vs0, d0, ds0, p0, q0, hargs, rfl, rfl, h0, r0⟩ := trodAll_cons hA
    obtain ⟨v1, vs1, d1, ds1, p1, q1, rfl, rfl, rfl, h1, r1⟩ := trodAll_cons r0
    obtain ⟨v2, vs2, d2, ds2, p2, q2, rfl, rfl, rfl, h2, r2⟩ := trodAll_cons r1
    obtain ⟨rfl, rfl, rfl⟩ := trodAll_nil r2
    obtain rfl : args = #[v0, v1, v2] := by cases args; simp_all
    obtain ⟨s, q, e, rfl⟩ := open_link (hval 0 _ v0 rfl rfl) h0
    obtain ⟨a1, rfl, rfl, rfl, w1⟩ := open_int Tryd.underlying5 (hval 1 _ v1 rfl rfl) h1
    obtain ⟨us, xs, hsl, hE⟩ := open_rows (hval 2 _ v2 rfl rfl) h2
    exact walk s q e a1 v2 us xs W (tops_of_laid hL) hsl hE

theorem said : Rows.LinkOnceSaid :=
  OpenClaim.holds_of_wide_leaving 4 Tryd.f4 rfl rfl rfl rfl rfl rfl rfl ⟨rfl, rfl, rfl, rfl, rfl⟩ rfl rfl rfl rfl rfl (by kernel_rfl) Tryd.func4 (by kernel_rfl)
    (of_decide_eq_true (by kernel_rfl)) (by unfold Func.isWrapper; first | (rw [if_pos (by decide +kernel)]; kernel_rfl) | (rw [if_neg (by decide +kernel)]; exact ⟨rfl, rfl⟩))
    (fun os started H enc _ => by rw [OpenClaim.pre_eq_preRow]; exact lifted os started H enc)

theorem plain (f : FuncId) (fn : Func) (hf : Tryd.pinned.checked.prog.funcNamed "lockbar/lockbarlaw29.LinkOnce" = some f) (hfn : Tryd.pinned.checked.prog.funcs[f]? = some fn) :
    false = Tryd.pinned.checked.prog.looks [] ∧ ∀ (j : Nat) t, fn.params[j]? = some t → Tryd.pinned.checked.prog.wantsStandIn t = false := by
  obtain rfl : f = 4 := Option.some.inj ((show Tryd.prog.funcNamed "lockbar/lockbarlaw29.LinkOnce" = some 4 by kernel_rfl).symm.trans hf) |>.symm
  obtain rfl : fn = Tryd.f4 := (Option.some.inj (Tryd.func4.symm.trans hfn)).symm
  refine ⟨by kernel_rfl, fun j t ht => ?_⟩
  have hm : t ∈ Tryd.f4.params.toList := by simpa using Array.mem_of_getElem? ht
  have hall : (Tryd.f4.params.toList.all fun u => !Tryd.prog.wantsStandIn u) = true := by kernel_rfl
  exact (show Tryd.prog.wantsStandIn t = false by simpa using List.all_eq_true.1 hall t hm)

theorem card : Rows.LinkOnceCardSaid :=
  tied_goes .later [] _ _ _ _ said (fun _ h => by cases h) (by kernel_rfl) (fun _ h => by cases h) linkOnce_row_tie rfl ⟨rfl, rfl⟩ (by kernel_rfl) rfl plain (by kernel_rfl)
#print axioms card
end Go.Proofs.YtlanlkpamnoekaaDoor.linkOnce
