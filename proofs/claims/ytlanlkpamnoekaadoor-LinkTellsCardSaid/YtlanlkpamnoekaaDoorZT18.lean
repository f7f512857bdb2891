/- LinkTells: for every argument the statement's Go text returns true and turns nothing that was there, on every schedule, without a data race. It is proved at every argument, without a condition beyond the row. -/
import Derived.Test.YtlanlkpamnoekaaDoorZT17
import Derived.Test.YtlanlkpamnoekaaDoorZT04
import Derived.Test.YtlanlkpamnoekaaDoorZT13
import Derived.Test.YtlanlkpamnoekaaDoorCards
import Derived.Test.YtlanlkpamnoekaaDoorTie
import Derived.Test.YtlanlkpamnoekaaDoorZT10
import Derived.Conc.Holds
import Derived.Test.YtlanlkpamnoekaaDoorZT09
import Derived.Deep.RegionHeld3
import Derived.Deep.CutRange
import Derived.Deep.DrawnRows
set_option linter.unusedSimpArgs false
set_option linter.unusedVariables false
namespace Go.Proofs.YtlanlkpamnoekaaDoor.linkTells
open Go.ChangeShapes Go.WideShapes Go.ChangeAt Go.RowKit Rf Mem Go.Conc
attribute [local go_sem ↓] run_max2 run_min2
open Go.Proofs.YtlanlkpamnoekaaDoor.Lk Go.Proofs.YtlanlkpamnoekaaDoor.Bv in
theorem walk (y : Nat → Value) (tl s q e kd : Int) (v3 v5 : Value) (a b c d : U32) (us : List Value) (xs : List (List (BitVec 8))) (Y : List (BitVec 8)) (W : World) (hT : Tops W) (hQ : LayQ W y) (hs : SliceAt W 1 v3 us.length us) (hE : ElsW W us xs) (hp : SliceAt W 1 v5 Y.length (u8s Y)) :
    ∃ M last o w' t', runNT Tryd.prog (M + 1) (crowd #[Conc.G (Frame.enter Tryd.prog 3 #[ly y tl, lk s q e, .int .u8 kd, v3, inv a b c d, v5] .normal) []] W none) #[] = (.ended o w', t') ∧ runN Tryd.prog M (crowd #[Conc.G (Frame.enter Tryd.prog 3 #[ly y tl, lk s q e, .int .u8 kd, v3, inv a b c d, v5] .normal) []] W none) = .next last ∧ step Tryd.prog last = .ended o w' ∧
      Conc.Good Tryd.prog (fun v W' => v = .bool true ∧ Below W.heap.size W W') last o w' t' := by
  obtain ⟨Af, cf, rfl, _⟩ := hs.form
  obtain ⟨Ay, cy, rfl, _⟩ := hp.form
  exact law_ends (r := 12) Tryd.func3 rfl (by decide) fun m t h => tells_runs y tl s q e kd Af cf us.length a b c d Ay cy Y.length us xs Y rfl rfl W hT hQ hs hE hp m t h

theorem own : ownKnob Tryd.prog.godebug = none := by kernel_rfl
theorem laidOut : laidOutB Tryd.prog = true := by kernel_rfl
noncomputable def wit (os : Os) : World :=
  { World.holding Tryd.prog os ⟨#[], #[], []⟩ with heap := (World.holding Tryd.prog os ⟨#[], #[], []⟩).heap.modify 0 fun
      | .cells _ t frozen => .cells #[.int .i64 1073741824, .int .i64 65535] t frozen
      | o => o }
set_option maxRecDepth 100000 in
theorem lifted (os : Os) (started : os.Started) (H : Type) (enc : TypeId × Value → H) :
    ReturnsInLeavingWide {} Tryd.checked os 3 .any ((OpenSpec.ofChange Rows.linkTellsSpec).preRow enc Tryd.prog Tryd.f3 Rows.linkTellsRow.domain false Rows.linkTellsRow.laid) (Rows.linkTellsSpec.post enc Tryd.prog Tryd.f3 false true false false) := by
  obtain ⟨x, hx⟩ : ∃ x, DataW.whole enc Tryd.prog ((wit os).forCall (fun _ _ => 0) ⟨#[], #[.agg #[.slice none 0 0, .slice none 0 0, .slice none 0 0, .slice none 0 0, .int .i64 0, .int .i64 0, .int .i64 0, .int .i64 0, .int .i64 0, .int .i64 0, .int .i64 0], .agg #[.int .i64 0, .int .i64 0, .int .i64 0], .int .u8 0, .slice none 0 0, .agg #[.int .u32 0, .int .u32 0, .int .u32 0, .int .u32 0], .slice none 0 0], []⟩).memory Tryd.f3.params.toList Rows.linkTellsSpec.vars false (#[.agg #[.slice none 0 0, .slice none 0 0, .slice none 0 0, .slice none 0 0, .int .i64 0, .int .i64 0, .int .i64 0, .int .i64 0, .int .i64 0, .int .i64 0, .int .i64 0], .agg #[.int .i64 0, .int .i64 0, .int .i64 0], .int .u8 0, .slice none 0 0, .agg #[.int .u32 0, .int .u32 0, .int .u32 0, .int .u32 0], .slice none 0 0] : Array Value).toList 8 = some x := Option.isSome_iff_exists.1 (by kernel_rfl)
  refine Fr.liftL (C := Tryd.checked) (s := Rows.linkTellsSpec) own started Tryd.func3
    (witness_row_at (enc := enc) (C := Tryd.checked) false (wit os) #[.agg #[.slice none 0 0, .slice none 0 0, .slice none 0 0, .slice none 0 0, .int .i64 0, .int .i64 0, .int .i64 0, .int .i64 0, .int .i64 0, .int .i64 0, .int .i64 0], .agg #[.int .i64 0, .int .i64 0, .int .i64 0], .int .u8 0, .slice none 0 0, .agg #[.int .u32 0, .int .u32 0, .int .u32 0, .int .u32 0], .slice none 0 0] rfl (by kernel_rfl) (by kernel_rfl) (by kernel_rfl)
      (OpenSpec.preRow_of_cond 8 hx rfl (fun k hk => by cases hk) (by kernel_rfl) (laidMet_of_run' 8 (by kernel_rfl) (by kernel_rfl))))
    laidOut (by kernel_rfl) rfl Tryd.underlying4 rfl ?_ ?_
  · intro ds hds
    match ds, hds with
    | [_, _, _, _, _, _], _ => rfl
  · intro W base args ds before hval hA hlt _ hL
    rw [Tryd.params3] at hA hval
    obtain ⟨v0, vs0, d0, ds0, p0, q0, hargs, rfl, rfl, h0, r0⟩ := trodAll_cons hA
    obtain ⟨v1, vs1, d1, ds1, p1, q1, rfl, rfl, rfl, h1, r1⟩ := trodAll_cons r0
    obtain ⟨v2, vs2, d2, ds2, p2, q2, rfl, rfl, rfl, h2, r2⟩ := trodAll_cons r1
    obtain ⟨v3, vs3, d3, ds3, p3, q3, rfl, rfl, rfl, h3, r3⟩ := trodAll_cons r2
    obtain ⟨v4, vs4, d4, ds4, p4, q4, rfl, rfl, rfl, h4, r4⟩ := trodAll_cons r3
    obtain ⟨v5, vs5, d5, ds5, p5, q5, rfl, rfl, rfl, h5, r5⟩ := trodAll_cons r4
    obtain ⟨rfl, rfl, rfl⟩ := trodAll_nil r5
    obtain rfl : args = #[v0, v1, v2, v3, v4, v5] := by cases args; simp_all
    obtain ⟨y, tl, rfl, hQ⟩ := open_layQ (hval 0 _ v0 rfl rfl) h0
    obtain ⟨s, q, e, rfl⟩ := open_link (hval 1 _ v1 rfl rfl) h1
    obtain ⟨a1, rfl, rfl, rfl, w1⟩ := open_int Tryd.underlying5 (hval 2 _ v2 rfl rfl) h2
    obtain ⟨us, xs, hsl, hE⟩ := open_rows (hval 3 _ v3 rfl rfl) h3
    obtain ⟨a, b, c, d, rfl⟩ := open_inarg (hval 4 _ v4 rfl rfl) h4
    obtain ⟨Y, hY⟩ := Bv.open_bytes_arg Tryd.underlying36 Tryd.underlying5 (by kernel_rfl) (hval 5 _ v5 rfl rfl) h5
    exact walk y tl s q e a1 v3 v5 a b c d us xs Y W (tops_of_laid hL) hQ hsl hE hY

theorem said : Rows.LinkTellsSaid :=
  OpenClaim.holds_of_wide_leaving 3 Tryd.f3 rfl rfl rfl rfl rfl rfl rfl ⟨rfl, rfl, rfl, rfl, rfl⟩ rfl rfl rfl rfl rfl (by kernel_rfl) Tryd.func3 (by kernel_rfl)
    (of_decide_eq_true (by kernel_rfl)) (by unfold Func.isWrapper; first | (rw [if_pos (by decide +kernel)]; kernel_rfl) | (rw [if_neg (by decide +kernel)]; exact ⟨rfl, rfl⟩))
    (fun os started H enc _ => by rw [OpenClaim.pre_eq_preRow]; exact lifted os started H enc)

theorem plain (f : FuncId) (fn : Func) (hf : Tryd.pinned.checked.prog.funcNamed "lockbar/lockbarlaw29.LinkTells" = some f) (hfn : Tryd.pinned.checked.prog.funcs[f]? = some fn) :
    false = Tryd.pinned.checked.prog.looks [] ∧ ∀ (j : Nat) t, fn.params[j]? = some t → Tryd.pinned.checked.prog.wantsStandIn t = false := by
  obtain rfl : f = 3 := Option.some.inj ((show Tryd.prog.funcNamed "lockbar/lockbarlaw29.LinkTells" = some 3 by kernel_rfl).symm.trans hf) |>.symm
  obtain rfl : fn = Tryd.f3 := (Option.some.inj (Tryd.func3.symm.trans hfn)).symm
  refine ⟨by kernel_rfl, fun j t ht => ?_⟩
  have hm : t ∈ Tryd.f3.params.toList := by simpa using Array.mem_of_getElem? ht
  have hall : (Tryd.f3.params.toList.all fun u => !Tryd.prog.wantsStandIn u) = true := by kernel_rfl
  exact (show Tryd.prog.wantsStandIn t = false by simpa using List.all_eq_true.1 hall t hm)

theorem card : Rows.LinkTellsCardSaid :=
  tied_goes .later [] _ _ _ _ said (fun _ h => by cases h) (by kernel_rfl) (fun _ h => by cases h) linkTells_row_tie rfl ⟨rfl, rfl⟩ (by kernel_rfl) rfl plain (by kernel_rfl)
#print axioms card
end Go.Proofs.YtlanlkpamnoekaaDoor.linkTells
