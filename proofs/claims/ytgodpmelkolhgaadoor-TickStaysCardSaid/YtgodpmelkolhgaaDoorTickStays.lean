/- TickStays: for every argument the statement's Go text returns true and turns nothing that was there. It is proved at every argument, without a condition beyond the row. -/
import Derived.Test.YtgodpmelkolhgaaDoorTickLaw
import Derived.Test.YtgodpmelkolhgaaDoorMem
import Derived.Test.YtgodpmelkolhgaaDoorCards
import Derived.Test.YtgodpmelkolhgaaDoorTie
import Derived.SevenTiedAt
import Derived.Test.YtgodpmelkolhgaaDoorFrame
import Derived.Deep.RegionHeld3
import Derived.Deep.DrawnRows
namespace Go.Proofs.YtgodpmelkolhgaaDoor.tickStays
open Go.ChangeShapes Go.WideShapes Go.ChangeAt Go.RowKit Rf
attribute [local go_sem ↓] run_max2 run_min2
open Mem
set_option maxHeartbeats 4000000 in
set_option maxRecDepth 100000 in
theorem walk (clock count : Int) (v : Value) (zs : List Int) (w : World) (hT : Tops w) (hs : SliceAt w 1 v zs.length (ints .i64 zs)) : Calls Tryd.prog 4 #[.int .i64 clock, .int .i64 count, v] w fun e w' => e = .returned (.bool true) ∧ Below w.heap.size w w' := by
  obtain ⟨A, c, rfl, hc1, hc2, _, hc4⟩ := hs
  unfold maxLen at hc2
  by_cases hlen : 100 < zs.length
  · go_enter Tryd.func4, Tryd.ntmps4
    go_wp2_with fail
    refine (wakes_c _ hT).mono ?_
    rintro e w1 ⟨rfl, b1⟩
    go_wp2
    go_ret
    exact ⟨rfl, b1⟩
  · have hcl0 : 0 ≤ clamp clock 1073741824 ∧ clamp clock 1073741824 ≤ 1073741824 := by unfold clamp; omega
    have hco0 : 0 ≤ clamp count 65535 ∧ clamp count 65535 ≤ 65535 := by unfold clamp; omega
    go_enter Tryd.func4, Tryd.ntmps4
    go_wp2_with fail
    refine (Clock_c _ _ hT).mono ?_
    rintro e w' ⟨rfl, rfl⟩
    go_wp2_with fail
    refine (Count_c _ _ hT).mono ?_
    rintro e w' ⟨rfl, rfl⟩
    generalize clamp clock 1073741824 = a0 at *
    generalize clamp count 65535 = b0 at *
    go_wp2_with fail
    go_loopw [7, 8, 9, 10, 11] (fun a b i _ _ wr => ∃ (k : Nat) (av bv : Int), k ≤ zs.length ∧ i = .int .i64 k ∧ a = .int .i64 av ∧ b = .int .i64 bv ∧ 0 ≤ av ∧ av ≤ 1073741824 ∧ 0 ≤ bv ∧ bv ≤ 65535 ∧ Below w.heap.size w wr) (fun _ _ i _ _ _ => zs.length - (intOf i).toNat)
    case atStart => exact ⟨0, a0, b0, Nat.zero_le _, rfl, rfl, rfl, hcl0.1, hcl0.2, hco0.1, hco0.2, Below.refl _ _⟩
    case round =>
      obtain ⟨k, av, bv, hk, rfl, rfl, rfl, ha1, ha2, hb1', hb2', hb⟩ := hrel
      have tr := hT.below hb
      by_cases hlt : k < zs.length
      · rcases hc4 with h0 | ⟨bk, off, rfl, hbl, hcell⟩
        · omega
        have hbk : zs[k]? = some zs[k] := List.getElem?_eq_getElem hlt
        have hcl : wr.cell? ⟨bk, off + k, none⟩ = some (.int .i64 zs[k]) := (hb.cell (p := ⟨bk, off + k, none⟩) hbl).trans (hcell k _ (by simp [ints, hbk]))
        clear hbk hcell
        generalize zs[k] = z at *
        have hx0 : onV av 1 1073741824 = min (av + 1) 1073741824 := by unfold onV clamp; omega
        have hy0 : onV bv z 65535 = min (bv + max z 0) 65535 := by unfold onV clamp; omega
        have hN := Lib.hid (fun W hW => Next_c av W hW)
        have hM := Lib.hid (fun W hW => More_c bv z W hW)
        generalize onV av 1 1073741824 = x at *
        generalize onV bv z 65535 = y at *
        have hbx : 0 ≤ x ∧ x ≤ 1073741824 := by omega
        have hby : 0 ≤ y ∧ y ≤ 65535 := by omega
        have hwr : IntKind.i64.wrap (av + 1) = av + 1 := IntWalk.i64_in _ (by omega)
        have g1 : decide (x < av) = false := by simp; omega
        have g2 : decide (1073741824 < x) = false := by simp; omega
        have g3 : decide (av + 1 < x) = false := by simp; omega
        have g4 : decide (y < bv) = false := by simp; omega
        have g5 : decide (65535 < y) = false := by simp; omega
        have hcs1 : (x == av) = false ∨ ((x == av) = true ∧ decide (av < 1073741824) = false) := by simp; omega
        have hcs2 : (decide (z ≤ 0) = true ∧ (y != bv) = false ∧ decide (0 < z) = false) ∨ (decide (z ≤ 0) = false ∧ decide (0 < z) = true ∧ ((y == bv) = false ∨ ((y == bv) = true ∧ decide (bv < 65535) = false))) := by simp; omega
        have i1 : (0 : Int) ≤ (k : Int) := by omega
        have i2 : (k : Int) < (zs.length : Int) := by omega
        have HX := Lib.hid hx0
        have HY := Lib.hid hy0
        clear hx0 hy0
        have trd : Tops wr.drew := ⟨tr.c0, tr.c1, tr.sz⟩
        go_wp2_with fail
        go_region_held3 (fun w' => w'.cell? ⟨bk, off + k, none⟩ = some (.int .i64 z)) (first | exact hcl | exact hcA | exact hcB)
          (first
            | (go_at_call 10; refine (hN.out _ trd).mono ?_; rintro e wA ⟨rfl, hbA⟩; have hcA : wA.cell? ⟨bk, off + k, none⟩ = some (.int .i64 z) := (hbA.cell (p := ⟨bk, off + k, none⟩) (Nat.lt_of_lt_of_le hbl hb.size)).trans hcl; have tA : Tops wA := trd.below hbA)
            | (go_at_call 14; refine (hM.out _ tA).mono ?_; rintro e wB ⟨rfl, hbB⟩; have hcB : wB.cell? ⟨bk, off + k, none⟩ = some (.int .i64 z) := (hbB.cell (p := ⟨bk, off + k, none⟩) (Nat.lt_of_lt_of_le hbl (Nat.le_trans hb.size hbA.size))).trans hcA))
        have hB : Below w.heap.size w wB := (hb.drew.trans (hbA.mono (show w.heap.size ≤ _ from hb.size))).trans (hbB.mono (Nat.le_trans hb.size hbA.size))
        clear hcl hcA hbA hbB trd tr tA hN hM
        have tB := hT.below hB
        rcases hcs1 with q1 | ⟨q1, q2⟩ <;> rcases hcs2 with ⟨q3, q4, q5⟩ | ⟨q3, q5, q4 | ⟨q4, q6⟩⟩
        all_goals
          go_wp2
          go_roundw
          case rel => exact ⟨k + 1, x, y, by omega, by go_num, rfl, rfl, hbx.1, hbx.2, hby.1, hby.2, hB⟩
          case measure => simp [intOf]; omega
      · have e1 : clamp av 1073741824 = av := by unfold clamp; omega
        have e2 : clamp bv 65535 = bv := by unfold clamp; omega
        have hC := Lib.hid (Clock_c av wr tr)
        have hD := Lib.hid (Count_c bv wr tr)
        rw [e1] at hC
        rw [e2] at hD
        clear e1 e2
        have g1 : decide (0 ≤ av) = true := by simp; omega
        have g2 : decide (0 ≤ bv) = true := by simp; omega
        go_wp2_with fail
        refine hC.out.mono ?_
        rintro e w' ⟨rfl, rfl⟩
        go_wp2_with fail
        refine hD.out.mono ?_
        rintro e w' ⟨rfl, rfl⟩
        go_wp2_with fail
        refine (wakes_c _ tr).mono ?_
        rintro e w1 ⟨rfl, hb1⟩
        go_wp2
        go_ret
        exact ⟨rfl, hb.trans (hb1.mono hb.size)⟩

theorem own : ownKnob Tryd.prog.godebug = none := by kernel_rfl
theorem laidOut : laidOutB Tryd.prog = true := by kernel_rfl
noncomputable def wit (os : Os) : World :=
  { World.holding Tryd.prog os ⟨#[], #[], []⟩ with heap := (World.holding Tryd.prog os ⟨#[], #[], []⟩).heap.modify 0 fun
      | .cells _ t frozen => .cells #[.int .i64 1073741824, .int .i64 65535] t frozen
      | o => o }
set_option maxRecDepth 100000 in
theorem lifted (os : Os) (started : os.Started) (H : Type) (enc : TypeId × Value → H) (F : Stop.Interp) :
    ReturnsInHanded {} Tryd.checked os 4 .any ((OpenSpec.ofChange Rows.tickStaysSpec).preRow enc Tryd.prog Tryd.f4 Rows.tickStaysRow.domain false Rows.tickStaysRow.laid) (((OpenSpec.ofChange Rows.tickStaysSpec).at F).post enc Tryd.prog Tryd.f4 false true false false) := by
  obtain ⟨x, hx⟩ : ∃ x, DataW.whole enc Tryd.prog ((wit os).forCall (fun _ _ => 0) ⟨#[], #[.int .i64 0, .int .i64 0, .slice none 0 0], []⟩).memory Tryd.f4.params.toList Rows.tickStaysSpec.vars false (#[.int .i64 0, .int .i64 0, .slice none 0 0] : Array Value).toList 8 = some x := Option.isSome_iff_exists.1 (by kernel_rfl)
  refine Fr.lift (C := Tryd.checked) (s := OpenSpec.ofChange Rows.tickStaysSpec) own started (by kernel_rfl) Tryd.func4
    (witness_row_at (enc := enc) (C := Tryd.checked) false (wit os) #[.int .i64 0, .int .i64 0, .slice none 0 0] rfl (by kernel_rfl) (by kernel_rfl) (by kernel_rfl)
      (OpenSpec.preRow_of_cond 8 hx rfl (fun k hk => by cases hk) (by kernel_rfl) (laidMet_of_run' 8 (by kernel_rfl) (by kernel_rfl))))
    laidOut (by kernel_rfl) rfl Tryd.underlying4 rfl rfl ?_ ?_
  · intro ds hds
    match ds, hds with
    | [_, _, _], _ => rfl
  · intro W base args ds before hval hA hlt _ hz hL
    rw [Tryd.params4] at hA hval
    obtain ⟨v0, vs0, d0, ds0, p0, q0, hargs, rfl, rfl, h0, r0⟩ := trodAll_cons hA
    obtain ⟨v1, vs1, d1, ds1, p1, q1, rfl, rfl, rfl, h1, r1⟩ := trodAll_cons r0
    obtain ⟨v2, vs2, d2, ds2, p2, q2, rfl, rfl, rfl, h2, r2⟩ := trodAll_cons r1
    obtain ⟨rfl, rfl, rfl⟩ := trodAll_nil r2
    obtain rfl : args = #[v0, v1, v2] := by cases args; simp_all
    obtain ⟨a0, rfl, rfl, rfl, w0⟩ := open_int Tryd.underlying3 (hval 0 _ v0 rfl rfl) h0
    obtain ⟨a1, rfl, rfl, rfl, w1⟩ := open_int Tryd.underlying3 (hval 1 _ v1 rfl rfl) h1
    obtain ⟨zs, hz, _⟩ := Mem.open_ints_arg Tryd.underlying28 Tryd.underlying3 (by kernel_rfl) (hval 2 _ v2 rfl rfl) h2
    exact walk a0 a1 v2 zs W (tops_of_laid hL) hz

theorem said : Rows.TickStaysSaid :=
  OpenClaim.holds_of_cond 4 Tryd.f4 rfl rfl rfl rfl rfl rfl rfl ⟨rfl, rfl, rfl, rfl, rfl⟩ rfl rfl rfl rfl rfl (by kernel_rfl) Tryd.func4 (by kernel_rfl)
    (of_decide_eq_true (by kernel_rfl)) (by unfold Func.isWrapper; first | (rw [if_pos (by decide +kernel)]; kernel_rfl) | (rw [if_neg (by decide +kernel)]; exact ⟨rfl, rfl⟩))
    (fun os started H enc _ F => by rw [OpenClaim.pre_eq_preRow]; exact lifted os started H enc F)

theorem plain (f : FuncId) (fn : Func) (hf : Tryd.pinned.checked.prog.funcNamed "lockbar/lockbarlaw03.TickStays" = some f) (hfn : Tryd.pinned.checked.prog.funcs[f]? = some fn) :
    false = Tryd.pinned.checked.prog.looks [] ∧ ∀ (j : Nat) t, fn.params[j]? = some t → Tryd.pinned.checked.prog.wantsStandIn t = false := by
  obtain rfl : f = 4 := Option.some.inj ((show Tryd.prog.funcNamed "lockbar/lockbarlaw03.TickStays" = some 4 by kernel_rfl).symm.trans hf) |>.symm
  obtain rfl : fn = Tryd.f4 := (Option.some.inj (Tryd.func4.symm.trans hfn)).symm
  refine ⟨by kernel_rfl, fun j t ht => ?_⟩
  have hm : t ∈ Tryd.f4.params.toList := by simpa using Array.mem_of_getElem? ht
  have hall : (Tryd.f4.params.toList.all fun u => !Tryd.prog.wantsStandIn u) = true := by kernel_rfl
  exact (show Tryd.prog.wantsStandIn t = false by simpa using List.all_eq_true.1 hall t hm)

theorem card : Rows.TickStaysCardSaid :=
  Claim7.holds_tied_plain_at .later [] _ _ _ _ said (fun _ h => by cases h) (by kernel_rfl) (fun _ h => by cases h) tickStays_row_tie rfl ⟨rfl, rfl⟩ (by kernel_rfl) rfl plain (by kernel_rfl)
#print axioms card
end Go.Proofs.YtgodpmelkolhgaaDoor.tickStays
