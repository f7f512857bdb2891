/- TickRow: for every argument the statement's Go text returns true and turns nothing that was there. It is proved at every argument, without a condition beyond the row. -/
import Derived.Test.YtgodpmelkolhgaaDoorTickLaw
import Derived.Test.YtgodpmelkolhgaaDoorMem
import Derived.Test.YtgodpmelkolhgaaDoorCards
import Derived.Test.YtgodpmelkolhgaaDoorTie
import Derived.SevenTiedAt
import Derived.Test.YtgodpmelkolhgaaDoorFrame
namespace Go.Proofs.YtgodpmelkolhgaaDoor.tickRow
open Go.ChangeShapes Go.WideShapes Go.ChangeAt Go.RowKit Rf
open Mem
def since : List Bool → Nat := fun l => l.foldl (fun c b => if b then c + 1 else 0) 0
theorem since_snoc (l : List Bool) (b : Bool) : since (l ++ [b]) = if b then since l + 1 else 0 := by simp [since]
theorem since_le (l : List Bool) : since l ≤ l.length := by
  suffices ∀ (l : List Bool) (c : Nat), l.foldl (fun c b => if b then c + 1 else 0) c ≤ c + l.length by have h := this l 0; simp only [Nat.zero_add] at h; exact h
  intro l
  induction l with
  | nil => intro c; simp
  | cons b l ih =>
    intro c
    simp only [List.foldl_cons, List.length_cons]
    refine Nat.le_trans (ih _) ?_
    cases b <;> simp <;> omega
theorem since_succ (l : List Bool) (k : Nat) (b : Bool) (h : l[k]? = some b) : since (l.take (k + 1)) = if b then since (l.take k) + 1 else 0 := by
  rw [List.take_add_one, h]; exact since_snoc _ _
theorem rowV_since (b : Bool) (c : Nat) (h : c ≤ 100) : rowV b (c : Int) = ((if b then c + 1 else 0 : Nat) : Int) := by
  cases b <;> simp [rowV, onV, clamp] <;> omega
set_option maxHeartbeats 400000 in
theorem walk (v : Value) (l : List Bool) (w : World) (hT : Tops w) (hs : SliceAt w 1 v l.length (bools l)) : Calls Tryd.prog 7 #[v] w fun e w' => e = .returned (.bool true) ∧ Below w.heap.size w w' := by
  obtain ⟨A, c, rfl, hc1, hc2, _, hc4⟩ := hs
  unfold maxLen at hc2
  by_cases hlen : 100 < l.length
  · go_enter Tryd.func7, Tryd.ntmps7
    go_wp2_with fail
    refine (wakes_c _ hT).mono ?_
    rintro e w1 ⟨rfl, b1⟩
    go_wp2
    go_ret
    exact ⟨rfl, b1⟩
  · go_enter Tryd.func7, Tryd.ntmps7
    go_wp2_with fail
    go_loopw [3, 4, 5] (fun n s i wr => ∃ k : Nat, k ≤ l.length ∧ i = .int .i64 k ∧ n = .int .i64 (since (l.take k)) ∧ s = .int .i64 (since (l.take k)) ∧ Below w.heap.size w wr) (fun _ _ i _ => l.length - (intOf i).toNat)
    case atStart => exact ⟨0, Nat.zero_le _, rfl, rfl, rfl, Below.refl _ _⟩
    case round =>
      obtain ⟨k, hk, rfl, rfl, rfl, hb⟩ := hrel
      have hle : since (l.take k) ≤ k := by have := since_le (l.take k); rw [List.length_take] at this; omega
      by_cases hlt : k < l.length
      · rcases hc4 with h0 | ⟨bk, off, rfl, hbl, hcell⟩
        · omega
        have hbk : l[k]? = some l[k] := List.getElem?_eq_getElem hlt
        have hcl : wr.cell? ⟨bk, off + k, none⟩ = some (.bool l[k]) := (hb.cell (p := ⟨bk, off + k, none⟩) hbl).trans (hcell k _ (by simp [bools, hbk]))
        have HS := Lib.hid (since_succ l k _ hbk)
        have HR := Lib.hid (rowV_since l[k] (since (l.take k)) (by omega))
        have hTr := hT.below hb
        generalize since (l.take k) = s0 at *
        clear hbk hcell
        generalize l[k] = b at *
        go_wp2_with fail
        refine (Row_c b _ _ hTr).mono ?_
        rintro e w1 ⟨rfl, hb1⟩
        rw [HR.out]
        have hb2 : Below w.heap.size w w1 := hb.trans (hb1.mono hb.size)
        have hcl1 : w1.cell? ⟨bk, off + k, none⟩ = some (.bool b) := (hb1.cell (p := ⟨bk, off + k, none⟩) (Nat.lt_of_lt_of_le hbl hb.size)).trans hcl
        cases b
        all_goals
          go_wp2
          go_roundw
          case rel => exact ⟨k + 1, by omega, by go_num, by rw [HS.out]; rfl, by rw [HS.out]; rfl, hb2⟩
          case measure => simp [intOf]; omega
      · go_wp2_with fail
        refine (wakes_c _ (hT.below hb)).mono ?_
        rintro e w1 ⟨rfl, hb1⟩
        go_wp2
        go_ret
        exact ⟨rfl, hb.trans (hb1.mono hb.size)⟩

theorem own : ownKnob Tryd.prog.godebug = none := by kernel_rfl
theorem laidOut : laidOutB Tryd.prog = true := by kernel_rfl
noncomputable def wit (os : Os) : World :=
  { World.holding Tryd.prog os ⟨#[], #[], []⟩ with heap := (World.holding Tryd.prog os ⟨#[], #[], []⟩).heap.modify 0 fun
      | .cells _ t frozen => .cells #[.int .i64 1073741824, .int .i64 65535] t frozen
      | o => o }
set_option maxRecDepth 100000 in
theorem lifted (os : Os) (started : os.Started) (H : Type) (enc : TypeId × Value → H) (F : Stop.Interp) :
    ReturnsInHanded {} Tryd.checked os 7 .any ((OpenSpec.ofChange Rows.tickRowSpec).preRow enc Tryd.prog Tryd.f7 Rows.tickRowRow.domain false Rows.tickRowRow.laid) (((OpenSpec.ofChange Rows.tickRowSpec).at F).post enc Tryd.prog Tryd.f7 false true false false) := by
  obtain ⟨x, hx⟩ : ∃ x, DataW.whole enc Tryd.prog ((wit os).forCall (fun _ _ => 0) ⟨#[], #[.slice none 0 0], []⟩).memory Tryd.f7.params.toList Rows.tickRowSpec.vars false (#[.slice none 0 0] : Array Value).toList 8 = some x := Option.isSome_iff_exists.1 (by kernel_rfl)
  refine Fr.lift (C := Tryd.checked) (s := OpenSpec.ofChange Rows.tickRowSpec) own started (by kernel_rfl) Tryd.func7
    (witness_row_at (enc := enc) (C := Tryd.checked) false (wit os) #[.slice none 0 0] rfl (by kernel_rfl) (by kernel_rfl) (by kernel_rfl)
      (OpenSpec.preRow_of_cond 8 hx rfl (fun k hk => by cases hk) (by kernel_rfl) (laidMet_of_run' 8 (by kernel_rfl) (by kernel_rfl))))
    laidOut (by kernel_rfl) rfl Tryd.underlying4 rfl rfl ?_ ?_
  · intro ds hds
    match ds, hds with
    | [_], _ => rfl
  · intro W base args ds before hval hA hlt _ hz hL
    rw [Tryd.params7] at hA hval
    obtain ⟨v0, vs0, d0, ds0, p0, q0, hargs, rfl, rfl, h0, r0⟩ := trodAll_cons hA
    obtain ⟨rfl, rfl, rfl⟩ := trodAll_nil r0
    obtain rfl : args = #[v0] := by cases args; simp_all
    obtain ⟨l, hl⟩ := Mem.open_bools_arg Tryd.underlying31 Tryd.underlying4 (by kernel_rfl) (hval 0 _ v0 rfl rfl) h0
    exact walk v0 l W (tops_of_laid hL) hl

theorem said : Rows.TickRowSaid :=
  OpenClaim.holds_of_cond 7 Tryd.f7 rfl rfl rfl rfl rfl rfl rfl ⟨rfl, rfl, rfl, rfl, rfl⟩ rfl rfl rfl rfl rfl (by kernel_rfl) Tryd.func7 (by kernel_rfl)
    (of_decide_eq_true (by kernel_rfl)) (by unfold Func.isWrapper; first | (rw [if_pos (by decide +kernel)]; kernel_rfl) | (rw [if_neg (by decide +kernel)]; exact ⟨rfl, rfl⟩))
    (fun os started H enc _ F => by rw [OpenClaim.pre_eq_preRow]; exact lifted os started H enc F)

theorem plain (f : FuncId) (fn : Func) (hf : Tryd.pinned.checked.prog.funcNamed "lockbar/lockbarlaw03.TickRow" = some f) (hfn : Tryd.pinned.checked.prog.funcs[f]? = some fn) :
    false = Tryd.pinned.checked.prog.looks [] ∧ ∀ (j : Nat) t, fn.params[j]? = some t → Tryd.pinned.checked.prog.wantsStandIn t = false := by
  obtain rfl : f = 7 := Option.some.inj ((show Tryd.prog.funcNamed "lockbar/lockbarlaw03.TickRow" = some 7 by kernel_rfl).symm.trans hf) |>.symm
  obtain rfl : fn = Tryd.f7 := (Option.some.inj (Tryd.func7.symm.trans hfn)).symm
  refine ⟨by kernel_rfl, fun j t ht => ?_⟩
  have hm : t ∈ Tryd.f7.params.toList := by simpa using Array.mem_of_getElem? ht
  have hall : (Tryd.f7.params.toList.all fun u => !Tryd.prog.wantsStandIn u) = true := by kernel_rfl
  exact (show Tryd.prog.wantsStandIn t = false by simpa using List.all_eq_true.1 hall t hm)

theorem card : Rows.TickRowCardSaid :=
  Claim7.holds_tied_plain_at .later [] _ _ _ _ said (fun _ h => by cases h) (by kernel_rfl) (fun _ h => by cases h) tickRow_row_tie rfl ⟨rfl, rfl⟩ (by kernel_rfl) rfl plain (by kernel_rfl)
#print axioms card
end Go.Proofs.YtgodpmelkolhgaaDoor.tickRow
