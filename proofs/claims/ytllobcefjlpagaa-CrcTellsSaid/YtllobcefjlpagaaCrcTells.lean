/- CrcTells: for every argument the statement's Go text returns true and turns nothing that was there. It is proved at every argument, without a condition beyond the row. -/
import Derived.Test.YtllobcefjlpagaaCrcLaw
import Derived.Test.YtllobcefjlpagaaFrame
import Derived.Deep.RegionHeld3
import Derived.Deep.DrawnRows
namespace Go.Proofs.Ytllobcefjlpagaa.crcTells
open Go.ChangeShapes Go.WideShapes Go.ChangeAt Go.RowKit Rf
attribute [local go_sem ↓] run_max2 run_min2
open Mem Bv Crc Str
set_option maxHeartbeats 1000000 in
set_option maxRecDepth 100000 in
theorem walk (s : BitVec 16) (bit : Bool) (v : Value) (bs : List (BitVec 8)) (w : World) (hs : SliceAt w 1 v bs.length (u8s bs)) : Calls Try.prog 3 #[.int .u16 s.toNat, .bool bit, v] w fun e w' => e = .returned (.bool true) ∧ Below w.heap.size w w' := by
  by_cases hlen : 300 < bs.length
  · obtain ⟨A, c, rfl, _⟩ := hs.form
    go_enter Try.func3, Try.ntmps3
    go_wp2_with fail
    refine (wakes_c _).mono ?_
    rintro e w1 ⟨rfl, b1⟩
    go_wp2
    go_ret
    exact ⟨rfl, b1⟩
  · have hs' := hs
    obtain ⟨A, c, rfl, _⟩ := hs.form
    clear hs
    go_enter Try.func3, Try.ntmps3
    go_wp2_with fail
    refine (Open_c _ bs _ hs' (by omega)).mono ?_
    rintro e w1 ⟨p, rfl, hp, b1⟩
    have S1 := sliceAt_of_own hp
    replace hs' := hs'.later b1
    clear hp
    go_wp2_with fail
    refine (refOpen_c _ bs _ hs' (by omega)).mono ?_
    rintro e w2 ⟨q, rfl, hq, b2⟩
    have S2 := sliceAt_of_own hq
    replace S1 := S1.later b2
    replace hs' := hs'.later b2
    have B2 := below_step b1 b2
    clear hq b1 b2
    generalize (openV bs).2 = er at *
    generalize (openV bs).1 = op at *
    go_wp2_with fail
    refine (Bit_c s bit _).mono ?_
    rintro e w' ⟨rfl, rfl⟩
    go_wp2_with fail
    refine (refBit_c s bit _).mono ?_
    rintro e w' ⟨rfl, rfl⟩
    go_wp2_with fail
    refine (Go_c s _ bs _ hs').mono ?_
    rintro e w3 ⟨rfl, b3⟩
    replace S1 := S1.later b3
    replace S2 := S2.later b3
    replace hs' := hs'.later b3
    have B3 := below_step B2 b3
    clear b3 B2
    go_wp2_with fail
    refine (refGo_c s _ bs _ hs').mono ?_
    rintro e w' ⟨rfl, rfl⟩
    go_wp2_with fail
    refine (Sum_c _ bs _ hs').mono ?_
    rintro e w4 ⟨rfl, b4⟩
    replace S1 := S1.later b4
    replace S2 := S2.later b4
    replace hs' := hs'.later b4
    have B4 := below_step B3 b4
    clear b4 B3
    go_wp2_with fail
    refine (refSum_c _ bs _ hs').mono ?_
    rintro e w' ⟨rfl, rfl⟩
    have HCL := Lib.hid (show (Crc.close bs).length = bs.length + 2 by simp [Crc.close])
    go_wp2_with fail
    refine (Close_c _ bs _ hs' (by omega)).mono ?_
    rintro e w5 ⟨x, rfl, hx, b5⟩
    rw [← HCL.out] at hx
    have S3 := sliceAt_of_own hx
    replace S1 := S1.later b5
    replace S2 := S2.later b5
    replace hs' := hs'.later b5
    have B5 := below_step B4 b5
    clear b5 B4 hx
    obtain ⟨Ax, cx, rfl, _⟩ := S3.form
    go_wp2_with fail
    refine (refClose_c _ bs _ hs' (by omega)).mono ?_
    rintro e w6 ⟨y, rfl, hy, b6⟩
    rw [← HCL.out] at hy
    have S4 := sliceAt_of_own hy
    replace S1 := S1.later b6
    replace S2 := S2.later b6
    replace S3 := S3.later b6
    have B6 := below_step B5 b6
    clear b6 B5 hy
    obtain ⟨Ay, cy, rfl, _⟩ := S4.form
    go_wp2_with fail
    refine (same_c _ _ _ _ _ S3 S4).mono ?_
    rintro e w' ⟨rfl, rfl⟩
    obtain ⟨Ap, cp, rfl, _⟩ := S1.form
    obtain ⟨Aq, cq, rfl, _⟩ := S2.form
    rw [show decide (Crc.close bs = Crc.close bs) = true from decide_eq_true rfl]
    go_wp2_with fail
    refine (same_c _ _ _ _ _ S1 S2).mono ?_
    rintro e w' ⟨rfl, rfl⟩
    rw [show decide (op = op) = true from decide_eq_true rfl]
    go_wp2_with fail
    refine (wakes_c _).mono ?_
    rintro e w7 ⟨rfl, b7⟩
    go_wp2
    go_ret
    exact ⟨rfl, below_step B6 b7⟩

theorem own : ownKnob Try.prog.godebug = none := by kernel_rfl
theorem laidOut : laidOutB Try.prog = true := by kernel_rfl
noncomputable def wit (os : Os) : World := World.holding Try.prog os ⟨#[], #[], []⟩
set_option maxRecDepth 100000 in
theorem lifted (os : Os) (started : os.Started) (H : Type) (enc : TypeId × Value → H) (F : Stop.Interp) :
    ReturnsInHanded {} Try.checked os 3 .any ((OpenSpec.ofChange Rows.crcTellsSpec).preRow enc Try.prog Try.f3 Rows.crcTellsRow.domain false Rows.crcTellsRow.laid) (((OpenSpec.ofChange Rows.crcTellsSpec).at F).post enc Try.prog Try.f3 false true false false) := by
  obtain ⟨x, hx⟩ : ∃ x, DataW.whole enc Try.prog ((wit os).forCall (fun _ _ => 0) ⟨#[], #[.int .u16 0, .bool false, .slice none 0 0], []⟩).memory Try.f3.params.toList Rows.crcTellsSpec.vars false (#[.int .u16 0, .bool false, .slice none 0 0] : Array Value).toList 8 = some x := Option.isSome_iff_exists.1 (by kernel_rfl)
  refine Fr.lift (C := Try.checked) (s := OpenSpec.ofChange Rows.crcTellsSpec) own started (by kernel_rfl) Try.func3
    (witness_row_at (enc := enc) (C := Try.checked) false (wit os) #[.int .u16 0, .bool false, .slice none 0 0] rfl (by kernel_rfl) (by kernel_rfl) (by kernel_rfl)
      (OpenSpec.preRow_of_cond 8 hx rfl (fun k hk => by cases hk) (by kernel_rfl) (laidMet_of_run' 8 (by kernel_rfl) (by kernel_rfl))))
    laidOut (by kernel_rfl) rfl Try.underlying4 rfl rfl ?_ ?_
  · intro ds hds
    match ds, hds with
    | [_, _, _], _ => rfl
  · intro W base args ds before hval hA hlt _ hz hL
    rw [Try.params3] at hA hval
    obtain ⟨v0, vs0, d0, ds0, p0, q0, hargs, rfl, rfl, h0, r0⟩ := trodAll_cons hA
    obtain ⟨v1, vs1, d1, ds1, p1, q1, rfl, rfl, rfl, h1, r1⟩ := trodAll_cons r0
    obtain ⟨v2, vs2, d2, ds2, p2, q2, rfl, rfl, rfl, h2, r2⟩ := trodAll_cons r1
    obtain ⟨rfl, rfl, rfl⟩ := trodAll_nil r2
    obtain rfl : args = #[v0, v1, v2] := by cases args; simp_all
    obtain ⟨a0, rfl, rfl, rfl, w0⟩ := open_int Try.underlying22 (hval 0 _ v0 rfl rfl) h0
    obtain ⟨a1, rfl, rfl, rfl⟩ := open_bool Try.underlying4 (hval 1 _ v1 rfl rfl) h1
    obtain ⟨bs, hb⟩ := Bv.open_bytes_arg Try.underlying23 Try.underlying5 (by kernel_rfl) (hval 2 _ v2 rfl rfl) h2
    obtain ⟨s, rfl⟩ := Bv.of_u16 w0
    exact walk s a1 v2 bs W hb

theorem said : Rows.CrcTellsSaid :=
  OpenClaim.holds_of_cond 3 Try.f3 rfl rfl rfl rfl rfl rfl rfl ⟨rfl, rfl, rfl, rfl, rfl⟩ rfl rfl rfl rfl rfl (by kernel_rfl) Try.func3 (by kernel_rfl)
    (of_decide_eq_true (by kernel_rfl)) (by unfold Func.isWrapper; first | (rw [if_pos (by decide +kernel)]; kernel_rfl) | (rw [if_neg (by decide +kernel)]; exact ⟨rfl, rfl⟩))
    (fun os started H enc _ F => by rw [OpenClaim.pre_eq_preRow]; exact lifted os started H enc F)
#print axioms said
end Go.Proofs.Ytllobcefjlpagaa.crcTells
