/- CrcApart: for every argument the statement's Go text returns true and turns nothing that was there. It is proved at every argument, without a condition beyond the row. -/
import Derived.Test.YtllobcefjlpagaaCrcLaw
import Derived.Test.YtllobcefjlpagaaFrame
import Derived.Deep.RegionHeld3
import Derived.Deep.DrawnRows
namespace Go.Proofs.Ytllobcefjlpagaa.crcApart
open Go.ChangeShapes Go.WideShapes Go.ChangeAt Go.RowKit Rf
attribute [local go_sem ↓] run_max2 run_min2
open Mem Bv Crc Str
theorem eq_bv (x y : BitVec 16) : (((x.toNat : Int) == (y.toNat : Int)) : Bool) = decide (x = y) := by
  rw [Bool.eq_iff_iff]; simp only [beq_iff_eq, decide_eq_true_eq, Int.natCast_inj, BitVec.toNat_inj]
theorem bne_bv (x y : BitVec 16) (h : x ≠ y) : (((x.toNat : Int) != (y.toNat : Int)) : Bool) = true := by
  rw [bne, eq_bv, decide_eq_false h]; rfl
set_option maxHeartbeats 1000000 in
set_option maxRecDepth 100000 in
theorem walk (s t : BitVec 16) (bit : Bool) (v : Value) (bs : List (BitVec 8)) (w : World) (hs : SliceAt w 1 v bs.length (u8s bs)) : Calls Try.prog 6 #[.int .u16 s.toNat, .int .u16 t.toNat, .bool bit, v] w fun e w' => e = .returned (.bool true) ∧ Below w.heap.size w w' := by
  have e1 := ((eq_bv (by1 s bit) (by1 t bit)).trans (show decide (by1 s bit = by1 t bit) = decide (s = t) from decide_eq_decide.2 ⟨by1_inj, fun h => by rw [h]⟩))
  have e2 := ((eq_bv (Crc.go s bs) (Crc.go t bs)).trans (show decide (Crc.go s bs = Crc.go t bs) = decide (s = t) from decide_eq_decide.2 ⟨go_inj bs, fun h => by rw [h]⟩))
  have e3 := (bne_bv (by1 s true) (by1 s false) (fun h => absurd (by1_bit h) (by decide)))
  have e0 := (eq_bv s t)
  generalize decide (s = t) = d at *
  obtain ⟨A, c, rfl, _⟩ := hs.form
  by_cases hlen : 200 < bs.length
  · go_enter Try.func6, Try.ntmps6
    go_wp2_with fail
    refine (wakes_c _).mono ?_
    rintro e w1 ⟨rfl, b1⟩
    go_wp2
    go_ret
    exact ⟨rfl, b1⟩
  · go_enter Try.func6, Try.ntmps6
    go_wp2_with fail
    refine (Bit_c s bit _).mono ?_
    rintro e w' ⟨rfl, rfl⟩
    go_wp2_with fail
    refine (Bit_c t bit _).mono ?_
    rintro e w' ⟨rfl, rfl⟩
    go_wp2_with fail
    refine (Go_c s _ bs _ hs).mono ?_
    rintro e w1 ⟨rfl, b1⟩
    go_wp2_with fail
    refine (Go_c t _ bs _ (hs.later b1)).mono ?_
    rintro e w2 ⟨rfl, b2⟩
    have B2 := below_step b1 b2
    clear b1 b2
    go_wp2_with fail
    refine (Bit_c s true _).mono ?_
    rintro e w' ⟨rfl, rfl⟩
    go_wp2_with fail
    refine (Bit_c s false _).mono ?_
    rintro e w' ⟨rfl, rfl⟩
    go_wp2_with fail
    refine (wakes_c _).mono ?_
    rintro e w3 ⟨rfl, b3⟩
    go_wp2
    go_ret
    exact ⟨rfl, below_step B2 b3⟩

theorem own : ownKnob Try.prog.godebug = none := by kernel_rfl
theorem laidOut : laidOutB Try.prog = true := by kernel_rfl
noncomputable def wit (os : Os) : World := World.holding Try.prog os ⟨#[], #[], []⟩
set_option maxRecDepth 100000 in
theorem lifted (os : Os) (started : os.Started) (H : Type) (enc : TypeId × Value → H) (F : Stop.Interp) :
    ReturnsInHanded {} Try.checked os 6 .any ((OpenSpec.ofChange Rows.crcApartSpec).preRow enc Try.prog Try.f6 Rows.crcApartRow.domain false Rows.crcApartRow.laid) (((OpenSpec.ofChange Rows.crcApartSpec).at F).post enc Try.prog Try.f6 false true false false) := by
  obtain ⟨x, hx⟩ : ∃ x, DataW.whole enc Try.prog ((wit os).forCall (fun _ _ => 0) ⟨#[], #[.int .u16 0, .int .u16 0, .bool false, .slice none 0 0], []⟩).memory Try.f6.params.toList Rows.crcApartSpec.vars false (#[.int .u16 0, .int .u16 0, .bool false, .slice none 0 0] : Array Value).toList 8 = some x := Option.isSome_iff_exists.1 (by kernel_rfl)
  refine Fr.lift (C := Try.checked) (s := OpenSpec.ofChange Rows.crcApartSpec) own started (by kernel_rfl) Try.func6
    (witness_row_at (enc := enc) (C := Try.checked) false (wit os) #[.int .u16 0, .int .u16 0, .bool false, .slice none 0 0] rfl (by kernel_rfl) (by kernel_rfl) (by kernel_rfl)
      (OpenSpec.preRow_of_cond 8 hx rfl (fun k hk => by cases hk) (by kernel_rfl) (laidMet_of_run' 8 (by kernel_rfl) (by kernel_rfl))))
    laidOut (by kernel_rfl) rfl Try.underlying4 rfl rfl ?_ ?_
  · intro ds hds
    match ds, hds with
    | [_, _, _, _], _ => rfl
  · intro W base args ds before hval hA hlt _ hz hL
    rw [Try.params6] at hA hval
    obtain ⟨v0, vs0, d0, ds0, p0, q0, hargs, rfl, rfl, h0, r0⟩ := trodAll_cons hA
    obtain ⟨v1, vs1, d1, ds1, p1, q1, rfl, rfl, rfl, h1, r1⟩ := trodAll_cons r0
    obtain ⟨v2, vs2, d2, ds2, p2, q2, rfl, rfl, rfl, h2, r2⟩ := trodAll_cons r1
    obtain ⟨v3, vs3, d3, ds3, p3, q3, rfl, rfl, rfl, h3, r3⟩ := trodAll_cons r2
    obtain ⟨rfl, rfl, rfl⟩ := trodAll_nil r3
    obtain rfl : args = #[v0, v1, v2, v3] := by cases args; simp_all
    obtain ⟨a0, rfl, rfl, rfl, w0⟩ := open_int Try.underlying22 (hval 0 _ v0 rfl rfl) h0
    obtain ⟨a1, rfl, rfl, rfl, w1⟩ := open_int Try.underlying22 (hval 1 _ v1 rfl rfl) h1
    obtain ⟨a2, rfl, rfl, rfl⟩ := open_bool Try.underlying4 (hval 2 _ v2 rfl rfl) h2
    obtain ⟨bs, hb⟩ := Bv.open_bytes_arg Try.underlying23 Try.underlying5 (by kernel_rfl) (hval 3 _ v3 rfl rfl) h3
    obtain ⟨s, rfl⟩ := Bv.of_u16 w0
    obtain ⟨t, rfl⟩ := Bv.of_u16 w1
    exact walk s t a2 v3 bs W hb

theorem said : Rows.CrcApartSaid :=
  OpenClaim.holds_of_cond 6 Try.f6 rfl rfl rfl rfl rfl rfl rfl ⟨rfl, rfl, rfl, rfl, rfl⟩ rfl rfl rfl rfl rfl (by kernel_rfl) Try.func6 (by kernel_rfl)
    (of_decide_eq_true (by kernel_rfl)) (by unfold Func.isWrapper; first | (rw [if_pos (by decide +kernel)]; kernel_rfl) | (rw [if_neg (by decide +kernel)]; exact ⟨rfl, rfl⟩))
    (fun os started H enc _ F => by rw [OpenClaim.pre_eq_preRow]; exact lifted os started H enc F)
#print axioms said
end Go.Proofs.Ytllobcefjlpagaa.crcApart
