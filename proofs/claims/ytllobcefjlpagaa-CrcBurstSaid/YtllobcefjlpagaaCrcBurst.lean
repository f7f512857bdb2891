/- CrcBurst: for every argument the statement's Go text returns true and turns nothing that was there. It is proved at every argument, without a condition beyond the row. -/
import Derived.Test.YtllobcefjlpagaaMem
import Derived.Test.YtllobcefjlpagaaCrcLaw
import Derived.Test.YtllobcefjlpagaaCrcErr
import Derived.Test.YtllobcefjlpagaaFrame
import Derived.Deep.RegionHeld3
import Derived.Deep.DrawnRows
namespace Go.Proofs.Ytllobcefjlpagaa.crcBurst
open Go.ChangeShapes Go.WideShapes Go.ChangeAt Go.RowKit Rf
attribute [local go_sem ↓] run_max2 run_min2
open Mem Bv Crc Str
theorem modAt (at_ : Int) (n : Nat) (h0 : 0 < n) (hn : n ≤ 100000) : ∃ (r : Int) (k : Nat), Int.tmod at_ (n : Int) = r ∧ -(n : Int) ≤ r ∧ r ≤ n ∧ Int.tmod (r + n) (n : Int) = (k : Int) ∧ k < n := by
  have h1 : Int.tmod at_ (n : Int) < (n : Int) := Int.tmod_lt_of_pos _ (by omega)
  have h2 : -(n : Int) < Int.tmod at_ (n : Int) := by
    have := Int.tmod_lt_of_pos (-at_) (b := (n : Int)) (by omega)
    rw [Int.neg_tmod] at this; omega
  generalize Int.tmod at_ (n : Int) = r at *
  have h3 : 0 ≤ Int.tmod (r + n) (n : Int) := Int.tmod_nonneg _ (by omega)
  have h4 : Int.tmod (r + n) (n : Int) < (n : Int) := Int.tmod_lt_of_pos _ (by omega)
  exact ⟨r, (Int.tmod (r + n) (n : Int)).toNat, rfl, by omega, by omega, by omega, by omega⟩
theorem xor_shl (y : BitVec 8) (r : Nat) (hr : r < 8) : bits .xor .u8 (y.toNat : Int) (2 ^ r % 256) = ((y ^^^ (1#8 <<< r) : BitVec 8).toNat : Int) := by
  have h : ((2 : Int) ^ r % 256) = ((1#8 <<< r : BitVec 8).toNat : Int) := by
    rcases r with _ | _ | _ | _ | _ | _ | _ | _ | r <;> first | rfl | omega
  rw [h]; exact Bv.bits_xor .u8 rfl y _
theorem low16 (b : BitVec 16) (j : Nat) : (bits .and .u16 ((b.toNat : Int) / 2 ^ j) 1 == 1) = b.getLsbD j := by
  rw [shr_bv, and1_16]
  have h : (b >>> j).getLsbD 0 = decide ((b >>> j).toNat % 2 = 1) := by rw [BitVec.getLsbD, Nat.testBit_zero]
  rw [BitVec.getLsbD_ushiftRight, Nat.add_zero] at h
  rw [h]
  rcases Nat.mod_two_eq_zero_or_one (b >>> j).toNat with e | e <;> rw [e] <;> rfl
set_option maxHeartbeats 1000000 in
set_option maxRecDepth 100000 in
theorem walk (v : Value) (bs : List (BitVec 8)) (at_ : Int) (by_ : BitVec 16) (w : World) (hs : SliceAt w 1 v bs.length (u8s bs)) : Calls Try.prog 4 #[v, .int .i64 at_, .int .u16 by_.toNat] w fun e w' => e = .returned (.bool true) ∧ Below w.heap.size w w' := by
  obtain ⟨i0, hi, hz0, hz1, hz2⟩ := info_parts info_u8
  by_cases hlen : 300 < bs.length
  · obtain ⟨A, c, rfl, _⟩ := hs.form
    go_enter Try.func4, Try.ntmps4
    go_wp2_with fail
    refine (wakes_c _).mono ?_
    rintro e w1 ⟨rfl, b1⟩
    go_wp2
    go_ret
    exact ⟨rfl, b1⟩
  · obtain ⟨N, hN, hN0, hNb⟩ : ∃ N : Nat, 8 * ((bs.length : Int) + 2) - 15 = (N : Int) ∧ 0 < N ∧ N + 15 ≤ 8 * (bs.length + 2) := ⟨8 * (bs.length + 2) - 15, by omega, by omega, by omega⟩
    obtain ⟨r, k, hr, hr1, hr2, hk, hk2⟩ := modAt at_ N hN0 (by omega)
    have hne0 : ((N : Int) == 0) = false := by simp; omega
    obtain ⟨L2, hL2⟩ : ∃ L2, L2 = bs.length + 2 := ⟨_, rfl⟩
    have hcl : (Crc.close bs).length = L2 := by simp [Crc.close, hL2]
    have hne : (((L2 : Nat) : Int) != (bs.length : Int) + 2) = false := by simp; omega
    have HC := Lib.hid hcl
    have hLb : L2 ≤ bs.length + 2 := by omega
    have hLa : bs.length + 2 ≤ L2 := by omega
    have HL := Lib.hid hL2
    clear hcl
    have hClose := Close_c v bs w hs (by omega)
    rw [← hL2] at hClose
    have HCl := Lib.hid hClose
    clear hClose hL2
    have hs0 := hs
    obtain ⟨A, c, rfl, _⟩ := hs.form
    clear hs
    go_enter Try.func4, Try.ntmps4
    go_wp2_with fail
    refine HCl.out.mono ?_
    rintro e w1 ⟨v1, rfl, ho1, b1⟩
    have S1 : SliceAt w1 1 v1 L2 (u8s (Crc.close bs)) := sliceAt_of_own ho1
    clear ho1
    obtain ⟨A1, c1, rfl, q1, q2⟩ := S1.form
    go_wp2_with fail
    refine (Open_c _ (Crc.close bs) _ (by rw [HC.out]; exact S1) (by rw [HC.out]; omega)).mono ?_
    rintro e w2 ⟨v2, rfl, ho2, b2⟩
    rw [open_close] at ho2 ⊢
    have S2 : SliceAt w2 1 v2 bs.length (u8s bs) := sliceAt_of_own ho2
    have B2 := below_step b1 b2
    replace S1 := S1.later b2
    replace hs0 := hs0.later B2
    clear ho2 b1 b2
    obtain ⟨A2, c2, rfl, _⟩ := S2.form
    go_wp2_with fail
    refine (same_c _ _ _ _ _ S2 hs0).mono ?_
    rintro e w' ⟨rfl, rfl⟩
    rw [show decide (bs = bs) = true from decide_eq_true rfl]
    clear S2 hs0
    have hown := own_empty w2 5 1
    have hsrc := S1.later ((Below.refl _ w2).alloc (Nat.le_refl _) (.cells #[] 5))
    go_wp2_with (at_builtin; refine wpList_append_src (by rfl) (.tmp 54) (.tmp 55) _ (by rfl) w2.heap.size 5 i0 _ 1 1 Try.underlying23 hi hz0 hz1 hz2 rfl (by omega) (.slice (some ⟨w2.heap.size, 0, none⟩) 0 0) 0 [] (by rfl) hown (.slice A1 L2 c1) L2 (u8s (Crc.close bs)) (by rfl) hsrc (u8s_one _) (by simp only [maxLen]; omega) (by omega) (by simp) ?_; intro v3 w3 ho3 hg3 _)
    have B3 : Below w.heap.size w w3 := B2.trans ((below_own ((Below.refl _ w2).alloc (Nat.le_refl _) _) hg3 (by simp) (by intro g hg; cases hg; exact Nat.le_refl _)).mono B2.size)
    simp only [Nat.zero_add, List.nil_append] at ho3
    obtain ⟨g, cap, rfl, hgb, hcap⟩ : ∃ g cap, v3 = .slice (some ⟨g, 0, none⟩) L2 cap ∧ w2.heap.size ≤ g ∧ L2 ≤ cap := by
      rcases ho3.2 with ⟨_, h⟩ | ⟨g, cap, cur, h1, h2, _, h3, _⟩
      · omega
      · exact ⟨g, cap, h1, h2, h3⟩
    have hgw : w.heap.size ≤ g := Nat.le_trans B2.size hgb
    have hfin := fun d (h : Err (Crc.close bs) d k by_ 16) => err_open h (by omega)
    have HF := Lib.hid hfin
    clear hfin hsrc hown hg3 S1 HCl
    go_loopw [12] (fun i wr => ∃ (j : Nat) (d : List (BitVec 8)), j ≤ 16 ∧ i = .int .i64 j ∧ Err (Crc.close bs) d k by_ j ∧ wr.ownsRow w2.heap.size 5 1 (.slice (some ⟨g, 0, none⟩) L2 cap) L2 (u8s d) ∧ Below w.heap.size w wr) (fun i _ => 16 - (intOf i).toNat)
    case atStart => exact ⟨0, Crc.close bs, by omega, rfl, err_start _ _ _, ho3, B3⟩
    case round =>
      clear ho3 B3
      obtain ⟨j, d, hj, rfl, he, ho, hB⟩ := hrel
      by_cases hlt : j < 16
      · have hlb := low16 by_ j
        by_cases hb : by_.getLsbD j = true
        · rw [hb] at hlb
          have hdl : d.length = L2 := by rw [he.1, HC.out]
          have hq0 : (k + j) / 8 < d.length := by omega
          have hy : d[(k + j) / 8]? = some d[(k + j) / 8] := List.getElem?_eq_getElem hq0
          have hne2 := err_set he hb (q0 := (k + j) / 8) (r0 := (k + j) % 8) (by omega) (by omega) hy
          have cy : wr.cell? ⟨g, (k + j) / 8, none⟩ = some (.int .u8 (d[(k + j) / 8].toNat : Int)) := by rw [ho.cellAt _ (by omega)]; simp [u8s, hy]
          have fy := ho.frozenAt ((k + j) / 8)
          generalize d[(k + j) / 8] = y at *
          have hst := ho.stored ((k + j) / 8) (.int .u8 ((y ^^^ (1#8 <<< ((k + j) % 8))).toNat : Int))
          clear hdl
          have HE := Lib.hid hne2
          clear hne2 he hb hy ho
          go_wp2_with fail
          rw [xor_shl y _ (Nat.mod_lt _ (by omega))]
          go_roundw
          case rel => exact ⟨j + 1, _, by omega, by go_num, HE.out, by rw [show u8s (d.set ((k + j) / 8) (y ^^^ (1#8 <<< ((k + j) % 8)))) = (u8s d).set ((k + j) / 8) (.int .u8 ((y ^^^ (1#8 <<< ((k + j) % 8))).toNat : Int)) by simp [u8s, List.map_set]]; exact hst.1, hB.setCell hgw _⟩
          case measure => simp [intOf]; omega
        · have hb' : by_.getLsbD j = false := by simpa using hb
          have he2 := err_skip he hb'
          rw [hb'] at hlb
          clear hb' hb he
          go_wp2
          go_roundw
          case rel => exact ⟨j + 1, d, by omega, by go_num, he2, ho, hB⟩
          case measure => simp [intOf]; omega
      · obtain rfl : j = 16 := by omega
        have hf := HF.out d he
        have S3 : SliceAt wr 1 (.slice (some ⟨g, 0, none⟩) L2 cap) d.length (u8s d) := by rw [he.1, HC.out]; exact sliceAt_of_own ho
        have hdl : d.length ≤ 140737488355328 := by rw [he.1, HC.out]; omega
        clear he ho
        go_wp2_with fail
        refine (Open_c _ d _ S3 hdl).mono ?_
        rintro e w4 ⟨v4, rfl, ho4, b4⟩
        have B4 := hB.trans (b4.mono hB.size)
        have S4 := sliceAt_of_own ho4
        clear ho4 S3 b4 hB
        obtain ⟨A4, c4, rfl, _⟩ := S4.form
        by_cases hz : by_ = 0#16
        · rw [if_pos hz] at hf
          have e1 := hf.1
          have e2 : ((by_.toNat : Int) == 0) = true := by rw [hz]; rfl
          rw [e1]
          clear hf S4 e1 hz
          go_wp2_with fail
          refine (wakes_c _).mono ?_
          rintro e w5 ⟨rfl, b5⟩
          go_wp2
          go_ret
          exact ⟨rfl, B4.trans (b5.mono B4.size)⟩
        · rw [if_neg hz] at hf
          have e2 : ((by_.toNat : Int) == 0) = false := by
            have : by_.toNat ≠ 0 := fun h => hz (BitVec.eq_of_toNat_eq h)
            simp; omega
          rw [hf.1, hf.2 hz]
          clear hf S4 hz
          go_wp2_with fail
          refine (wakes_c _).mono ?_
          rintro e w5 ⟨rfl, b5⟩
          go_wp2
          go_ret
          exact ⟨rfl, B4.trans (b5.mono B4.size)⟩

theorem own : ownKnob Try.prog.godebug = none := by kernel_rfl
theorem laidOut : laidOutB Try.prog = true := by kernel_rfl
noncomputable def wit (os : Os) : World := World.holding Try.prog os ⟨#[], #[], []⟩
set_option maxRecDepth 100000 in
theorem lifted (os : Os) (started : os.Started) (H : Type) (enc : TypeId × Value → H) (F : Stop.Interp) :
    ReturnsInHanded {} Try.checked os 4 .any ((OpenSpec.ofChange Rows.crcBurstSpec).preRow enc Try.prog Try.f4 Rows.crcBurstRow.domain false Rows.crcBurstRow.laid) (((OpenSpec.ofChange Rows.crcBurstSpec).at F).post enc Try.prog Try.f4 false true false false) := by
  obtain ⟨x, hx⟩ : ∃ x, DataW.whole enc Try.prog ((wit os).forCall (fun _ _ => 0) ⟨#[], #[.slice none 0 0, .int .i64 0, .int .u16 0], []⟩).memory Try.f4.params.toList Rows.crcBurstSpec.vars false (#[.slice none 0 0, .int .i64 0, .int .u16 0] : Array Value).toList 8 = some x := Option.isSome_iff_exists.1 (by kernel_rfl)
  refine Fr.lift (C := Try.checked) (s := OpenSpec.ofChange Rows.crcBurstSpec) own started (by kernel_rfl) Try.func4
    (witness_row_at (enc := enc) (C := Try.checked) false (wit os) #[.slice none 0 0, .int .i64 0, .int .u16 0] rfl (by kernel_rfl) (by kernel_rfl) (by kernel_rfl)
      (OpenSpec.preRow_of_cond 8 hx rfl (fun k hk => by cases hk) (by kernel_rfl) (laidMet_of_run' 8 (by kernel_rfl) (by kernel_rfl))))
    laidOut (by kernel_rfl) rfl Try.underlying4 rfl rfl ?_ ?_
  · intro ds hds
    match ds, hds with
    | [_, _, _], _ => rfl
  · intro W base args ds before hval hA hlt _ hz hL
    rw [Try.params4] at hA hval
    obtain ⟨v0, vs0, d0, ds0, p0, q0, hargs, rfl, rfl, h0, r0⟩ := trodAll_cons hA
    obtain ⟨v1, vs1, d1, ds1, p1, q1, rfl, rfl, rfl, h1, r1⟩ := trodAll_cons r0
    obtain ⟨v2, vs2, d2, ds2, p2, q2, rfl, rfl, rfl, h2, r2⟩ := trodAll_cons r1
    obtain ⟨rfl, rfl, rfl⟩ := trodAll_nil r2
    obtain rfl : args = #[v0, v1, v2] := by cases args; simp_all
    obtain ⟨bs, hb⟩ := Bv.open_bytes_arg Try.underlying23 Try.underlying5 (by kernel_rfl) (hval 0 _ v0 rfl rfl) h0
    obtain ⟨a1, rfl, rfl, rfl, w1⟩ := open_int Try.underlying3 (hval 1 _ v1 rfl rfl) h1
    obtain ⟨a2, rfl, rfl, rfl, w2⟩ := open_int Try.underlying22 (hval 2 _ v2 rfl rfl) h2
    obtain ⟨s, rfl⟩ := Bv.of_u16 w2
    exact walk v0 bs a1 s W hb

theorem said : Rows.CrcBurstSaid :=
  OpenClaim.holds_of_cond 4 Try.f4 rfl rfl rfl rfl rfl rfl rfl ⟨rfl, rfl, rfl, rfl, rfl⟩ rfl rfl rfl rfl rfl (by kernel_rfl) Try.func4 (by kernel_rfl)
    (of_decide_eq_true (by kernel_rfl)) (by unfold Func.isWrapper; first | (rw [if_pos (by decide +kernel)]; kernel_rfl) | (rw [if_neg (by decide +kernel)]; exact ⟨rfl, rfl⟩))
    (fun os started H enc _ F => by rw [OpenClaim.pre_eq_preRow]; exact lifted os started H enc F)
#print axioms said
end Go.Proofs.Ytllobcefjlpagaa.crcBurst
