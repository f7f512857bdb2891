/- QueueParts: for every argument the statement's Go text returns true and turns nothing that was there. It is proved at every argument, without a condition beyond the row. -/
import Derived.Test.YtdniapakoolbjaaQueW
import Derived.Test.YtdniapakoolbjaaArg
import Derived.Test.YtdniapakoolbjaaFrame
import Derived.Deep.RegionHeld3
import Derived.Deep.DrawnRows
namespace Go.Proofs.Ytdniapakoolbjaa.queueParts
open Go.ChangeShapes Go.WideShapes Go.ChangeAt Go.RowKit Rf
attribute [local go_sem ↓] run_max2 run_min2
open Mem
theorem take_part (n : Nat) (zs : List Int) (k : Nat) : zs.take (k * n) ++ part n zs k = zs.take ((k + 1) * n) := by
  unfold part; rw [Nat.succ_mul, List.take_add]
theorem part_len (n : Nat) (zs : List Int) (k : Nat) : (part n zs k).length = min n (zs.length - k * n) := by unfold part; simp
theorem chunks_one {len : Nat} : chunks (max len 1) len = min len 1 := by
  rcases Nat.eq_zero_or_pos len with rfl | h
  · rfl
  · have h1 : max len 1 = len := by omega
    rw [h1, Nat.min_eq_right h]
    unfold chunks
    have : len + len - 1 = 1 * len + (len - 1) := by omega
    rw [this, Nat.add_comm, Nat.add_mul_div_right _ _ h, Nat.div_eq_of_lt (by omega)]
set_option maxHeartbeats 2000000 in
set_option maxRecDepth 100000 in
theorem walk (v : Value) (zs : List Int) (most : Int) (w : World) (hs : SliceAt w 1 v zs.length (nums zs)) (hm2 : most ≤ 9223372036854775807) :
    Calls Try.prog 4 #[v, .int .i64 most] w fun e w' => e = .returned (.bool true) ∧ Below w.heap.size w w' := by
  by_cases h1 : zs.length ≤ 40
  · have q1 : decide ((40 : Int) < (zs.length : Int)) = false := decide_eq_false (by omega)
    obtain ⟨i0, hi, hz0, hz1, hz2⟩ := info_parts info_int
    obtain ⟨n, hn⟩ : ∃ n, wide most zs.length = n := ⟨_, rfl⟩
    obtain ⟨K, hK⟩ : ∃ K, chunks n zs.length = K := ⟨_, rfl⟩
    have hn0 : 0 < n := by rw [← hn]; unfold wide; split <;> omega
    have hmn : 1 ≤ most → most = (n : Int) := by rw [← hn]; unfold wide; intro h; rw [if_neg (by omega)]; omega
    have hmk : ¬ 1 ≤ most → (K : Int) = min (zs.length : Int) 1 := by
      intro h
      have : n = max zs.length 1 := by rw [← hn]; unfold wide; rw [if_pos (by omega)]
      rw [← hK, this, chunks_one]; omega
    have hKl : ∀ k, k < K ↔ k * n < zs.length := fun k => by rw [← hK]; exact chunks_lt hn0
    have hK40 : K ≤ 40 := by
      rcases Nat.lt_or_ge 40 K with h | h
      · have := (hKl 40).1 h
        have : 40 ≤ 40 * n := Nat.le_mul_of_pos_right 40 hn0
        omega
      · exact h
    have HN := Lib.hid hn.symm
    have HK := Lib.hid hK.symm
    have HKL := Lib.hid hKl
    have HMN := Lib.hid hmn
    have HMK := Lib.hid hmk
    obtain ⟨A, c, rfl, _⟩ := hs.form
    clear hn hK hKl hmn hmk
    go_enter Try.func4, Try.ntmps4
    go_wp2_with fail
    refine (Parts_g _ most zs n K _ HN.out HK.out hs (by omega) hm2).mono ?_
    rintro e w1 ⟨b1, A1, c1, vs, rfl, o1, he⟩
    have hvl : vs.length = K := by have := o1.1; omega
    have ps := sliceAt_of_own o1
    have HE := Lib.hid he
    have hs1 := hs.later b1
    have HVL := Lib.hid hvl
    clear he o1 hvl
    go_wp2_with fail
    go_loopw [7, 6] (fun i a wr => ∃ (k : Nat) (va : Value) (ys : List Int), k ≤ K ∧ i = .int .i64 k ∧ a = va ∧ Hid (ys = zs.take (k * n)) ∧ wr.ownsRow w1.heap.size 3 1 va ys.length (nums ys) ∧ Below w1.heap.size w1 wr) (fun i _ _ => K - (intOf i).toNat)
    case atStart => exact ⟨0, _, [], Nat.zero_le _, rfl, rfl, Lib.hid (by simp), own_nil _ _ _ _, Below.refl _ _⟩
    case round =>
      obtain ⟨k, va, ys, hk, rfl, rfl, HY, oa, bw⟩ := hrel
      have psr := ps.later bw
      obtain ⟨Aa, ca, rfl, _⟩ := (sliceAt_of_own oa).form
      have hyl : ys.length ≤ 40 := by rw [HY.out, List.length_take]; omega
      by_cases hlt : k < K
      · obtain ⟨bp, op, cp, hvp, _, _, hbp, hcp⟩ := psr.pos (by omega)
        obtain ⟨rfl, _, rfl⟩ := Value.slice.inj hvp
        have hkv : k < vs.length := by have := HVL.out; omega
        have r0 := hcp k _ (List.getElem?_eq_getElem hkv)
        have ok := HE.out k _ (List.getElem?_eq_getElem hkv)
        have sk := (sliceAt_of_own ok).later bw
        have hpl := part_len n zs k
        have hkn := (HKL.out k).1 hlt
        have hkn2 := HKL.out (k + 1)
        have hT := take_part n zs k
        have hsm : (k + 1) * n = k * n + n := Nat.succ_mul k n
        have HT := Lib.hid hT
        obtain ⟨L, hL⟩ : ∃ L, (part n zs k).length = L := ⟨_, rfl⟩
        rw [hL] at sk hpl
        have L1 : 0 < L := by omega
        have L2 : L ≤ 40 := by omega
        have L3 : ((L : Int) == 0) = false := by simp; omega
        have L4 : L ≤ n := by omega
        have L5 : k + 1 < K → L = n := by intro h; have := hkn2.1 h; omega
        have HL := Lib.hid hL
        have i1 : (k : Int) < (K : Int) := by omega
        have hkw : IntKind.i64.wrap ((k : Int) + 1) = (k : Int) + 1 := IntWalk.i64_in _ (by omega)
        clear hcp hvp ok hpl hkn hkn2 hT hsm hL
        generalize vs[k] = u at *
        obtain ⟨Au, cu, rfl, _⟩ := sk.form
        have hcase : (decide (1 ≤ most) = false) ∨ (decide (1 ≤ most) = true ∧ decide (most < (L : Int)) = false ∧ ((decide ((k : Int) + 1 < (K : Int)) = false) ∨ (decide ((k : Int) + 1 < (K : Int)) = true ∧ ((L : Int) != most) = false))) := by
          by_cases hm : 1 ≤ most
          · right
            have := HMN.out hm
            refine ⟨decide_eq_true hm, decide_eq_false (by omega), ?_⟩
            by_cases hkk : k + 1 < K
            · right; have := L5 hkk; exact ⟨decide_eq_true (by omega), by simp; omega⟩
            · left; exact decide_eq_false (by omega)
          · left; exact decide_eq_false hm
        rcases hcase with t1 | ⟨t1, t2, t3 | ⟨t3, t4⟩⟩
        all_goals
          go_wp2_with (at_builtin; refine wpList_append_src (by rfl) (.tmp 56) (.tmp 60) _ (by rfl) w1.heap.size 3 i0 _ 1 8 Try.underlying24 hi hz0 hz1 hz2 rfl (by omega) (.slice Aa ys.length ca) ys.length (nums ys) (by rfl) oa (.slice Au L cu) L (nums (part n zs k)) (by rfl) sk (nums_one _) (by simp only [maxLen]; omega) (by omega) bw.size ?_; intro v2 w2 o2 g2 hv2; obtain ⟨A2, c2, rfl, _, _⟩ := (sliceAt_of_own o2).form)
          go_roundw
          case rel =>
            refine ⟨k + 1, _, ys ++ part n zs k, by omega, by go_num, rfl, Lib.hid (by rw [HY.out, HT.out]), ?_, below_own bw g2 bw.size (fun g hg => (own_base oa hg).1)⟩
            rw [show (ys ++ part n zs k).length = ys.length + L by rw [List.length_append, HL.out], show nums (ys ++ part n zs k) = nums ys ++ nums (part n zs k) by simp [ints]]
            exact o2
          case measure => simp [intOf]; omega
      · obtain rfl : k = K := by omega
        have hfin : ys = zs := by
          rw [HY.out]
          exact List.take_of_length_le (by have := (HKL.out k); omega)
        subst hfin
        have i1 : ¬ (k : Int) < (k : Int) := by omega
        go_wp2_with fail
        refine (Ints_g _ _ ys ys true _ (by simp) (sliceAt_of_own oa) (hs1.later bw) (by omega)).mono ?_
        rintro e w3 ⟨rfl, b3⟩
        have bb := below_step (below_step b1 bw) b3
        by_cases hm : 1 ≤ most
        · have t1 : decide (1 ≤ most) = true := decide_eq_true hm
          go_wp2_with fail
          refine (wakes_c _).mono ?_
          rintro e w9 ⟨rfl, b9⟩
          go_wp2
          go_ret
          exact ⟨rfl, below_step bb b9⟩
        · have t1 : decide (1 ≤ most) = false := decide_eq_false hm
          have t2 := HMK.out (by omega)
          have t3 : ((k : Int) == min (ys.length : Int) 1) = true := by rw [t2]; simp
          clear t2
          go_wp2_with fail
          refine (wakes_c _).mono ?_
          rintro e w9 ⟨rfl, b9⟩
          go_wp2
          go_ret
          exact ⟨rfl, below_step bb b9⟩
  · have q1 : decide ((40 : Int) < (zs.length : Int)) = true := decide_eq_true (by omega)
    obtain ⟨A, c, rfl, _⟩ := hs.form
    go_enter Try.func4, Try.ntmps4
    go_wp2_with fail
    refine (wakes_c _).mono ?_
    rintro e w9 ⟨rfl, b9⟩
    go_wp2
    go_ret
    exact ⟨rfl, b9⟩

theorem own : ownKnob Try.prog.godebug = none := by kernel_rfl
theorem laidOut : laidOutB Try.prog = true := by kernel_rfl
noncomputable def wit (os : Os) : World := World.holding Try.prog os ⟨#[], #[], []⟩
set_option maxRecDepth 100000 in
theorem lifted (os : Os) (started : os.Started) (H : Type) (enc : TypeId × Value → H) (F : Stop.Interp) :
    ReturnsInHanded {} Try.checked os 4 .any ((OpenSpec.ofChange Rows.queuePartsSpec).preRow enc Try.prog Try.f4 Rows.queuePartsRow.domain false Rows.queuePartsRow.laid) (((OpenSpec.ofChange Rows.queuePartsSpec).at F).post enc Try.prog Try.f4 false true false false) := by
  obtain ⟨x, hx⟩ : ∃ x, DataW.whole enc Try.prog ((wit os).forCall (fun _ _ => 0) ⟨#[], #[.slice none 0 0, .int .i64 0], []⟩).memory Try.f4.params.toList Rows.queuePartsSpec.vars false (#[.slice none 0 0, .int .i64 0] : Array Value).toList 8 = some x := Option.isSome_iff_exists.1 (by kernel_rfl)
  refine Fr.lift (C := Try.checked) (s := OpenSpec.ofChange Rows.queuePartsSpec) own started (by kernel_rfl) Try.func4
    (witness_row_at (enc := enc) (C := Try.checked) false (wit os) #[.slice none 0 0, .int .i64 0] rfl (by kernel_rfl) (by kernel_rfl) (by kernel_rfl)
      (OpenSpec.preRow_of_cond 8 hx rfl (fun k hk => by cases hk) (by kernel_rfl) (laidMet_of_run' 8 (by kernel_rfl) (by kernel_rfl))))
    laidOut (by kernel_rfl) rfl Try.underlying4 rfl rfl ?_ ?_
  · intro ds hds
    match ds, hds with
    | [_, _], _ => rfl
  · intro W base args ds before hval hA hlt _ hz hL
    rw [Try.params4] at hA hval
    obtain ⟨v0, vs0, d0, ds0, p0, q0, hargs, rfl, rfl, h0, r0⟩ := trodAll_cons hA
    obtain ⟨v1, vs1, d1, ds1, p1, q1, rfl, rfl, rfl, h1, r1⟩ := trodAll_cons r0
    obtain ⟨rfl, rfl, rfl⟩ := trodAll_nil r1
    obtain rfl : args = #[v0, v1] := by cases args; simp_all
    obtain ⟨zs, hzs, _⟩ := Mem.open_ints_arg Try.underlying24 Try.underlying3 (by kernel_rfl) (hval 0 _ v0 rfl rfl) h0
    obtain ⟨a1, rfl, rfl, rfl, w1⟩ := open_int Try.underlying3 (hval 1 _ v1 rfl rfl) h1
    exact walk v0 zs a1 W hzs (i64_bounds w1).2

theorem said : Rows.QueuePartsSaid :=
  OpenClaim.holds_of_cond 4 Try.f4 rfl rfl rfl rfl rfl rfl rfl ⟨rfl, rfl, rfl, rfl, rfl⟩ rfl rfl rfl rfl rfl (by kernel_rfl) Try.func4 (by kernel_rfl)
    (of_decide_eq_true (by kernel_rfl)) (by unfold Func.isWrapper; first | (rw [if_pos (by decide +kernel)]; kernel_rfl) | (rw [if_neg (by decide +kernel)]; exact ⟨rfl, rfl⟩))
    (fun os started H enc _ F => by rw [OpenClaim.pre_eq_preRow]; exact lifted os started H enc F)
#print axioms said
end Go.Proofs.Ytdniapakoolbjaa.queueParts
