/- Contracts of the document's bits: Put. -/
import Derived.Test.YtefbinlmakkjeaaBitsX
namespace Go.Proofs.Ytefbinlmakkjeaa
open Go.RowKit Rf Mem Bv Bits Str
attribute [local go_sem ↓] run_max2 run_min2
set_option maxHeartbeats 1000000 in
set_option maxRecDepth 100000 in
theorem refPut_g (v : Value) (B : List (BitVec 8)) (l : List Bool) (n wd : Nat) (N N' n' wd' : Int) (w : World) (hN : N = l.length) (hN' : N' = ((l.length + wd : Nat) : Int)) (hn' : n' = n) (hwd' : wd' = wd) (hs : SliceAt w 1 v B.length (u8s B)) (hH : Holds B l) (hl : l.length ≤ 900000) (hw : wd ≤ 32) (hn : n < 2 ^ wd) :
    Calls Try.prog 6 #[bv v N, .int .i64 n', .int .i64 wd'] w fun e w' => Below w.heap.size w w' ∧
      ∃ A c B', e = .returned (.tuple #[bv (.slice A (B' : List (BitVec 8)).length c) N', .int .i64 0]) ∧ SliceAt w' 1 (.slice A B'.length c) B'.length (u8s B') ∧ Holds B' (l ++ numBits n wd) := by
  subst hN hN' hn' hwd'
  have h32 : (2 : Nat) ^ wd ≤ 4294967296 := (Nat.pow_le_pow_right (by omega) hw : (2 : Nat) ^ wd ≤ 2 ^ 32)
  have hpw : wrap64 ((2 : Int) ^ wd) = ((2 ^ wd : Nat) : Int) := by
    rw [show ((2 : Int) ^ wd) = ((2 ^ wd : Nat) : Int) by push_cast; rfl]; generalize 2 ^ wd = t at *; unfold wrap64; omega
  obtain ⟨P, hP⟩ : ∃ P : Nat, 2 ^ wd = P := ⟨_, rfl⟩
  rw [hP] at hpw h32 hn
  have hnP : (n : Int) < (P : Int) := by omega
  have hP32 : (P : Int) ≤ 4294967296 := by omega
  have hwi : (wd : Int) ≤ 32 := by omega
  clear hP
  have hr : true = right B (l.length : Int) := right_yes hH rfl
  have hBl := hH.1
  have HH := Lib.hid hH
  have hBs : B.length ≤ 125000 := by omega
  clear hBl hH
  have hB : Below w.heap.size w ((w.alloc (.cells #[v, .int .i64 (l.length : Int)] 24)).alloc (.cells #[.slice none 0 0, .int .i64 0] 24)) := ((Below.refl _ w).alloc (Nat.le_refl _) _).alloc (by simp) _
  have hs' := hs.later hB
  obtain ⟨A, c, rfl, _⟩ := hs.form
  have n1 : -9223372036854775808 ≤ (l.length : Int) := by omega
  have n2 : (l.length : Int) ≤ 9223372036854775807 := by omega
  clear hs
  go_enter Try.func6, Try.ntmps6
  go_wp2_with fail
  refine (refRight_g _ B _ _ _ hr hs' n1 n2).mono ?_
  rintro e w0 ⟨rfl, b0⟩
  have g1 := below_at b0 (k := w.heap.size) (o := .cells #[.slice A B.length c, .int .i64 (l.length : Int)] 24) (old_at (new_at rfl _) _) (by simp; omega)
  have c10 := cell_at g1 0
  have c11 := cell_at g1 1
  clear hr
  go_wp2_with fail
  refine (refOwn_c _ B _ _ (hs'.later b0) (by omega)).mono ?_
  rintro e w1 ⟨b1, A1, c1, rfl, ho1⟩
  obtain ⟨hx, R0⟩ := RV.start (A := A1) (c := c1) undef undef (below_step b0 b1) (own_base_le ho1 b0.size) HH.out
  have d0 := cell_at hx 0
  have d1 := cell_at hx 1
  have e0 := free_at hx 0
  have e1 := free_at hx 1
  clear g1 c10 c11 hs' b1 b0 ho1 hB
  go_wp2_with fail
  clear hx d0 d1 e0 e1
  generalize (w1.setCell ⟨w.heap.size, 0, none⟩ (.slice A1 B.length c1)).setCell ⟨w.heap.size, 1, none⟩ (.int .i64 (l.length : Int)) = W0 at *
  clear hnP hP32 hpw h32 hn
  go_loopw [8] (fun i wr => ∃ (k d : Nat) (j : Int) (v' : Value) (B' : List (BitVec 8)), k + d = wd ∧ j = (d : Int) - 1 ∧ i = .int .i64 j ∧ RV w.heap.size w wr v' B' (l ++ (numBits n wd).take k)) (fun i _ => (intOf i + 1).toNat)
  case atStart => exact ⟨0, wd, _, _, B, by omega, rfl, rfl, by rw [List.take_zero, List.append_nil]; exact R0⟩
  case round =>
    obtain ⟨k, d, j, v', B', hkd, hj, rfl, R⟩ := hrel
    obtain ⟨m, hm⟩ : ∃ m, l ++ (numBits n wd).take k = m := ⟨_, rfl⟩
    have hml : m.length = l.length + k := by rw [← hm, List.length_append, List.length_take, numBits_length]; omega
    rw [hm] at R
    have hm5 : m.length ≤ 1000000 := by omega
    have i4 : (m.length : Int) ≤ 1000000 := by omega
    have d0 := cell_at R.x 0
    have d1 := cell_at R.x 1
    have e0 := free_at R.x 0
    have e1 := free_at R.x 1
    have r0 := cell_at R.r 0
    have r1 := cell_at R.r 1
    have er0 := free_at R.r 0
    have er1 := free_at R.r 1
    by_cases hlt : 0 < d
    · obtain ⟨e, rfl⟩ : ∃ e, d = e + 1 := ⟨d - 1, by omega⟩
      have hje : j = (e : Int) := by omega
      subst hje
      have hget : (numBits n wd)[k]? = some (n.testBit e) := by
        have : k < wd := by omega
        simp [numBits, this]; congr 1; omega
      have hT : m ++ [n.testBit e] = l ++ (numBits n wd).take (k + 1) := by rw [← hm, List.take_add_one, hget, List.append_assoc]; rfl
      have HT := Lib.hid hT
      obtain ⟨b, hb⟩ : ∃ b, n.testBit e = b := ⟨_, rfl⟩
      have hbb : Go.bits .and .i64 ((n : Int) / 2 ^ e) 1 = (b.toNat : Int) := by
        rw [show ((n : Int) / 2 ^ e) = ((n / 2 ^ e : Nat) : Int) by norm_cast, mask1, ← hb, Nat.testBit_eq_decide_div_mod_eq]
        refine ((Int.natCast_emod _ 2).symm).trans ?_
        rcases Nat.mod_two_eq_zero_or_one (n / 2 ^ e) with h | h <;> rw [h] <;> rfl
      have hb1 : ((b.toNat : Int) == 1) = b := by cases b <;> rfl
      have hs64 : (e : Int) < 64 := by omega
      rw [hb] at HT
      have HKD := Lib.hid hkd
      clear hT hget hm hml hb hj hkd
      go_wp2_with fail
      refine (with_c (w.heap.size + 2) v' B' m b wr R.own R.h hm5 (by have := R.sz; omega)).mono ?_
      rintro e' W3 hW
      obtain ⟨A2, c2, B2, rfl, hx2, R2⟩ := R.step hW
      have d0 := cell_at hx2 0
      have d1 := cell_at hx2 1
      have e0 := free_at hx2 0
      have e1 := free_at hx2 1
      go_wp2
      go_roundw
      case rel => exact ⟨k + 1, e, _, _, B2, by have := HKD.out; omega, rfl, rfl, by rw [← HT.out]; exact R2⟩
      case measure => simp [intOf]
    · have hd : d = 0 := by omega
      subst hd
      have hj1 : j = -1 := by omega
      subst hj1
      rw [show k = wd by omega, List.take_of_length_le (by rw [numBits_length]; omega)] at hm
      have hfin : (m.length : Int) = ((l.length + wd : Nat) : Int) := by omega
      have HF := Lib.hid hfin
      have HM := Lib.hid hm
      clear hm hml hfin hlt hkd hj
      obtain ⟨A3, c3, rfl, hb3, hs3⟩ := R.done (.int .i64 (m.length : Int))
      go_wp2
      refine bodyPost_ret (res_bits2 (t := 6) (u := 7) rfl rfl (set_at (set_at R.r 0 _) 1 _)) rfl ?_
      exact ⟨hb3, A3, c3, B', by rw [← HF.out]; rfl, hs3, by rw [HM.out]; exact R.h⟩
end Go.Proofs.Ytefbinlmakkjeaa
