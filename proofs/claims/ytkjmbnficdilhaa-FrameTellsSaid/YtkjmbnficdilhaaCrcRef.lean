/- Contracts of the package lockbarref02: each function returns its state, sum or bytes and turns nothing that was there. Where there are fewer bytes than the model has room for. -/
import Derived.Test.YtkjmbnficdilhaaCrcC
import Derived.Test.YtkjmbnficdilhaaStr
namespace Go.Proofs.Ytkjmbnficdilhaa
open Go.RowKit Rf Mem Bv Crc Str
attribute [local go_sem ↓] run_max2 run_min2
theorem refBit_c (s : BitVec 16) (b : Bool) (w : World) : Calls Try.prog 31 #[.int .u16 s.toNat, .bool b] w fun e w' => e = .returned (.int .u16 (by1 s b).toNat) ∧ w = w' := by
  have e1 : (bits .and .u16 (s.toNat : Int) 1 == 1) = s.getLsbD 0 := by
    rw [and1_16, lsb0]
    rcases Nat.mod_two_eq_zero_or_one s.toNat with h | h <;> rw [h] <;> rfl
  have h1 : ∀ x : Bool, s.getLsbD 0 = x → bits .xor .u16 ((s.toNat : Int) / 2) 33800 = ((by1 s (!x)).toNat : Int) ∧ (s.toNat : Int) / 2 = ((by1 s x).toNat : Int) := by
    intro x hx
    refine ⟨by1_val s (!x) 33800 (by rw [hx]; cases x <;> rfl), ?_⟩
    rw [by1_old, hx, shr1]
    cases x <;> simp
  generalize s.getLsbD 0 = x at *
  obtain ⟨ha, hb⟩ := h1 x rfl
  have HA := Lib.hid ha
  have HB := Lib.hid hb
  clear ha hb h1
  cases x <;> cases b
  all_goals
    go_enter Try.func31, Try.ntmps31
    go_wp2
    go_ret
    exact ⟨ret_int (by first | exact HA.out | exact HB.out), rfl⟩
set_option maxHeartbeats 1000000 in
theorem refGo_c (s : BitVec 16) (v : Value) (bs : List (BitVec 8)) (w : World) (hs : SliceAt w 1 v bs.length (u8s bs)) :
    Calls Try.prog 29 #[.int .u16 s.toNat, v] w fun e w' => e = .returned (.int .u16 (go s bs).toNat) ∧ w = w' := by
  obtain ⟨A, c, rfl, hc1, hc2, _, hc4⟩ := hs
  unfold maxLen at hc2
  go_enter Try.func29, Try.ntmps29
  go_wp2_with fail
  go_loop [0, 5, 6] (fun t i _ => ∃ k : Nat, k ≤ bs.length ∧ i = .int .i64 k ∧ t = .int .u16 (goBits s ((allBits bs).take (k * 8))).toNat) (fun _ i _ => bs.length - (intOf i).toNat)
  case atStart => exact ⟨0, Nat.zero_le _, rfl, by simp [goBits]⟩
  case round =>
    obtain ⟨k, hk, rfl, rfl⟩ := hrel
    by_cases hlt : k < bs.length
    · rcases hc4 with hz | ⟨bk, off, rfl, hbl, hcell⟩
      · omega
      have hbk : bs[k]? = some bs[k] := List.getElem?_eq_getElem hlt
      have hcl := hcell k (.int .u8 (bs[k].toNat : Int)) (by simp [u8s, hbk])
      have hxs := Lib.hid (fun j hj => bitList_at (bitList_get (j := j) hbk hj))
      generalize bs[k] = b at *
      clear hcell hbk
      go_wp2_with fail
      go_loop [0, 6] (fun t i => ∃ j : Nat, j ≤ 8 ∧ i = .int .i64 j ∧ t = .int .u16 (goBits s ((allBits bs).take (k * 8 + j))).toNat) (fun _ i => 8 - (intOf i).toNat)
      case atStart => exact ⟨0, by omega, rfl, rfl⟩
      case round =>
        obtain ⟨j, hj, rfl, rfl⟩ := hrel
        by_cases hj8 : j < 8
        · obtain ⟨bt, hbt, hbe⟩ := hxs.out j hj8
          have hb1 : bt = b.getLsbD j := by simpa using hbe.symm
          have hn := Lib.hid (go_take s _ _ bt hbt)
          have hlb : (bits .and .u8 ((b.toNat : Int) / 2 ^ j) 1 == 1) = bt := by
            rw [shr_bv, and1_8, hb1]
            have h : (b >>> j).getLsbD 0 = decide ((b >>> j).toNat % 2 = 1) := by rw [BitVec.getLsbD, Nat.testBit_zero]
            rw [BitVec.getLsbD_ushiftRight, Nat.add_zero] at h
            rw [h]
            rcases Nat.mod_two_eq_zero_or_one (b >>> j).toNat with e | e <;> rw [e] <;> rfl
          clear hbe hb1 hbt
          generalize goBits s ((allBits bs).take (k * 8 + j)) = t at *
          go_wp2_with fail
          refine (refBit_c t bt _).mono ?_
          rintro e w' ⟨rfl, rfl⟩
          go_wp2
          go_round
          case rel => exact ⟨j + 1, by omega, by go_num, by rw [show k * 8 + (j + 1) = k * 8 + j + 1 by omega, hn.out]⟩
          case measure => simp [intOf]; omega
        · obtain rfl : j = 8 := by omega
          go_wp2
          go_round
          case rel => exact ⟨k + 1, by omega, by go_num, by rw [show (k + 1) * 8 = k * 8 + 8 by omega]⟩
          case measure => simp [intOf]; omega
    · have e : goBits s ((allBits bs).take (k * 8)) = go s bs := by
        rw [List.take_of_length_le (by rw [allBits_length]; omega)]; rfl
      rw [e]
      go_wp2
      go_ret
      exact ⟨rfl, rfl⟩
theorem refSum_c (v : Value) (bs : List (BitVec 8)) (w : World) (hs : SliceAt w 1 v bs.length (u8s bs)) :
    Calls Try.prog 26 #[v] w fun e w' => e = .returned (.int .u16 (Crc.sum bs).toNat) ∧ w = w' := by
  have hsg : IntKind.u16.signed = false := rfl
  have hg := Lib.hid (refGo_c 0xffff#16 v bs w hs)
  obtain ⟨A, c, rfl, _⟩ := hs
  go_enter Try.func26, Try.ntmps26
  go_wp2_with fail
  refine hg.out.mono ?_
  rintro e w1 ⟨rfl, rfl⟩
  have hn := Lib.hid (not_16 (go 0xffff#16 bs))
  go_wp2
  go_ret
  exact ⟨ret_int hn.out, rfl⟩
theorem own_base_le {w : World} {base base' e sz n : Nat} {v : Value} {xs : List Value} (h : w.ownsRow base e sz v n xs) (hb : base' ≤ base) : w.ownsRow base' e sz v n xs :=
  ⟨h.1, h.2.imp id (fun ⟨g, cap, cur, q1, q2, q3⟩ => ⟨g, cap, cur, q1, by omega, q3⟩)⟩
set_option maxHeartbeats 1000000 in
theorem refClose_c (v : Value) (bs : List (BitVec 8)) (w : World) (hs : SliceAt w 1 v bs.length (u8s bs)) (hl : bs.length ≤ 140737488355320) :
    Calls Try.prog 19 #[v] w fun e w' => ∃ v', e = .returned v' ∧ w'.ownsRow w.heap.size 5 1 v' (bs.length + 2) (u8s (Crc.close bs)) ∧ Below w.heap.size w w' := by
  obtain ⟨i0, hi, hz0, hz1, hz2⟩ := info_parts info_u8
  have hs' := hs
  obtain ⟨A, c, rfl, hc1, hc2, hc3, hc4⟩ := hs
  have e1 := lo_val (Crc.sum bs)
  have e2 := hi_val (Crc.sum bs)
  have hown := own_empty w 5 1
  have hsrc0 := hs'.later ((Below.refl _ w).alloc (Nat.le_refl _) (.cells #[] 5))
  have HC := Lib.hid (show u8s bs ++ [.int .u8 ((Crc.lo (Crc.sum bs)).toNat : Int), .int .u8 ((Crc.hi (Crc.sum bs)).toNat : Int)] = u8s (Crc.close bs) by simp [u8s, Crc.close])
  have q1 : (Crc.lo (Crc.sum bs)).toNat < 256 := (Crc.lo (Crc.sum bs)).isLt
  have q2 : (Crc.hi (Crc.sum bs)).toNat < 256 := (Crc.hi (Crc.sum bs)).isLt
  have hSum := Lib.hid (refSum_c _ bs w hs')
  generalize (Crc.lo (Crc.sum bs)).toNat = l at *
  generalize (Crc.hi (Crc.sum bs)).toNat = h at *
  generalize (Crc.sum bs).toNat = s at *
  go_enter Try.func19, Try.ntmps19
  go_wp2_with fail
  refine hSum.out.mono ?_
  rintro e w' ⟨rfl, rfl⟩
  go_wp2_with (first
    | (at_builtin; refine wpList_append_src (by rfl) (.tmp 6) (.tmp 7) _ (by rfl) w.heap.size 5 i0 _ 1 1 Try.underlying22 hi hz0 hz1 hz2 rfl (by omega) (.slice (some ⟨w.heap.size, 0, none⟩) 0 0) 0 [] (by rfl) hown (.slice A bs.length c) bs.length (u8s bs) (by rfl) hsrc0 (u8s_one bs) (by simp only [maxLen]; omega) (by omega) (by simp) ?_; intro v1 w1 ho1 hg1 _; simp only [Nat.zero_add, List.nil_append] at ho1)
    | (at_builtin; refine wpList_append_src (by rfl) (.tmp 8) (.tmp 14) _ (by rfl) w.heap.size 5 i0 _ 1 1 Try.underlying22 hi hz0 hz1 hz2 rfl (by omega) v1 bs.length (u8s bs) (by rfl) (own_later ho1 (fun g hg => Below.heap_alloc _ _ _ (own_base ho1 hg).2)) (.slice (some ⟨w1.heap.size, 0, none⟩) 2 2) 2 _ (by rfl) (sliceAt_new (cs := [.int .u8 (l : Int), .int .u8 (h : Int)]) (new_at rfl _) rfl (by simp [maxLen])) (by simp [Value.oneCell']) (by simp only [maxLen]; omega) (by omega) (by have := hg1.size; simp at *; omega) ?_; intro v3 w3 ho4 hg3 _))
  go_ret
  rw [HC.out] at ho4
  have b1 := below_own ((Below.refl _ w).alloc (Nat.le_refl _) _) hg1 (by simp) (by intro g hg; cases hg; exact Nat.le_refl _)
  have s1 := b1.size
  exact ⟨v3, rfl, ho4, below_own (b1.alloc (by omega) _) hg3 (by simp; omega) (fun g hg => (own_base ho1 hg).1)⟩
end Go.Proofs.Ytkjmbnficdilhaa
