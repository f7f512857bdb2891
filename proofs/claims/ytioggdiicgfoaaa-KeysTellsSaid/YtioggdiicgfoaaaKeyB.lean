/- Keys: the contract of flags. Nothing that was there is turned. -/
import Derived.Test.YtioggdiicgfoaaaKeyA
import Derived.Test.YtioggdiicgfoaaaBitsM
namespace Go.Proofs.Ytioggdiicgfoaaa
open Go.RowKit Rf Mem KM
attribute [local go_sem ↓] run_max2 run_min2
theorem low32 (b : BitVec 32) (j : Nat) : (bits .and .u32 ((b.toNat : Int) / 2 ^ j) 1 != 0) = b.getLsbD j := by
  have e1 : ((b.toNat : Int) / 2 ^ j) = ((b >>> j).toNat : Int) := by
    rw [BitVec.toNat_ushiftRight, Nat.shiftRight_eq_div_pow]; norm_cast
  have e2 : bits .and .u32 ((b >>> j).toNat : Int) 1 = (((b >>> j) &&& 1#32).toNat : Int) := Bv.bits_and .u32 rfl (b >>> j) 1#32
  rw [e1, e2]
  have e3 : (b >>> j) &&& 1#32 = if b.getLsbD j then 1#32 else 0#32 := by
    rw [BitVec.and_one_eq_setWidth_ofBool_getLsbD]
    simp only [BitVec.getLsbD_ushiftRight, Nat.add_zero]
    cases b.getLsbD j <;> rfl
  rw [e3]
  cases b.getLsbD j <;> rfl
theorem info_bool : (Try.prog.info? 4).map (fun i => (i.zero, i.size, i.bytes)) = some (some (.bool false), 1, 1) := by kernel_rfl
set_option maxRecDepth 100000 in
theorem flags_c (z : BitVec 32) (n : Nat) (w : World) (hn : n ≤ 32) : Calls Try.prog 31 #[.int .u32 z.toNat, .int .i64 n] w fun e w' => Below w.heap.size w w' ∧ ∃ v, e = .returned v ∧ w'.ownsRow w.heap.size 4 1 v n (bools (flagsL z n)) := by
  obtain ⟨i0, hi, hz0, hz1, hz2⟩ := info_parts info_bool
  go_enter Try.func31, Try.ntmps31
  go_wp2
  go_loopw [4, 7] (fun v i wr => ∃ k : Nat, k ≤ n ∧ i = .int .i64 k ∧ wr.ownsRow w.heap.size 4 1 v k (bools (flagsL z k)) ∧ Below w.heap.size w wr) (fun _ i _ => n - (intOf i).toNat)
  case atStart => exact ⟨0, Nat.zero_le _, rfl, own_nil _ _ _ _, Below.refl _ _⟩
  case round =>
    obtain ⟨k, hk, rfl, ho, hb⟩ := hrel
    by_cases hlt : k < n
    · have i1 : (k : Int) < (n : Int) := by omega
      have hlow := low32 z k
      obtain ⟨b, hbz⟩ : ∃ b, z.getLsbD k = b := ⟨_, rfl⟩
      rw [hbz] at hlow
      have HFL : Hid (bools (flagsL z (k + 1)) = bools (flagsL z k) ++ [.bool b]) := Lib.hid (by rw [flagsL_succ, hbz]; simp [bools])
      obtain ⟨A, c, rfl, _, _⟩ := (sliceAt_of_own ho).form
      have ho2 := own_later (w' := wr.alloc (.cells #[.bool b] 4)) ho (fun q hq => Below.heap_alloc _ _ _ (own_base ho hq).2)
      have hsz := hb.size
      have hb2 := below_step hb (kbelow_new wr (.cells #[.bool b] 4))
      clear hbz
      go_wp2_with (at_builtin; refine wpList_append_src (by rfl) (.tmp 10) (.tmp 16) _ (by rfl) w.heap.size 4 i0 _ 1 1 Try.underlying77 hi hz0 hz1 hz2 rfl (by omega) (.slice A k c) k (bools (flagsL z k)) (by rfl) ho2 (.slice (some ⟨wr.heap.size, 0, none⟩) 1 1) 1 [.bool b] (by rfl) (sliceAt_blk (new_at rfl _) rfl (by simp [maxLen])) (by simp [Value.oneCell']) (by simp only [maxLen]; omega) (by omega) (by simp; omega) ?_; intro v1 w1 ho1 hg1 hw1; obtain ⟨A1, k1, rfl, p1, p2⟩ := (sliceAt_of_own ho1).form)
      have hb3 := below_own hb2 hg1 (by simp; omega) (fun q hq => (own_base ho2 hq).1)
      go_roundw
      case rel => exact ⟨k + 1, by omega, by go_num, by rw [HFL.out]; exact ho1, hb3⟩
      case measure => simp [intOf]; omega
    · obtain rfl : k = n := by omega
      obtain ⟨A, c, rfl, _, _⟩ := (sliceAt_of_own ho).form
      go_wp2
      go_ret
      exact ⟨hb, _, rfl, ho⟩
end Go.Proofs.Ytioggdiicgfoaaa
