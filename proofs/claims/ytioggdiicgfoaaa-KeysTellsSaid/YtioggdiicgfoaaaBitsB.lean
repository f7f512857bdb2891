/- The contract of bits.Right and the document's: may these bits be? Nothing is turned. -/
import Derived.Test.YtioggdiicgfoaaaBitsA
import Derived.Test.YtioggdiicgfoaaaRows
import Derived.Test.YtioggdiicgfoaaaStr
import Derived.Deep.RegionHeld3
import Derived.BigQuiet
import Derived.WalkSpells
import Derived.Outline
namespace Go.Proofs.Ytioggdiicgfoaaa
open Go.RowKit Rf Mem Bv Bits
attribute [local go_sem ↓] run_max2 run_min2
abbrev bv (v : Value) (N : Int) : Value := .agg #[v, .int .i64 N]
theorem below_drewN {n : Nat} {a w : World} (h : Below n a w) (m : Nat) : Below n a (w.drewN m) := ⟨h.os, h.tape, h.output, h.size, h.block⟩
theorem ret_bool {a b : Bool} (h : a = b) : Ending.returned (.bool a) = .returned (.bool b) := by rw [h]
theorem mask_zero (x : BitVec 8) (k : Nat) (hk : k < 8) : (Go.bits .and .u8 (x.toNat : Int) ((2 ^ k - 1) % 256) == 0) = decide (x.toNat % 2 ^ k = 0) := by
  have h1 : ((2 : Int) ^ k - 1) % 256 = ((2 ^ k - 1 : Nat) : Int) := by
    rcases k with _ | _ | _ | _ | _ | _ | _ | _ | k <;> first | rfl | omega
  have h2 : 2 ^ k ≤ 128 := Nat.pow_le_pow_right (n := 2) (by omega) (show k ≤ 7 by omega)
  rw [h1, u8_and_nat _ _ x.isLt (by omega), Nat.and_two_pow_sub_one_eq_mod, Bool.eq_iff_iff, beq_iff_eq, decide_eq_true_eq]
  omega
set_option maxHeartbeats 1000000 in
set_option maxRecDepth 100000 in
theorem Right_c (v : Value) (B : List (BitVec 8)) (N : Int) (w : World) (hs : SliceAt w 1 v B.length (u8s B)) (hN1 : -9223372036854775808 ≤ N) (hN2 : N ≤ 9223372036854775807) :
    Calls Try.prog 41 #[bv v N] w fun e w' => e = .returned (.bool (right B N)) ∧ Below w.heap.size w w' := by
  have hB : Below w.heap.size w (w.alloc (.cells #[v, .int .i64 N] 62)) := (Below.refl _ w).alloc (Nat.le_refl _) _
  have hs' := hs.later hB
  obtain ⟨A, c, rfl, hc1, hc2, _, hc4⟩ := hs'
  clear hs
  unfold maxLen at hc2
  have hsm := hB.size
  by_cases hneg : N < 0
  · have hm := mask7 (IntKind.i64.wrap (-N))
    have h1 : decide (N < 0) = true := decide_eq_true hneg
    rw [right_neg B hneg]
    go_enter Try.func41, Try.ntmps41
    go_wp2
    go_ret
    exact ⟨rfl, hB⟩
  · obtain ⟨n, rfl⟩ : ∃ n : Nat, N = (n : Int) := ⟨N.toNat, by omega⟩
    have h1 : decide ((n : Int) < 0) = false := decide_eq_false (by omega)
    have hw : IntKind.i64.wrap (-(n : Int)) = -(n : Int) := IntWalk.i64_in _ (by omega)
    by_cases hlen : B.length = (n + 7) / 8
    · have hbne : ((B.length : Int) != (n : Int) / 8 + ((n : Int) % 8 + 7) / 8) = false := by simp; omega
      by_cases h8 : n % 8 = 0
      · rw [right_whole B hlen h8]
        have hm : Go.bits .and .i64 (-(n : Int)) 7 = 0 := by rw [mask7]; omega
        clear hlen
        go_enter Try.func41, Try.ntmps41
        go_wp2
        go_quiet (fail)
        go_wp2
        go_ret
        exact ⟨rfl, below_drewN hB _⟩
      · have hx : B[n / 8]? = some (B[n / 8]'(by omega)) := List.getElem?_eq_getElem _
        have hrl := right_last B hlen h8 hx
        obtain ⟨k, hk, hk1, hk2⟩ : ∃ k : Nat, 8 - n % 8 = k ∧ 0 < k ∧ k < 8 := ⟨8 - n % 8, rfl, by omega, by omega⟩
        rw [hk] at hrl
        have hm : Go.bits .and .i64 (-(n : Int)) 7 = (k : Int) := by rw [mask7]; omega
        rcases hc4 with h0 | ⟨bk, off, rfl, hbl, hcell⟩
        · omega
        have hc := hcell (n / 8) (.int .u8 ((B[n / 8]'(by omega)).toNat : Int)) (by simp [u8s, hx])
        have hc' : World.cell? (w.alloc (.cells #[.slice (some ⟨bk, off, none⟩) B.length c, .int .i64 (n : Int)] 62)) ⟨bk, off + (B.length - 1), none⟩ = some (.int .u8 ((B[n / 8]'(by omega)).toNat : Int)) := by rw [show B.length - 1 = n / 8 by omega]; exact hc
        generalize (B[n / 8]'(by omega)) = x at *
        have ht : (Go.bits .and .u8 (x.toNat : Int) ((2 ^ k - 1) % 256) == 0) = decide (x.toNat % 2 ^ k = 0) := mask_zero x k hk2
        have hbe : ((k : Int) == 0) = false := by simp; omega
        have i1 : (0 : Int) ≤ (B.length : Int) - 1 := by omega
        have i2 : (B.length : Int) - 1 < (B.length : Int) := by omega
        have hwl : IntKind.i64.wrap ((B.length : Int) - 1) = (B.length : Int) - 1 := IntWalk.i64_in _ (by omega)
        have hnt : ((B.length : Int) - 1).toNat = B.length - 1 := by omega
        rw [hrl]
        clear hc hcell hx hrl hk h8 hlen
        go_enter Try.func41, Try.ntmps41
        go_wp2
        go_quiet (fail)
        go_wp2
        go_ret
        exact ⟨rfl, below_drewN hB _⟩
    · rw [right_len B hlen]
      have hbne : ((B.length : Int) != (n : Int) / 8 + ((n : Int) % 8 + 7) / 8) = true := by simp; omega
      have hm := mask7 (-(n : Int))
      go_enter Try.func41, Try.ntmps41
      go_wp2
      go_ret
      exact ⟨rfl, hB⟩
set_option maxHeartbeats 1000000 in
set_option maxRecDepth 100000 in
theorem refRight_c (v : Value) (B : List (BitVec 8)) (N : Int) (w : World) (hs : SliceAt w 1 v B.length (u8s B)) (hN1 : -9223372036854775808 ≤ N) (hN2 : N ≤ 9223372036854775807) :
    Calls Try.prog 42 #[bv v N] w fun e w' => e = .returned (.bool (right B N)) ∧ Below w.heap.size w w' := by
  have hB : Below w.heap.size w (w.alloc (.cells #[v, .int .i64 N] 62)) := (Below.refl _ w).alloc (Nat.le_refl _) _
  have hs' := hs.later hB
  obtain ⟨A, c, rfl, hc1, hc2, _, hc4⟩ := hs'
  clear hs
  unfold maxLen at hc2
  have hsm := hB.size
  by_cases hneg : N < 0
  · have h1 : decide (N < 0) = true := decide_eq_true hneg
    rw [right_neg B hneg]
    go_enter Try.func42, Try.ntmps42
    go_wp2
    go_ret
    exact ⟨rfl, hB⟩
  · obtain ⟨n, rfl⟩ : ∃ n : Nat, N = (n : Int) := ⟨N.toNat, by omega⟩
    have h1 : decide ((n : Int) < 0) = false := decide_eq_false (by omega)
    by_cases hlen : B.length = (n + 7) / 8
    · have hbne : ((B.length : Int) != (n : Int) / 8 + min ((n : Int) % 8) 1) = false := by simp; omega
      by_cases h8 : n % 8 = 0
      · rw [right_whole B hlen h8]
        have hb8 : ((n : Int) % 8 == 0) = true := by simp; omega
        clear hlen
        go_enter Try.func42, Try.ntmps42
        go_wp2
        go_ret
        exact ⟨rfl, hB⟩
      · have hb8 : ((n : Int) % 8 == 0) = false := by simp; omega
        have hx : B[n / 8]? = some (B[n / 8]'(by omega)) := List.getElem?_eq_getElem _
        have hrl := right_last B hlen h8 hx
        obtain ⟨k, hk, hk1, hk2⟩ : ∃ k : Nat, 8 - n % 8 = k ∧ 0 < k ∧ k < 8 := ⟨8 - n % 8, rfl, by omega, by omega⟩
        rw [hk] at hrl
        have hk3 : (8 : Int) - (n : Int) % 8 = (k : Int) := by omega
        rcases hc4 with h0 | ⟨bk, off, rfl, hbl, hcell⟩
        · omega
        have hc := hcell (n / 8) (.int .u8 ((B[n / 8]'(by omega)).toNat : Int)) (by simp [u8s, hx])
        have hc' : World.cell? (w.alloc (.cells #[.slice (some ⟨bk, off, none⟩) B.length c, .int .i64 (n : Int)] 62)) ⟨bk, off + (B.length - 1), none⟩ = some (.int .u8 ((B[n / 8]'(by omega)).toNat : Int)) := by rw [show B.length - 1 = n / 8 by omega]; exact hc
        generalize (B[n / 8]'(by omega)) = x at *
        have i1 : (0 : Int) ≤ (B.length : Int) - 1 := by omega
        have i2 : (B.length : Int) - 1 < (B.length : Int) := by omega
        have i3 : (x.toNat : Int) < 256 := by have := x.isLt; omega
        have hwl : IntKind.i64.wrap ((B.length : Int) - 1) = (B.length : Int) - 1 := IntWalk.i64_in _ (by omega)
        have hnt : ((B.length : Int) - 1).toNat = B.length - 1 := by omega
        rw [hrl]
        clear hc hcell hx hrl hk h8 hlen
        have hk7 : k = 1 ∨ k = 2 ∨ k = 3 ∨ k = 4 ∨ k = 5 ∨ k = 6 ∨ k = 7 := by omega
        rcases hk7 with rfl | rfl | rfl | rfl | rfl | rfl | rfl
        all_goals
          go_enter Try.func42, Try.ntmps42
          go_wp2
          go_ret
          refine ⟨ret_bool ?_, hB⟩
          rw [Bool.eq_iff_iff, beq_iff_eq, decide_eq_true_eq]
          omega
    · rw [right_len B hlen]
      have hbne : ((B.length : Int) != (n : Int) / 8 + min ((n : Int) % 8) 1) = true := by simp; omega
      go_enter Try.func42, Try.ntmps42
      go_wp2
      go_ret
      exact ⟨rfl, hB⟩
end Go.Proofs.Ytioggdiicgfoaaa
