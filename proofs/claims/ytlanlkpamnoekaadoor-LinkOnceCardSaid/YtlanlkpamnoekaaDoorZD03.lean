/- Contracts of functions and words for memory. Nothing that was there is turned. -/
import Derived.Test.YtlanlkpamnoekaaDoorZD02
import Derived.Test.YtlanlkpamnoekaaDoorRows
import Derived.Test.YtlanlkpamnoekaaDoorZD00
import Derived.Deep.RegionHeld3
import Derived.BigQuiet
import Derived.WalkSpells
import Derived.Outline
import Derived.StillTailTactics
import Derived.BigFrameIn
import Derived.Deep.RegionHeld
import Derived.OrdersIn
set_option linter.unusedSimpArgs false
set_option linter.unusedVariables false
namespace Go.Proofs.YtlanlkpamnoekaaDoor.Bt
open Go.RowKit Rf Mem Bv Bits
attribute [local go_sem ↓] run_max2 run_min2
abbrev bv (v : Value) (N : Int) : Value := .agg #[v, .int .i64 N]
theorem below_drewN {n : Nat} {a w : World} (h : Below n a w) (m : Nat) : Below n a (w.drewN m) := ⟨h.os, h.tape, h.output, h.size, h.block⟩
theorem ret_bool {a b : Bool} (h : a = b) : Ending.returned (.bool a) = .returned (.bool b) := by rw [h]
theorem mask_zero (x : BitVec 8) (k : Nat) (hk : k < 8) : (Go.bits .and .u8 (x.toNat : Int) ((2 ^ k - 1) % 256) == 0) = decide (x.toNat % 2 ^ k = 0) := by
  have h1 : ((2 : Int) ^ k - 1) % 256 = ((2 ^ k - 1 : Nat) : Int) := by
    rcases k with _ | _ | _ | _ | _ | _ | _ | _ | k <;> first | rfl | omega
  have h2 : 2 ^ k ≤ 128 := Nat.pow_le_pow_right (n := 2) (by omega) (show k ≤ 7 by omega)
  rw [h1, u8_and_nat _ _ x.isLt (by omega), Nat.and_two_pow_sub_one_eq_mod, Bool.eq_iff_iff, beq_iff_eq, decide_eq_true_eq]
  omega
set_option maxHeartbeats 1000000 in
set_option maxRecDepth 100000 in
theorem Right_c (v : Value) (B : List (BitVec 8)) (N : Int) (w : World) (hs : SliceAt w 1 v B.length (u8s B)) (hN1 : -9223372036854775808 ≤ N) (hN2 : N ≤ 9223372036854775807) :
    Calls Tryd.prog 56 #[bv v N] w fun e w' => e = .returned (.bool (right B N)) ∧ Below w.heap.size w w' := by
  have hB : Below w.heap.size w (w.alloc (.cells #[v, .int .i64 N] 75)) := (Below.refl _ w).alloc (Nat.le_refl _) _
  have hs' := hs.later hB
  obtain ⟨A, c, rfl, hc1, hc2, _, hc4⟩ := hs'
  clear hs
  unfold maxLen at hc2
  have hsm := hB.size
  by_cases hneg : N < 0
  · have hm := mask7 (IntKind.i64.wrap (-N))
    have h1 : decide (N < 0) = true := decide_eq_true hneg
    rw [right_neg B hneg]
    go_enter Tryd.func56, Tryd.ntmps56
    go_wp2
    go_ret
    exact ⟨rfl, hB⟩
  · obtain ⟨n, rfl⟩ : ∃ n : Nat, N = (n : Int) := ⟨N.toNat, by omega⟩
    have h1 : decide ((n : Int) < 0) = false := decide_eq_false (by omega)
    have hw : IntKind.i64.wrap (-(n : Int)) = -(n : Int) := IntWalk.i64_in _ (by omega)
    by_cases hlen : B.length = (n + 7) / 8
    · have hbne : ((B.length : Int) != (n : Int) / 8 + ((n : Int) % 8 + 7) / 8) = false := by simp; omega
      by_cases h8 : n % 8 = 0
      · rw [right_whole B hlen h8]
        have hm : Go.bits .and .i64 (-(n : Int)) 7 = 0 := by rw [mask7]; omega
        clear hlen
        go_enter Tryd.func56, Tryd.ntmps56
        go_wp2
        go_quiet (fail)
        go_wp2
        go_ret
        exact ⟨rfl, below_drewN hB _⟩
      · have hx : B[n / 8]? = some (B[n / 8]'(by omega)) := List.getElem?_eq_getElem _
        have hrl := right_last B hlen h8 hx
        obtain ⟨k, hk, hk1, hk2⟩ : ∃ k : Nat, 8 - n % 8 = k ∧ 0 < k ∧ k < 8 := ⟨8 - n % 8, rfl, by omega, by omega⟩
        rw [hk] at hrl
        have hm : Go.bits .and .i64 (-(n : Int)) 7 = (k : Int) := by rw [mask7]; omega
        rcases hc4 with h0 | ⟨bk, off, rfl, hbl, hcell⟩
        · omega
        have hc := hcell (n / 8) (.int .u8 ((B[n / 8]'(by omega)).toNat : Int)) (by simp [u8s, hx])
        have hc' : World.cell? (w.alloc (.cells #[.slice (some ⟨bk, off, none⟩) B.length c, .int .i64 (n : Int)] 75)) ⟨bk, off + (B.length - 1), none⟩ = some (.int .u8 ((B[n / 8]'(by omega)).toNat : Int)) := by rw [show B.length - 1 = n / 8 by omega]; exact hc
        generalize (B[n / 8]'(by omega)) = x at *
        have ht : (Go.bits .and .u8 (x.toNat : Int) ((2 ^ k - 1) % 256) == 0) = decide (x.toNat % 2 ^ k = 0) := mask_zero x k hk2
        have hbe : ((k : Int) == 0) = false := by simp; omega
        have i1 : (0 : Int) ≤ (B.length : Int) - 1 := by omega
        have i2 : (B.length : Int) - 1 < (B.length : Int) := by omega
        have hwl : IntKind.i64.wrap ((B.length : Int) - 1) = (B.length : Int) - 1 := IntWalk.i64_in _ (by omega)
        have hnt : ((B.length : Int) - 1).toNat = B.length - 1 := by omega
        rw [hrl]
        clear hc hcell hx hrl hk h8 hlen
        go_enter Tryd.func56, Tryd.ntmps56
        go_wp2
        go_quiet (fail)
        go_wp2
        go_ret
        exact ⟨rfl, below_drewN hB _⟩
    · rw [right_len B hlen]
      have hbne : ((B.length : Int) != (n : Int) / 8 + ((n : Int) % 8 + 7) / 8) = true := by simp; omega
      have hm := mask7 (-(n : Int))
      go_enter Tryd.func56, Tryd.ntmps56
      go_wp2
      go_ret
      exact ⟨rfl, hB⟩
set_option maxHeartbeats 1000000 in
set_option maxRecDepth 100000 in
theorem refRight_c (v : Value) (B : List (BitVec 8)) (N : Int) (w : World) (hs : SliceAt w 1 v B.length (u8s B)) (hN1 : -9223372036854775808 ≤ N) (hN2 : N ≤ 9223372036854775807) :
    Calls Tryd.prog 57 #[bv v N] w fun e w' => e = .returned (.bool (right B N)) ∧ Below w.heap.size w w' := by
  have hB : Below w.heap.size w (w.alloc (.cells #[v, .int .i64 N] 75)) := (Below.refl _ w).alloc (Nat.le_refl _) _
  have hs' := hs.later hB
  obtain ⟨A, c, rfl, hc1, hc2, _, hc4⟩ := hs'
  clear hs
  unfold maxLen at hc2
  have hsm := hB.size
  by_cases hneg : N < 0
  · have h1 : decide (N < 0) = true := decide_eq_true hneg
    rw [right_neg B hneg]
    go_enter Tryd.func57, Tryd.ntmps57
    go_wp2
    go_ret
    exact ⟨rfl, hB⟩
  · obtain ⟨n, rfl⟩ : ∃ n : Nat, N = (n : Int) := ⟨N.toNat, by omega⟩
    have h1 : decide ((n : Int) < 0) = false := decide_eq_false (by omega)
    by_cases hlen : B.length = (n + 7) / 8
    · have hbne : ((B.length : Int) != (n : Int) / 8 + min ((n : Int) % 8) 1) = false := by simp; omega
      by_cases h8 : n % 8 = 0
      · rw [right_whole B hlen h8]
        have hb8 : ((n : Int) % 8 == 0) = true := by simp; omega
        clear hlen
        go_enter Tryd.func57, Tryd.ntmps57
        go_wp2
        go_ret
        exact ⟨rfl, hB⟩
      · have hb8 : ((n : Int) % 8 == 0) = false := by simp; omega
        have hx : B[n / 8]? = some (B[n / 8]'(by omega)) := List.getElem?_eq_getElem _
        have hrl := right_last B hlen h8 hx
        obtain ⟨k, hk, hk1, hk2⟩ : ∃ k : Nat, 8 - n % 8 = k ∧ 0 < k ∧ k < 8 := ⟨8 - n % 8, rfl, by omega, by omega⟩
        rw [hk] at hrl
        have hk3 : (8 : Int) - (n : Int) % 8 = (k : Int) := by omega
        rcases hc4 with h0 | ⟨bk, off, rfl, hbl, hcell⟩
        · omega
        have hc := hcell (n / 8) (.int .u8 ((B[n / 8]'(by omega)).toNat : Int)) (by simp [u8s, hx])
        have hc' : World.cell? (w.alloc (.cells #[.slice (some ⟨bk, off, none⟩) B.length c, .int .i64 (n : Int)] 75)) ⟨bk, off + (B.length - 1), none⟩ = some (.int .u8 ((B[n / 8]'(by omega)).toNat : Int)) := by rw [show B.length - 1 = n / 8 by omega]; exact hc
        generalize (B[n / 8]'(by omega)) = x at *
        have i1 : (0 : Int) ≤ (B.length : Int) - 1 := by omega
        have i2 : (B.length : Int) - 1 < (B.length : Int) := by omega
        have i3 : (x.toNat : Int) < 256 := by have := x.isLt; omega
        have hwl : IntKind.i64.wrap ((B.length : Int) - 1) = (B.length : Int) - 1 := IntWalk.i64_in _ (by omega)
        have hnt : ((B.length : Int) - 1).toNat = B.length - 1 := by omega
        rw [hrl]
        clear hc hcell hx hrl hk h8 hlen
        have hk7 : k = 1 ∨ k = 2 ∨ k = 3 ∨ k = 4 ∨ k = 5 ∨ k = 6 ∨ k = 7 := by omega
        rcases hk7 with rfl | rfl | rfl | rfl | rfl | rfl | rfl
        all_goals
          go_enter Tryd.func57, Tryd.ntmps57
          go_wp2
          go_ret
          refine ⟨ret_bool ?_, hB⟩
          rw [Bool.eq_iff_iff, beq_iff_eq, decide_eq_true_eq]
          omega
    · rw [right_len B hlen]
      have hbne : ((B.length : Int) != (n : Int) / 8 + min ((n : Int) % 8) 1) = true := by simp; omega
      go_enter Tryd.func57, Tryd.ntmps57
      go_wp2
      go_ret
      exact ⟨rfl, hB⟩
end Go.Proofs.YtlanlkpamnoekaaDoor.Bt
namespace Go.Proofs.YtlanlkpamnoekaaDoor.Bt
open Go.RowKit Rf Mem Bv Bits Str
attribute [local go_sem ↓] run_max2 run_min2
theorem own_base_le {w : World} {base base' e sz n : Nat} {v : Value} {xs : List Value} (h : w.ownsRow base e sz v n xs) (hb : base' ≤ base) : w.ownsRow base' e sz v n xs :=
  ⟨h.1, h.2.imp id (fun ⟨g, cap, cur, q1, q2, q3⟩ => ⟨g, cap, cur, q1, by omega, q3⟩)⟩
theorem own_set {w : World} {base e sz n : Nat} {v : Value} {xs : List Value} (h : w.ownsRow base e sz v n xs) {p : Addr} (hp : p.block < base) (u : Value) : (w.setCell p u).ownsRow base e sz v n xs :=
  own_later h (fun g hg => Below.heap_setCell w p u g (by have := (own_base h hg).1; omega))
theorem load_bits {W : World} {g : Nat} {x y : Value} {f : Nat × Nat} (hg : W.heap[g]? = some (.cells #[x, y] 75 f)) : (loadVar 75 ⟨g, 0, none⟩).run Tryd.prog W = .ok (.agg #[x, y]) W := by
  have c0 := cell_at hg 0
  have c1 := cell_at hg 1
  simp only [List.getElem?_toArray, List.getElem?_cons_zero, List.getElem?_cons_succ] at c0 c1
  simp [go_sem, c0, c1]
theorem res_bits {fn : Func} {t : Tmp} (hf : fn.results = #[.cell t 75]) {tmps : Array Value} {W : World} {g : Nat} {x y : Value} {f : Nat × Nat} (hs : tmps.getD t undef = .pointer (some ⟨g, 0, none⟩)) (hg : W.heap[g]? = some (.cells #[x, y] 75 f)) :
    (results fn tmps).run Tryd.prog W = .ok (.agg #[x, y]) W := by
  have hs' : tmps[t]?.getD undef = .pointer (some ⟨g, 0, none⟩) := by simpa using hs
  simp [results, hf, hs', asAddr, load_bits hg]
theorem res_bits2 {fn : Func} {t u : Tmp} (hf : fn.results = #[.cell t 75, .tmp u]) {tmps : Array Value} {W : World} {g : Nat} {x y : Value} {f : Nat × Nat} (hs : tmps.getD t undef = .pointer (some ⟨g, 0, none⟩)) (hg : W.heap[g]? = some (.cells #[x, y] 75 f)) :
    (results fn tmps).run Tryd.prog W = .ok (.tuple #[.agg #[x, y], tmps.getD u undef]) W := by
  have hs' : tmps[t]?.getD undef = .pointer (some ⟨g, 0, none⟩) := by simpa using hs
  simp [results, hf, hs', asAddr, load_bits hg]
set_option maxHeartbeats 1000000 in
set_option maxRecDepth 100000 in
theorem Own_c (v : Value) (B : List (BitVec 8)) (N : Int) (w : World) (hs : SliceAt w 1 v B.length (u8s B)) (hl : B.length ≤ 140737488355328) :
    Calls Tryd.prog 69 #[bv v N] w fun e w' => ∃ v', e = .returned (bv v' N) ∧ w'.ownsRow w.heap.size 5 1 v' B.length (u8s B) ∧ Below w.heap.size w w' := by
  have hB : Below w.heap.size w ((w.alloc (.cells #[v, .int .i64 N] 75)).alloc (.cells #[.slice none 0 0, .int .i64 0] 75)) := ((Below.refl _ w).alloc (Nat.le_refl _) _).alloc (by simp) _
  have hs' := hs.later hB
  obtain ⟨A, c, rfl, _⟩ := hs.form
  clear hs
  go_enter Tryd.func69, Tryd.ntmps69
  go_wp2_with fail
  refine (Clone_c _ B _ hs' hl).mono ?_
  rintro e w1 ⟨v1, rfl, ho1, b1⟩
  have g1 := below_at b1 (k := w.heap.size) (o := .cells #[.slice A B.length c, .int .i64 N] 75) (old_at (new_at rfl _) _) (by simp; omega)
  have g2 := below_at b1 (k := w.heap.size + 1) (o := .cells #[.slice none 0 0, .int .i64 0] 75) (new_at (by simp) _) (by simp)
  have c10 := cell_at g1 0
  have c11 := cell_at g1 1
  have f10 := free_at g1 0
  have c20 := cell_at g2 0
  have c21 := cell_at g2 1
  have f20 := free_at g2 0
  have f21 := free_at g2 1
  have S1 := sliceAt_of_own ho1
  obtain ⟨A1, c1, rfl, _⟩ := S1.form
  go_wp2
  refine bodyPost_ret (res_bits rfl rfl (set_at (set_at (set_far g2 (by simp) _) 0 _) 1 _)) rfl ⟨_, rfl, ?_, ?_⟩
  · exact own_base_le (own_set (own_set (own_set ho1 (by simp; omega) _) (by simp) _) (by simp) _) (by simp; omega)
  · exact (((hB.trans (b1.mono hB.size)).setCell (Nat.le_refl _) _).setCell (by simp) _).setCell (by simp) _
set_option maxHeartbeats 1000000 in
set_option maxRecDepth 100000 in
theorem Of_c (v : Value) (B : List (BitVec 8)) (w : World) (hs : SliceAt w 1 v B.length (u8s B)) (hl : B.length ≤ 140737488355328) :
    Calls Tryd.prog 37 #[v] w fun e w' => ∃ v', e = .returned (bv v' ((B.length : Int) * 8)) ∧ w'.ownsRow w.heap.size 5 1 v' B.length (u8s B) ∧ Below w.heap.size w w' := by
  have hB : Below w.heap.size w (w.alloc (.cells #[.slice none 0 0, .int .i64 0] 75)) := (Below.refl _ w).alloc (Nat.le_refl _) _
  have hs' := hs.later hB
  obtain ⟨A, c, rfl, _⟩ := hs.form
  clear hs
  go_enter Tryd.func37, Tryd.ntmps37
  go_wp2_with fail
  refine (Clone_c _ B _ hs' hl).mono ?_
  rintro e w1 ⟨v1, rfl, ho1, b1⟩
  have g1 := below_at b1 (k := w.heap.size) (o := .cells #[.slice none 0 0, .int .i64 0] 75) (new_at rfl _) (by simp)
  have c10 := cell_at g1 0
  have c11 := cell_at g1 1
  have f10 := free_at g1 0
  have f11 := free_at g1 1
  have S1 := sliceAt_of_own ho1
  obtain ⟨A1, c1, rfl, _⟩ := S1.form
  go_wp2
  refine bodyPost_ret (res_bits rfl rfl (set_at (set_at g1 0 _) 1 _)) rfl ⟨_, rfl, ?_, ?_⟩
  · exact own_base_le (own_set (own_set ho1 (by simp) _) (by simp) _) (by simp)
  · exact ((hB.trans (b1.mono hB.size)).setCell (by simp) _).setCell (by simp) _
/-- bits of the same number, and bytes -/
def sameV (A B : List (BitVec 8)) (M N : Int) : Bool := (M == N) && decide (A = B)
end Go.Proofs.YtlanlkpamnoekaaDoor.Bt
namespace Go.Proofs.YtlanlkpamnoekaaDoor.Bt
open Go.RowKit Rf Mem Bv Bits Str
attribute [local go_sem ↓] run_max2 run_min2
set_option maxHeartbeats 1000000 in
set_option maxRecDepth 100000 in
theorem begin_c (v : Value) (B : List (BitVec 8)) (N : Int) (w : World) (hs : SliceAt w 1 v B.length (u8s B)) (hl : B.length ≤ 140737488355328) (hN1 : -9223372036854775808 ≤ N) (hN2 : N ≤ 9223372036854775807) :
    Calls Tryd.prog 60 #[bv v N] w fun e w' => Below w.heap.size w w' ∧
      ((right B N = true ∧ ∃ v', e = .returned (.tuple #[bv v' N, .bool true]) ∧ w'.ownsRow w.heap.size 5 1 v' B.length (u8s B)) ∨
       (right B N = false ∧ e = .returned (.tuple #[bv (.slice none 0 0) 0, .bool false]))) := by
  have hB : Below w.heap.size w ((w.alloc (.cells #[v, .int .i64 N] 75)).alloc (.cells #[.slice none 0 0, .int .i64 0] 75)) := ((Below.refl _ w).alloc (Nat.le_refl _) _).alloc (by simp) _
  have hs' := hs.later hB
  obtain ⟨A, c, rfl, _⟩ := hs.form
  clear hs
  rcases hr : right B N with _ | _
  · go_enter Tryd.func60, Tryd.ntmps60
    go_wp2_with fail
    refine (Right_c _ B N _ hs' hN1 hN2).mono ?_
    rintro e w1 ⟨rfl, b1⟩
    rw [hr]
    have g2 := below_at b1 (k := w.heap.size + 1) (o := .cells #[.slice none 0 0, .int .i64 0] 75) (new_at (by simp) _) (by simp)
    have c20 := cell_at g2 0
    have c21 := cell_at g2 1
    have f20 := free_at g2 0
    have f21 := free_at g2 1
    go_wp2
    refine bodyPost_ret (res_bits2 rfl rfl (set_at (set_at g2 0 _) 1 _)) rfl ⟨?_, .inr ⟨trivial, rfl⟩⟩
    exact ((hB.trans (b1.mono hB.size)).setCell (by simp) _).setCell (by simp) _
  · go_enter Tryd.func60, Tryd.ntmps60
    go_wp2_with fail
    refine (Right_c _ B N _ hs' hN1 hN2).mono ?_
    rintro e w1 ⟨rfl, b1⟩
    rw [hr]
    have g1 := below_at b1 (k := w.heap.size) (o := .cells #[.slice A B.length c, .int .i64 N] 75) (old_at (new_at rfl _) _) (by simp; omega)
    have g2 := below_at b1 (k := w.heap.size + 1) (o := .cells #[.slice none 0 0, .int .i64 0] 75) (new_at (by simp) _) (by simp)
    have c10 := cell_at g1 0
    have c11 := cell_at g1 1
    go_wp2_with fail
    refine (Own_c _ B N _ (hs'.later b1) hl).mono ?_
    rintro e w2 ⟨v2, rfl, ho2, b2⟩
    have hsz := b1.size
    simp only [World.size_alloc, heap_alloc, Array.size_push] at hsz
    have g3 := below_at b2 g2 (by omega)
    have c30 := cell_at g3 0
    have c31 := cell_at g3 1
    have f30 := free_at g3 0
    have f31 := free_at g3 1
    obtain ⟨A2, c2, rfl, _⟩ := (sliceAt_of_own ho2).form
    go_wp2
    refine bodyPost_ret (res_bits2 rfl rfl (set_at (set_at g3 0 _) 1 _)) rfl ⟨?_, .inl ⟨trivial, _, rfl, ?_⟩⟩
    · exact ((hB.trans ((below_step b1 b2).mono hB.size)).setCell (by simp) _).setCell (by simp) _
    · exact own_base_le (own_set (own_set ho2 (by simp; omega) _) (by simp; omega) _) (by omega)
/-- block g holds the bits l, its bytes in a row that the call owns; O: these blocks -/
def Acc (base g : Nat) (O : Nat → Prop) (w : World) (l : List Bool) : Prop :=
  ∃ v B, w.heap[g]? = some (.cells #[v, .int .i64 (l.length : Int)] 75 (0, 0)) ∧ w.ownsRow base 5 1 v B.length (u8s B) ∧ Holds B l ∧ base ≤ g ∧ v.ownBlock ≠ some g ∧ ∀ k, O k ↔ (k = g ∨ v.ownBlock = some k)
theorem or_high (y : BitVec 8) (r : Nat) : Go.bits .or .u8 (y.toNat : Int) ((128 : Int) / 2 ^ r) = ((y ||| (128#8 >>> r) : BitVec 8).toNat : Int) := by
  have h : ((128 : Int) / 2 ^ r) = ((128#8 >>> r : BitVec 8).toNat : Int) := Bv.shr_bv 128#8 r
  rw [h]; exact Bv.bits_or .u8 rfl y _
theorem acc_done {base g : Nat} {W : World} {v : Value} {B : List (BitVec 8)} {l : List Bool} {b : Bool} (hg : W.heap[g]? = some (.cells #[v, .int .i64 (l.length : Int)] 75 (0, 0))) (ho : W.ownsRow base 5 1 v B.length (u8s B))
    (hH : Holds B (l ++ [b])) (hbg : base ≤ g) (hne : v.ownBlock ≠ some g) : Acc base g (fun k => k = g ∨ v.ownBlock = some k) (W.setCell ⟨g, 1, none⟩ (.int .i64 ((l.length : Int) + 1))) (l ++ [b]) := by
  refine ⟨v, B, ?_, own_later ho (fun k hk => Below.heap_setCell W _ _ k (by rintro rfl; exact hne hk)), hH, hbg, hne, fun k => Iff.rfl⟩
  rw [set_at hg 1]; simp
theorem own_some {w : World} {base e n : Nat} {A : Option Addr} {c : Nat} {xs : List Value} (h : w.ownsRow base e 1 (.slice A n c) n xs) (hn : 0 < n) : ∃ g, A = some ⟨g, 0, none⟩ := by
  rcases h.2 with ⟨_, h0⟩ | ⟨g, cap, cur, hv, _⟩
  · omega
  · obtain ⟨rfl, _, _⟩ := Value.slice.inj hv; exact ⟨g, rfl⟩
theorem u8s_modify (B : List (BitVec 8)) (i : Nat) (y : BitVec 8) (f : BitVec 8 → BitVec 8) (h : B[i]? = some y) : (u8s B).set i (.int .u8 ((f y).toNat : Int)) = u8s (B.modify i f) := by
  apply List.ext_getElem?
  intro j
  rw [List.getElem?_set, List.getElem?_map, List.getElem?_map, List.getElem?_modify]
  have hi := (List.getElem?_eq_some_iff.1 h).1
  by_cases e : i = j
  · subst e; rw [if_pos rfl, if_pos (by simpa [u8s] using hi), h]; simp
  · rw [if_neg e]; cases B[j]? <;> simp [e]
set_option maxHeartbeats 1000000 in
set_option maxRecDepth 100000 in
theorem add_old (base g : Nat) (O : Nat → Prop) (l : List Bool) (b : Bool) (w : World) (hA : Acc base g O w l) (hl : l.length ≤ 1000000) (h8 : l.length % 8 ≠ 0) :
    Calls Tryd.prog 62 #[.pointer (some ⟨g, 0, none⟩), .bool b] w fun e w' => e = .returned (.tuple #[]) ∧ ∃ O', Acc base g O' w' (l ++ [b]) ∧ Keep (fun k => ¬ O k) w w' ∧ ∀ k, O' k → O k ∨ w.heap.size ≤ k := by
  obtain ⟨v, B, hg, ho, hH, hbg, hne, hO⟩ := hA
  have hadd := holds_add hH b
  have hBl := hH.1
  have hgs : g < w.heap.size := (Array.getElem?_eq_some_iff.1 hg).1
  obtain ⟨A, c, rfl, hc1, hc2⟩ := (sliceAt_of_own ho).form
  have c0 := cell_at hg 0
  have c1 := cell_at hg 1
  have f0 := free_at hg 0
  have f1 := free_at hg 1
  obtain ⟨r, hr, hr8, hr0⟩ : ∃ r, l.length % 8 = r ∧ r < 8 ∧ r ≠ 0 := ⟨_, rfl, by omega, h8⟩
  have hm : Go.bits .and .i64 (l.length : Int) 7 = (r : Int) := by rw [mask7]; omega
  have hz : ((r : Int) == 0) = false := by simp; omega
  cases b
  · have hB : addB B l.length false = B := by unfold addB; simp [h8]
    rw [hB] at hadd
    clear hH hBl hB hr h8
    go_enter Tryd.func62, Tryd.ntmps62
    go_wp2
    go_end0
    exact ⟨rfl, _, acc_done hg ho hadd hbg hne, (Keep.refl _ _).setCell (fun _ h => h ((hO g).2 (.inl rfl))) _, fun k hk => .inl ((hO k).2 hk)⟩
  · obtain ⟨g1, rfl⟩ := own_some ho (by omega)
    have hg1 : g1 ≠ g := fun e => hne (by rw [e]; rfl)
    obtain ⟨m, hBm, hml⟩ : ∃ m, B.length - 1 = m ∧ m < B.length := ⟨_, rfl, by omega⟩
    have hy : B[m]? = some B[m] := List.getElem?_eq_getElem _
    have hB : addB B l.length true = B.modify m (fun x => x ||| (128#8 >>> r)) := by unfold addB; simp [hr, hr0, hBm]
    have hset : (u8s B).set m (.int .u8 ((B[m] ||| (128#8 >>> r) : BitVec 8).toNat : Int)) = u8s (B.modify m (fun x => x ||| (128#8 >>> r))) := u8s_modify B m _ (fun x => x ||| (128#8 >>> r)) hy
    have cy : w.cell? ⟨g1, m, none⟩ = some (.int .u8 (B[m].toNat : Int)) := by rw [ho.cellAt _ (by omega)]; simp [u8s, hy]
    have fy := ho.frozenAt m
    generalize B[m] = y at *
    have hor := or_high y r
    have hst := (ho.stored m (.int .u8 ((y ||| (128#8 >>> r)).toNat : Int))).1
    rw [hset] at hst
    rw [hB] at hadd
    have hmlen : (B.modify m (fun x => x ||| (128#8 >>> r))).length = B.length := by simp
    generalize hzz : y ||| (128#8 >>> r) = z at *
    have hG : (w.setCell ⟨g1, m, none⟩ (.int .u8 (z.toNat : Int))).drew.heap[g]? = some (.cells #[.slice (some ⟨g1, 0, none⟩) B.length c, .int .i64 (l.length : Int)] 75 (0, 0)) := set_far hg (fun e => hg1 e.symm) _
    have hK : Keep (fun k => ¬ O k) w ((w.setCell ⟨g1, m, none⟩ (.int .u8 (z.toNat : Int))).setCell ⟨g, 1, none⟩ (.int .i64 ((l.length : Int) + 1))).drew := (((Keep.refl _ _).setCell (fun _ h => h ((hO g1).2 (.inr rfl))) _).setCell (fun _ h => h ((hO g).2 (.inl rfl))) _).drew
    rw [← hmlen] at hst
    have HD : Acc base g (fun k => k = g ∨ (Value.slice (some ⟨g1, 0, none⟩) B.length c).ownBlock = some k) ((w.setCell ⟨g1, m, none⟩ (.int .u8 (z.toNat : Int))).drew.setCell ⟨g, 1, none⟩ (.int .i64 ((l.length : Int) + 1))) (l ++ [true]) :=
      acc_done hG (by rw [← hmlen]; exact hst) hadd hbg hne
    have HDD := Lib.hid HD
    have HKK := Lib.hid hK
    clear HD hK hG hmlen hzz
    have hsub : (B.length : Int) - 1 = (m : Int) := by omega
    have hwl : IntKind.i64.wrap (m : Int) = (m : Int) := IntWalk.i64_in _ (by omega)
    have i1 : (0 : Int) ≤ (m : Int) := by omega
    have i2 : (m : Int) < (B.length : Int) := by omega
    have i3 : m < c := by omega
    clear hH hBl hB hr h8 hset hst hadd hy hBm
    go_enter Tryd.func62, Tryd.ntmps62
    go_wp2_with fail
    go_still_tail 15, (by kernel_rfl)
    change wpList _ _ _ _ _ w.drew
    go_wp2
    go_end0
    exact ⟨rfl, _, HDD.out, HKK.out, fun k hk => .inl ((hO k).2 hk)⟩
end Go.Proofs.YtlanlkpamnoekaaDoor.Bt
namespace Go.Proofs.YtlanlkpamnoekaaDoor.Bt
open Go.RowKit Rf Mem Bv Bits Str
attribute [local go_sem ↓] run_max2 run_min2
theorem set0 {W : World} {g : Nat} {x y u : Value} {T : TypeId} (h : W.heap[g]? = some (.cells #[x, y] T (0, 0))) : (W.setCell ⟨g, 0, none⟩ u).heap[g]? = some (.cells #[u, y] T (0, 0)) := by rw [set_at h 0]; simp
theorem own_snoc {W : World} {base e : Nat} {v : Value} {B : List (BitVec 8)} (h : W.ownsRow base e 1 v (B.length + 1) (u8s B ++ [.int .u8 0])) : W.ownsRow base e 1 v (B ++ [0#8]).length (u8s (B ++ [0#8])) := by
  have e1 : (B ++ [0#8]).length = B.length + 1 := by simp
  have e2 : u8s (B ++ [0#8]) = u8s B ++ [.int .u8 0] := by simp [u8s]
  rw [e1, e2]; exact h
theorem last_zero (B : List (BitVec 8)) : (u8s B ++ [Value.int .u8 0])[B.length]? = some (.int .u8 0) := by
  rw [List.getElem?_append_right (by simp [u8s])]; simp [u8s]
theorem add_facts {w w1 : World} {g g1 n k1 : Nat} {O : Nat → Prop} {v : Value} {cs : Array Value} {T : TypeId} {o : Obj} (hg : w.heap[g]? = some (.cells cs T (0, 0))) (hg1 : (w.alloc o).grownBy w1 v.ownBlock)
    (hw1 : (Value.slice (some ⟨g1, 0, none⟩) n k1).ownBlock = v.ownBlock ∨ (Value.slice (some ⟨g1, 0, none⟩) n k1).ownBlock = some (w.alloc o).heap.size) (hne : v.ownBlock ≠ some g) (hO : ∀ k, O k ↔ (k = g ∨ v.ownBlock = some k)) :
    g1 ≠ g ∧ w1.heap[g]? = some (.cells cs T (0, 0)) ∧ Keep (fun k => ¬ O k) w w1 ∧ (O g1 ∨ w.heap.size ≤ g1) := by
  have hgs : g < w.heap.size := (Array.getElem?_eq_some_iff.1 hg).1
  have e1 : (w.alloc o).heap.size = w.heap.size + 1 := by simp
  refine ⟨?_, ?_, ?_, ?_⟩
  · rintro rfl
    rcases hw1 with h | h
    · exact hne h.symm
    · rw [e1] at h; have := Option.some.inj h; simp at this; omega
  · exact (hg1.block g (by omega) (fun e => hne e.symm)).trans (old_at hg o)
  · exact ((Keep.refl _ w).alloc o).grown hg1 (fun k hk _ h => h ((hO k).2 (.inr hk)))
  · rcases hw1 with h | h
    · exact .inl ((hO g1).2 (.inr h.symm))
    · rw [e1] at h; have := Option.some.inj h; simp at this; exact .inr (by omega)
set_option maxHeartbeats 1000000 in
set_option maxRecDepth 100000 in
theorem add_new (base g : Nat) (O : Nat → Prop) (l : List Bool) (b : Bool) (w : World) (hA : Acc base g O w l) (hl : l.length ≤ 1000000) (h8 : l.length % 8 = 0) (hbw : base ≤ w.heap.size) :
    Calls Tryd.prog 62 #[.pointer (some ⟨g, 0, none⟩), .bool b] w fun e w' => e = .returned (.tuple #[]) ∧ ∃ O', Acc base g O' w' (l ++ [b]) ∧ Keep (fun k => ¬ O k) w w' ∧ ∀ k, O' k → O k ∨ w.heap.size ≤ k := by
  obtain ⟨i0, hi, hz0, hz1, hz2⟩ := info_parts info_u8
  obtain ⟨v, B, hg, ho, hH, hbg, hne, hO⟩ := hA
  have hadd := holds_add hH b
  have hBl := hH.1
  have hgs : g < w.heap.size := (Array.getElem?_eq_some_iff.1 hg).1
  obtain ⟨A, c, rfl, hc1, hc2⟩ := (sliceAt_of_own ho).form
  have c0 := cell_at hg 0
  have c1 := cell_at hg 1
  have f0 := free_at hg 0
  have f1 := free_at hg 1
  have hm : Go.bits .and .i64 (l.length : Int) 7 = 0 := by rw [mask7]; omega
  have hB0 : addB B l.length b = if b then (B ++ [0#8]).modify B.length (fun x => x ||| 128#8) else B ++ [0#8] := by unfold addB; simp [h8]
  rw [hB0] at hadd
  have hown := own_later (w' := w.alloc (.cells #[.int .u8 0] 5)) ho (fun k hk => Below.heap_alloc _ _ _ (own_base ho hk).2)
  have hlenB : B.length ≤ 125001 := by omega
  have HADD := Lib.hid hadd
  have HL := Lib.hid hBl
  clear hH hBl hB0 hadd h8
  cases b
  · go_enter Tryd.func62, Tryd.ntmps62
    go_wp2_with (at_builtin; refine wpList_append_src (by rfl) (.tmp 16) (.tmp 17) _ (by rfl) base 5 i0 _ 1 1 Tryd.underlying36 hi hz0 hz1 hz2 rfl (by omega) (.slice A B.length c) B.length (u8s B) (by rfl) hown (.slice (some ⟨w.heap.size, 0, none⟩) 1 1) 1 [.int .u8 0] (by rfl) (sliceAt_blk (new_at rfl _) rfl (by simp [maxLen])) (by simp [Value.oneCell']) (by simp only [maxLen]; omega) (by omega) (by simp; omega) ?_; intro v1 w1 ho1 hg1 hw1; obtain ⟨A1, k1, rfl, p1, p2⟩ := (sliceAt_of_own ho1).form; obtain ⟨g1, rfl⟩ := own_some ho1 (by omega); obtain ⟨hgne, hG1, hK1, hO1⟩ := add_facts hg hg1 hw1 hne hO; have d0 := cell_at hG1 0; have d1 := cell_at hG1 1; have e0 := free_at hG1 0; have e1 := free_at hG1 1; have cy := (ho1.cellAt B.length (by omega)).trans (last_zero B); have fy := ho1.frozenAt B.length)
    go_end0
    have hadd := HADD.out
    rw [if_neg (by simp)] at hadd
    have hO2 : (Value.slice (some ⟨g1, 0, none⟩) (B.length + 1) k1).ownBlock ≠ some g := fun e => hgne (Option.some.inj e)
    exact ⟨rfl, _, acc_done (set0 hG1) (own_snoc (own_later ho1 (fun k hk => Below.heap_setCell _ _ _ k (by rintro rfl; exact hO2 hk)))) hadd hbg hO2,
      (hK1.setCell (fun _ h => h ((hO g).2 (.inl rfl))) _).setCell (fun _ h => h ((hO g).2 (.inl rfl))) _, fun k hk => by
        rcases hk with rfl | hk
        · exact .inl ((hO k).2 (.inl rfl))
        · cases hk; exact hO1⟩
  · have hor : Go.bits .or .u8 0 128 = 128 := by decide
    go_enter Tryd.func62, Tryd.ntmps62
    go_wp2_with (at_builtin; refine wpList_append_src (by rfl) (.tmp 16) (.tmp 17) _ (by rfl) base 5 i0 _ 1 1 Tryd.underlying36 hi hz0 hz1 hz2 rfl (by omega) (.slice A B.length c) B.length (u8s B) (by rfl) hown (.slice (some ⟨w.heap.size, 0, none⟩) 1 1) 1 [.int .u8 0] (by rfl) (sliceAt_blk (new_at rfl _) rfl (by simp [maxLen])) (by simp [Value.oneCell']) (by simp only [maxLen]; omega) (by omega) (by simp; omega) ?_; intro v1 w1 ho1 hg1 hw1; obtain ⟨A1, k1, rfl, p1, p2⟩ := (sliceAt_of_own ho1).form; obtain ⟨g1, rfl⟩ := own_some ho1 (by omega); obtain ⟨hgne, hG1, hK1, hO1⟩ := add_facts hg hg1 hw1 hne hO; have d0 := cell_at hG1 0; have d1 := cell_at hG1 1; have e0 := free_at hG1 0; have e1 := free_at hG1 1; have cy := (ho1.cellAt B.length (by omega)).trans (last_zero B); have fy := ho1.frozenAt B.length)
    have hO2 : (Value.slice (some ⟨g1, 0, none⟩) (B.length + 1) k1).ownBlock ≠ some g := fun e => hgne (Option.some.inj e)
    have hG2 := set0 (u := .slice (some ⟨g1, 0, none⟩) (B.length + 1) k1) hG1
    have ho2 := own_later (w' := w1.setCell ⟨g, 0, none⟩ (.slice (some ⟨g1, 0, none⟩) (B.length + 1) k1)) ho1 (fun k hk => Below.heap_setCell _ _ _ k (by rintro rfl; exact hO2 hk))
    have hK2 := hK1.setCell (p := ⟨g, 0, none⟩) (fun _ h => h ((hO g).2 (.inl rfl))) (.slice (some ⟨g1, 0, none⟩) (B.length + 1) k1)
    clear d0 d1 e0 e1 cy fy ho1 hG1 hK1 hg1 c0 c1 f0 f1 hg ho hown
    generalize w1.setCell ⟨g, 0, none⟩ (.slice (some ⟨g1, 0, none⟩) (B.length + 1) k1) = w2 at *
    have d0 := cell_at hG2 0
    have d1 := cell_at hG2 1
    have e0 := free_at hG2 0
    have e1 := free_at hG2 1
    have cy := (ho2.cellAt B.length (by omega)).trans (last_zero B)
    have fy := ho2.frozenAt B.length
    have i1 : (0 : Int) ≤ (B.length : Int) := by omega
    have i2 : (B.length : Int) < (B.length : Int) + 1 := by omega
    have i3 : B.length < B.length + 1 := by omega
    have hwl : IntKind.i64.wrap (B.length : Int) = (B.length : Int) := IntWalk.i64_in _ (by omega)
    go_still_tail 15, (by kernel_rfl)
    change wpList _ _ _ _ _ w2.drew
    go_wp2
    go_end0
    have hadd := HADD.out
    simp only [if_true] at hadd
    have hst := (ho2.stored B.length (.int .u8 128)).1
    have hD1 : ((B ++ [0#8]).modify B.length (fun x => x ||| 128#8)).length = B.length + 1 := by simp
    have hD2 : (u8s B ++ [Value.int .u8 0]).set B.length (.int .u8 128) = u8s ((B ++ [0#8]).modify B.length (fun x => x ||| 128#8)) := by
      have := u8s_modify (B ++ [0#8]) B.length 0#8 (fun x => x ||| 128#8) (by rw [List.getElem?_append_right (Nat.le_refl _), Nat.sub_self]; rfl)
      rw [← this]; simp [u8s]
    rw [hD2, ← hD1] at hst
    have hG3 : (w2.setCell ⟨g1, B.length, none⟩ (.int .u8 128)).drew.heap[g]? = some (.cells #[.slice (some ⟨g1, 0, none⟩) (B.length + 1) k1, .int .i64 (l.length : Int)] 75 (0, 0)) := set_far hG2 (fun e => hgne e.symm) _
    rw [← hD1] at hG3 hO2
    refine ⟨rfl, _, acc_done (W := (w2.setCell ⟨g1, B.length, none⟩ (.int .u8 128)).drew) hG3 hst hadd hbg hO2, ?_, fun k hk => ?_⟩
    · refine Keep.drew (Keep.setCell (Keep.setCell hK2 ?_ _) (fun _ h => h ((hO g).2 (.inl rfl))) _)
      intro hlt h
      rcases hO1 with h1 | h1
      · exact h h1
      · exact absurd hlt (Nat.not_lt.2 h1)
    · rcases hk with rfl | hk
      · exact .inl ((hO k).2 (.inl rfl))
      · cases hk; exact hO1
theorem add_c (base g : Nat) (O : Nat → Prop) (l : List Bool) (b : Bool) (w : World) (hA : Acc base g O w l) (hl : l.length ≤ 1000000) (hbw : base ≤ w.heap.size) :
    Calls Tryd.prog 62 #[.pointer (some ⟨g, 0, none⟩), .bool b] w fun e w' => e = .returned (.tuple #[]) ∧ ∃ O', Acc base g O' w' (l ++ [b]) ∧ Keep (fun k => ¬ O k) w w' ∧ ∀ k, O' k → O k ∨ w.heap.size ≤ k := by
  by_cases h8 : l.length % 8 = 0
  · exact add_new base g O l b w hA hl h8 hbw
  · exact add_old base g O l b w hA hl h8
end Go.Proofs.YtlanlkpamnoekaaDoor.Bt
namespace Go.Proofs.YtlanlkpamnoekaaDoor.Bt
open Go.RowKit Rf Mem Bv Bits Str
attribute [local go_sem ↓] run_max2 run_min2
attribute [local go_sem] Oper.semAt_some
def boolList (l : List Bool) : List (Array Value) := l.map fun b => #[.bool b]
def HighPre (bw bn n w : Nat) (W : World) : Prop :=
  W.heap[bw]? = some (.cells #[.int .i64 (w : Int)] 3 (0, 0)) ∧ W.cell? ⟨bn, 0, none⟩ = some (.int .i64 (n : Int)) ∧ bn < W.heap.size
theorem boolList_get {n w k : Nat} (h : k < w) : (boolList (numBits n w))[k]? = some #[.bool (n.testBit (w - 1 - k))] := by
  simp [boolList, numBits, h]
theorem bit_gt (n m : Nat) : decide (0 < Go.bits .and .i64 ((n : Int) / 2 ^ m) 1) = n.testBit m := by
  rw [mask1, show ((n : Int) / 2 ^ m) = ((n / 2 ^ m : Nat) : Int) by norm_cast, Nat.testBit_eq_decide_div_mod_eq]
  rcases Nat.mod_two_eq_zero_or_one (n / 2 ^ m) with e | e
  · rw [decide_eq_false (by omega), decide_eq_false (by omega)]
  · rw [decide_eq_true (by omega), decide_eq_true e]
set_option maxHeartbeats 1000000 in
theorem high1 (bw bn n w : Nat) (hw : w ≤ 32) (hn : n < 2 ^ 62) (hne : bw ≠ bn) : Iter Tryd.prog 70 #[.pointer (some ⟨bw, 0, none⟩), .pointer (some ⟨bn, 0, none⟩)] (fun k => k = bw) (fun k => k = bn) (boolList (numBits n w)) (HighPre bw bn n w) := by
  intro l J O0 W0 hP hO hJ hY h0
  obtain ⟨hb, hcn, hns⟩ := hP
  have hbs : bw < W0.heap.size := (Array.getElem?_eq_some_iff.1 hb).1
  refine callsIn_of_wp Tryd.func70 rfl trivial ?_ rfl
  simp only [Tryd.ntmps70, List.size_toArray, List.length_cons, List.length_nil, Nat.reduceAdd, Nat.reduceSub, Array.replicate_succ, Array.replicate_zero, List.push_toArray, List.append_toArray, List.nil_append, List.cons_append]
  gi_wp2
  gi_loopw [4] (fun _ wr => ∃ (k : Nat) (O : Nat → Prop), k ≤ w ∧ wr.heap[bw]? = some (.cells #[.int .i64 ((w - k : Nat) : Int)] 3 (0, 0)) ∧ wr.cell? ⟨bn, 0, none⟩ = some (.int .i64 (n : Int)) ∧ J k O wr ∧ W0.heap.size ≤ wr.heap.size ∧ ∀ q, q < W0.heap.size → O q → O0 q) (fun _ wr => match wr.cell? ⟨bw, 0, none⟩ with | some (.int _ z) => z.toNat | _ => 0)
  case atStart => exact ⟨0, O0, Nat.zero_le _, hb, hcn, h0, Nat.le_refl _, fun _ _ h => h⟩
  case round =>
    obtain ⟨k, O, hk, hbk, hnk, hJk, hsz, hOO⟩ := hrel
    by_cases hlt : k < w
    · obtain ⟨m, hm⟩ : ∃ m, w - k = m + 1 := ⟨w - k - 1, by omega⟩
      have hget := boolList_get (n := n) hlt
      rw [show w - 1 - k = m by omega] at hget
      have hbO : ¬ O bw := fun h => (hO _ (hOO bw hbs h)).2.1 rfl
      have hnO : ¬ O bn := fun h => (hO _ (hOO bn hns h)).2.2 rfl
      rw [hm] at hbk
      have cw : wr.cell? ⟨bw, 0, none⟩ = some (.int .i64 ((m : Int) + 1)) := (cell_at hbk 0).trans (by simp)
      have fw := free_at hbk 0
      have hb1 : (wr.setCell ⟨bw, 0, none⟩ (.int .i64 (m : Int))).heap[bw]? = some (.cells #[.int .i64 (m : Int)] 3 (0, 0)) := by rw [set_at hbk 0]; simp
      have hn1 : (wr.setCell ⟨bw, 0, none⟩ (.int .i64 (m : Int))).cell? ⟨bn, 0, none⟩ = some (.int .i64 (n : Int)) := (World.cell?_of_block (Below.heap_setCell wr _ _ bn (fun e => hne e.symm))).trans hnk
      have hs1 : (wr.setCell ⟨bw, 0, none⟩ (.int .i64 (m : Int))).heap.size = wr.heap.size := by simp [World.setCell]
      have hJ1 : J k O (wr.setCell ⟨bw, 0, none⟩ (.int .i64 (m : Int))) := hJ k O wr _ hJk ((Keep.refl _ wr).setCell (fun _ h => by rcases h with h | h; exact hbO h; exact h.2 rfl) _)
      obtain ⟨fn, tmps, assign, body, hy, hR⟩ := hY k _ O _ hget hJ1 (by rw [hs1]; exact hsz)
      have hbit := bit_gt n m
      have hm1 : ((m : Int) < 64) := by omega
      have hms : w - (k + 1) = m := by omega
      have HM := Lib.hid hms
      have HK := Lib.hid hm
      clear hget hms hm hJ1
      generalize n.testBit m = tb at *
      gi_wp2
      refine ⟨rfl, hR.mono ?_⟩
      rintro e W' ⟨rfl, O', hJ', ho', hk'⟩
      clear hy hR
      have hb2 := hk'.at_ hb1 hbO
      have hn2 : W'.cell? ⟨bn, 0, none⟩ = some (.int .i64 (n : Int)) := (World.cell?_of_block (hk'.block bn (by rw [hs1]; omega) hnO)).trans hn1
      have hs2 : W0.heap.size ≤ W'.heap.size := by have := hk'.size; rw [hs1] at this; omega
      have hOO' : ∀ q, q < W0.heap.size → O' q → O0 q := fun q hq h => by
        rcases ho' q h with h | h
        · exact hOO q hq h
        · rw [hs1] at h; omega
      have cw2 : W'.cell? ⟨bw, 0, none⟩ = some (.int .i64 (m : Int)) := (cell_at hb2 0).trans (by simp)
      gi_wp2
      go_roundw
      case rel => exact ⟨k + 1, O', by omega, by rw [HM.out]; exact hb2, hn2, hJ', hs2, hOO'⟩
      case measure => simp [cw2, cw]
    · obtain rfl : k = w := by omega
      have cw : wr.cell? ⟨bw, 0, none⟩ = some (.int .i64 0) := (cell_at hbk 0).trans (by simp)
      have hl : (boolList (numBits n k)).length = k := by simp [boolList, numBits]
      have HL := Lib.hid hl
      clear hl
      gi_wp2
      go_end0
      exact ⟨⟨_, rfl⟩, O, by rw [HL.out]; exact hJk⟩
end Go.Proofs.YtlanlkpamnoekaaDoor.Bt
namespace Go.Proofs.YtlanlkpamnoekaaDoor.Bt
open Go.RowKit Rf Mem Bv Bits Str
attribute [local go_sem ↓] run_max2 run_min2
attribute [local go_sem] Oper.semAt_some
theorem bodyPostM_bits2 {fn : Func} {R : Ending → World → Prop} {t u : Tmp} (hf : fn.results = #[.cell t 75, .tmp u]) {tmps : Array Value} {D g : Nat} {W : World} {x y : Value} {f : Nat × Nat}
    (hD : W.heap[D]? = some (.deferred (some []))) (hs : tmps.getD t undef = .pointer (some ⟨g, 0, none⟩)) (hg : (W.putObj D (.deferred none)).heap[g]? = some (.cells #[x, y] 75 f))
    (h : R (.returned (.tuple #[.agg #[x, y], tmps.getD u undef])) (W.putObj D (.deferred none))) :
    bodyPostM Fence.wide 0 Tryd.prog fn R .ret { tmps := tmps, defers := [{ target := .collected D, args := #[] }] } W := by
  refine ⟨by simp, .inl ⟨_, _, rfl, run_takeDeferred hD, ?_⟩⟩
  exact ⟨_, res_bits2 hf hs hg, h⟩
theorem acc_keep {base g : Nat} {O S : Nat → Prop} {W W' : World} {l : List Bool} (h : Acc base g O W l) (hk : Keep S W W') (hS : ∀ k, O k → S k) : Acc base g O W' l := by
  obtain ⟨v, B, hg, ho, hH, hbg, hne, hO⟩ := h
  exact ⟨v, B, hk.at_ hg (hS g ((hO g).2 (.inl rfl))), own_later ho (fun k hk' => hk.block k (own_base ho hk').2 (hS k ((hO k).2 (.inr hk')))), hH, hbg, hne, hO⟩
theorem high_c (n w : Nat) (W : World) : Calls Tryd.prog 61 #[.int .i64 (n : Int), .int .i64 (w : Int)] W fun e W' => e = .returned (.func (.func 70) #[] #[.pointer (some ⟨W.heap.size + 1, 0, none⟩), .pointer (some ⟨W.heap.size, 0, none⟩)]) ∧ (W.alloc (.cells #[.int .i64 (n : Int)] 3)).alloc (.cells #[.int .i64 (w : Int)] 3) = W' := by
  go_enter Tryd.func61, Tryd.ntmps61
  go_wp2
  go_ret
  exact ⟨rfl, rfl⟩
set_option maxHeartbeats 1000000 in
set_option maxRecDepth 100000 in
theorem Put_good (v : Value) (B : List (BitVec 8)) (l : List Bool) (n wd : Nat) (w : World) (hs : SliceAt w 1 v B.length (u8s B)) (hH : Holds B l) (hl : l.length ≤ 999000) (hw : wd ≤ 32) (hn : n < 2 ^ wd) :
    Calls Tryd.prog 45 #[bv v l.length, .int .i64 n, .int .i64 wd] w fun e w' => Below w.heap.size w w' ∧
      ∃ v' B', e = .returned (.tuple #[bv v' ((l.length + wd : Nat) : Int), .int .i64 0]) ∧ w'.ownsRow w.heap.size 5 1 v' B'.length (u8s B') ∧ Holds B' (l ++ numBits n wd) := by
  have hr : right B (l.length : Int) = true := (right_iff B _).2 ⟨l, rfl, hH⟩
  have hBl := hH.1
  have hBs : B.length ≤ 125000 := by omega
  clear hBl
  have hB : Below w.heap.size w ((w.alloc (.cells #[v, .int .i64 (l.length : Int)] 75)).alloc (.cells #[.slice none 0 0, .int .i64 0] 75)) := ((Below.refl _ w).alloc (Nat.le_refl _) _).alloc (by simp) _
  have hs' := hs.later hB
  obtain ⟨A, c, rfl, _⟩ := hs.form
  clear hs
  refine (callsIn_wide (n := 0)).1 (callsIn_of_wp_marks Tryd.func45 rfl trivial ?_ rfl)
  refine wpIn_wide.2 ?_
  simp only [Tryd.ntmps45, List.size_toArray, List.length_cons, List.length_nil, Nat.reduceAdd, Nat.reduceSub, Array.replicate_succ, Array.replicate_zero, List.push_toArray, List.append_toArray, List.nil_append, List.cons_append]
  go_wp2_with fail
  refine (begin_c _ B _ _ hs' (by omega) (by omega) (by omega)).mono ?_
  rintro e w1 ⟨b1, (⟨_, v1, rfl, ho1⟩ | ⟨hf, _⟩)⟩
  rotate_left
  · rw [hr] at hf; cases hf
  have g1 := below_at b1 (k := w.heap.size + 1) (o := .cells #[.slice none 0 0, .int .i64 0] 75) (new_at (by simp) _) (by simp)
  have c10 := cell_at g1 0
  have c11 := cell_at g1 1
  have f10 := free_at g1 0
  have f11 := free_at g1 1
  obtain ⟨A1, c1, rfl, _⟩ := (sliceAt_of_own ho1).form
  have hz : decide (0 < (n : Int) / 2 ^ wd) = false := by
    rw [show ((n : Int) / 2 ^ wd) = ((n / 2 ^ wd : Nat) : Int) by norm_cast, Nat.div_eq_of_lt hn]; rfl
  have q1 : decide ((wd : Int) < 0) = false := decide_eq_false (by omega)
  have q2 : decide ((32 : Int) < (wd : Int)) = false := decide_eq_false (by omega)
  have q3 : decide ((n : Int) < 0) = false := decide_eq_false (by omega)
  go_wp2_with fail
  refine (high_c n wd _).mono ?_
  rintro e w' ⟨rfl, rfl⟩
  go_wp2_with fail
  obtain ⟨W0, hW0⟩ : ∃ W0, W0 = ((((w1.setCell ⟨w.heap.size + 1, 0, none⟩ (.slice A1 B.length c1)).setCell ⟨w.heap.size + 1, 1, none⟩ (.int .i64 (l.length : Int))).alloc (.cells #[.int .i64 (n : Int)] 3)).alloc (.cells #[.int .i64 (wd : Int)] 3)) := ⟨_, rfl⟩
  rw [← hW0]
  have hsz1 := b1.size
  simp only [World.size_alloc] at hsz1
  have hsz : W0.heap.size = w1.heap.size + 2 := by rw [hW0]; simp [World.setCell]
  have kw : W0.heap[w1.heap.size + 1]? = some (.cells #[.int .i64 (wd : Int)] 3) := by rw [hW0]; exact new_at (by simp [World.setCell]) _
  have kn : W0.heap[w1.heap.size]? = some (.cells #[.int .i64 (n : Int)] 3) := by rw [hW0]; exact old_at (new_at (by simp [World.setCell]) _) _
  have hBW : Below w.heap.size w W0 := by
    rw [hW0]
    exact ((((hB.trans (b1.mono hB.size)).setCell (p := ⟨w.heap.size + 1, 0, none⟩) (by simp) _).setCell (p := ⟨w.heap.size + 1, 1, none⟩) (by simp) _).alloc (by simp [World.setCell]; omega) _).alloc (by simp [World.setCell]; omega) _
  have hg1s : ∀ k, (Value.slice A1 B.length c1).ownBlock = some k → w.heap.size + 2 ≤ k ∧ k < w1.heap.size := fun k hk => by
    have := own_base ho1 hk; simp only [World.size_alloc] at this; omega
  have hAcc : Acc w.heap.size (w.heap.size + 1) (fun k => k = w.heap.size + 1 ∨ (Value.slice A1 B.length c1).ownBlock = some k) W0 l := by
    refine ⟨_, B, ?_, own_base_le (own_later ho1 (fun k hk => ?_)) (by simp; omega), hH, by omega, fun e => by have := hg1s _ e; omega, fun k => Iff.rfl⟩
    · rw [hW0]; exact old_at (old_at (by rw [set_at (set_at g1 0 _) 1]; simp) _) _
    · have := hg1s k hk
      rw [hW0]
      exact (Below.heap_alloc _ _ k (by simp [World.setCell]; omega)).trans ((Below.heap_alloc _ _ k (by simp [World.setCell]; omega)).trans ((Below.heap_setCell _ _ _ k (by simp; omega)).trans (Below.heap_setCell _ _ _ k (by simp; omega))))
  clear hW0 g1 c10 c11 f10 f11 ho1
  refine wp_iter (xs := boolList (numBits n wd)) (Fp := fun k => k = w1.heap.size + 1) (Rd := fun k => k = w1.heap.size) (gf := 70) (lb := #[.pointer (some ⟨w1.heap.size + 1, 0, none⟩), .pointer (some ⟨w1.heap.size, 0, none⟩)]) rfl (enters Tryd.func70 (by kernel_rfl) rfl)
    (high1 _ _ n wd hw (Nat.lt_of_lt_of_le hn (Nat.pow_le_pow_right (by omega) (by omega))) (by omega)) ?hps
    (fun i O W => Acc w.heap.size (w.heap.size + 1) O W (l ++ (numBits n wd).take i) ∧ Below w.heap.size w W) (fun k => k = w.heap.size + 1 ∨ (Value.slice A1 B.length c1).ownBlock = some k) ?hpre ?hO ?hFp ?hI ?h0
    (fun x => { tmps := #[bv (Value.slice A B.length c) l.length, Value.int IntKind.i64 n, Value.int IntKind.i64 wd,
          Value.pointer (some { block := w.heap.size, off := 0 }), undef, undef,
          Value.pointer (some { block := w.heap.size + 1, off := 0 }), Value.int IntKind.i64 0, Value.bool true, x.getD 0 undef,
          Value.tuple #[bv (Value.slice A1 B.length c1) l.length, Value.bool true],
          Value.agg #[Value.slice A B.length c, Value.int IntKind.i64 l.length],
          Value.tuple #[bv (Value.slice A1 B.length c1) l.length, Value.bool true],
          bv (Value.slice A1 B.length c1) l.length, Value.bool true, Value.bool true, Value.bool false,
          Value.bool false, Value.int IntKind.i64 wd, Value.bool false, Value.bool false, Value.bool false,
          Value.int IntKind.i64 wd, Value.bool false, Value.bool false, Value.bool false, Value.int IntKind.i64 n,
          Value.bool false, Value.bool false, Value.bool false, Value.int IntKind.i64 n, Value.int IntKind.i64 wd,
          Value.int IntKind.i64 ((n : Int) / 2 ^ wd), Value.bool false, Value.bool false, undef, Value.int IntKind.i64 n,
          Value.int IntKind.i64 wd,
          Value.func (Fn.func 70) #[]
            #[Value.pointer (some { block := w1.heap.size + 1, off := 0 }),
              Value.pointer (some { block := w1.heap.size, off := 0 })],
          x.getD 0 undef, undef, undef, undef], defers := [] }) ?assign ?body ?done
  case hps => intro x hx; simp only [boolList, List.mem_map] at hx; obtain ⟨b, _, rfl⟩ := hx; rfl
  case hpre =>
    intro W hW
    refine ⟨below_at hW kw (by omega), ?_, by have := hW.size; omega⟩
    rw [cell_at (below_at hW kn (by omega))]; rfl
  case hO =>
    rintro k (rfl | h)
    · exact ⟨by omega, by omega, by omega⟩
    · have := hg1s k h; exact ⟨by omega, by omega, by omega⟩
  case hFp => rintro k rfl; omega
  case hI =>
    rintro i O W W' ⟨h1, h2⟩ hk
    exact ⟨acc_keep h1 hk (fun k h => .inl h), below_keep h2 hk (Nat.le_refl _) (fun k h => .inr ⟨by omega, by omega⟩)⟩
  case h0 => exact ⟨by simpa using hAcc, hBW⟩
  case assign =>
    intro l' x W K hx hK
    simp only [boolList, List.mem_map] at hx
    obtain ⟨b, _, rfl⟩ := hx
    gi_wp2
    exact hK
  case body =>
    rintro l' i x O W hx ⟨h1, h2⟩ hsz'
    simp only [boolList, List.getElem?_map] at hx
    obtain ⟨b, hbi, rfl⟩ := Option.map_eq_some_iff.1 hx
    have hi : i < wd := by have := (List.getElem?_eq_some_iff.1 hbi).1; rwa [numBits_length] at this
    have hlen : (l ++ (numBits n wd).take i).length ≤ 1000000 := by rw [List.length_append, List.length_take]; omega
    have hT : l ++ (numBits n wd).take (i + 1) = (l ++ (numBits n wd).take i) ++ [b] := by rw [List.take_add_one, hbi, List.append_assoc]; rfl
    have HT := Lib.hid hT
    clear hT hx hbi
    gi_wp2_with fail
    refine ⟨trivial, rfl, (CallsIn.inRound _ (callsIn_wide.2 (add_c _ _ O _ b _ h1 hlen h2.size))).mono ?_⟩
    rintro e W' ⟨rfl, O', hA', hk', ho'⟩
    gi_wp2
    exact ⟨O', ⟨by rw [HT.out]; exact hA', below_keep h2 hk' (Nat.le_refl _) (fun k hk hOk => by
      obtain ⟨v, B2, _, ho2, _, hb2, _, hO2⟩ := h1
      rcases (hO2 k).1 hOk with e | e
      · omega
      · have := (own_base ho2 e).1; omega)⟩, ho', hk'⟩
  case done =>
    rintro D O W ⟨h1, h2⟩ hD1 hD2
    rw [show (boolList (numBits n wd)).length = wd by simp [boolList, numBits], List.take_of_length_le (by rw [numBits_length]; exact Nat.le_refl _)] at h1
    obtain ⟨v, B2, hg, ho, hH2, hbg, hne2, hO2⟩ := h1
    have hll : (((l ++ numBits n wd).length : Nat) : Int) = ((l.length + wd : Nat) : Int) := by rw [List.length_append, numBits_length]
    rw [hll] at hg
    obtain ⟨A2, c2, rfl, _⟩ := (sliceAt_of_own ho).form
    obtain ⟨L, hLL⟩ : ∃ L, l.length + wd = L := ⟨_, rfl⟩
    rw [hLL] at hg
    have HL2 := Lib.hid hLL
    clear hLL hll hr hH
    have hD3 : (Value.slice A2 B2.length c2).ownBlock ≠ some D := by
      intro e
      rcases ho.2 with ⟨h, _⟩ | ⟨gg, cap, cur, h, _, hh, _⟩
      · rw [h] at e; cases e
      · rw [h] at e; cases e; rw [hD2] at hh; cases hh
    have d0 := cell_at hg 0
    have d1 := cell_at hg 1
    have e0 := free_at hg 0
    have e1 := free_at hg 1
    go_wp2
    refine bodyPostM_bits2 rfl (set_far (set_far hD2 (by simp; omega) _) (by simp; omega) _) rfl ((World.putObj_heap_other (by omega)).trans (set_at (set_at hg 0 _) 1 _)) ⟨below_putObj ((h2.setCell (by simp) _).setCell (by simp) _) (by have := hBW.size; omega) _, _, B2, by rw [HL2.out]; rfl, ?_, hH2⟩
    refine own_later ho (fun k hk => ?_)
    have hkg : k ≠ w.heap.size + 1 := fun e => hne2 (by rw [hk, e])
    have hkD : k ≠ D := fun e => hD3 (by rw [hk, e])
    exact (World.putObj_heap_other hkD).trans ((Below.heap_setCell _ _ _ k hkg).trans (Below.heap_setCell _ _ _ k hkg))
end Go.Proofs.YtlanlkpamnoekaaDoor.Bt
namespace Go.Proofs.YtlanlkpamnoekaaDoor.Bt
open Go.RowKit Rf Mem Bv Bits Str
attribute [local go_sem ↓] run_max2 run_min2
/-- may the number n be put so wide? -/
def fits (n wd : Int) : Bool := decide (0 ≤ wd) && decide (wd ≤ 32) && decide (0 ≤ n) && decide (n < 2 ^ wd.toNat)
theorem bodyPostM_bits0 {fn : Func} {R : Ending → World → Prop} {t u : Tmp} (hf : fn.results = #[.cell t 75, .tmp u]) {tmps : Array Value} {g : Nat} {W : World} {x y : Value} {f : Nat × Nat}
    (hs : tmps.getD t undef = .pointer (some ⟨g, 0, none⟩)) (hg : W.heap[g]? = some (.cells #[x, y] 75 f)) (h : R (.returned (.tuple #[.agg #[x, y], tmps.getD u undef])) W) :
    bodyPostM Fence.wide 0 Tryd.prog fn R .ret { tmps := tmps, defers := [] } W := ⟨_, res_bits2 hf hs hg, h⟩
set_option maxHeartbeats 200000 in
set_option maxRecDepth 100000 in
theorem Put_bad (v : Value) (B : List (BitVec 8)) (N n wd : Int) (w : World) (hs : SliceAt w 1 v B.length (u8s B)) (hl : B.length ≤ 140737488355328) (hN1 : -9223372036854775808 ≤ N) (hN2 : N ≤ 9223372036854775807) (hn : n ≤ 9223372036854775807)
    (h : (right B N && fits n wd) = false) :
    Calls Tryd.prog 45 #[bv v N, .int .i64 n, .int .i64 wd] w fun e w' => Below w.heap.size w w' ∧ e = .returned (.tuple #[bv (.slice none 0 0) 0, .int .i64 2]) := by
  have hB : Below w.heap.size w ((w.alloc (.cells #[v, .int .i64 N] 75)).alloc (.cells #[.slice none 0 0, .int .i64 0] 75)) := ((Below.refl _ w).alloc (Nat.le_refl _) _).alloc (by simp) _
  have hs' := hs.later hB
  obtain ⟨A, c, rfl, _⟩ := hs.form
  clear hs
  refine (callsIn_wide (n := 0)).1 (callsIn_of_wp_marks Tryd.func45 rfl trivial ?_ rfl)
  refine wpIn_wide.2 ?_
  simp only [Tryd.ntmps45, List.size_toArray, List.length_cons, List.length_nil, Nat.reduceAdd, Nat.reduceSub, Array.replicate_succ, Array.replicate_zero, List.push_toArray, List.append_toArray, List.nil_append, List.cons_append]
  go_wp2_with fail
  refine (begin_c _ B _ _ hs' hl hN1 hN2).mono ?_
  rintro e w1 ⟨b1, (⟨hr, v1, rfl, ho1⟩ | ⟨hf, rfl⟩)⟩
  · rw [hr, Bool.true_and] at h
    have g1 := below_at b1 (k := w.heap.size + 1) (o := .cells #[.slice none 0 0, .int .i64 0] 75) (new_at (by simp) _) (by simp)
    have d0 := cell_at g1 0
    have d1 := cell_at g1 1
    have e0 := free_at g1 0
    have e1 := free_at g1 1
    obtain ⟨A1, c1, rfl, _⟩ := (sliceAt_of_own ho1).form
    have hcase : (decide (wd < 0) = true) ∨ (decide (wd < 0) = false ∧ decide (32 < wd) = true) ∨ (decide (wd < 0) = false ∧ decide (32 < wd) = false ∧ decide (n < 0) = true) ∨ (decide (wd < 0) = false ∧ decide (32 < wd) = false ∧ decide (n < 0) = false ∧ ∃ m : Nat, wd = (m : Int) ∧ m ≤ 32 ∧ decide (0 < n / 2 ^ m) = true) := by
      by_cases h1 : wd < 0
      · exact .inl (decide_eq_true h1)
      by_cases h2 : 32 < wd
      · exact .inr (.inl ⟨decide_eq_false h1, decide_eq_true h2⟩)
      by_cases h3 : n < 0
      · exact .inr (.inr (.inl ⟨decide_eq_false h1, decide_eq_false h2, decide_eq_true h3⟩))
      refine .inr (.inr (.inr ⟨decide_eq_false h1, decide_eq_false h2, decide_eq_false h3, wd.toNat, by omega, by omega, ?_⟩))
      apply decide_eq_true
      have h4 : ¬ n < 2 ^ wd.toNat := fun h4 => by
        unfold fits at h
        rw [decide_eq_true (show 0 ≤ wd by omega), decide_eq_true (show wd ≤ 32 by omega), decide_eq_true (show 0 ≤ n by omega), decide_eq_true h4] at h
        cases h
      have hp : (0 : Int) < 2 ^ wd.toNat := Int.pow_pos (by omega)
      have := (Int.le_ediv_iff_mul_le hp (a := 1) (b := n)).2 (by omega)
      omega
    clear h hr
    rcases hcase with q1 | ⟨q1, q2⟩ | ⟨q1, q2, q3⟩ | ⟨q1, q2, q3, m, rfl, hm32, hz⟩
    all_goals
      go_wp2
      refine bodyPostM_bits0 (t := 6) (u := 7) rfl rfl (set_at (set_at (set_at (set_at g1 0 _) 1 _) 0 _) 1 _) ⟨?_, rfl⟩
      exact ((((hB.trans (b1.mono hB.size)).setCell (by simp) _).setCell (by simp) _).setCell (by simp) _).setCell (by simp) _
  · have g1 := below_at b1 (k := w.heap.size + 1) (o := .cells #[.slice none 0 0, .int .i64 0] 75) (new_at (by simp) _) (by simp)
    have d0 := cell_at g1 0
    have d1 := cell_at g1 1
    have e0 := free_at g1 0
    have e1 := free_at g1 1
    clear h
    go_wp2
    refine bodyPostM_bits0 (t := 6) (u := 7) rfl rfl (set_at (set_at (set_at (set_at g1 0 _) 1 _) 0 _) 1 _) ⟨?_, rfl⟩
    exact ((((hB.trans (b1.mono hB.size)).setCell (by simp) _).setCell (by simp) _).setCell (by simp) _).setCell (by simp) _
end Go.Proofs.YtlanlkpamnoekaaDoor.Bt
namespace Go.Proofs.YtlanlkpamnoekaaDoor.Bt
open Go.RowKit Rf Mem Bv Bits Str
attribute [local go_sem ↓] run_max2 run_min2
end Go.Proofs.YtlanlkpamnoekaaDoor.Bt
namespace Go.Proofs.YtlanlkpamnoekaaDoor.Bt
open Go.RowKit Rf Mem Bv Bits Str
attribute [local go_sem ↓] run_max2 run_min2
theorem holds_pad {B : List (BitVec 8)} {l : List Bool} (h : Holds B l) : Holds B (l ++ List.replicate (8 * B.length - l.length) false) := by
  have h1 := h.1
  refine ⟨by rw [List.length_append, List.length_replicate]; omega, 0, ?_⟩
  rw [List.replicate_zero, List.append_nil]; exact holds_len h
end Go.Proofs.YtlanlkpamnoekaaDoor.Bt
namespace Go.Proofs.YtlanlkpamnoekaaDoor.Bt
open Go.RowKit Rf Mem Bv Bits Str
attribute [local go_sem ↓] run_max2 run_min2
theorem num_snoc (l : List Bool) (b : Bool) : num (l ++ [b]) = 2 * num l + b.toNat := by
  rw [num_append, List.length_singleton, Nat.pow_one, Nat.mul_comm]; cases b <;> rfl
/-- one more bit, as the code reads it -/
theorem take_step {B : List (BitVec 8)} {l : List Bool} (h : Holds B l) {at_ k : Nat} (hk : at_ + k < l.length) {y : BitVec 8} (hy : B[(at_ + k) / 8]? = some y) :
    num ((l.drop at_).take (k + 1)) = 2 * num ((l.drop at_).take k) + y.toNat / 2 ^ (7 - (at_ + k) % 8) % 2 := by
  have h1 : l[at_ + k]? = some (y.getLsbD (7 - (at_ + k) % 8)) := by
    have := bitsOf_get B ((at_ + k) / 8) ((at_ + k) % 8) (by omega)
    rw [hy, Option.map_some, show 8 * ((at_ + k) / 8) + (at_ + k) % 8 = at_ + k by omega, holds_get h hk] at this
    exact this
  rw [List.take_add_one, List.getElem?_drop, h1]
  have e2 : (some (y.getLsbD (7 - (at_ + k) % 8))).toList = [y.getLsbD (7 - (at_ + k) % 8)] := rfl
  rw [e2, num_snoc]
  congr 1
  rw [BitVec.getLsbD, Nat.testBit_eq_decide_div_mod_eq]
  rcases Nat.mod_two_eq_zero_or_one (y.toNat / 2 ^ (7 - (at_ + k) % 8)) with e | e <;> rw [e] <;> rfl
set_option maxHeartbeats 1000000 in
set_option maxRecDepth 100000 in
theorem Take_bad (v : Value) (B : List (BitVec 8)) (N at_ wd : Int) (w : World) (hs : SliceAt w 1 v B.length (u8s B)) (hN1 : -9223372036854775808 ≤ N) (hN2 : N ≤ 9223372036854775807)
    (h : right B N = false ∨ wd < 0 ∨ 32 < wd ∨ at_ < 0) :
    Calls Tryd.prog 39 #[bv v N, .int .i64 at_, .int .i64 wd] w fun e w' => Below w.heap.size w w' ∧ e = .returned (.tuple #[.int .i64 0, .int .i64 2]) := by
  have hB : Below w.heap.size w (w.alloc (.cells #[v, .int .i64 N] 75)) := (Below.refl _ w).alloc (Nat.le_refl _) _
  have hs' := hs.later hB
  obtain ⟨A, c, rfl, _⟩ := hs.form
  clear hs
  have hcase : (right B N = false) ∨ (right B N = true ∧ decide (wd < 0) = true) ∨ (right B N = true ∧ decide (wd < 0) = false ∧ decide (32 < wd) = true) ∨ (right B N = true ∧ decide (wd < 0) = false ∧ decide (32 < wd) = false ∧ decide (at_ < 0) = true) := by
    rcases hr : right B N with _ | _
    · exact .inl rfl
    by_cases h1 : wd < 0
    · exact .inr (.inl ⟨rfl, decide_eq_true h1⟩)
    by_cases h2 : 32 < wd
    · exact .inr (.inr (.inl ⟨rfl, decide_eq_false h1, decide_eq_true h2⟩))
    rcases h with h | h | h | h
    · rw [hr] at h; cases h
    · exact absurd h h1
    · exact absurd h h2
    · exact .inr (.inr (.inr ⟨rfl, decide_eq_false h1, decide_eq_false h2, decide_eq_true h⟩))
  clear h
  rcases hcase with hr | ⟨hr, q1⟩ | ⟨hr, q1, q2⟩ | ⟨hr, q1, q2, q3⟩
  all_goals
    go_enter Tryd.func39, Tryd.ntmps39
    go_wp2_with fail
    refine wp_scope_fwd 0 (by simp only [findLabel]; rfl) ?_
    go_wp2_with fail
    refine (Right_c _ B N _ hs' hN1 hN2).mono ?_
    rintro e w1 ⟨rfl, b1⟩
    rw [hr]
    go_wp2
    go_step3
    go_wp2
    rw [jump_goto]
    go_wp2
    rw [Exit.noGoto_ret]
    go_ret2
    exact ⟨below_step hB b1, rfl⟩
set_option maxHeartbeats 1000000 in
set_option maxRecDepth 100000 in
theorem Take_short (v : Value) (B : List (BitVec 8)) (N at_ wd : Int) (w : World) (hs : SliceAt w 1 v B.length (u8s B)) (hN1 : -9223372036854775808 ≤ N) (hN2 : N ≤ 9223372036854775807)
    (hr : right B N = true) (h1 : 0 ≤ wd) (h2 : wd ≤ 32) (h3 : 0 ≤ at_) (h4 : N < at_ ∨ N - at_ < wd) :
    Calls Tryd.prog 39 #[bv v N, .int .i64 at_, .int .i64 wd] w fun e w' => Below w.heap.size w w' ∧ e = .returned (.tuple #[.int .i64 0, .int .i64 40]) := by
  have hB : Below w.heap.size w (w.alloc (.cells #[v, .int .i64 N] 75)) := (Below.refl _ w).alloc (Nat.le_refl _) _
  have hs' := hs.later hB
  obtain ⟨A, c, rfl, _⟩ := hs.form
  clear hs
  have hN0 : 0 ≤ N := by
    obtain ⟨l, rfl, _⟩ := (right_iff B N).1 hr; omega
  have q1 : decide (wd < 0) = false := decide_eq_false (by omega)
  have q2 : decide (32 < wd) = false := decide_eq_false (by omega)
  have q3 : decide (at_ < 0) = false := decide_eq_false (by omega)
  have hcase : (decide (N < at_) = true) ∨ (decide (N < at_) = false ∧ decide (N - at_ < wd) = true) := by
    by_cases h5 : N < at_
    · exact .inl (decide_eq_true h5)
    · exact .inr ⟨decide_eq_false h5, decide_eq_true (by omega)⟩
  clear h4
  rcases hcase with q4 | ⟨q4, q5⟩
  all_goals
    try have i1 : at_ ≤ N := by simpa using q4
    try have i2 : N - at_ ≤ 9223372036854775807 := by omega
    try have hwl : wrap64 (N - at_) = N - at_ := by unfold wrap64; omega
    go_enter Tryd.func39, Tryd.ntmps39
    go_wp2_with fail
    refine wp_scope_fwd 0 (by simp only [findLabel]; rfl) ?_
    go_wp2_with fail
    refine (Right_c _ B N _ hs' hN1 hN2).mono ?_
    rintro e w1 ⟨rfl, b1⟩
    rw [hr]
    have g1 := below_at b1 (k := w.heap.size) (o := .cells #[.slice A B.length c, .int .i64 N] 75) (new_at rfl _) (by simp)
    have c11 := cell_at g1 1
    go_wp2
    go_step3
    go_wp2
    rw [jump_goto]
    go_wp2
    rw [Exit.noGoto_ret]
    go_ret2
    exact ⟨below_step hB b1, rfl⟩
end Go.Proofs.YtlanlkpamnoekaaDoor.Bt
namespace Go.Proofs.YtlanlkpamnoekaaDoor.Bt
open Go.RowKit Rf Mem Bv Bits Str
attribute [local go_sem ↓] run_max2 run_min2
theorem wrap64_nat {t : Nat} (h : t < 2147483648) : wrap64 (t : Int) = (t : Int) := by unfold wrap64; omega
set_option maxHeartbeats 400000 in
set_option maxRecDepth 100000 in
theorem Take_good (v : Value) (B : List (BitVec 8)) (l : List Bool) (at_ wd : Nat) (w : World) (hs : SliceAt w 1 v B.length (u8s B)) (hH : Holds B l) (hl : l.length ≤ 1000000) (h2 : wd ≤ 32) (h4 : at_ + wd ≤ l.length) :
    Calls Tryd.prog 39 #[bv v l.length, .int .i64 at_, .int .i64 wd] w fun e w' => Below w.heap.size w w' ∧ e = .returned (.tuple #[.int .i64 (num ((l.drop at_).take wd)), .int .i64 0]) := by
  have hB : Below w.heap.size w (w.alloc (.cells #[v, .int .i64 (l.length : Int)] 75)) := (Below.refl _ w).alloc (Nat.le_refl _) _
  have hs' := hs.later hB
  obtain ⟨A, c, rfl, _⟩ := hs.form
  have hr : right B (l.length : Int) = true := (right_iff B _).2 ⟨l, rfl, hH⟩
  have hBl : l.length ≤ 8 * B.length := by have := hH.1; omega
  have q1 : decide ((wd : Int) < 0) = false := decide_eq_false (by omega)
  have q2 : decide ((32 : Int) < (wd : Int)) = false := decide_eq_false (by omega)
  have q3 : decide ((at_ : Int) < 0) = false := decide_eq_false (by omega)
  have q4 : decide (l.length < at_) = false := decide_eq_false (by omega)
  have q5 : decide ((l.length : Int) - (at_ : Int) < (wd : Int)) = false := decide_eq_false (by omega)
  have n1 : -9223372036854775808 ≤ (l.length : Int) := by omega
  have n2 : (l.length : Int) ≤ 9223372036854775807 := by omega
  have i0 : (at_ : Int) ≤ (l.length : Int) := by omega
  have hwl : wrap64 ((l.length : Int) - (at_ : Int)) = (l.length : Int) - (at_ : Int) := by unfold wrap64; omega
  go_enter Tryd.func39, Tryd.ntmps39
  go_wp2_with fail
  refine wp_scope_fwd 0 (by simp only [findLabel]; rfl) ?_
  go_wp2_with fail
  refine (Right_c _ B _ _ hs' n1 n2).mono ?_
  rintro e w1 ⟨rfl, b1⟩
  rw [hr]
  have g1 := below_at b1 (k := w.heap.size) (o := .cells #[.slice A B.length c, .int .i64 (l.length : Int)] 75) (new_at rfl _) (by simp)
  have c11 := cell_at g1 1
  have HR := Lib.hid hr
  clear hr
  go_wp2_with fail
  have hA0 := hs'.later b1
  have h20 : (2 : Nat) ^ 32 = 4294967296 := by decide
  have H20 := Lib.hid h20
  clear h20 q1 q2 q3 q4 q5 hwl n1 n2 c11
  go_loopw [1, 2, 6] (fun a d n wr => ∃ k x dd z : Nat, x = at_ + k ∧ dd + k = wd ∧ z = num ((l.drop at_).take k) ∧ a = .int .i64 x ∧ d = .int .i64 dd ∧ n = .int .i64 z ∧ Below w1.heap.size w1 wr) (fun _ d _ _ => (intOf d).toNat)
  case atStart => exact ⟨0, at_, wd, 0, rfl, rfl, rfl, rfl, rfl, rfl, Below.refl _ _⟩
  case round =>
    obtain ⟨k, x, dd, z, hx, hd, hz, rfl, rfl, rfl, hb⟩ := hrel
    have hgr := below_at hb g1 (by have := b1.size; simp at this; omega)
    have c0 := cell_at hgr 0
    have c1 := cell_at hgr 1
    by_cases hlt : 0 < dd
    · have hxl : x < l.length := by omega
      have hqB : x / 8 < B.length := by omega
      have hzb : z < 4294967296 := by
        have h1 := num_lt ((l.drop at_).take k)
        have h2 : ((l.drop at_).take k).length ≤ 32 := by rw [List.length_take]; omega
        have h3 : (2 : Nat) ^ ((l.drop at_).take k).length ≤ 2 ^ 32 := Nat.pow_le_pow_right (by omega) h2
        rw [H20.out] at h3; omega
      have hy : B[x / 8]? = some B[x / 8] := List.getElem?_eq_getElem hqB
      have hst := take_step hH (at_ := at_) (k := k) (by omega) (y := B[x / 8]) (by rw [← hx]; exact hy)
      rw [← hx, ← hz] at hst
      obtain ⟨bk, off, cc, hva, _, _, hbl, hcell⟩ := hA0.pos (by omega)
      obtain ⟨rfl, _, rfl⟩ := Value.slice.inj hva
      have cy := (hb.cell (p := ⟨bk, off + x / 8, none⟩) hbl).trans (hcell (x / 8) (.int .u8 (B[x / 8].toNat : Int)) (by simp [u8s, hy]))
      generalize B[x / 8] = y at *
      obtain ⟨q, hq⟩ : ∃ q, x / 8 = q := ⟨_, rfl⟩
      have hq8 : (x : Int) / 8 = (q : Int) := by omega
      obtain ⟨s, hs⟩ : ∃ s, 7 - x % 8 = s := ⟨_, rfl⟩
      have hm7 : Go.bits .and .i64 (x : Int) 7 = (x : Int) % 8 := mask7 _
      have hs7 : (7 : Int) - (x : Int) % 8 = (s : Int) := by omega
      have hs64 : (s : Int) < 64 := by omega
      rw [hq] at cy hqB
      rw [hs] at hst
      have hwb : wrap64 ((y.toNat : Int) / 2 ^ s) = ((y.toNat / 2 ^ s : Nat) : Int) := by
        rw [show ((y.toNat : Int) / 2 ^ s) = ((y.toNat / 2 ^ s : Nat) : Int) by norm_cast]
        exact wrap64_nat (Nat.lt_of_le_of_lt (Nat.div_le_self _ _) (Nat.lt_trans y.isLt (by decide)))
      have hm1 : Go.bits .and .i64 (wrap64 ((y.toNat : Int) / 2 ^ s)) 1 = ((y.toNat / 2 ^ s % 2 : Nat) : Int) := by rw [hwb, mask1]; exact (Int.natCast_emod _ 2).symm
      clear hwb
      have hbb : y.toNat / 2 ^ s % 2 ≤ 1 := Nat.le_of_lt_succ (Nat.mod_lt _ (by decide))
      generalize y.toNat / 2 ^ s % 2 = bb at *
      have hor : Go.bits .or .i64 ((z : Int) * 2) (bb : Int) = ((2 * z + bb : Nat) : Int) := by rw [Int.mul_comm]; exact or_bit z bb (by omega) hbb
      generalize hzz : 2 * z + bb = z' at *
      have i2 : (q : Int) < (B.length : Int) := by omega
      have i3 : (x : Int) ≤ 1000000 := by omega
      have i4 : (dd : Int) ≤ 32 := by omega
      have i5 : (1 : Int) ≤ (dd : Int) := by omega
      have HX := Lib.hid hx
      have HD := Lib.hid hd
      have HZ := Lib.hid hst
      clear hx hd hz hst hy hq hs hzz hgr g1 hva hcell hxl
      go_wp2
      go_roundw
      case rel => exact ⟨k + 1, x + 1, dd - 1, z', by rw [HX.out]; omega, by rw [← HD.out]; omega, HZ.out.symm, by go_num, by rw [show ((dd : Int) - 1) = ((dd - 1 : Nat) : Int) by omega], rfl, hb⟩
      case measure => simp [intOf]; omega
    · obtain rfl : dd = 0 := by omega
      have HD := Lib.hid hd
      have HZ := Lib.hid hz
      clear hd hz hx
      go_wp2
      rw [jump_ret]
      go_ret2
      refine ⟨(hB.trans (b1.mono hB.size)).trans (hb.mono ?_), ?_⟩
      · have := hB.size; have := b1.size; omega
      · rw [HZ.out, ← HD.out, Nat.zero_add]; rfl
end Go.Proofs.YtlanlkpamnoekaaDoor.Bt
namespace Go.Proofs.YtlanlkpamnoekaaDoor.Bt
open Go.RowKit Rf Mem Bv Bits Str
attribute [local go_sem ↓] run_max2 run_min2
/-- block g holds bits: bytes B, number N -/
structure Var (W : World) (g : Nat) (v : Value) (B : List (BitVec 8)) (N : Int) : Prop where
  at_ : W.heap[g]? = some (.cells #[v, .int .i64 N] 75 (0, 0))
  sl : SliceAt W 1 v B.length (u8s B)
theorem Var.later {W W' : World} {g : Nat} {v : Value} {B : List (BitVec 8)} {N : Int} (h : Var W g v B N) (hb : Below W.heap.size W W') : Var W' g v B N :=
  ⟨below_at hb h.at_ (Array.getElem?_eq_some_iff.1 h.at_).1, h.sl.later hb⟩
theorem Var.c0 {W : World} {g : Nat} {v : Value} {B : List (BitVec 8)} {N : Int} (h : Var W g v B N) : W.cell? ⟨g, 0, none⟩ = some v := by rw [cell_at h.at_]; rfl
theorem Var.c1 {W : World} {g : Nat} {v : Value} {B : List (BitVec 8)} {N : Int} (h : Var W g v B N) : W.cell? ⟨g, 1, none⟩ = some (.int .i64 N) := by rw [cell_at h.at_]; rfl
theorem below_new (W : World) (o : Obj) : Below W.heap.size W (W.alloc o) := (Below.refl _ W).alloc (Nat.le_refl _) _
theorem Var.new {W : World} {v : Value} {B : List (BitVec 8)} {N : Int} (h : SliceAt W 1 v B.length (u8s B)) : Var (W.alloc (.cells #[v, .int .i64 N] 75)) W.heap.size v B N :=
  ⟨new_at rfl _, h.later (below_new _ _)⟩
theorem Put_g (v : Value) (B : List (BitVec 8)) (l : List Bool) (n wd : Nat) (N N' n' wd' : Int) (w : World) (hN : N = l.length) (hN' : N' = ((l.length + wd : Nat) : Int)) (hn' : n' = n) (hwd' : wd' = wd) (hs : SliceAt w 1 v B.length (u8s B)) (hH : Holds B l) (hl : l.length ≤ 999000) (hw : wd ≤ 32) (hn : n < 2 ^ wd) :
    Calls Tryd.prog 45 #[bv v N, .int .i64 n', .int .i64 wd'] w fun e w' => Below w.heap.size w w' ∧
      ∃ A c B', e = .returned (.tuple #[bv (.slice A (B' : List (BitVec 8)).length c) N', .int .i64 0]) ∧ SliceAt w' 1 (.slice A B'.length c) B'.length (u8s B') ∧ Holds B' (l ++ numBits n wd) := by
  subst hN hN' hn' hwd'
  refine (Put_good v B l n wd w hs hH hl hw hn).mono ?_
  rintro e w' ⟨b, v', B', rfl, ho, hH'⟩
  have hs' := sliceAt_of_own ho
  obtain ⟨A, c, rfl, _⟩ := hs'.form
  exact ⟨b, A, c, B', rfl, hs', hH'⟩
theorem Take_g (v : Value) (B : List (BitVec 8)) (l : List Bool) (at_ wd : Nat) (N at' wd' r : Int) (w : World) (hN : N = l.length) (ha : at' = at_) (hwd : wd' = wd) (hr : r = num ((l.drop at_).take wd)) (hs : SliceAt w 1 v B.length (u8s B)) (hH : Holds B l) (hl : l.length ≤ 1000000) (h2 : wd ≤ 32) (h4 : at_ + wd ≤ l.length) :
    Calls Tryd.prog 39 #[bv v N, .int .i64 at', .int .i64 wd'] w fun e w' => Below w.heap.size w w' ∧ e = .returned (.tuple #[.int .i64 r, .int .i64 0]) := by
  subst hN ha hwd hr
  exact Take_good v B l at_ wd w hs hH hl h2 h4
theorem Own_g (v : Value) (B : List (BitVec 8)) (N : Int) (w : World) (hs : SliceAt w 1 v B.length (u8s B)) (hl : B.length ≤ 140737488355328) :
    Calls Tryd.prog 69 #[bv v N] w fun e w' => Below w.heap.size w w' ∧ ∃ A c, e = .returned (bv (.slice A B.length c) N) ∧ SliceAt w' 1 (.slice A B.length c) B.length (u8s B) := by
  refine (Own_c v B N w hs hl).mono ?_
  rintro e w' ⟨v', rfl, ho, b⟩
  have hs' := sliceAt_of_own ho
  obtain ⟨A, c, rfl, _⟩ := hs'.form
  exact ⟨b, A, c, rfl, hs'⟩
theorem Of_g (v : Value) (B : List (BitVec 8)) (N : Int) (w : World) (hN : N = (B.length : Int) * 8) (hs : SliceAt w 1 v B.length (u8s B)) (hl : B.length ≤ 140737488355328) :
    Calls Tryd.prog 37 #[v] w fun e w' => Below w.heap.size w w' ∧ ∃ A c, e = .returned (bv (.slice A B.length c) N) ∧ SliceAt w' 1 (.slice A B.length c) B.length (u8s B) := by
  subst hN
  refine (Of_c v B w hs hl).mono ?_
  rintro e w' ⟨v', rfl, ho, b⟩
  have hs' := sliceAt_of_own ho
  obtain ⟨A, c, rfl, _⟩ := hs'.form
  exact ⟨b, A, c, rfl, hs'⟩
theorem Right_g (v : Value) (B : List (BitVec 8)) (N : Int) (r : Bool) (w : World) (hr : r = right B N) (hs : SliceAt w 1 v B.length (u8s B)) (hN1 : -9223372036854775808 ≤ N) (hN2 : N ≤ 9223372036854775807) :
    Calls Tryd.prog 56 #[bv v N] w fun e w' => e = .returned (.bool r) ∧ Below w.heap.size w w' := by subst hr; exact Right_c v B N w hs hN1 hN2
theorem refRight_g (v : Value) (B : List (BitVec 8)) (N : Int) (r : Bool) (w : World) (hr : r = right B N) (hs : SliceAt w 1 v B.length (u8s B)) (hN1 : -9223372036854775808 ≤ N) (hN2 : N ≤ 9223372036854775807) :
    Calls Tryd.prog 57 #[bv v N] w fun e w' => e = .returned (.bool r) ∧ Below w.heap.size w w' := by subst hr; exact refRight_c v B N w hs hN1 hN2
theorem same_yes {A B : List (BitVec 8)} {l : List Bool} {M N : Int} (ha : Holds A l) (hb : Holds B l) (h : M = N) : true = sameV A B M N := by
  unfold sameV; rw [holds_unique ha hb, h]; simp
theorem same_no {A B : List (BitVec 8)} {M N : Int} (h : M ≠ N) : false = sameV A B M N := by
  unfold sameV; rw [beq_eq_false_iff_ne.2 h]; rfl
theorem right_yes {B : List (BitVec 8)} {l : List Bool} {N : Int} (h : Holds B l) (hN : N = l.length) : true = right B N := ((right_iff B N).2 ⟨l, hN, h⟩).symm
end Go.Proofs.YtlanlkpamnoekaaDoor.Bt
namespace Go.Proofs.YtlanlkpamnoekaaDoor
open Go.RowKit Rf Mem Bv
set_option maxRecDepth 100000
attribute [local go_sem ↓] run_max2 run_min2
attribute [local go_sem] Oper.semAt_some

def partL (g : Nat) : List (Array Value) := [#[.int .i64 0, .pointer (some ⟨g, 0, none⟩)], #[.int .i64 1, .pointer (some ⟨g, 1, none⟩)], #[.int .i64 2, .pointer (some ⟨g, 2, none⟩)], #[.int .i64 3, .pointer (some ⟨g, 3, none⟩)]]
theorem partL_get (g k : Nat) (h : k < 4) : (partL g)[k]? = some #[.int .i64 (k : Int), .pointer (some ⟨g, k, none⟩)] := by
  match k, h with
  | 0, _ => rfl
  | 1, _ => rfl
  | 2, _ => rfl
  | 3, _ => rfl

theorem idx4 (a b c d : Value) (w : World) : (Instr.index 99 (.agg #[a, b, c, d]) (.int .i64 0)).run Tryd.prog w = .ok a w ∧ (Instr.index 99 (.agg #[a, b, c, d]) (.int .i64 1)).run Tryd.prog w = .ok b w ∧
    (Instr.index 99 (.agg #[a, b, c, d]) (.int .i64 2)).run Tryd.prog w = .ok c w ∧ (Instr.index 99 (.agg #[a, b, c, d]) (.int .i64 3)).run Tryd.prog w = .ok d w := by
  refine ⟨?_, ?_, ?_, ?_⟩ <;> simp [Instr.index, run_underlying Tryd.underlying99, asIntOf, go_sem]

set_option maxHeartbeats 1000000 in
theorem parts1 (gp g : Nat) : Iter Tryd.prog 55 #[.pointer (some ⟨gp, 0, none⟩)] (fun _ => False) (fun k => k = gp) (partL g) (fun W => W.cell? ⟨gp, 0, none⟩ = some (.pointer (some ⟨g, 0, none⟩))) := by
  intro l J O0 W0 hP hO hJ hY h0
  refine callsIn_of_wp Tryd.func55 rfl trivial ?_ rfl
  simp only [Tryd.ntmps55, List.size_toArray, List.length_cons, List.length_nil, Nat.reduceAdd, Nat.reduceSub, Array.replicate_succ, Array.replicate_zero, List.push_toArray, List.append_toArray, List.nil_append, List.cons_append]
  gi_wp2
  gi_region
  have H0 := Lib.hid (hJ 0 O0 W0 W0.drew h0 ((Keep.refl _ W0).drew))
  clear h0 hP
  have hsz0 : W0.heap.size ≤ W0.drew.heap.size := Nat.le_refl _
  gi_wp2
  gi_loopw [18] (fun i wr => ∃ (k : Nat) (O : Nat → Prop), k ≤ 4 ∧ i = .int .i64 k ∧ Hid (J k O wr) ∧ W0.heap.size ≤ wr.heap.size) (fun i _ => 4 - (intOf i).toNat)
  case atStart => exact ⟨0, O0, Nat.zero_le _, rfl, H0, hsz0⟩
  case round =>
    obtain ⟨k, O, hk, rfl, hJk, hsz⟩ := hrel
    clear H0
    by_cases hlt : k < 4
    · have hsz' := hsz
      clear hsz
      have q0 := fun a b c d => (idx4 a b c d wr).1
      have q1 := fun a b c d => (idx4 a b c d wr).2.1
      have q2 := fun a b c d => (idx4 a b c d wr).2.2.1
      have q3 := fun a b c d => (idx4 a b c d wr).2.2.2
      obtain rfl | rfl | rfl | rfl : k = 0 ∨ k = 1 ∨ k = 2 ∨ k = 3 := by omega
      · obtain ⟨fn, tmps, assign, body, hy, hR⟩ := hY 0 #[.int .i64 0, .pointer (some ⟨g, 0, none⟩)] O wr rfl hJk.out hsz'
        have HR := Lib.hid hR
        clear hR hY hJk hJ hO
        gi_wp2
        refine ⟨rfl, HR.out.mono ?_⟩
        rintro e W' ⟨rfl, O', hJ', ho', hk'⟩
        have hs2 : W0.heap.size ≤ W'.heap.size := by have := hk'.size; omega
        clear hy HR ho' hk' q0 q1 q2 q3
        have HJ := Lib.hid hJ'
        clear hJ'
        gi_wp2
        go_roundw
        case rel => exact ⟨0 + 1, O', by omega, by rfl, HJ, hs2⟩
        case measure => simp [intOf]
      · obtain ⟨fn, tmps, assign, body, hy, hR⟩ := hY 1 #[.int .i64 1, .pointer (some ⟨g, 1, none⟩)] O wr rfl hJk.out hsz'
        have HR := Lib.hid hR
        clear hR hY hJk hJ hO
        gi_wp2
        refine ⟨rfl, HR.out.mono ?_⟩
        rintro e W' ⟨rfl, O', hJ', ho', hk'⟩
        have hs2 : W0.heap.size ≤ W'.heap.size := by have := hk'.size; omega
        clear hy HR ho' hk' q0 q1 q2 q3
        have HJ := Lib.hid hJ'
        clear hJ'
        gi_wp2
        go_roundw
        case rel => exact ⟨1 + 1, O', by omega, by rfl, HJ, hs2⟩
        case measure => simp [intOf]
      · obtain ⟨fn, tmps, assign, body, hy, hR⟩ := hY 2 #[.int .i64 2, .pointer (some ⟨g, 2, none⟩)] O wr rfl hJk.out hsz'
        have HR := Lib.hid hR
        clear hR hY hJk hJ hO
        gi_wp2
        refine ⟨rfl, HR.out.mono ?_⟩
        rintro e W' ⟨rfl, O', hJ', ho', hk'⟩
        have hs2 : W0.heap.size ≤ W'.heap.size := by have := hk'.size; omega
        clear hy HR ho' hk' q0 q1 q2 q3
        have HJ := Lib.hid hJ'
        clear hJ'
        gi_wp2
        go_roundw
        case rel => exact ⟨2 + 1, O', by omega, by rfl, HJ, hs2⟩
        case measure => simp [intOf]
      · obtain ⟨fn, tmps, assign, body, hy, hR⟩ := hY 3 #[.int .i64 3, .pointer (some ⟨g, 3, none⟩)] O wr rfl hJk.out hsz'
        have HR := Lib.hid hR
        clear hR hY hJk hJ hO
        gi_wp2
        refine ⟨rfl, HR.out.mono ?_⟩
        rintro e W' ⟨rfl, O', hJ', ho', hk'⟩
        have hs2 : W0.heap.size ≤ W'.heap.size := by have := hk'.size; omega
        clear hy HR ho' hk' q0 q1 q2 q3
        have HJ := Lib.hid hJ'
        clear hJ'
        gi_wp2
        go_roundw
        case rel => exact ⟨3 + 1, O', by omega, by rfl, HJ, hs2⟩
        case measure => simp [intOf]
    · obtain rfl : k = 4 := by omega
      have HJ := hJk
      clear hY hJ hO hJk
      gi_wp2
      go_end0
      exact ⟨⟨_, rfl⟩, O, HJ.out⟩
end Go.Proofs.YtlanlkpamnoekaaDoor
namespace Go.Proofs.YtlanlkpamnoekaaDoor.Rf
open Go.RowKit
/-- it ends as it should, and in no other way -/
def nq (K : Act → World → Prop) : Exit → Act → World → Prop
  | .normal => K
  | _ => fun _ _ => False
theorem nq_lets {K : Act → World → Prop} : ¬ LetsOut (nq K) := fun ⟨_, _, h⟩ => h
def noDefers (ops : Array Oper) : Bool := ops.all fun o => match o.op with | .defer _ => false | _ => true
theorem noDefers_at {ops : Array Oper} (h : noDefers ops = true) {i : Nat} {o : Oper} (ho : ops[i]? = some o) : ∀ c, o.op ≠ .defer c := by
  obtain ⟨hi, rfl⟩ := Array.getElem?_eq_some_iff.1 ho
  have := Array.all_eq_true.1 h i hi
  intro c hc
  rw [hc] at this
  cases this
section
variable {P : Program} {ops : Array Oper} {Q : Exit → Act → World → Prop} {l : Nat}
theorem op_round {o : Oper} {a : Act} {w : World} {J : Act → World → Prop} {Q0 : Exit → Act → World → Prop} (hd : ∀ c, o.op ≠ .defer c) (hQ : ∀ c a w, ¬ Q0 (.panic c) a w) (hL : ¬ LetsOut Q0) (h : o.wp P a w J Q0) : o.wpIn (Fence.wide.inRound l) 0 P a w J Q := by
  refine ⟨fun _ _ => trivial, ?_⟩
  rw [Oper.semAt_eq _ _ _ hd]
  unfold Oper.wp at h
  generalize (execOp a.eval o).run P w = r at *
  cases r with
  | ok n w' =>
    cases n <;> simp only [Oper.upon, Oper.uponIn] at h ⊢ <;> try exact h
    case enter f args =>
      refine ⟨fun h => by simp [Fence.inRound, Fence.wide] at h, CallsIn.inRound l (callsIn_wide.2 (Calls.mono h fun e w'' he => ?_))⟩
      cases e with
      | returned v => exact he
      | panicked c => exact (hQ _ _ _ he).elim
      | outgrown => exact (hL he).elim
    case row row args =>
      refine ⟨fun h => by simp [Fence.inRound, Fence.wide] at h, fun c cs _ => ?_⟩
      obtain ⟨v, w2, h1, h2⟩ := h c cs
      exact ⟨v, w2, h1, stepsIn_wide.2 h2⟩
  | halt x w' =>
    cases x <;> simp only [Oper.upon, Oper.uponIn] at h ⊢
    case panic u => exact (hQ _ _ _ h).elim
theorem any_round {md : Region.Mode} (hd : noDefers ops = true) : ∀ (fuel : Nat) (listed : Array Bool) (a : Act) (w : World), wpAny P md ops (nq (Q .normal)) fuel listed a w → wpAnyIn (Fence.wide.inRound l) 0 P md ops Q fuel listed a w
  | 0, _, _, _, h => h
  | fuel + 1, listed, a, w, h => by
    refine ⟨h.1, fun i hi => ?_⟩
    have h1 := h.2 i hi
    unfold wpOp at h1
    unfold wpOpIn
    split
    · rename_i ho
      rw [ho] at h1
      exact any_round hd fuel _ a w h1
    · rename_i o ho
      rw [ho] at h1
      dsimp only at h1
      split
      · rename_i hw
        rw [if_pos hw] at h1
        rcases h1 with h1 | ⟨_, h1⟩
        · exact op_round (noDefers_at hd ho) (fun _ _ _ h => h) nq_lets (Oper.wp_mono (fun a' w' h' => any_round hd fuel _ a' w' h') h1)
        · exact (nq_lets h1).elim
      · rename_i hw
        rw [if_neg hw] at h1
        exact ⟨fun _ _ => trivial, any_round hd fuel _ _ _ h1⟩
/-- The beginning, in a round. -/
theorem wpIn_region_held_round {S : World → Prop} {id : Nat} {a : Act} {w : World} (hm : P.follows .mixedOrders = true) (hd : noDefers ops = true) (hS : S w.drew)
    (h : S w.drew → wpAnyH P .any ops (nq (Q .normal)) S ops.size (Array.replicate ops.size false) a w.drew) : (Code.region id ops true).wpIn (Fence.wide.inRound l) 0 P Q a w :=
  wpIn_region_any hm (any_round hd _ _ _ _ (wpAny_of_held _ _ _ _ (h hS)))
end
end Go.Proofs.YtlanlkpamnoekaaDoor.Rf
namespace Go.Proofs.YtlanlkpamnoekaaDoor
open List renaming getElem_toArray → zA, getElem_cons_succ → zS, getElem_cons_zero → zZ, setIfInBounds_toArray → zP, set_cons_zero → zQ, set_cons_succ → zR
open Go.RowKit Rf Mem Bv Bits
set_option maxRecDepth 100000
attribute [local go_sem ↓] run_max2 run_min2
attribute [local go_sem] Oper.semAt_some

abbrev U32 := BitVec 32
/-- what a field tells, as a value -/
abbrev inc (a b c d : U32) : Array Value := #[.int .u32 (a.toNat : Int), .int .u32 (b.toNat : Int), .int .u32 (c.toNat : Int), .int .u32 (d.toNat : Int)]
abbrev inv (a b c d : U32) : Value := .agg (inc a b c d)
structure IVar (W : World) (g : Nat) (a b c d : U32) : Prop where
  at_ : W.heap[g]? = some (.cells (inc a b c d) 35 (0, 0))
theorem IVar.later {W W' : World} {g : Nat} {a b c d : U32} (h : IVar W g a b c d) (hb : Below W.heap.size W W') : IVar W' g a b c d := ⟨below_at hb h.at_ (Array.getElem?_eq_some_iff.1 h.at_).1⟩
theorem IVar.cell {W : World} {g : Nat} {a b c d : U32} (h : IVar W g a b c d) (i : Nat) (z : U32) (hz : [a, b, c, d][i]? = some z) : W.cell? ⟨g, i, none⟩ = some (.int .u32 (z.toNat : Int)) := by
  rw [cell_at h.at_]
  match i, hz with
  | 0, h => cases h; rfl
  | 1, h => cases h; rfl
  | 2, h => cases h; rfl
  | 3, h => cases h; rfl
  | i + 4, h => simp at h
/-- the parts' bits, side by side -/
def inB (xs : List U32) : List Bool := xs.flatMap fun z => numBits z.toNat 32
theorem inB_snoc (xs : List U32) (z : U32) : inB (xs ++ [z]) = inB xs ++ numBits z.toNat 32 := by simp [inB]
theorem inB_len (xs : List U32) : (inB xs).length = 32 * xs.length := by
  induction xs with
  | nil => rfl
  | cons x xs ih => rw [show x :: xs = [x] ++ xs from rfl, inB, List.flatMap_append, List.length_append]; simp only [inB] at ih; rw [ih]; simp [numBits_length]; omega

theorem Put_o (v : Value) (B : List (BitVec 8)) (l : List Bool) (n : Nat) (N N' n' : Int) (w : World) (hN : N = l.length) (hN' : N' = ((l.length + 32 : Nat) : Int)) (hn' : n' = n) (hs : SliceAt w 1 v B.length (u8s B)) (hH : Holds B l) (hl : l.length ≤ 999000) (hn : n < 2 ^ 32) :
    Calls Tryd.prog 45 #[Bt.bv v N, .int .i64 n', .int .i64 32] w fun e w' => Below w.heap.size w w' ∧
      ∃ A c B', e = .returned (.tuple #[Bt.bv (.slice A (B' : List (BitVec 8)).length c) N', .int .i64 0]) ∧ w'.ownsRow w.heap.size 5 1 (.slice A B'.length c) B'.length (u8s B') ∧ Holds B' (l ++ numBits n 32) := by
  subst hN hN' hn'
  refine (Bt.Put_good v B l n 32 w hs hH hl (by omega) hn).mono ?_
  rintro e w' ⟨b, v', B', rfl, ho, hH'⟩
  obtain ⟨A, c, rfl, _⟩ := (sliceAt_of_own ho).form
  exact ⟨b, A, c, B', rfl, ho, hH'⟩

theorem parts_c (g : Nat) (W : World) : Calls Tryd.prog 38 #[.pointer (some ⟨g, 0, none⟩)] W fun e W' => e = .returned (.func (.func 55) #[] #[.pointer (some ⟨W.heap.size, 0, none⟩)]) ∧ W.alloc (.cells #[.pointer (some ⟨g, 0, none⟩)] 80) = W' := by
  go_enter Tryd.func38, Tryd.ntmps38
  go_wp2
  go_ret
  exact ⟨rfl, rfl⟩

set_option maxHeartbeats 1000000 in
theorem PutIn_c (a b c d : U32) (w : World) : Calls Tryd.prog 27 #[inv a b c d] w fun e w' => Below w.heap.size w w' ∧ ∃ A cp B, e = .returned (.slice A (B : List (BitVec 8)).length cp) ∧ SliceAt w' 1 (.slice A B.length cp) B.length (u8s B) ∧ Holds B (inB [a, b, c, d]) := by
  have b1 := below_new w (.cells (inc a b c d) 35)
  have V : IVar (w.alloc (.cells (inc a b c d) 35)) w.heap.size a b c d := ⟨new_at rfl _⟩
  have b2 := below_new (w.alloc (.cells (inc a b c d) 35)) (.cells #[.slice none 0 0, .int .i64 0] 75)
  have g2 : ((w.alloc (.cells (inc a b c d) 35)).alloc (.cells #[.slice none 0 0, .int .i64 0] 75)).heap[(w.alloc (.cells (inc a b c d) 35)).heap.size]? = some _ := new_at rfl _
  have V2 := V.later b2
  have B2 := below_step b1 b2
  have hz : ((w.alloc (.cells (inc a b c d) 35)).alloc (.cells #[.slice none 0 0, .int .i64 0] 75)).heap.size = w.heap.size + 1 + 1 := by simp
  rw [World.size_alloc] at g2
  clear b1 b2 V
  refine (callsIn_wide (n := 0)).1 (callsIn_of_wp_marks Tryd.func27 rfl trivial ?_ rfl)
  refine wpIn_wide.2 ?_
  simp only [Tryd.ntmps27, List.size_toArray, List.length_cons, List.length_nil, Nat.reduceAdd, Nat.reduceSub, Array.replicate_succ, Array.replicate_zero, List.push_toArray, List.append_toArray, List.nil_append, List.cons_append]
  go_wp2_with fail
  generalize (w.alloc (.cells (inc a b c d) 35)).alloc (.cells #[.slice none 0 0, .int .i64 0] 75) = W at *
  refine (parts_c w.heap.size W).mono ?_
  rintro e w' ⟨rfl, rfl⟩
  have b3 := below_new W (.cells #[.pointer (some ⟨w.heap.size, 0, none⟩)] 80)
  have g3 : (W.alloc (.cells #[.pointer (some ⟨w.heap.size, 0, none⟩)] 80)).heap[W.heap.size]? = some _ := new_at rfl _
  have V3 := V2.later b3
  have B3 := below_step B2 b3
  have g4 := below_at b3 g2 (by omega)
  have hz3 : (W.alloc (.cells #[.pointer (some ⟨w.heap.size, 0, none⟩)] 80)).heap.size = w.heap.size + 1 + 1 + 1 := by simp [hz]
  rw [hz] at g3
  rw [hz]
  clear g2 V2 B2 b3 hz
  generalize W.alloc (.cells #[.pointer (some ⟨w.heap.size, 0, none⟩)] 80) = W0 at *
  clear W
  go_wp2_with fail
  refine wp_iter (xs := partL w.heap.size) (Fp := fun _ => False) (Rd := fun k => k = w.heap.size + 1 + 1) (gf := 55) (lb := #[.pointer (some ⟨w.heap.size + 1 + 1, 0, none⟩)]) rfl (enters Tryd.func55 (by kernel_rfl) rfl)
    (parts1 _ _) ?hps
    (fun i O W => Bt.Acc w.heap.size (w.heap.size + 1) O W (inB ([a, b, c, d].take i)) ∧ Below w.heap.size w W ∧ IVar W w.heap.size a b c d) (fun k => k = w.heap.size + 1) ?hpre ?hO ?hFp ?hI ?h0
    (fun x => { tmps := #[inv a b c d, Value.pointer (some { block := w.heap.size, off := 0 }), Value.slice none 0 0,
          Value.pointer (some { block := w.heap.size + 1, off := 0 }), undef, x.getD 1 undef,
          Value.func (Fn.func 55) #[] #[Value.pointer (some { block := w.heap.size + 1 + 1, off := 0 })], x.getD 0 undef, x.getD 1 undef,
          undef, undef, undef, undef, undef, undef, undef, undef, undef, undef, undef], defers := [] }) ?assign ?body ?done
  case hps => intro x hx; simp only [partL, List.mem_cons, List.not_mem_nil, or_false] at hx; rcases hx with rfl | rfl | rfl | rfl <;> rfl
  case hpre =>
    intro W hW
    rw [cell_at (below_at hW g3 (by omega))]; rfl
  case hO =>
    rintro k rfl
    exact ⟨by omega, fun h => h, by omega⟩
  case hFp => intro k h; exact h.elim
  case hI =>
    rintro i O W W' ⟨h1, h2, h3⟩ hk
    exact ⟨Bt.acc_keep h1 hk (fun k h => .inl h), below_keep h2 hk (Nat.le_refl _) (fun k h => .inr ⟨by omega, fun h => h⟩), ⟨hk.at_ h3.at_ (.inr ⟨by omega, fun h => h⟩)⟩⟩
  case h0 =>
    rw [show inB (List.take 0 [a, b, c, d]) = [] from rfl]
    exact ⟨⟨_, [], g4, own_nil _ _ _ _, ⟨rfl, 0, rfl⟩, by omega, by simp [Value.ownBlock], fun k => by simp [Value.ownBlock]⟩, B3, V3⟩
  case assign =>
    intro l' x W K hx hK
    simp only [partL, List.mem_cons, List.not_mem_nil, or_false] at hx
    rcases hx with rfl | rfl | rfl | rfl
    all_goals
      gi_wp2
      exact hK
  case body =>
    rintro l' i x O W hx ⟨hA, hB, hV⟩ hsz'
    have hi : i < 4 := by have := (List.getElem?_eq_some_iff.1 hx).1; simpa [partL] using this
    obtain ⟨z, hz⟩ : ∃ z, [a, b, c, d][i]? = some z := ⟨_, List.getElem?_eq_getElem (by simpa using hi)⟩
    have hx2 := partL_get w.heap.size i hi
    rw [hx] at hx2
    obtain rfl := Option.some.inj hx2
    clear hx hx2
    have hc := hV.cell i z hz
    have hT : inB ([a, b, c, d].take (i + 1)) = inB ([a, b, c, d].take i) ++ numBits z.toNat 32 := by rw [List.take_add_one, hz]; exact inB_snoc _ _
    have hlen : (inB ([a, b, c, d].take i)).length ≤ 1000 := by rw [inB_len, List.length_take]; simp; omega
    have HT := Lib.hid hT
    clear hT
    obtain ⟨v, B, hg, ho, hH, hbg, hne, hO⟩ := hA
    generalize inB ([a, b, c, d].take i) = l0 at *
    obtain ⟨A, cp, rfl, _⟩ := (sliceAt_of_own ho).form
    obtain ⟨N, hN⟩ : ∃ N : Int, N = l0.length := ⟨_, rfl⟩
    rw [← hN] at hg
    have HN := Lib.hid hN
    clear hN hz
    have e0 : (#[Value.int .i64 (i : Int), .pointer (some ⟨w.heap.size, i, none⟩)] : Array Value).getD 0 undef = .int .i64 (i : Int) := rfl
    have e1 : (#[Value.int .i64 (i : Int), .pointer (some ⟨w.heap.size, i, none⟩)] : Array Value).getD 1 undef = .pointer (some ⟨w.heap.size, i, none⟩) := rfl
    simp only [e0, e1]
    clear e0 e1
    obtain ⟨zn, hzn⟩ : ∃ zn : Int, zn = (z.toNat : Int) := ⟨_, rfl⟩
    rw [← hzn] at hc
    have hz1 : 0 ≤ zn ∧ zn < 4294967296 := by have := z.isLt; omega
    have HZN := Lib.hid hzn
    clear hzn
    have G5 : W.drew.heap[w.heap.size + 1]? = some (.cells #[.slice A B.length cp, .int .i64 N] 75 (0, 0)) := hg
    have B5 : Below w.heap.size w W.drew := hB.drew
    have V5 : IVar W.drew w.heap.size a b c d := ⟨hV.at_⟩
    have hc5 : W.drew.cell? ⟨w.heap.size, i, none⟩ = some (.int .u32 zn) := hc
    have o5 : W.drew.ownsRow w.heap.size 5 1 (.slice A B.length cp) B.length (u8s B) := own_later ho (fun _ _ => rfl)
    have HK5 : Keep (fun k => ¬ O k) W W.drew := (Keep.refl _ W).drew
    clear hg hB hV hc ho
    gi_wp2
    refine wpIn_region_held_round (S := (fun w' => w'.cell? ⟨w.heap.size, i, none⟩ = some (.int .u32 zn))) (by kernel_rfl) (by kernel_rfl) ?_ (fun hHeld => ?_)
    · exact hc5
    generalize W.drew = W3 at *
    have x0 := cell_at G5 0
    have x1 := cell_at G5 1
    refine Node.tk 1 ?_ rfl ?_ ?_
    rotate_left
    · intro w hSw; (try dsimp only at hSw); go_simp; try with_reducible rfl
    simp only [zA, zS, zZ, Act.put, zP, zQ, zR]
    refine Node.tk 2 ?_ rfl ?_ ?_
    rotate_left
    · intro w hSw; (try dsimp only at hSw); go_simp; try with_reducible rfl
    simp only [zA, zS, zZ, Act.put, zP, zQ, zR]
    refine Node.tk 3 ?_ rfl ?_ ?_
    rotate_left
    · intro w hSw; (try dsimp only at hSw); go_simp; try with_reducible rfl
    simp only [zA, zS, zZ, Act.put, zP, zQ, zR]
    refine Node.tk 4 ?_ rfl ?_ ?_
    rotate_left
    · intro w hSw; (try dsimp only at hSw); go_simp; try with_reducible rfl
    simp only [zA, zS, zZ, Act.put, zP, zQ, zR]
    refine Node.on 0 rfl (fun K hK => ?_)
    go_simp
    refine hK.out _ _ hHeld (fun hHeld => ?_)
    clear hK K
    try simp only [zA, zS, zZ, Act.put, zP, zQ, zR]
    have hwz : IntKind.i64.wrap zn = zn := by simp [IntKind.wrap, IntKind.bits, IntKind.signed]; omega
    rw [hwz]
    clear hwz
    obtain ⟨N', hN'⟩ : ∃ N' : Int, N' = ((l0.length + 32 : Nat) : Int) := ⟨_, rfl⟩
    have HN' := Lib.hid hN'
    have hz0 := B5.size
    have hz5 := HK5.size
    clear hN' x0 x1
    refine Node.on 5 rfl (fun K hK => ?_)
    go_simp
    refine (Put_o _ B l0 z.toNat N N' zn W3 HN.out HN'.out HZN.out (sliceAt_of_own o5) hH (by omega) z.isLt).mono ?_
    rintro e W4 ⟨b4, A4, c4, B4, rfl, ho4, hH4⟩
    refine hK.out _ _ ?_ (fun hHeld => ?_)
    · exact (b4.cell (p := ⟨w.heap.size, i, none⟩) (lt_of_cell hc5)).trans hc5
    clear hK K
    try simp only [zA, zS, zZ, Act.put, zP, zQ, zR]
    have hlt := lt_of_at G5
    have G6 := below_at b4 G5 hlt
    have V6 := V5.later b4
    have B6 := B5.trans (b4.mono hz0)
    have HK6 := HK5.trans (Keep.of_below b4 (fun _ h _ => h))
    have x0 := cell_at G6 0
    have x1 := cell_at G6 1
    have e0 := free_at G6 0
    have e1 := free_at G6 1
    clear G5 V5 B5 HK5 o5 hc5
    refine Node.tk 6 ?_ rfl ?_ ?_
    rotate_left
    · intro w hSw; (try dsimp only at hSw); go_simp; try with_reducible rfl
    simp only [zA, zS, zZ, Act.put, zP, zQ, zR]
    refine Node.tk 7 ?_ rfl ?_ ?_
    rotate_left
    · intro w hSw; (try dsimp only at hSw); go_simp; try with_reducible rfl
    simp only [zA, zS, zZ, Act.put, zP, zQ, zR]
    refine Node.tk 8 ?_ rfl ?_ ?_
    rotate_left
    · intro w hSw; (try dsimp only at hSw); go_simp; try with_reducible rfl
    simp only [zA, zS, zZ, Act.put, zP, zQ, zR]
    refine Node.on 9 rfl (fun K hK => ?_)
    go_simp
    refine hK.out _ _ ?_ (fun hHeld => ?_)
    · exact (World.cell?_of_block ((Below.heap_setCell _ _ _ _ (by simp)).trans (Below.heap_setCell _ _ _ _ (by simp)))).trans hHeld
    clear hK K
    refine wpAnyH_done (by kernel_rfl) ?_ _
    simp only [nq]
    gi_wp2
    have hgb : ∀ k, (Value.slice A4 B4.length c4).ownBlock = some k → W3.heap.size ≤ k := fun k hk => (own_base ho4 hk).1
    refine ⟨fun k => k = w.heap.size + 1 ∨ (Value.slice A4 B4.length c4).ownBlock = some k, ⟨?_, (B6.setCell (p := ⟨w.heap.size + 1, 0, none⟩) (by simp) _).setCell (p := ⟨w.heap.size + 1, 1, none⟩) (by simp) _, ?_⟩, fun k hk => ?_, (HK6.setCell (p := ⟨w.heap.size + 1, 0, none⟩) (fun _ h => h ((hO _).2 (.inl rfl))) _).setCell (p := ⟨w.heap.size + 1, 1, none⟩) (fun _ h => h ((hO _).2 (.inl rfl))) _⟩
    · rw [HT.out]
      refine ⟨_, B4, ?_, Bt.own_base_le (own_later ho4 (fun k hk => ?_)) hz0, hH4, by omega, fun e => ?_, fun k => Iff.rfl⟩
      · have hl2 : (((l0 ++ numBits z.toNat 32).length : Nat) : Int) = N' := by rw [HN'.out, List.length_append, numBits_length]
        rw [hl2, set_at (set_at G6 0 _) 1]
        simp
      · have := hgb k hk
        exact (Below.heap_setCell _ _ _ _ (by simp; omega)).trans (Below.heap_setCell _ _ _ _ (by simp; omega))
      · have := hgb _ e
        omega
    · exact ⟨(Below.heap_setCell _ _ _ _ (by simp)).trans ((Below.heap_setCell _ _ _ _ (by simp)).trans V6.at_)⟩
    · rcases hk with rfl | hk
      · exact .inl ((hO _).2 (.inl rfl))
      · have := hgb k hk
        exact .inr (Nat.le_trans hz5 this)
  case done =>
    rintro D O W ⟨h1, h2, h3⟩ hD1 hD2
    rw [show inB (List.take (partL w.heap.size).length [a, b, c, d]) = inB [a, b, c, d] from rfl] at h1
    obtain ⟨v, B, hg, ho, hH, _, _, _⟩ := h1
    obtain ⟨A, cp, rfl, _⟩ := (sliceAt_of_own ho).form
    have hs := sliceAt_of_own ho
    have hne : ∀ k, (Value.slice A B.length cp).ownBlock = some k → k ≠ D := fun k hk e => by
      subst e
      rcases ho.2 with ⟨h, _⟩ | ⟨gg, cap, cur, h, _, hh, _⟩
      · rw [h] at hk; cases hk
      · rw [h] at hk; cases hk; rw [hD2] at hh; cases hh
    have ho' : (W.putObj D (.deferred none)).ownsRow w.heap.size 5 1 (.slice A B.length cp) B.length (u8s B) := own_later ho fun k hk => World.putObj_heap_other (hne k hk)
    have hb' := below_putObj h2 (l := D) (by omega) (.deferred none)
    have x0 := cell_at hg 0
    have HO := Lib.hid ho'
    have HB := Lib.hid hb'
    have HH := Lib.hid hH
    clear ho ho' hb' hs h2 h3 hH hne
    go_wp2
    exact bodyPostM_mark (t := 2) rfl (.inr rfl) hD2 ⟨HB.out, A, cp, B, rfl, sliceAt_of_own HO.out, HH.out⟩
end Go.Proofs.YtlanlkpamnoekaaDoor
