/- Images: the data in cells; contracts of Stale and of bit. Nothing that was there is turned. -/
import Derived.Test.YtlcahkkpbikccaaDoorTick
import Derived.Test.YtlcahkkpbikccaaDoorMem
import Derived.Test.YtlcahkkpbikccaaDoorBv
import Derived.WalkSpells
import Derived.Outline
import Derived.BigQuiet
import Derived.Deep.RegionHeld3
import Derived.StillTailTactics
namespace Go.Proofs.YtlcahkkpbikccaaDoor
open Go.RowKit Rf Mem
attribute [local go_sem ↓] run_max2 run_min2
theorem below_new (W : World) (o : Obj) : Below W.heap.size W (W.alloc o) := (Below.refl _ W).alloc (Nat.le_refl _) _
theorem below_drewN {n : Nat} {a w : World} (h : Below n a w) (m : Nat) : Below n a (w.drewN m) := ⟨h.os, h.tape, h.output, h.size, h.block⟩
theorem cell_list {w : World} {g : Nat} {t : TypeId} {cs : List Value} {f : Nat × Nat} (h : w.heap[g]? = some (.cells cs.toArray t f)) {i : Nat} {v : Value} (hv : cs[i]? = some v) : w.cell? ⟨g, i, none⟩ = some v := by
  rw [cell_at h]; simpa using hv
theorem Stale_c (L M : List Value) (age st : Int) (w : World) (hL : L[6]? = some (.int .i64 st)) (hM : M[0]? = some (.int .i64 age)) :
    Calls Tryd.prog 14 #[.agg L.toArray, .agg M.toArray] w fun e w' => e = .returned (.bool (decide (st < age))) ∧ Below w.heap.size w w' := by
  have b0 := below_new w (.cells L.toArray 29)
  have b1 := below_new (w.alloc (.cells L.toArray 29)) (.cells M.toArray 39)
  have x0 := cell_list (old_at (new_at (w := w) rfl (.cells L.toArray 29)) (.cells M.toArray 39)) hL
  have x1 := cell_list (new_at (w := w.alloc (.cells L.toArray 29)) (by simp; rfl) (.cells M.toArray 39)) hM
  go_enter Tryd.func14, Tryd.ntmps14
  go_wp2_with fail
  refine (Late_c age st _).mono ?_
  rintro e w' ⟨rfl, rfl⟩
  go_wp2
  go_ret
  exact ⟨rfl, below_step b0 b1⟩
theorem bit_c (x : BitVec 32) (w : World) : Calls Tryd.prog 24 #[.int .u32 x.toNat] w fun e W' => e = .returned (.func (.func 30) #[] #[.pointer (some ⟨w.heap.size, 0, none⟩)]) ∧ w.alloc (.cells #[.int .u32 x.toNat] 35) = W' := by
  obtain h | h : True ∨ True := .inl trivial
  all_goals
    go_enter Tryd.func24, Tryd.ntmps24
    go_wp2
    go_ret
    exact ⟨rfl, rfl⟩
/-- is bit n of the word set? -/
def bitV (x : BitVec 32) (n : Int) : Bool := decide (0 ≤ n) && (decide (n < 32) && x.getLsbD n.toNat)
theorem and_pow (x : BitVec 32) (k : Nat) (h : k < 32) : (Go.bits .and .u32 (x.toNat : Int) (2 ^ k % 4294967296) != 0) = x.getLsbD k := by
  have e : ((2 : Int) ^ k % 4294967296) = ((BitVec.twoPow 32 k).toNat : Int) := by
    have h1 : (2 : Nat) ^ k < 4294967296 := Nat.pow_lt_pow_right (by omega) h
    rw [BitVec.toNat_twoPow, Nat.mod_eq_of_lt h1]
    have : ((2 : Int) ^ k) = ((2 ^ k : Nat) : Int) := by push_cast; rfl
    rw [this]
    generalize 2 ^ k = t at *
    omega
  have e2 : bits .and .u32 (x.toNat : Int) ((BitVec.twoPow 32 k).toNat : Int) = ((x &&& BitVec.twoPow 32 k).toNat : Int) := Bv.bits_and .u32 rfl x _
  rw [e, e2]
  rcases hb : x.getLsbD k with _ | _
  · have h0 : x &&& BitVec.twoPow 32 k = 0#32 := by rw [BitVec.and_twoPow, hb]; rfl
    rw [h0]; rfl
  · have h0 : x &&& BitVec.twoPow 32 k = BitVec.twoPow 32 k := by rw [BitVec.and_twoPow, hb]; rfl
    have h1 : (2 : Nat) ^ k < 4294967296 := Nat.pow_lt_pow_right (by omega) h
    have h2 : 0 < 2 ^ k := Nat.two_pow_pos k
    rw [h0, BitVec.toNat_twoPow, Nat.mod_eq_of_lt h1]
    exact bne_iff_ne.2 (by generalize 2 ^ k = t at *; omega)
theorem bit1_c (g : Nat) (x : BitVec 32) (n : Int) (w : World) (hg : w.cell? ⟨g, 0, none⟩ = some (.int .u32 x.toNat)) :
    Calls Tryd.prog 30 #[.int .i64 n, .pointer (some ⟨g, 0, none⟩)] w fun e w' => e = .returned (.bool (bitV x n)) ∧ Below w.heap.size w w' := by
  by_cases h1 : 0 ≤ n
  · obtain ⟨k, rfl⟩ := Int.eq_ofNat_of_zero_le h1
    by_cases h2 : k < 32
    · have q1 : decide (0 ≤ (k : Int)) = true := decide_eq_true h1
      have q2 : decide ((k : Int) < 32) = true := decide_eq_true (by omega)
      have i2 : (k : Int) < 32 := by omega
      go_enter Tryd.func30, Tryd.ntmps30
      go_wp2_with fail
      go_quiet (fail)
      go_wp2
      go_ret
      refine ⟨?_, below_drewN (Below.refl _ _) _⟩
      have hv : bitV x k = x.getLsbD k := by unfold bitV; rw [q1, q2]; simp
      rw [hv, ← and_pow x k h2]
      rfl
    · have q1 : decide (0 ≤ (k : Int)) = true := decide_eq_true h1
      have q2 : decide ((k : Int) < 32) = false := decide_eq_false (by omega)
      have hv : bitV x k = false := by unfold bitV; rw [q2]; simp
      rw [hv]
      clear hv
      go_enter Tryd.func30, Tryd.ntmps30
      go_wp2_with fail
      go_quiet (fail)
      go_wp2
      go_ret
      exact ⟨rfl, below_drewN (Below.refl _ _) _⟩
  · have q1 : decide (0 ≤ n) = false := decide_eq_false h1
    have hv : bitV x n = false := by unfold bitV; rw [q1]; simp
    rw [hv]
    clear hv
    go_enter Tryd.func30, Tryd.ntmps30
    go_wp2_with fail
    go_quiet (fail)
    go_wp2
    go_ret
    exact ⟨rfl, below_drewN (Below.refl _ _) _⟩
end Go.Proofs.YtlcahkkpbikccaaDoor
