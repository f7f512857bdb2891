/- Shows: row, over any function that tells what is so. Nothing that was there is turned. -/
import Derived.Test.YtppcdmbpbbjecaaGreatShP
namespace Go.Proofs.YtppcdmbpbbjecaaGreat
open Go.RowKit Rf Mem Bv AM SM
attribute [local go_sem ↓] run_max2 run_min2
attribute [local go_sem] Oper.semAt_some
/-- a function of numbers that tells what is so -/
structure SoAt (f : Nat) (caps : Array Value) (Q : Nat → Bool) (n : Nat) (w : World) : Prop where
  eg : ∀ args W, (callFunc f args).run Tryz.prog W = .ok (.enter f args) W
  c : ∀ (i : Nat) (W : World), i < n → Below w.heap.size w W → Calls Tryz.prog f (#[.int .i64 (i : Int)] ++ caps) W fun e W' => e = .returned (.bool (Q i)) ∧ Below W.heap.size W W'
/-- bits of those below n that are so -/
def rowN (Q : Nat → Bool) : Nat → BitVec 32
  | 0 => 0#32
  | n + 1 => orB (rowN Q n) n (Q n)
set_option maxHeartbeats 1000000 in
set_option maxRecDepth 100000 in
theorem row_c (f : Nat) (caps : Array Value) (Q : Nat → Bool) (n : Nat) (w : World) (hn : n ≤ 31) (h : SoAt f caps Q n w) :
    Calls Tryz.prog 33 #[.int .i64 n, .func (.func f) #[] caps] w fun e w' => e = .returned (.int .u32 (rowN Q n).toNat) ∧ Below w.heap.size w w' := by
  have HE := Lib.hid h
  clear h
  go_enter Tryz.func33, Tryz.ntmps33
  go_wp2
  go_loopw [4, 7] (fun z i wr => ∃ j : Nat, j ≤ n ∧ i = .int .i64 j ∧ z = .int .u32 (rowN Q j).toNat ∧ Below w.heap.size w wr) (fun _ i _ => n - (intOf i).toNat)
  case atStart => exact ⟨0, Nat.zero_le _, rfl, rfl, Below.refl _ _⟩
  case round =>
    obtain ⟨j, hj, rfl, rfl, B⟩ := hrel
    by_cases hlt : j < n
    · have i1 : (j : Int) < (n : Int) := by omega
      have i0 : (0 : Int) ≤ (j : Int) := by omega
      have i2 : (j : Int) < 32 := by omega
      obtain ⟨d, hd⟩ : ∃ d, Q j = d := ⟨_, rfl⟩
      have hor := or_b (rowN Q j) j (by omega) true 1 rfl
      obtain ⟨z, hz⟩ : ∃ z : Int, z = (((rowN Q j).toNat : Nat) : Int) := ⟨_, rfl⟩
      obtain ⟨zo, hzo⟩ : ∃ z : Int, z = (((orB (rowN Q j) j true).toNat : Nat) : Int) := ⟨_, rfl⟩
      have HX : Hid (rowN Q (j + 1) = orB (rowN Q j) j d) := Lib.hid (by show orB _ _ (Q j) = _; rw [hd])
      rw [← hz, ← hzo] at hor
      have hor' : Go.bits .or .u32 z (2 ^ j % 4294967296) = zo := by rw [← hor, Int.one_mul]; rfl
      rw [← hz]
      have HZ := Lib.hid hz
      have HZO := Lib.hid hzo
      have HD := Lib.hid hd
      have eg := HE.out.eg
      clear hor hz hzo hd
      go_wp2_with fail
      refine (HE.out.c j _ hlt B).mono ?_
      rintro e W1 ⟨rfl, b1⟩
      have B1 := below_step B b1
      rw [HD.out]
      clear eg b1 B
      cases d
      · go_wp2
        go_roundw
        case rel => exact ⟨j + 1, by omega, by go_num, by rw [HX.out, HZ.out]; rfl, B1⟩
        case measure => simp [intOf]; omega
      · go_wp2
        go_roundw
        case rel => exact ⟨j + 1, by omega, by go_num, by rw [HX.out, ← HZO.out], B1⟩
        case measure => simp [intOf]; omega
    · obtain rfl : j = n := by omega
      obtain ⟨z, hz⟩ : ∃ z : Int, z = (((rowN Q j).toNat : Nat) : Int) := ⟨_, rfl⟩
      rw [← hz]
      have HZ := Lib.hid hz
      clear hz
      go_wp2
      go_ret
      exact ⟨by rw [← HZ.out]; rfl, B⟩
end Go.Proofs.YtppcdmbpbbjecaaGreat
