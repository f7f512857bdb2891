/- Contract: Take of bits where it tells a number. -/
import Derived.Test.YtioggdiicgfoaaaBitsK
namespace Go.Proofs.Ytioggdiicgfoaaa
open Go.RowKit Rf Mem Bv Bits Str
attribute [local go_sem ↓] run_max2 run_min2
theorem wrap64_nat {t : Nat} (h : t < 2147483648) : wrap64 (t : Int) = (t : Int) := by unfold wrap64; omega
set_option maxHeartbeats 400000 in
set_option maxRecDepth 100000 in
theorem Take_good (v : Value) (B : List (BitVec 8)) (l : List Bool) (at_ wd : Nat) (w : World) (hs : SliceAt w 1 v B.length (u8s B)) (hH : Holds B l) (hl : l.length ≤ 1000000) (h2 : wd ≤ 32) (h4 : at_ + wd ≤ l.length) :
    Calls Try.prog 21 #[bv v l.length, .int .i64 at_, .int .i64 wd] w fun e w' => Below w.heap.size w w' ∧ e = .returned (.tuple #[.int .i64 (num ((l.drop at_).take wd)), .int .i64 0]) := by
  have hB : Below w.heap.size w (w.alloc (.cells #[v, .int .i64 (l.length : Int)] 62)) := (Below.refl _ w).alloc (Nat.le_refl _) _
  have hs' := hs.later hB
  obtain ⟨A, c, rfl, _⟩ := hs.form
  have hr : right B (l.length : Int) = true := (right_iff B _).2 ⟨l, rfl, hH⟩
  have hBl : l.length ≤ 8 * B.length := by have := hH.1; omega
  have q1 : decide ((wd : Int) < 0) = false := decide_eq_false (by omega)
  have q2 : decide ((32 : Int) < (wd : Int)) = false := decide_eq_false (by omega)
  have q3 : decide ((at_ : Int) < 0) = false := decide_eq_false (by omega)
  have q4 : decide (l.length < at_) = false := decide_eq_false (by omega)
  have q5 : decide ((l.length : Int) - (at_ : Int) < (wd : Int)) = false := decide_eq_false (by omega)
  have n1 : -9223372036854775808 ≤ (l.length : Int) := by omega
  have n2 : (l.length : Int) ≤ 9223372036854775807 := by omega
  have i0 : (at_ : Int) ≤ (l.length : Int) := by omega
  have hwl : wrap64 ((l.length : Int) - (at_ : Int)) = (l.length : Int) - (at_ : Int) := by unfold wrap64; omega
  go_enter Try.func21, Try.ntmps21
  go_wp2_with fail
  refine wp_scope_fwd 0 (by simp only [findLabel]; rfl) ?_
  go_wp2_with fail
  refine (Right_c _ B _ _ hs' n1 n2).mono ?_
  rintro e w1 ⟨rfl, b1⟩
  rw [hr]
  have g1 := below_at b1 (k := w.heap.size) (o := .cells #[.slice A B.length c, .int .i64 (l.length : Int)] 62) (new_at rfl _) (by simp)
  have c11 := cell_at g1 1
  have HR := Lib.hid hr
  clear hr
  go_wp2_with fail
  have hA0 := hs'.later b1
  have h20 : (2 : Nat) ^ 32 = 4294967296 := by decide
  have H20 := Lib.hid h20
  clear h20 q1 q2 q3 q4 q5 hwl n1 n2 c11
  go_loopw [1, 2, 6] (fun a d n wr => ∃ k x dd z : Nat, x = at_ + k ∧ dd + k = wd ∧ z = num ((l.drop at_).take k) ∧ a = .int .i64 x ∧ d = .int .i64 dd ∧ n = .int .i64 z ∧ Below w1.heap.size w1 wr) (fun _ d _ _ => (intOf d).toNat)
  case atStart => exact ⟨0, at_, wd, 0, rfl, rfl, rfl, rfl, rfl, rfl, Below.refl _ _⟩
  case round =>
    obtain ⟨k, x, dd, z, hx, hd, hz, rfl, rfl, rfl, hb⟩ := hrel
    have hgr := below_at hb g1 (by have := b1.size; simp at this; omega)
    have c0 := cell_at hgr 0
    have c1 := cell_at hgr 1
    by_cases hlt : 0 < dd
    · have hxl : x < l.length := by omega
      have hqB : x / 8 < B.length := by omega
      have hzb : z < 4294967296 := by
        have h1 := num_lt ((l.drop at_).take k)
        have h2 : ((l.drop at_).take k).length ≤ 32 := by rw [List.length_take]; omega
        have h3 : (2 : Nat) ^ ((l.drop at_).take k).length ≤ 2 ^ 32 := Nat.pow_le_pow_right (by omega) h2
        rw [H20.out] at h3; omega
      have hy : B[x / 8]? = some B[x / 8] := List.getElem?_eq_getElem hqB
      have hst := take_step hH (at_ := at_) (k := k) (by omega) (y := B[x / 8]) (by rw [← hx]; exact hy)
      rw [← hx, ← hz] at hst
      obtain ⟨bk, off, cc, hva, _, _, hbl, hcell⟩ := hA0.pos (by omega)
      obtain ⟨rfl, _, rfl⟩ := Value.slice.inj hva
      have cy := (hb.cell (p := ⟨bk, off + x / 8, none⟩) hbl).trans (hcell (x / 8) (.int .u8 (B[x / 8].toNat : Int)) (by simp [u8s, hy]))
      generalize B[x / 8] = y at *
      obtain ⟨q, hq⟩ : ∃ q, x / 8 = q := ⟨_, rfl⟩
      have hq8 : (x : Int) / 8 = (q : Int) := by omega
      obtain ⟨s, hs⟩ : ∃ s, 7 - x % 8 = s := ⟨_, rfl⟩
      have hm7 : Go.bits .and .i64 (x : Int) 7 = (x : Int) % 8 := mask7 _
      have hs7 : (7 : Int) - (x : Int) % 8 = (s : Int) := by omega
      have hs64 : (s : Int) < 64 := by omega
      rw [hq] at cy hqB
      rw [hs] at hst
      have hwb : wrap64 ((y.toNat : Int) / 2 ^ s) = ((y.toNat / 2 ^ s : Nat) : Int) := by
        rw [show ((y.toNat : Int) / 2 ^ s) = ((y.toNat / 2 ^ s : Nat) : Int) by norm_cast]
        exact wrap64_nat (Nat.lt_of_le_of_lt (Nat.div_le_self _ _) (Nat.lt_trans y.isLt (by decide)))
      have hm1 : Go.bits .and .i64 (wrap64 ((y.toNat : Int) / 2 ^ s)) 1 = ((y.toNat / 2 ^ s % 2 : Nat) : Int) := by rw [hwb, mask1]; exact (Int.natCast_emod _ 2).symm
      clear hwb
      have hbb : y.toNat / 2 ^ s % 2 ≤ 1 := Nat.le_of_lt_succ (Nat.mod_lt _ (by decide))
      generalize y.toNat / 2 ^ s % 2 = bb at *
      have hor : Go.bits .or .i64 ((z : Int) * 2) (bb : Int) = ((2 * z + bb : Nat) : Int) := by rw [Int.mul_comm]; exact or_bit z bb (by omega) hbb
      generalize hzz : 2 * z + bb = z' at *
      have i2 : (q : Int) < (B.length : Int) := by omega
      have i3 : (x : Int) ≤ 1000000 := by omega
      have i4 : (dd : Int) ≤ 32 := by omega
      have i5 : (1 : Int) ≤ (dd : Int) := by omega
      have HX := Lib.hid hx
      have HD := Lib.hid hd
      have HZ := Lib.hid hst
      clear hx hd hz hst hy hq hs hzz hgr g1 hva hcell hxl
      go_wp2
      go_roundw
      case rel => exact ⟨k + 1, x + 1, dd - 1, z', by rw [HX.out]; omega, by rw [← HD.out]; omega, HZ.out.symm, by go_num, by rw [show ((dd : Int) - 1) = ((dd - 1 : Nat) : Int) by omega], rfl, hb⟩
      case measure => simp [intOf]; omega
    · obtain rfl : dd = 0 := by omega
      have HD := Lib.hid hd
      have HZ := Lib.hid hz
      clear hd hz hx
      go_wp2
      rw [jump_ret]
      go_ret2
      refine ⟨(hB.trans (b1.mono hB.size)).trans (hb.mono ?_), ?_⟩
      · have := hB.size; have := b1.size; omega
      · rw [HZ.out, ← HD.out, Nat.zero_add]; rfl
end Go.Proofs.Ytioggdiicgfoaaa
