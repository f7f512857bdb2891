/- Contracts of the document's bits: Pad. -/
import Derived.Test.YtefbinlmakkjeaaBitsU
namespace Go.Proofs.Ytefbinlmakkjeaa
open Go.RowKit Rf Mem Bv Bits Str
attribute [local go_sem ↓] run_max2 run_min2
def lenAt (s : Nat) (W : World) : Nat := (intOf ((W.cell? ⟨s, 1, none⟩).getD undef)).toNat
set_option maxHeartbeats 1000000 in
set_option maxRecDepth 100000 in
theorem refPad_g (v : Value) (B : List (BitVec 8)) (l : List Bool) (N N' : Int) (w : World) (hN : N = l.length) (hN' : N' = (B.length : Int) * 8) (hs : SliceAt w 1 v B.length (u8s B)) (hH : Holds B l) (hl : l.length ≤ 900000) :
    Calls Try.prog 11 #[bv v N] w fun e w' => Below w.heap.size w w' ∧
      ∃ A c, e = .returned (.tuple #[bv (.slice A B.length c) N', .int .i64 0]) ∧ SliceAt w' 1 (.slice A B.length c) B.length (u8s B) := by
  subst hN hN'
  have hr : true = right B (l.length : Int) := right_yes hH rfl
  have hBl := hH.1
  have HH := Lib.hid hH
  have hBs : B.length ≤ 125000 := by omega
  obtain ⟨p, hp⟩ : ∃ p, 8 * B.length - l.length = p := ⟨_, rfl⟩
  have hp8 : p < 8 ∧ l.length + p = 8 * B.length := by omega
  have HP := Lib.hid hp8
  have HBL := Lib.hid hBl
  have HPP := Lib.hid hp
  clear hBl hH hp hp8
  have hB : Below w.heap.size w ((w.alloc (.cells #[v, .int .i64 (l.length : Int)] 24)).alloc (.cells #[.slice none 0 0, .int .i64 0] 24)) := ((Below.refl _ w).alloc (Nat.le_refl _) _).alloc (by simp) _
  have hs' := hs.later hB
  obtain ⟨A, c, rfl, _⟩ := hs.form
  have n1 : -9223372036854775808 ≤ (l.length : Int) := by omega
  have n2 : (l.length : Int) ≤ 9223372036854775807 := by omega
  clear hs
  go_enter Try.func11, Try.ntmps11
  go_wp2_with fail
  refine (refRight_g _ B _ _ _ hr hs' n1 n2).mono ?_
  rintro e w0 ⟨rfl, b0⟩
  have g1 := below_at b0 (k := w.heap.size) (o := .cells #[.slice A B.length c, .int .i64 (l.length : Int)] 24) (old_at (new_at rfl _) _) (by simp; omega)
  have c10 := cell_at g1 0
  have c11 := cell_at g1 1
  clear hr
  go_wp2_with fail
  refine (refOwn_c _ B _ _ (hs'.later b0) (by omega)).mono ?_
  rintro e w1 ⟨b1, A1, c1, rfl, ho1⟩
  obtain ⟨hx, R0⟩ := RV.start (A := A1) (c := c1) undef undef (below_step b0 b1) (own_base_le ho1 b0.size) HH.out
  have d0 := cell_at hx 0
  have d1 := cell_at hx 1
  have e0 := free_at hx 0
  have e1 := free_at hx 1
  clear g1 c10 c11 hs' b1 b0 ho1 hB
  go_wp2_with fail
  clear hx d0 d1 e0 e1
  generalize (w1.setCell ⟨w.heap.size, 0, none⟩ (.slice A1 B.length c1)).setCell ⟨w.heap.size, 1, none⟩ (.int .i64 (l.length : Int)) = W0 at *
  go_loopw [10] (fun _ wr => ∃ (k : Nat) (v' : Value) (B' : List (BitVec 8)), k ≤ p ∧ RV w.heap.size w wr v' B' (l ++ List.replicate k false)) (fun _ wr => 8 * B.length - lenAt w.heap.size wr)
  case atStart => exact ⟨0, _, B, by omega, by rw [List.replicate_zero, List.append_nil]; exact R0⟩
  case round =>
    obtain ⟨k, v', B', hk, R⟩ := hrel
    obtain ⟨m, hm⟩ : ∃ m, l ++ List.replicate k false = m := ⟨_, rfl⟩
    have hml : m.length = l.length + k := by rw [← hm]; simp
    rw [hm] at R
    have hnx : m ++ [false] = l ++ List.replicate (k + 1) false := by rw [← hm, List.append_assoc, ← List.replicate_succ']
    have hp8 := HP.out
    have HM := Lib.hid hm
    have HML := Lib.hid hml
    have HNX := Lib.hid hnx
    have hm5 : m.length ≤ 1000000 := by omega
    have i4 : (m.length : Int) ≤ 1000000 := by omega
    obtain ⟨q, hq⟩ : ∃ q, m.length % 8 = q := ⟨_, rfl⟩
    have hqi : (m.length : Int) % 8 = (q : Int) := by omega
    have d0 := cell_at R.x 0
    have d1 := cell_at R.x 1
    have e0 := free_at R.x 0
    have e1 := free_at R.x 1
    have r0 := cell_at R.r 0
    have r1 := cell_at R.r 1
    have er0 := free_at R.r 0
    have er1 := free_at R.r 1
    have hmu : lenAt w.heap.size wr = m.length := by unfold lenAt; rw [d1]; rfl
    by_cases hlt : k < p
    · have hz : ((q : Int) == 0) = false := by simp; omega
      have HMU := Lib.hid hmu
      clear hm hml hnx hq hmu hp8
      go_wp2_with fail
      refine (with_c (w.heap.size + 2) v' B' m false wr R.own R.h hm5 (by have := R.sz; omega)).mono ?_
      rintro e W1 hW
      obtain ⟨A2, c2, B2, rfl, hx2, R2⟩ := R.step hW
      have d0 := cell_at hx2 0
      have d1 := cell_at hx2 1
      have e0 := free_at hx2 0
      have e1 := free_at hx2 1
      go_wp2
      go_roundw
      case rel => exact ⟨k + 1, _, B2, by omega, by rw [← HNX.out]; exact R2⟩
      case measure =>
        have h2 : lenAt w.heap.size ((W1.setCell ⟨w.heap.size, 0, none⟩ (.slice A2 B2.length c2)).setCell ⟨w.heap.size, 1, none⟩ (.int .i64 ((m.length : Int) + 1))) = m.length + 1 := by
          unfold lenAt; rw [cell_at R2.x 1]; simp [intOf]
        rw [HMU.out, h2]; have := HML.out; have := HP.out; omega
    · have e : k = p := by omega
      have hz : ((q : Int) == 0) = true := by simp; omega
      have hBB : B' = B := holds_unique R.h (by rw [← hm, e, ← HPP.out]; exact holds_pad HH.out)
      have hfin : (m.length : Int) = (B.length : Int) * 8 := by omega
      have HF := Lib.hid hfin
      clear hm hml hnx hq hmu hp8 e hlt hfin
      obtain ⟨A3, c3, rfl, hb3, hs3⟩ := R.done (.int .i64 (m.length : Int))
      subst hBB
      go_wp2
      refine bodyPost_ret (res_bits2 (t := 2) (u := 3) rfl rfl (set_at (set_at R.r 0 _) 1 _)) rfl ?_
      exact ⟨hb3, A3, c3, by rw [← HF.out]; rfl, hs3⟩
end Go.Proofs.Ytefbinlmakkjeaa
