/- What the document says of the nine digits holds. -/
import Derived.Test.YtllobcefjlpagaaCrcRefB
import Derived.Lib.SlBytesConst
namespace Go.Proofs.Ytllobcefjlpagaa
open Go.RowKit Rf Mem Bv Crc Str
attribute [local go_sem ↓] run_max2 run_min2
theorem open_close (bs : List (BitVec 8)) : openV (Crc.close bs) = (bs, 0) := by
  unfold openV
  have hl : (Crc.close bs).length = bs.length + 2 := by simp [Crc.close]
  rw [if_neg (by omega), hl, Nat.add_sub_cancel, show (Crc.close bs).take bs.length = bs by simp [Crc.close], if_pos rfl]
theorem Open_c (v : Value) (bs : List (BitVec 8)) (w : World) (hs : SliceAt w 1 v bs.length (u8s bs)) (hl : bs.length ≤ 140737488355328) :
    Calls Try.prog 8 #[v] w fun e w' => ∃ v', e = .returned (.tuple #[v', .int .i64 (openV bs).2]) ∧ w'.ownsRow w.heap.size 5 1 v' (openV bs).1.length (u8s (openV bs).1) ∧ Below w.heap.size w w' := by
  by_cases h : bs.length < 2
  · refine (Open_short v bs w hs h).mono ?_
    rintro e w' ⟨rfl, rfl⟩
    have : openV bs = ([], 40) := by unfold openV; rw [if_pos h]
    rw [this]
    exact ⟨_, rfl, own_nil _ _ _ _, Below.refl _ _⟩
  · exact Open_long v bs (bs.length - 2) w hs (by omega) hl
theorem refOpen_c (v : Value) (bs : List (BitVec 8)) (w : World) (hs : SliceAt w 1 v bs.length (u8s bs)) (hl : bs.length ≤ 140737488355320) :
    Calls Try.prog 9 #[v] w fun e w' => ∃ v', e = .returned (.tuple #[v', .int .i64 (openV bs).2]) ∧ w'.ownsRow w.heap.size 5 1 v' (openV bs).1.length (u8s (openV bs).1) ∧ Below w.heap.size w w' := by
  by_cases h : bs.length < 2
  · refine (refOpen_short v bs w hs h).mono ?_
    rintro e w' ⟨rfl, rfl⟩
    have : openV bs = ([], 40) := by unfold openV; rw [if_pos h]
    rw [this]
    exact ⟨_, rfl, own_nil _ _ _ _, Below.refl _ _⟩
  · exact refOpen_long v bs (bs.length - 2) w hs (by omega) hl
def digits : List (BitVec 8) := [49#8, 50#8, 51#8, 52#8, 53#8, 54#8, 55#8, 56#8, 57#8]
theorem sum_digits : Crc.sum digits = 36974#16 := by decide +kernel
theorem close_digits : Crc.close digits = [49#8, 50#8, 51#8, 52#8, 53#8, 54#8, 55#8, 56#8, 57#8, 110#8, 144#8] := by
  unfold Crc.close; rw [sum_digits]; rfl
theorem bit_1 : by1 1#16 false = 33800#16 ∧ by1 1#16 true = 0#16 ∧ by1 0#16 true = 33800#16 := by decide
set_option maxHeartbeats 1000000 in
set_option maxRecDepth 100000 in
theorem wakes_c (w : World) : Calls Try.prog 7 #[] w fun e w' => e = .returned (.bool true) ∧ Below w.heap.size w w' := by
  have kc := fun (w : World) (C : Array Value) (n c : Nat) => Lib.run_convert_bytes_const (P := Try.prog) w 23 5 C n c Try.underlying23 Try.underlying5
  have hd : ∀ W : World, SliceAt (W.alloc (.cells #[.int .u8 49, .int .u8 50, .int .u8 51, .int .u8 52, .int .u8 53, .int .u8 54, .int .u8 55, .int .u8 56, .int .u8 57] 5 (9, 10))) 1 (.slice (some ⟨W.heap.size, 0, none⟩) 9 9) digits.length (u8s digits) := fun W => sliceAt_blk (new_at rfl _) rfl (by simp [maxLen])
  have HD := Lib.hid hd
  clear hd
  go_enter Try.func7, Try.ntmps7
  go_wp2_with fail
  refine (Close_c _ digits _ (HD.out w) (by decide)).mono ?_
  rintro e w1 ⟨v1, rfl, ho1, b1⟩
  have B1 : Below w.heap.size w w1 := below_step ((Below.refl _ w).alloc (Nat.le_refl _) _) b1
  have S1 : SliceAt w1 1 v1 (Crc.close digits).length (u8s (Crc.close digits)) := sliceAt_of_own ho1
  clear ho1 b1
  obtain ⟨g, off, c1, rfl, hc1, hc2, hg, hcell⟩ := S1.pos (by rw [close_digits]; decide)
  have x9 := hcell 9 (.int .u8 110) (by rw [close_digits]; rfl)
  have x10 := hcell 10 (.int .u8 144) (by rw [close_digits]; rfl)
  have hlen : (Crc.close digits).length = 11 := by rw [close_digits]; rfl
  rw [hlen] at hc1
  clear hcell
  go_wp2_with fail
  refine (Open_c _ (Crc.close digits) _ S1 (by rw [hlen]; decide)).mono ?_
  rintro e w2 ⟨v2, rfl, ho2, b2⟩
  rw [open_close] at ho2
  have B2 := below_step B1 b2
  have S2 : SliceAt w2 1 v2 digits.length (u8s digits) := sliceAt_of_own ho2
  replace x9 := (b2.cell (p := ⟨g, off + 9, none⟩) hg).trans x9
  replace x10 := (b2.cell (p := ⟨g, off + 10, none⟩) hg).trans x10
  have hg2 := Nat.lt_of_lt_of_le hg b2.size
  rw [open_close]
  clear S1 ho2 b2 hlen
  obtain ⟨A2, c2, rfl, _⟩ := S2.form
  go_wp2_with fail
  refine (Open_c _ [1#8] _ (sliceAt_blk (new_at rfl _) rfl (by simp [maxLen])) (by decide)).mono ?_
  rintro e w3 ⟨v3, rfl, _, b3⟩
  have b3' := below_step ((Below.refl _ w2).alloc (Nat.le_refl _) _) b3
  have B3 := below_step B2 b3'
  replace S2 := S2.later b3'
  replace x9 := (b3'.cell (p := ⟨g, off + 9, none⟩) hg2).trans x9
  replace x10 := (b3'.cell (p := ⟨g, off + 10, none⟩) hg2).trans x10
  have hg3 := Nat.lt_of_lt_of_le hg2 b3'.size
  have q3 : (openV [1#8]).2 = 40 := by decide
  clear b3 b3'
  go_wp2_with fail
  refine (Open_c _ [0#8, 0#8, 0#8] _ (sliceAt_blk (new_at rfl _) rfl (by simp [maxLen])) (by decide)).mono ?_
  rintro e w4 ⟨v4, rfl, _, b4⟩
  have b4' := below_step ((Below.refl _ w3).alloc (Nat.le_refl _) _) b4
  have B4 := below_step B3 b4'
  replace S2 := S2.later b4'
  replace x9 := (b4'.cell (p := ⟨g, off + 9, none⟩) hg3).trans x9
  replace x10 := (b4'.cell (p := ⟨g, off + 10, none⟩) hg3).trans x10
  have hg4 := Nat.lt_of_lt_of_le hg3 b4'.size
  have q4 : (openV [0#8, 0#8, 0#8]).2 = 42 := by decide +kernel
  clear b4 b4'
  go_wp2_with fail
  refine (Sum_c _ digits _ (HD.out w4)).mono ?_
  rintro e w5 ⟨rfl, b5⟩
  have b5' := below_step ((Below.refl _ w4).alloc (Nat.le_refl _) _) b5
  have B5 := below_step B4 b5'
  replace S2 := S2.later b5'
  replace x9 := (b5'.cell (p := ⟨g, off + 9, none⟩) hg4).trans x9
  replace x10 := (b5'.cell (p := ⟨g, off + 10, none⟩) hg4).trans x10
  rw [sum_digits]
  clear b5 b5'
  go_wp2_with fail
  refine (same_c _ _ digits digits _ (S2.later ((Below.refl _ w5).alloc (Nat.le_refl _) _)) (HD.out w5)).mono ?_
  rintro e w' ⟨rfl, rfl⟩
  have hdd : decide (digits = digits) = true := decide_eq_true rfl
  go_wp2_with fail
  refine (Bit_c 1#16 false _).mono ?_
  rintro e w' ⟨rfl, rfl⟩
  rw [bit_1.1]
  go_wp2_with fail
  refine (Bit_c 1#16 true _).mono ?_
  rintro e w' ⟨rfl, rfl⟩
  rw [bit_1.2.1]
  go_wp2_with fail
  refine (Bit_c 0#16 true _).mono ?_
  rintro e w' ⟨rfl, rfl⟩
  rw [bit_1.2.2]
  go_wp2_with fail
  refine (Go_c 5#16 _ [] _ (SliceAt.nil_ _ _)).mono ?_
  rintro e w6 ⟨rfl, b6⟩
  rw [show go 5#16 [] = 5#16 from rfl]
  go_wp2
  go_ret
  exact ⟨rfl, below_step (B5.alloc B5.size _) b6⟩
end Go.Proofs.Ytllobcefjlpagaa
