/- The contract of crc.Open: it returns what was closed, or why not, and turns nothing that was there. Where there are fewer bytes than the model has room for. -/
import Derived.Test.YtkjmbnficdilhaaCrcB
import Derived.WalkMore
import Derived.ScopeJumps
namespace Go.Proofs.Ytkjmbnficdilhaa
open Go.RowKit Rf Mem Bv Crc
attribute [local go_sem ↓] run_max2 run_min2
/-- what Open answers -/
def openV (bs : List (BitVec 8)) : List (BitVec 8) × Int :=
  if bs.length < 2 then ([], 40) else if Crc.close (bs.take (bs.length - 2)) = bs then (bs.take (bs.length - 2), 0) else ([], 42)
theorem split_last (bs : List (BitVec 8)) (n : Nat) (h : bs.length = n + 2) : ∃ x y, bs[n]? = some x ∧ bs[n + 1]? = some y ∧ bs = bs.take n ++ [x, y] := by
  have h1 : bs[n]? = some (bs[n]'(by omega)) := List.getElem?_eq_getElem _
  have h2 : bs[n + 1]? = some (bs[n + 1]'(by omega)) := List.getElem?_eq_getElem _
  refine ⟨_, _, h1, h2, ?_⟩
  conv => lhs; rw [← List.take_append_drop n bs]
  congr 1
  rw [List.drop_eq_getElem_cons (by omega), List.drop_eq_getElem_cons (by omega), List.drop_of_length_le (by omega)]
def join16 (x y : BitVec 8) : BitVec 16 := (x.setWidth 16) ||| ((y.setWidth 16) <<< 8)
theorem join_eq (s : BitVec 16) (x y : BitVec 8) : s = join16 x y ↔ (x = Crc.lo s ∧ y = Crc.hi s) := by
  unfold join16 Crc.lo Crc.hi
  constructor
  · rintro rfl
    constructor
    · apply BitVec.eq_of_getLsbD_eq; intro i hi
      simp [BitVec.getLsbD_or, BitVec.getLsbD_shiftLeft, BitVec.getLsbD_setWidth, hi]
    · apply BitVec.eq_of_getLsbD_eq; intro i hi
      have h1 : x.getLsbD (8 + i) = false := BitVec.getLsbD_of_ge _ _ (by omega)
      have h2 : 8 + i < 16 := by omega
      have h3 : ¬ 8 + i < 8 := by omega
      have h4 : 8 + i - 8 = i := by omega
      simp only [BitVec.getLsbD_or, BitVec.getLsbD_shiftLeft, BitVec.getLsbD_setWidth, BitVec.getLsbD_ushiftRight, hi, h1, h2, h3, h4, show i < 16 by omega]
      simp
  · rintro ⟨rfl, rfl⟩
    apply BitVec.eq_of_getLsbD_eq; intro i hi
    simp only [BitVec.getLsbD_or, BitVec.getLsbD_shiftLeft, BitVec.getLsbD_setWidth, BitVec.getLsbD_ushiftRight]
    by_cases h : i < 8
    · simp [h, hi]
    · have h4 : 8 + (i - 8) = i := by omega
      have h5 : i - 8 < 8 := by omega
      have h6 : i - 8 < 16 := by omega
      simp only [h, hi, h4, h5, h6]
      simp
theorem open_test (bs : List (BitVec 8)) (n : Nat) (x y : BitVec 8) (h : bs = bs.take n ++ [x, y]) : (Crc.sum (bs.take n) = join16 x y) ↔ Crc.close (bs.take n) = bs := by
  rw [join_eq]
  unfold Crc.close
  constructor
  · rintro ⟨h1, h2⟩; rw [← h1, ← h2]; exact h.symm
  · intro h1
    rw [h] at h1
    have h2 : bs.take n ++ [x, y] = bs := h.symm
    rw [← h] at h1
    have := h1.trans h
    rw [List.append_cancel_left_eq] at this
    simp only [List.cons.injEq, and_true] at this
    exact ⟨this.1.symm, this.2.symm⟩

theorem or_join (x y : BitVec 8) : bits .or .u16 (IntKind.u16.wrap (x.toNat : Int)) (IntKind.u16.wrap (IntKind.u16.wrap (y.toNat : Int) * 256)) = ((join16 x y).toNat : Int) := by
  have hx := x.isLt
  have hy := y.isLt
  have e1 : IntKind.u16.wrap (x.toNat : Int) = ((x.setWidth 16).toNat : Int) := by
    rw [Bv.wrap_small .u16 rfl (by omega) (by simp [IntKind.bits]; omega), BitVec.toNat_setWidth]; omega
  have e2 : IntKind.u16.wrap (IntKind.u16.wrap (y.toNat : Int) * 256) = (((y.setWidth 16) <<< 8).toNat : Int) := by
    have e0 : IntKind.u16.wrap (y.toNat : Int) = (y.toNat : Int) := Bv.wrap_small .u16 rfl (by omega) (by simp [IntKind.bits]; omega)
    rw [e0, Bv.wrap_small .u16 rfl (by omega) (by simp [IntKind.bits]; omega), BitVec.toNat_shiftLeft, BitVec.toNat_setWidth, Nat.shiftLeft_eq]; omega
  rw [e1, e2]
  exact bits_or .u16 rfl (x.setWidth 16) ((y.setWidth 16) <<< 8)
theorem ne_bv {s t : BitVec 16} : ((s.toNat : Int) != (t.toNat : Int)) = decide (s ≠ t) := by
  by_cases h : s = t
  · subst h; simp
  · have : s.toNat ≠ t.toNat := fun e => h (BitVec.eq_of_toNat_eq e)
    simp [h]; omega
set_option maxHeartbeats 1000000 in
theorem Open_short (v : Value) (bs : List (BitVec 8)) (w : World) (hs : SliceAt w 1 v bs.length (u8s bs)) (hl : bs.length < 2) :
    Calls Try.prog 22 #[v] w fun e w' => e = .returned (.tuple #[.slice none 0 0, .int .i64 40]) ∧ w = w' := by
  obtain ⟨A, c, rfl, hc1, hc2, hc3, hc4⟩ := hs
  unfold maxLen at hc2
  have hwr : IntKind.i64.wrap ((bs.length : Int) - 2) = (bs.length : Int) - 2 := IntWalk.i64_in _ (by omega)
  go_enter Try.func22, Try.ntmps22
  go_wp2_with fail
  refine wp_scope_fwd 0 (by simp only [findLabel]; rfl) ?_
  go_wp2
  go_step3
  go_wp2
  rw [jump_goto]
  go_wp2
  rw [Exit.noGoto_ret]
  go_ret2
  exact ⟨rfl, rfl⟩
set_option maxHeartbeats 1000000 in
set_option maxRecDepth 100000 in
theorem Open_long (v : Value) (bs : List (BitVec 8)) (n : Nat) (w : World) (hs : SliceAt w 1 v bs.length (u8s bs)) (hn : bs.length = n + 2) (hl : bs.length ≤ 140737488355328) :
    Calls Try.prog 22 #[v] w fun e w' => ∃ v', e = .returned (.tuple #[v', .int .i64 (openV bs).2]) ∧ w'.ownsRow w.heap.size 5 1 v' (openV bs).1.length (u8s (openV bs).1) ∧ Below w.heap.size w w' := by
  have hs' := hs
  obtain ⟨A, c, rfl, hc1, hc2, hc3, hc4⟩ := hs
  unfold maxLen at hc2
  rcases hc4 with h0 | ⟨bk, off, rfl, hbl, hcell⟩
  · omega
  obtain ⟨x, y, hx, hy, hsplit⟩ := split_last bs n hn
  have htk : SliceAt w 1 (.slice (some ⟨bk, off, none⟩) n c) (bs.take n).length (u8s (bs.take n)) := by
    have := hs'.take (k := n) (by omega)
    rw [Nat.mul_one] at this
    rw [List.length_take, Nat.min_eq_left (by omega)]
    simpa [u8s, List.map_take] using this
  have cx : w.cell? ⟨bk, off + n, none⟩ = some (.int .u8 (x.toNat : Int)) := hcell n _ (by simp [u8s, hx])
  have cy : w.cell? ⟨bk, off + (n + 1), none⟩ = some (.int .u8 (y.toNat : Int)) := hcell (n + 1) _ (by simp [u8s, hy])
  have hwr : IntKind.i64.wrap ((bs.length : Int) - 2) = (n : Int) := by rw [IntWalk.i64_in _ (by omega)]; omega
  have hwr2 : IntKind.i64.wrap ((n : Int) + 1) = (n : Int) + 1 := IntWalk.i64_in _ (by omega)
  have hS := Lib.hid (fun W hW => Sum_c (.slice (some ⟨bk, off, none⟩) n c) (bs.take n) W hW)
  have hQ := Lib.hid hs'
  have hT := Lib.hid htk
  have i1 : (0 : Int) ≤ (n : Int) := by omega
  have i2 : (n : Int) < (bs.length : Int) := by omega
  have i3 : (n : Int) + 1 < (bs.length : Int) := by omega
  have i4 : (n : Int) ≤ (c : Int) := by omega
  have i6 : (0 : Int) ≤ (n : Int) + 1 := by omega
  have i7 : (x.toNat : Int) < 256 := by have := x.isLt; omega
  have i8 : (y.toNat : Int) < 256 := by have := y.isLt; omega
  have i5 : (bs.length : Int) ≤ (c : Int) := by omega
  have HP := Lib.hid hsplit
  have HN := Lib.hid hn
  have hn2 : bs.length ≤ n + 2 := by omega
  clear hcell hc3 hx hy hsplit hn hs' htk
  go_enter Try.func22, Try.ntmps22
  go_wp2_with fail
  refine wp_scope_fwd 0 (by simp only [findLabel]; rfl) ?_
  go_wp2_with fail
  go_region_held3 (fun w' => w'.cell? ⟨bk, off + n, none⟩ = some (.int .u8 (x.toNat : Int)) ∧ w'.cell? ⟨bk, off + (n + 1), none⟩ = some (.int .u8 (y.toNat : Int))) (first | exact ⟨cx, cy⟩ | exact ⟨cx1, cy1⟩)
    (first | (go_at_call 28; refine (hS.out _ (hT.out.later (Below.refl _ _).drew)).mono ?_; rintro e w1 ⟨rfl, hb1⟩; have cx1 := (hb1.cell (p := ⟨bk, off + n, none⟩) hbl).trans cx; have cy1 := (hb1.cell (p := ⟨bk, off + (n + 1), none⟩) hbl).trans cy))
  have hB : Below w.heap.size w w1 := (Below.refl _ w).drew.trans hb1
  have hne : (((Crc.sum (bs.take n)).toNat : Int) != bits .or .u16 (IntKind.u16.wrap (x.toNat : Int)) (IntKind.u16.wrap (IntKind.u16.wrap (y.toNat : Int) * 256))) = decide (Crc.sum (bs.take n) ≠ join16 x y) := by
    rw [or_join, ne_bv]
  have hot := open_test bs n x y HP.out
  have hln := HN.out
  clear hS
  by_cases he : Crc.close (bs.take n) = bs
  · have hq : openV bs = (bs.take n, 0) := by unfold openV; rw [if_neg (by omega), hln, Nat.add_sub_cancel, if_pos he]
    replace hne := hne.trans (decide_eq_false (fun h => h (hot.2 he)))
    have HQ := Lib.hid hq
    clear hq hot he hln
    have hs2 := hT.out.later hB
    go_wp2_with fail
    refine (Clone_c _ (bs.take n) _ hs2 (by rw [List.length_take]; omega)).mono ?_
    rintro e w2 ⟨v2, rfl, ho2, b2⟩
    go_wp2
    rw [jump_ret]
    go_ret2
    rw [HQ.out]
    have s1 := hB.size
    refine ⟨v2, rfl, ?_, hB.trans (b2.mono s1)⟩
    obtain ⟨r1, r2⟩ := ho2
    exact ⟨r1, r2.imp id (fun ⟨g, cap, cur, q1, q2, q3⟩ => ⟨g, cap, cur, q1, by omega, q3⟩)⟩
  · have hq : openV bs = ([], 42) := by unfold openV; rw [if_neg (by omega), hln, Nat.add_sub_cancel, if_neg he]
    replace hne := hne.trans (decide_eq_true (fun h => he (hot.1 h)))
    have HQ := Lib.hid hq
    clear hq hot he hln
    go_wp2
    go_step3
    go_wp2
    rw [jump_goto]
    go_wp2
    rw [Exit.noGoto_ret]
    go_ret2
    rw [HQ.out]
    exact ⟨_, rfl, own_nil _ _ _ _, hB⟩
end Go.Proofs.Ytkjmbnficdilhaa
