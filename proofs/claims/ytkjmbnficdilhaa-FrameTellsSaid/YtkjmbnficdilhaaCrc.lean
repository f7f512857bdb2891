/- Contracts of the package crc: each function returns its state, sum or bytes and turns nothing that was there. Where bytes are made: so many that the room is there. -/
import Derived.Test.YtkjmbnficdilhaaRows
import Derived.Test.YtkjmbnficdilhaaCrcMath
import Derived.BigFrameIn
import Derived.BigQuiet
import Derived.Deep.QuietTactic
import Derived.StillTailTactics
import Derived.Outline
import Derived.Deep.RegionHeld3
import Derived.Deep.DrawnRows
namespace Go.Proofs.Ytkjmbnficdilhaa
open Go.RowKit Rf Mem Bv Crc
attribute [local go_sem] Oper.semAt_some
attribute [local go_sem ↓] run_max2 run_min2

theorem lsb0 (s : BitVec 16) : s.getLsbD 0 = decide (s.toNat % 2 = 1) := by
  rw [BitVec.getLsbD, Nat.testBit_zero]
theorem by1_val (s : BitVec 16) (b : Bool) (x : Int) (hx : x = if (s.getLsbD 0 != b) then 33800 else 0) : bits .xor .u16 ((s.toNat : Int) / 2) x = ((by1 s b).toNat : Int) := by
  rw [shr1, hx, by1_old]
  by_cases h : (s.getLsbD 0 != b) = true
  · rw [if_pos h, if_pos h]; exact bits_xor .u16 rfl (s >>> 1) 0x8408#16
  · rw [if_neg h, if_neg h]; exact bits_xor .u16 rfl (s >>> 1) 0#16
theorem code_t (s : BitVec 16) : bits .xor .u16 ((s.toNat : Int) / 2) (bits .and .u16 (IntKind.u16.wrap (-bits .xor .u16 (bits .and .u16 (s.toNat : Int) 1) 1)) 33800) = ((by1 s true).toNat : Int) := by
  refine by1_val s true _ ?_
  rw [and1_16, lsb0]
  rcases Nat.mod_two_eq_zero_or_one s.toNat with h | h <;> rw [h] <;> decide
theorem code_f (s : BitVec 16) : bits .xor .u16 ((s.toNat : Int) / 2) (bits .and .u16 (IntKind.u16.wrap (-bits .and .u16 (s.toNat : Int) 1)) 33800) = ((by1 s false).toNat : Int) := by
  refine by1_val s false _ ?_
  rw [and1_16, lsb0]
  rcases Nat.mod_two_eq_zero_or_one s.toNat with h | h <;> rw [h] <;> decide

theorem ret_int {k : IntKind} {a b : Int} (h : a = b) : Ending.returned (.int k a) = .returned (.int k b) := by rw [h]
theorem Bit_c (s : BitVec 16) (b : Bool) (w : World) : Calls Try.prog 33 #[.int .u16 s.toNat, .bool b] w fun e w' => e = .returned (.int .u16 (by1 s b).toNat) ∧ w = w' := by
  cases b
  · have h := Lib.hid (code_f s)
    go_enter Try.func33, Try.ntmps33
    go_wp2
    go_ret
    exact ⟨ret_int h.out, rfl⟩
  · have h := Lib.hid (code_t s)
    go_enter Try.func33, Try.ntmps33
    go_wp2
    go_ret
    exact ⟨ret_int h.out, rfl⟩

theorem bits_c (A : Option Addr) (n c : Nat) (w : World) : Calls Try.prog 32 #[.slice A n c] w fun e w' => e = .returned (.func (.func 34) #[] #[.pointer (some ⟨w.heap.size, 0, none⟩)]) ∧ w.alloc (.cells #[.slice A n c] 22) = w' := by
  go_enter Try.func32, Try.ntmps32
  go_wp2
  go_ret
  exact ⟨rfl, rfl⟩

def BitsPre (b0 : Nat) (A : Option Addr) (n c : Nat) (bs : List (BitVec 8)) (W : World) : Prop :=
  W.cell? ⟨b0, 0, none⟩ = some (.slice A n c) ∧ n = bs.length ∧ SliceAt W 1 (.slice A n c) n (u8s bs)
def bitList (l : List Bool) : List (Array Value) := l.map fun b => #[.bool b]
theorem bitList_get {bs : List (BitVec 8)} {k j : Nat} {b : BitVec 8} (hk : bs[k]? = some b) (hj : j < 8) : (bitList (allBits bs))[k * 8 + j]? = some #[.bool (b.getLsbD j)] := by
  unfold bitList allBits
  rw [List.getElem?_map]
  have : ∀ (l : List (BitVec 8)) (k : Nat), l[k]? = some b → (l.flatMap bits8)[k * 8 + j]? = some (b.getLsbD j) := by
    intro l
    induction l with
    | nil => intro k h; simp at h
    | cons x l ih =>
      intro k h
      rw [List.flatMap_cons]
      cases k with
      | zero =>
        simp at h; subst h
        rw [Nat.zero_mul, Nat.zero_add, List.getElem?_append_left (by rw [bits8_length]; exact hj), bits8_get _ _ hj]
      | succ k =>
        rw [List.getElem?_append_right (by rw [bits8_length]; omega), bits8_length, show (k + 1) * 8 + j - 8 = k * 8 + j by omega]
        exact ih k (by simpa using h)
  rw [this bs k hk]; rfl
theorem bitList_len (bs : List (BitVec 8)) : (bitList (allBits bs)).length = bs.length * 8 := by
  unfold bitList; rw [List.length_map, allBits_length]; omega

theorem low_bit (b : BitVec 8) (j : Nat) : (bits .and .u8 ((b >>> j).toNat : Int) 1 != 0) = b.getLsbD j := by
  rw [and1_8]
  have h : (b >>> j).getLsbD 0 = decide ((b >>> j).toNat % 2 = 1) := by rw [BitVec.getLsbD, Nat.testBit_zero]
  rw [BitVec.getLsbD_ushiftRight, Nat.add_zero] at h
  rw [h]
  rcases Nat.mod_two_eq_zero_or_one (b >>> j).toNat with e | e <;> rw [e] <;> rfl
theorem shr_next (b : BitVec 8) (j : Nat) : ((b >>> j).toNat : Int) / 2 = ((b >>> (j + 1)).toNat : Int) := by
  rw [shr1, BitVec.shiftRight_add]

set_option maxHeartbeats 1000000 in
theorem bits1 (b0 : Nat) (A : Option Addr) (n c : Nat) (bs : List (BitVec 8)) : Iter Try.prog 34 #[.pointer (some ⟨b0, 0, none⟩)] (fun _ => False) (fun k => k = b0 ∨ (0 < bs.length ∧ ∃ off, A = some ⟨k, off, none⟩)) (bitList (allBits bs)) (BitsPre b0 A n c bs) := by
  intro l J O0 W0 hP hO hJ hY h0
  obtain ⟨c0, rfl, A', c', hv, hc1, hc2, _, hc4⟩ := hP
  obtain ⟨rfl, _, rfl⟩ := Value.slice.inj hv
  clear hv
  unfold maxLen at hc2
  refine callsIn_of_wp Try.func34 rfl trivial ?_ rfl
  simp only [Try.ntmps34, List.size_toArray, List.length_cons, List.length_nil, Nat.reduceAdd, Nat.reduceSub, Array.replicate_succ, Array.replicate_zero, List.push_toArray, List.append_toArray, List.nil_append, List.cons_append]
  gi_wp2
  gi_loopw [4, 7, 11] (fun _ i _ wr => ∃ (k : Nat) (O : Nat → Prop), k ≤ bs.length ∧ i = .int .i64 k ∧ J (k * 8) O wr ∧ Past O0 W0 O wr) (fun _ i _ _ => bs.length - (intOf i).toNat)
  case atStart => exact ⟨0, O0, Nat.zero_le _, rfl, by simpa using h0, Past.refl _ _⟩
  case round =>
    obtain ⟨k, O, hk, rfl, hJk, hp⟩ := hrel
    by_cases hlt : k < bs.length
    · rcases hc4 with hz | ⟨bk, off, rfl, hbl, hcell⟩
      · omega
      have hbk : bs[k]? = some bs[k] := List.getElem?_eq_getElem hlt
      have hcl := hp.cell (hcell k (.int .u8 (bs[k].toNat : Int)) (by simp [u8s, hbk])) (fun h => (hO _ h).2.2 (.inr ⟨by omega, off, rfl⟩))
      have hxs := Lib.hid (fun j hj => bitList_get (j := j) hbk hj)
      generalize bs[k] = b at *
      clear hcell hbk
      gi_wp2
      gi_loopw [4, 11] (fun x i wr => ∃ (j : Nat) (O : Nat → Prop), j ≤ 8 ∧ i = .int .i64 j ∧ (∃ y : Int, y = ((b >>> j).toNat : Int) ∧ x = .int .u8 y) ∧ J (k * 8 + j) O wr ∧ Past O0 W0 O wr) (fun _ i _ => 8 - (intOf i).toNat)
      case atStart => exact ⟨0, O, by omega, rfl, ⟨_, by simp, rfl⟩, hJk, hp⟩
      case round =>
        obtain ⟨j, O, hj, rfl, ⟨y, hyv, rfl⟩, hJj, hp⟩ := hrel
        by_cases hj8 : j < 8
        · obtain ⟨fn, tmps, assign, body, hy, hR⟩ := hY _ _ O _ (hxs.out j hj8) hJj hp.keep.size
          have hlb := low_bit b j
          have hsn := Lib.hid (shr_next b j)
          rw [← hyv] at hlb
          rw [← hyv] at hsn
          clear hyv
          generalize b.getLsbD j = bt at *
          gi_wp2
          refine ⟨rfl, hR.mono ?_⟩
          rintro e W' ⟨rfl, O', hJ', ho', hk'⟩
          clear hy hR
          gi_wp2
          go_roundw
          case rel => exact ⟨j + 1, O', by omega, by go_num, ⟨_, hsn.out, rfl⟩, hJ', hp.next ho' hk'⟩
          case measure => simp [intOf]; omega
        · obtain rfl : j = 8 := by omega
          gi_wp2
          go_roundw
          case rel => exact ⟨k + 1, O, by omega, by go_num, by rw [show (k + 1) * 8 = k * 8 + 8 by omega]; exact hJj, hp⟩
          case measure => simp [intOf]; omega
    · have e : (bitList (allBits bs)).length = k * 8 := by rw [bitList_len]; omega
      have E := Lib.hid e
      clear e
      gi_wp2
      go_end0
      exact ⟨⟨_, rfl⟩, O, by rw [E.out]; exact hJk⟩

theorem bitList_at {bs : List (BitVec 8)} {i : Nat} {x : Array Value} (h : (bitList (allBits bs))[i]? = some x) : ∃ b, (allBits bs)[i]? = some b ∧ x = #[.bool b] := by
  unfold bitList at h
  rw [List.getElem?_map, Option.map_eq_some_iff] at h
  obtain ⟨b, hb, rfl⟩ := h
  exact ⟨b, hb, rfl⟩
theorem go_take (s : BitVec 16) (l : List Bool) (i : Nat) (b : Bool) (h : l[i]? = some b) : goBits s (l.take (i + 1)) = by1 (goBits s (l.take i)) b := by
  rw [List.take_add_one, h, goBits_append]; rfl
set_option maxHeartbeats 1000000 in
theorem Go_c (s : BitVec 16) (v : Value) (bs : List (BitVec 8)) (w : World) (hs : SliceAt w 1 v bs.length (u8s bs)) :
    Calls Try.prog 30 #[.int .u16 s.toNat, v] w fun e w' => e = .returned (.int .u16 (go s bs).toNat) ∧ Below w.heap.size w w' := by
  have hs' := hs
  obtain ⟨A, c, rfl, hc1, hc2, _, hc4⟩ := hs
  refine (callsIn_wide (n := 0)).1 (callsIn_of_wp_marks Try.func30 rfl trivial ?_ rfl)
  refine wpIn_wide.2 ?_
  simp only [Try.ntmps30, List.size_toArray, List.length_cons, List.length_nil, Nat.reduceAdd, Nat.reduceSub, Array.replicate_succ, Array.replicate_zero, List.push_toArray, List.append_toArray, List.nil_append, List.cons_append]
  go_wp2_with fail
  refine (bits_c _ _ _ _).mono ?_
  rintro e w' ⟨rfl, rfl⟩
  go_wp2_with fail
  obtain ⟨W0, hW0⟩ : ∃ W0, W0 = (w.alloc (.cells #[.int .u16 s.toNat] 44)).alloc (.cells #[.slice A bs.length c] 22) := ⟨_, rfl⟩
  rw [← hW0]
  have hsz : W0.heap.size = w.heap.size + 2 := by rw [hW0]; simp
  have hb : Below w.heap.size w W0 := by rw [hW0]; exact ((Below.refl _ w).alloc (Nat.le_refl _) _).alloc (by simp) _
  have k0 : W0.heap[w.heap.size]? = some (.cells #[.int .u16 s.toNat] 44) := by rw [hW0]; exact old_at (new_at rfl _) _
  have k1 : W0.heap[w.heap.size + 1]? = some (.cells #[.slice A bs.length c] 22) := by rw [hW0]; exact new_at (by simp) _
  clear hW0
  refine wp_iter (xs := bitList (allBits bs)) (gf := 34) (lb := #[.pointer (some ⟨w.heap.size + 1, 0, none⟩)]) rfl (enters Try.func34 (by kernel_rfl) rfl)
    (bits1 _ A bs.length c bs) ?hps
    (fun i O W => O = (fun k => k = w.heap.size) ∧ W.heap[w.heap.size]? = some (.cells #[.int .u16 (goBits s ((allBits bs).take i)).toNat] 44) ∧ Below w.heap.size w W) (fun k => k = w.heap.size) ?hpre ?hO ?hFp ?hI ?h0
    (fun x => { tmps := #[Value.int .u16 s.toNat, .slice A bs.length c, .pointer (some ⟨w.heap.size, 0, none⟩), undef, .int .u16 0, x.getD 0 undef, .slice A bs.length c, .func (.func 34) #[] #[.pointer (some ⟨w.heap.size + 1, 0, none⟩)], x.getD 0 undef, undef, undef, undef, undef], defers := [] }) ?assign ?body ?done
  case hps => intro x hx; obtain ⟨i, hi⟩ := List.getElem?_of_mem hx; obtain ⟨b, _, rfl⟩ := bitList_at hi; rfl
  case hpre =>
    intro W hW
    exact ⟨by rw [cell_at (below_at hW k1 (by omega))]; rfl, rfl, (hs'.later (hb.trans (hW.mono (by omega))))⟩
  case hO =>
    rintro k rfl
    refine ⟨by omega, fun h => h, ?_⟩
    rintro (h | ⟨hpos, off, rfl⟩)
    · omega
    · rcases hc4 with h0 | ⟨bk, off', he, hbl, _⟩
      · omega
      · cases he; omega
  case hFp => intro k h; exact h.elim
  case hI =>
    rintro i O W W' ⟨rfl, h1, h2⟩ hk
    exact ⟨rfl, hk.at_ h1 (.inl rfl), below_keep h2 hk (Nat.le_refl _) (fun k h => .inr ⟨by omega, fun h => h⟩)⟩
  case h0 => exact ⟨rfl, by simpa [goBits] using k0, hb⟩
  case assign =>
    intro l x W K hx hK
    obtain ⟨i, hi⟩ := List.getElem?_of_mem hx
    obtain ⟨b, _, rfl⟩ := bitList_at hi
    gi_wp2
    exact hK
  case body =>
    rintro l i x O W hx ⟨rfl, h1, h2⟩ hsz'
    obtain ⟨b, hbi, rfl⟩ := bitList_at hx
    have hn := Lib.hid (go_take s _ i b hbi)
    generalize goBits s ((allBits bs).take i) = t at *
    have c := cell_at h1 0
    have f := free_at h1 0
    simp at c
    gi_wp2_with fail
    refine ⟨trivial, rfl, (CallsIn.inRound _ (callsIn_wide.2 (Bit_c t b _))).mono ?_⟩
    rintro e w' ⟨rfl, rfl⟩
    gi_wp2
    refine ⟨fun k => k = w.heap.size, ⟨rfl, ?_, h2.setCell (Nat.le_refl _) _⟩, fun k hk => .inl hk, (Keep.refl _ W).setCell (fun _ h => h rfl) _⟩
    rw [set_at h1, hn.out]; rfl
  case done =>
    rintro D O W ⟨rfl, h1, h2⟩ hD hK
    have e : goBits s ((allBits bs).take (bitList (allBits bs)).length) = go s bs := by
      rw [List.take_of_length_le (by rw [bitList_len, allBits_length]; omega)]; rfl
    rw [e] at h1
    clear e
    have c := cell_at h1 0
    simp at c
    go_wp2
    exact bodyPostM_mark rfl (.inr rfl) hK ⟨rfl, below_putObj h2 (by omega) _⟩
end Go.Proofs.Ytkjmbnficdilhaa
