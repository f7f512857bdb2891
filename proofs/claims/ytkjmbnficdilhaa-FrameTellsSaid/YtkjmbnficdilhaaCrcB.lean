/- Contracts of crc.Sum, crc.Close, crc.Open: they return the sum, the closed bytes, what was closed, and turn nothing that was there. Where there are fewer bytes than the model has room for. -/
import Derived.Test.YtkjmbnficdilhaaCrc
import Derived.Test.YtkjmbnficdilhaaClone
namespace Go.Proofs.Ytkjmbnficdilhaa
open Go.RowKit Rf Mem Bv Crc
attribute [local go_sem ↓] run_max2 run_min2
theorem not_16 (x : BitVec 16) : bits .xor .u16 IntKind.u16.max (x.toNat : Int) = ((~~~ x).toNat : Int) := by
  have h : bits .xor .u16 IntKind.u16.max (x.toNat : Int) = ((65535#16 ^^^ x : BitVec 16).toNat : Int) := bits_xor .u16 rfl 65535#16 x
  rw [h, show (65535#16 : BitVec 16) = BitVec.allOnes 16 from rfl, BitVec.allOnes_xor]
theorem Sum_c (v : Value) (bs : List (BitVec 8)) (w : World) (hs : SliceAt w 1 v bs.length (u8s bs)) :
    Calls Try.prog 28 #[v] w fun e w' => e = .returned (.int .u16 (Crc.sum bs).toNat) ∧ Below w.heap.size w w' := by
  have hsg : IntKind.u16.signed = false := rfl
  have hg := Lib.hid (Go_c 0xffff#16 v bs w hs)
  obtain ⟨A, c, rfl, _⟩ := hs
  go_enter Try.func28, Try.ntmps28
  go_wp2_with fail
  refine hg.out.mono ?_
  rintro e w1 ⟨rfl, hb⟩
  have hn := Lib.hid (not_16 (go 0xffff#16 bs))
  go_wp2
  go_ret
  exact ⟨ret_int hn.out, hb⟩
theorem lo_val (s : BitVec 16) : (s.toNat : Int) % 256 = ((lo s).toNat : Int) := by unfold lo; rw [BitVec.toNat_setWidth]; omega
theorem hi_val (s : BitVec 16) : (s.toNat : Int) / 256 = ((hi s).toNat : Int) := by
  unfold hi; rw [BitVec.toNat_setWidth, BitVec.toNat_ushiftRight, Nat.shiftRight_eq_div_pow]; have := s.isLt; omega
theorem sliceAt_new {w : World} {g : Nat} {e : TypeId} {cs : List Value} {n : Nat} (h : w.heap[g]? = some (.cells cs.toArray e)) (hn : cs.length = n) (hm : n ≤ maxLen) : SliceAt w 1 (.slice (some ⟨g, 0, none⟩) n n) n cs :=
  ⟨_, _, rfl, Nat.le_refl _, hm, by omega, .inr ⟨g, 0, rfl, (Array.getElem?_eq_some_iff.1 h).1, fun i u hu => by rw [cell_at h]; simpa using hu⟩⟩
set_option maxHeartbeats 400000 in
theorem Close_c (v : Value) (bs : List (BitVec 8)) (w : World) (hs : SliceAt w 1 v bs.length (u8s bs)) (hl : bs.length ≤ 140737488355320) :
    Calls Try.prog 21 #[v] w fun e w' => ∃ v', e = .returned v' ∧ w'.ownsRow w.heap.size 5 1 v' (bs.length + 2) (u8s (Crc.close bs)) ∧ Below w.heap.size w w' := by
  obtain ⟨i0, hi, hz0, hz1, hz2⟩ := info_parts info_u8
  have hs' := hs
  obtain ⟨A, c, rfl, hc1, hc2, hc3, hc4⟩ := hs
  go_enter Try.func21, Try.ntmps21
  go_wp2_with fail
  refine (Sum_c _ bs _ hs').mono ?_
  rintro e w1 ⟨rfl, b1⟩
  go_wp2_with fail
  refine (Clone_c _ bs _ (hs'.later b1) (by omega)).mono ?_
  rintro e w2 ⟨v2, rfl, ho2, b2⟩
  have e1 := lo_val (Crc.sum bs)
  have e2 := hi_val (Crc.sum bs)
  have hcl : u8s bs ++ [.int .u8 ((Crc.lo (Crc.sum bs)).toNat : Int), .int .u8 ((Crc.hi (Crc.sum bs)).toNat : Int)] = u8s (Crc.close bs) := by simp [u8s, Crc.close]
  have hsrc : SliceAt (w2.alloc (.cells #[.int .u8 ((Crc.lo (Crc.sum bs)).toNat : Int), .int .u8 ((Crc.hi (Crc.sum bs)).toNat : Int)] 5)) 1 (.slice (some ⟨w2.heap.size, 0, none⟩) 2 2) 2 [.int .u8 ((Crc.lo (Crc.sum bs)).toNat : Int), .int .u8 ((Crc.hi (Crc.sum bs)).toNat : Int)] :=
    sliceAt_new (new_at rfl _) rfl (by simp [maxLen])
  have ho3 : (w2.alloc (.cells #[.int .u8 ((Crc.lo (Crc.sum bs)).toNat : Int), .int .u8 ((Crc.hi (Crc.sum bs)).toNat : Int)] 5)).ownsRow w1.heap.size 5 1 v2 bs.length (u8s bs) :=
    own_later ho2 (fun g hg => Below.heap_alloc _ _ _ (own_base ho2 hg).2)
  have HC := Lib.hid hcl
  clear hcl
  have q1 : (Crc.lo (Crc.sum bs)).toNat < 256 := (Crc.lo (Crc.sum bs)).isLt
  have q2 : (Crc.hi (Crc.sum bs)).toNat < 256 := (Crc.hi (Crc.sum bs)).isLt
  generalize (Crc.lo (Crc.sum bs)).toNat = l at *
  generalize (Crc.hi (Crc.sum bs)).toNat = h at *
  generalize (Crc.sum bs).toNat = s at *
  go_wp2_with (at_builtin; refine wpList_append_src (by rfl) (.tmp 7) (.tmp 13) _ (by rfl) w1.heap.size 5 i0 _ 1 1 Try.underlying22 hi hz0 hz1 hz2 rfl (by omega) v2 bs.length (u8s bs) (by rfl) ho3 (.slice (some ⟨w2.heap.size, 0, none⟩) 2 2) 2 _ (by rfl) hsrc (by simp [Value.oneCell']) (by simp only [maxLen]; omega) (by omega) (by have := b2.size; simp; omega) ?_; intro v3 w3 ho4 hg3 _)
  go_ret
  rw [HC.out] at ho4
  have s1 := b1.size
  have s2 := b2.size
  refine ⟨v3, rfl, ?_, below_own ((b1.trans (b2.mono s1)).alloc (by omega) _) hg3 (by simp; omega) (fun g hg => by have := (own_base ho2 hg).1; omega)⟩
  obtain ⟨hl4, h4⟩ := ho4
  refine ⟨hl4, ?_⟩
  rcases h4 with h4 | ⟨g, cap, cur, r1, r2, r3⟩
  · exact .inl h4
  · exact .inr ⟨g, cap, cur, r1, by omega, r3⟩
end Go.Proofs.Ytkjmbnficdilhaa
