/- Contracts of lockbarref02.Open and of the statements' own same. Where there are fewer bytes than the model has room for. -/
import Derived.Test.YtkjmbnficdilhaaCrcRef
namespace Go.Proofs.Ytkjmbnficdilhaa
open Go.RowKit Rf Mem Bv Crc Str
attribute [local go_sem ↓] run_max2 run_min2
theorem same_c (v u : Value) (a b : List (BitVec 8)) (w : World) (ha : SliceAt w 1 v a.length (u8s a)) (hb : SliceAt w 1 u b.length (u8s b)) :
    Calls Try.prog 9 #[v, u] w fun e w' => e = .returned (.bool (decide (a = b))) ∧ w = w' := by
  have c1 := conv_str (P := Try.prog) (dst := 9) ha Try.underlying22 Try.underlying5 Try.underlying9
  have c2 := conv_str (P := Try.prog) (dst := 9) hb Try.underlying22 Try.underlying5 Try.underlying9
  have c3 := str_beq a b
  generalize strOf a = s at *
  generalize strOf b = t at *
  generalize decide (a = b) = d at *
  obtain ⟨A, c, rfl, _⟩ := ha
  obtain ⟨A', c', rfl, _⟩ := hb
  go_enter Try.func9, Try.ntmps9
  go_wp2
  go_ret
  exact ⟨rfl, rfl⟩
theorem refOpen_short (v : Value) (bs : List (BitVec 8)) (w : World) (hs : SliceAt w 1 v bs.length (u8s bs)) (hl : bs.length < 2) :
    Calls Try.prog 24 #[v] w fun e w' => e = .returned (.tuple #[.slice none 0 0, .int .i64 40]) ∧ w = w' := by
  obtain ⟨A, c, rfl, hc1, hc2, hc3, hc4⟩ := hs
  unfold maxLen at hc2
  have hwr : IntKind.i64.wrap ((bs.length : Int) - 2) = (bs.length : Int) - 2 := IntWalk.i64_in _ (by omega)
  go_enter Try.func24, Try.ntmps24
  go_wp2
  go_ret2
  exact ⟨rfl, rfl⟩
set_option maxHeartbeats 1000000 in
theorem refOpen_long (v : Value) (bs : List (BitVec 8)) (n : Nat) (w : World) (hs : SliceAt w 1 v bs.length (u8s bs)) (hn : bs.length = n + 2) (hl : bs.length ≤ 140737488355320) :
    Calls Try.prog 24 #[v] w fun e w' => ∃ v', e = .returned (.tuple #[v', .int .i64 (openV bs).2]) ∧ w'.ownsRow w.heap.size 5 1 v' (openV bs).1.length (u8s (openV bs).1) ∧ Below w.heap.size w w' := by
  obtain ⟨i0, hi, hz0, hz1, hz2⟩ := info_parts info_u8
  have hs' := hs
  obtain ⟨A, c, rfl, hc1, hc2, hc3, hc4⟩ := hs
  unfold maxLen at hc2
  have htk : SliceAt w 1 (.slice A n c) (bs.take n).length (u8s (bs.take n)) := by
    have := hs'.take (k := n) (by omega)
    rw [Nat.mul_one] at this
    rw [List.length_take, Nat.min_eq_left (by omega)]
    simpa [u8s, List.map_take] using this
  have hwr : IntKind.i64.wrap ((bs.length : Int) - 2) = (n : Int) := by rw [IntWalk.i64_in _ (by omega)]; omega
  have hlt : (bs.take n).length = n := by rw [List.length_take]; omega
  have hS := Lib.hid (refClose_c (.slice A n c) (bs.take n) w.drew (htk.later (Below.refl _ _).drew) (by omega))
  have cv0 : ∀ W, Below w.heap.size w W → (convert 22 9 (.slice A bs.length c)).run Try.prog W = .ok (.string (strOf bs)) W := fun W hW => conv_str (hs'.later hW) Try.underlying22 Try.underlying5 Try.underlying9
  have CV := Lib.hid cv0
  have cvd := cv0 _ (Below.refl _ w).drew
  clear cv0
  have hcmp := Lib.hid (str_beq (Crc.close (bs.take n)) bs)
  have hopen : openV bs = if Crc.close (bs.take n) = bs then (bs.take n, 0) else ([], 42) := by unfold openV; rw [if_neg (by omega), hn, Nat.add_sub_cancel]
  have HO := Lib.hid hopen
  have HT := Lib.hid htk
  have HL := Lib.hid hlt
  have i1 : (0 : Int) ≤ (n : Int) := by omega
  have i4 : (n : Int) ≤ (c : Int) := by omega
  clear hopen htk hs' hc3 hc4 hlt
  have hclen := Lib.hid (show (Crc.close (bs.take n)).length = (bs.take n).length + 2 by simp [Crc.close])
  generalize Crc.close (bs.take n) = cl at *
  generalize hst : strOf bs = st at *
  have HST := Lib.hid hst
  clear hst
  have HN := Lib.hid hn
  have hn1 : bs.length ≤ n + 2 := by omega
  have hn2 : n + 2 ≤ bs.length := by omega
  clear hn
  go_enter Try.func24, Try.ntmps24
  go_wp2_with fail
  go_region_with (go_at_call 19; refine hS.out.mono ?_; rintro e w1 ⟨v1, rfl, ho1, hb1⟩; have hB : Below w.heap.size w w1 := (Below.refl _ w).drew.trans hb1; have cv1 := CV.out _ hB; have cv2 := conv_str (P := Try.prog) (dst := 9) (bs := cl) (by rw [hclen.out]; exact sliceAt_of_own ho1) Try.underlying22 Try.underlying5 Try.underlying9)
  all_goals
    have hcm := hcmp.out
    generalize strOf cl = sc at *
    by_cases he : cl = bs
    · rw [decide_eq_true he] at hcm
      simp only [hcm, Bool.not_true]
      have hq := Lib.hid (show openV bs = (bs.take n, 0) by rw [HO.out, if_pos he])
      clear he
      have hs2 := HT.out.later hB
      rw [HL.out] at hs2
      have hown := own_empty w1 5 1
      have hsrc := hs2.later ((Below.refl _ w1).alloc (Nat.le_refl _) (.cells #[] 5))
      go_wp2_with (at_builtin; refine wpList_append_src (by rfl) (.tmp 18) (.tmp 21) _ (by rfl) w1.heap.size 5 i0 _ 1 1 Try.underlying22 hi hz0 hz1 hz2 rfl (by omega) (.slice (some ⟨w1.heap.size, 0, none⟩) 0 0) 0 [] (by rfl) hown (.slice A n c) n (u8s (bs.take n)) (by rfl) hsrc (u8s_one _) (by simp only [maxLen]; omega) (by omega) (by simp) ?_; intro v2 w2 ho2 hg2 _)
      go_ret2
      simp only [Nat.zero_add, List.nil_append] at ho2
      rw [hq.out]
      have s1 := hB.size
      refine ⟨v2, rfl, ?_, below_own (hB.alloc (by omega) _) hg2 (by simp; omega) (by intro g hg; cases hg; exact s1)⟩
      rw [HL.out]
      exact own_base_le ho2 s1
    · rw [decide_eq_false he] at hcm
      simp only [hcm, Bool.not_false]
      have hq := Lib.hid (show openV bs = ([], 42) by rw [HO.out, if_neg he])
      clear he
      go_wp2
      go_ret2
      rw [hq.out]
      exact ⟨_, rfl, own_nil _ _ _ _, hB⟩
end Go.Proofs.Ytkjmbnficdilhaa
