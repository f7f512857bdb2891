/- Routes in memory of their own: contracts of Clone, Own. Nothing that was there is turned. -/
import Derived.Test.YtkmioplegjeopaaAspJ
namespace Go.Proofs.Ytkmioplegjeopaa
open Go.RowKit Rf Mem Bv AM
attribute [local go_sem ↓] run_max2 run_min2
theorem below_own' {n : Nat} {a w w' : World} {v : Value} (h : Below n a w) (hg : w.grownBy w' v.ownBlock) (hn : n ≤ w.heap.size) (hv : ∀ g, v.ownBlock = some g → n ≤ g) : Below n a w' := below_own h hg hn hv
set_option maxHeartbeats 400000 in
set_option maxRecDepth 100000 in
theorem cloneStep_c (v : Value) (l : List T3) (w : World) (hs : TAt w v l) (hl : l.length ≤ 100000) :
    Calls Try.prog 57 #[v] w fun e w' => ∃ v', e = .returned v' ∧ Below w.heap.size w w' ∧ w'.ownsRow w.heap.size 55 3 v' l.length (t3s l) ∧ (v = .slice none 0 0 → v' = .slice none 0 0) := by
  obtain ⟨i0, hi, hz0, hz1, hz2⟩ := info_parts info_step
  have hq := fun (W : World) (a : Option Addr) (n c : Nat) => Lib.run_eql_slice_nil (P := Try.prog) W 46 55 a n c 0 0 Try.underlying46
  have hs' := hs
  obtain ⟨A, c, rfl, hc1, hc2, hc3, hc4⟩ := hs
  cases A with
  | none =>
    have h0 : l = [] := by
      rcases hc4 with h | ⟨_, _, h, _⟩
      · exact List.eq_nil_of_length_eq_zero h
      · cases h
    subst h0
    clear hs' hc4
    go_enter Try.func57, Try.ntmps57
    go_wp2
    go_ret
    exact ⟨_, rfl, Below.refl _ _, own_nil _ _ _ _, fun _ => rfl⟩
  | some ad =>
    have hown := own_empty w 55 3
    have hsrc := hs'.later ((Below.refl _ w).alloc (Nat.le_refl _) (.cells #[] 55))
    go_enter Try.func57, Try.ntmps57
    go_wp2_with (at_builtin; refine wpList_append_src (by rfl) (.tmp 5) (.tmp 6) _ (by rfl) w.heap.size 55 i0 _ 3 24 Try.underlying46 hi hz0 hz1 hz2 rfl (by omega) (.slice (some ⟨w.heap.size, 0, none⟩) 0 0) 0 [] (by rfl) hown (.slice (some ad) l.length c) l.length (t3s l) (by rfl) hsrc (t3s_one l) (by simp only [maxLen]; omega) (by omega) (by simp) ?_; intro v1 w1 ho1 hg1 _)
    go_ret
    simp only [Nat.zero_add, List.nil_append] at ho1
    exact ⟨_, rfl, below_own ((Below.refl _ w).alloc (Nat.le_refl _) _) hg1 (by simp) (by intro g hg; cases hg; exact Nat.le_refl _), ho1, fun h => by cases h⟩
set_option maxHeartbeats 400000 in
set_option maxRecDepth 100000 in
theorem cloneNeed_c (v : Value) (l : List T3) (w : World) (hs : TAt w v l) (hl : l.length ≤ 100000) :
    Calls Try.prog 58 #[v] w fun e w' => ∃ v', e = .returned v' ∧ Below w.heap.size w w' ∧ w'.ownsRow w.heap.size 59 3 v' l.length (t3s l) ∧ (v = .slice none 0 0 → v' = .slice none 0 0) := by
  obtain ⟨i0, hi, hz0, hz1, hz2⟩ := info_parts info_need
  have hq := fun (W : World) (a : Option Addr) (n c : Nat) => Lib.run_eql_slice_nil (P := Try.prog) W 49 59 a n c 0 0 Try.underlying49
  have hs' := hs
  obtain ⟨A, c, rfl, hc1, hc2, hc3, hc4⟩ := hs
  cases A with
  | none =>
    have h0 : l = [] := by
      rcases hc4 with h | ⟨_, _, h, _⟩
      · exact List.eq_nil_of_length_eq_zero h
      · cases h
    subst h0
    clear hs' hc4
    go_enter Try.func58, Try.ntmps58
    go_wp2
    go_ret
    exact ⟨_, rfl, Below.refl _ _, own_nil _ _ _ _, fun _ => rfl⟩
  | some ad =>
    have hown := own_empty w 59 3
    have hsrc := hs'.later ((Below.refl _ w).alloc (Nat.le_refl _) (.cells #[] 59))
    go_enter Try.func58, Try.ntmps58
    go_wp2_with (at_builtin; refine wpList_append_src (by rfl) (.tmp 5) (.tmp 6) _ (by rfl) w.heap.size 59 i0 _ 3 24 Try.underlying49 hi hz0 hz1 hz2 rfl (by omega) (.slice (some ⟨w.heap.size, 0, none⟩) 0 0) 0 [] (by rfl) hown (.slice (some ad) l.length c) l.length (t3s l) (by rfl) hsrc (t3s_one l) (by simp only [maxLen]; omega) (by omega) (by simp) ?_; intro v1 w1 ho1 hg1 _)
    go_ret
    simp only [Nat.zero_add, List.nil_append] at ho1
    exact ⟨_, rfl, below_own ((Below.refl _ w).alloc (Nat.le_refl _) _) hg1 (by simp) (by intro g hg; cases hg; exact Nat.le_refl _), ho1, fun h => by cases h⟩
theorem info_held : (Try.prog.info? 52).map (fun i => (i.zero, i.size, i.bytes)) = some (some (.agg zHeld), 23, 144) := by kernel_rfl
end Go.Proofs.Ytkmioplegjeopaa
