/- bytes.Clone: bytes in memory of their own, as those handed in; nothing is turned. Where there are fewer bytes than the model has room for. -/
import Derived.Test.YtppcdmbpbbjecaaGreatRows
import Derived.Test.YtppcdmbpbbjecaaGreatBv
import Derived.WalkSpells
import Derived.Outline
namespace Go.Proofs.YtppcdmbpbbjecaaGreat
open Go.RowKit Rf Mem Bv
theorem info_u8 : (Tryz.prog.info? 5).map (fun i => (i.zero, i.size, i.bytes)) = some (some (.int .u8 0), 1, 1) := by kernel_rfl
theorem u8s_one (bs : List (BitVec 8)) : ∀ u ∈ u8s bs, u.oneCell' = true := by intro u hu; simp [u8s] at hu; obtain ⟨b, _, rfl⟩ := hu; rfl
set_option maxHeartbeats 400000 in
theorem Clone_c (v : Value) (bs : List (BitVec 8)) (w : World) (hs : SliceAt w 1 v bs.length (u8s bs)) (hl : bs.length ≤ 140737488355328) :
    Calls Tryz.prog 62 #[v] w fun e w' => ∃ v', e = .returned v' ∧ w'.ownsRow w.heap.size 5 1 v' bs.length (u8s bs) ∧ Below w.heap.size w w' := by
  obtain ⟨i0, hi, hz0, hz1, hz2⟩ := info_parts info_u8
  have hq := fun (W : World) (a : Option Addr) (n c : Nat) => Lib.run_eql_slice_nil (P := Tryz.prog) W 53 5 a n c 0 0 Tryz.underlying53
  have hs' := hs
  obtain ⟨A, c, rfl, hc1, hc2, hc3, hc4⟩ := hs
  cases A with
  | none =>
    have h0 : bs = [] := by
      rcases hc4 with h | ⟨_, _, h, _⟩
      · exact List.eq_nil_of_length_eq_zero h
      · cases h
    subst h0
    go_enter Tryz.func62, Tryz.ntmps62
    go_wp2
    go_ret
    exact ⟨_, rfl, own_nil _ _ _ _, Below.refl _ _⟩
  | some ad =>
    have hown := own_empty w 5 1
    have hsrc := hs'.later ((Below.refl _ w).alloc (Nat.le_refl _) (.cells #[] 5))
    go_enter Tryz.func62, Tryz.ntmps62
    go_wp2_with (at_builtin; refine wpList_append_src (by rfl) (.tmp 5) (.tmp 6) _ (by rfl) w.heap.size 5 i0 _ 1 1 Tryz.underlying53 hi hz0 hz1 hz2 rfl (by omega) (.slice (some ⟨w.heap.size, 0, none⟩) 0 0) 0 [] (by rfl) hown (.slice (some ad) bs.length c) bs.length (u8s bs) (by rfl) hsrc (u8s_one bs) (by simp only [maxLen]; omega) (by omega) (by simp) ?_; intro v1 w1 ho1 hg1 _)
    go_ret
    simp only [Nat.zero_add, List.nil_append] at ho1
    exact ⟨_, rfl, ho1, below_own ((Below.refl _ w).alloc (Nat.le_refl _) _) hg1 (by simp) (by intro g hg; cases hg; exact Nat.le_refl _)⟩
end Go.Proofs.YtppcdmbpbbjecaaGreat
