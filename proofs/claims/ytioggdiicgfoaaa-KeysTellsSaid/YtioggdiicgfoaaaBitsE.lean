/- Contract: add of one bit of bits, a new byte. -/
import Derived.Test.YtioggdiicgfoaaaBitsD
namespace Go.Proofs.Ytioggdiicgfoaaa
open Go.RowKit Rf Mem Bv Bits Str
attribute [local go_sem ↓] run_max2 run_min2
theorem set0 {W : World} {g : Nat} {x y u : Value} {T : TypeId} (h : W.heap[g]? = some (.cells #[x, y] T (0, 0))) : (W.setCell ⟨g, 0, none⟩ u).heap[g]? = some (.cells #[u, y] T (0, 0)) := by rw [set_at h 0]; simp
theorem own_snoc {W : World} {base e : Nat} {v : Value} {B : List (BitVec 8)} (h : W.ownsRow base e 1 v (B.length + 1) (u8s B ++ [.int .u8 0])) : W.ownsRow base e 1 v (B ++ [0#8]).length (u8s (B ++ [0#8])) := by
  have e1 : (B ++ [0#8]).length = B.length + 1 := by simp
  have e2 : u8s (B ++ [0#8]) = u8s B ++ [.int .u8 0] := by simp [u8s]
  rw [e1, e2]; exact h
theorem last_zero (B : List (BitVec 8)) : (u8s B ++ [Value.int .u8 0])[B.length]? = some (.int .u8 0) := by
  rw [List.getElem?_append_right (by simp [u8s])]; simp [u8s]
theorem add_facts {w w1 : World} {g g1 n k1 : Nat} {O : Nat → Prop} {v : Value} {cs : Array Value} {T : TypeId} {o : Obj} (hg : w.heap[g]? = some (.cells cs T (0, 0))) (hg1 : (w.alloc o).grownBy w1 v.ownBlock)
    (hw1 : (Value.slice (some ⟨g1, 0, none⟩) n k1).ownBlock = v.ownBlock ∨ (Value.slice (some ⟨g1, 0, none⟩) n k1).ownBlock = some (w.alloc o).heap.size) (hne : v.ownBlock ≠ some g) (hO : ∀ k, O k ↔ (k = g ∨ v.ownBlock = some k)) :
    g1 ≠ g ∧ w1.heap[g]? = some (.cells cs T (0, 0)) ∧ Keep (fun k => ¬ O k) w w1 ∧ (O g1 ∨ w.heap.size ≤ g1) := by
  have hgs : g < w.heap.size := (Array.getElem?_eq_some_iff.1 hg).1
  have e1 : (w.alloc o).heap.size = w.heap.size + 1 := by simp
  refine ⟨?_, ?_, ?_, ?_⟩
  · rintro rfl
    rcases hw1 with h | h
    · exact hne h.symm
    · rw [e1] at h; have := Option.some.inj h; simp at this; omega
  · exact (hg1.block g (by omega) (fun e => hne e.symm)).trans (old_at hg o)
  · exact ((Keep.refl _ w).alloc o).grown hg1 (fun k hk _ h => h ((hO k).2 (.inr hk)))
  · rcases hw1 with h | h
    · exact .inl ((hO g1).2 (.inr h.symm))
    · rw [e1] at h; have := Option.some.inj h; simp at this; exact .inr (by omega)
set_option maxHeartbeats 1000000 in
set_option maxRecDepth 100000 in
theorem add_new (base g : Nat) (O : Nat → Prop) (l : List Bool) (b : Bool) (w : World) (hA : Acc base g O w l) (hl : l.length ≤ 1000000) (h8 : l.length % 8 = 0) (hbw : base ≤ w.heap.size) :
    Calls Try.prog 48 #[.pointer (some ⟨g, 0, none⟩), .bool b] w fun e w' => e = .returned (.tuple #[]) ∧ ∃ O', Acc base g O' w' (l ++ [b]) ∧ Keep (fun k => ¬ O k) w w' ∧ ∀ k, O' k → O k ∨ w.heap.size ≤ k := by
  obtain ⟨i0, hi, hz0, hz1, hz2⟩ := info_parts info_u8
  obtain ⟨v, B, hg, ho, hH, hbg, hne, hO⟩ := hA
  have hadd := holds_add hH b
  have hBl := hH.1
  have hgs : g < w.heap.size := (Array.getElem?_eq_some_iff.1 hg).1
  obtain ⟨A, c, rfl, hc1, hc2⟩ := (sliceAt_of_own ho).form
  have c0 := cell_at hg 0
  have c1 := cell_at hg 1
  have f0 := free_at hg 0
  have f1 := free_at hg 1
  have hm : Go.bits .and .i64 (l.length : Int) 7 = 0 := by rw [mask7]; omega
  have hB0 : addB B l.length b = if b then (B ++ [0#8]).modify B.length (fun x => x ||| 128#8) else B ++ [0#8] := by unfold addB; simp [h8]
  rw [hB0] at hadd
  have hown := own_later (w' := w.alloc (.cells #[.int .u8 0] 5)) ho (fun k hk => Below.heap_alloc _ _ _ (own_base ho hk).2)
  have hlenB : B.length ≤ 125001 := by omega
  have HADD := Lib.hid hadd
  have HL := Lib.hid hBl
  clear hH hBl hB0 hadd h8
  cases b
  · go_enter Try.func48, Try.ntmps48
    go_wp2_with (at_builtin; refine wpList_append_src (by rfl) (.tmp 16) (.tmp 17) _ (by rfl) base 5 i0 _ 1 1 Try.underlying36 hi hz0 hz1 hz2 rfl (by omega) (.slice A B.length c) B.length (u8s B) (by rfl) hown (.slice (some ⟨w.heap.size, 0, none⟩) 1 1) 1 [.int .u8 0] (by rfl) (sliceAt_blk (new_at rfl _) rfl (by simp [maxLen])) (by simp [Value.oneCell']) (by simp only [maxLen]; omega) (by omega) (by simp; omega) ?_; intro v1 w1 ho1 hg1 hw1; obtain ⟨A1, k1, rfl, p1, p2⟩ := (sliceAt_of_own ho1).form; obtain ⟨g1, rfl⟩ := own_some ho1 (by omega); obtain ⟨hgne, hG1, hK1, hO1⟩ := add_facts hg hg1 hw1 hne hO; have d0 := cell_at hG1 0; have d1 := cell_at hG1 1; have e0 := free_at hG1 0; have e1 := free_at hG1 1; have cy := (ho1.cellAt B.length (by omega)).trans (last_zero B); have fy := ho1.frozenAt B.length)
    go_end0
    have hadd := HADD.out
    rw [if_neg (by simp)] at hadd
    have hO2 : (Value.slice (some ⟨g1, 0, none⟩) (B.length + 1) k1).ownBlock ≠ some g := fun e => hgne (Option.some.inj e)
    exact ⟨rfl, _, acc_done (set0 hG1) (own_snoc (own_later ho1 (fun k hk => Below.heap_setCell _ _ _ k (by rintro rfl; exact hO2 hk)))) hadd hbg hO2,
      (hK1.setCell (fun _ h => h ((hO g).2 (.inl rfl))) _).setCell (fun _ h => h ((hO g).2 (.inl rfl))) _, fun k hk => by
        rcases hk with rfl | hk
        · exact .inl ((hO k).2 (.inl rfl))
        · cases hk; exact hO1⟩
  · have hor : Go.bits .or .u8 0 128 = 128 := by decide
    go_enter Try.func48, Try.ntmps48
    go_wp2_with (at_builtin; refine wpList_append_src (by rfl) (.tmp 16) (.tmp 17) _ (by rfl) base 5 i0 _ 1 1 Try.underlying36 hi hz0 hz1 hz2 rfl (by omega) (.slice A B.length c) B.length (u8s B) (by rfl) hown (.slice (some ⟨w.heap.size, 0, none⟩) 1 1) 1 [.int .u8 0] (by rfl) (sliceAt_blk (new_at rfl _) rfl (by simp [maxLen])) (by simp [Value.oneCell']) (by simp only [maxLen]; omega) (by omega) (by simp; omega) ?_; intro v1 w1 ho1 hg1 hw1; obtain ⟨A1, k1, rfl, p1, p2⟩ := (sliceAt_of_own ho1).form; obtain ⟨g1, rfl⟩ := own_some ho1 (by omega); obtain ⟨hgne, hG1, hK1, hO1⟩ := add_facts hg hg1 hw1 hne hO; have d0 := cell_at hG1 0; have d1 := cell_at hG1 1; have e0 := free_at hG1 0; have e1 := free_at hG1 1; have cy := (ho1.cellAt B.length (by omega)).trans (last_zero B); have fy := ho1.frozenAt B.length)
    have hO2 : (Value.slice (some ⟨g1, 0, none⟩) (B.length + 1) k1).ownBlock ≠ some g := fun e => hgne (Option.some.inj e)
    have hG2 := set0 (u := .slice (some ⟨g1, 0, none⟩) (B.length + 1) k1) hG1
    have ho2 := own_later (w' := w1.setCell ⟨g, 0, none⟩ (.slice (some ⟨g1, 0, none⟩) (B.length + 1) k1)) ho1 (fun k hk => Below.heap_setCell _ _ _ k (by rintro rfl; exact hO2 hk))
    have hK2 := hK1.setCell (p := ⟨g, 0, none⟩) (fun _ h => h ((hO g).2 (.inl rfl))) (.slice (some ⟨g1, 0, none⟩) (B.length + 1) k1)
    clear d0 d1 e0 e1 cy fy ho1 hG1 hK1 hg1 c0 c1 f0 f1 hg ho hown
    generalize w1.setCell ⟨g, 0, none⟩ (.slice (some ⟨g1, 0, none⟩) (B.length + 1) k1) = w2 at *
    have d0 := cell_at hG2 0
    have d1 := cell_at hG2 1
    have e0 := free_at hG2 0
    have e1 := free_at hG2 1
    have cy := (ho2.cellAt B.length (by omega)).trans (last_zero B)
    have fy := ho2.frozenAt B.length
    have i1 : (0 : Int) ≤ (B.length : Int) := by omega
    have i2 : (B.length : Int) < (B.length : Int) + 1 := by omega
    have i3 : B.length < B.length + 1 := by omega
    have hwl : IntKind.i64.wrap (B.length : Int) = (B.length : Int) := IntWalk.i64_in _ (by omega)
    go_still_tail 15, (by kernel_rfl)
    change wpList _ _ _ _ _ w2.drew
    go_wp2
    go_end0
    have hadd := HADD.out
    simp only [if_true] at hadd
    have hst := (ho2.stored B.length (.int .u8 128)).1
    have hD1 : ((B ++ [0#8]).modify B.length (fun x => x ||| 128#8)).length = B.length + 1 := by simp
    have hD2 : (u8s B ++ [Value.int .u8 0]).set B.length (.int .u8 128) = u8s ((B ++ [0#8]).modify B.length (fun x => x ||| 128#8)) := by
      have := u8s_modify (B ++ [0#8]) B.length 0#8 (fun x => x ||| 128#8) (by rw [List.getElem?_append_right (Nat.le_refl _), Nat.sub_self]; rfl)
      rw [← this]; simp [u8s]
    rw [hD2, ← hD1] at hst
    have hG3 : (w2.setCell ⟨g1, B.length, none⟩ (.int .u8 128)).drew.heap[g]? = some (.cells #[.slice (some ⟨g1, 0, none⟩) (B.length + 1) k1, .int .i64 (l.length : Int)] 62 (0, 0)) := set_far hG2 (fun e => hgne e.symm) _
    rw [← hD1] at hG3 hO2
    refine ⟨rfl, _, acc_done (W := (w2.setCell ⟨g1, B.length, none⟩ (.int .u8 128)).drew) hG3 hst hadd hbg hO2, ?_, fun k hk => ?_⟩
    · refine Keep.drew (Keep.setCell (Keep.setCell hK2 ?_ _) (fun _ h => h ((hO g).2 (.inl rfl))) _)
      intro hlt h
      rcases hO1 with h1 | h1
      · exact h h1
      · exact absurd hlt (Nat.not_lt.2 h1)
    · rcases hk with rfl | hk
      · exact .inl ((hO k).2 (.inl rfl))
      · cases hk; exact hO1
theorem add_c (base g : Nat) (O : Nat → Prop) (l : List Bool) (b : Bool) (w : World) (hA : Acc base g O w l) (hl : l.length ≤ 1000000) (hbw : base ≤ w.heap.size) :
    Calls Try.prog 48 #[.pointer (some ⟨g, 0, none⟩), .bool b] w fun e w' => e = .returned (.tuple #[]) ∧ ∃ O', Acc base g O' w' (l ++ [b]) ∧ Keep (fun k => ¬ O k) w w' ∧ ∀ k, O' k → O k ∨ w.heap.size ≤ k := by
  by_cases h8 : l.length % 8 = 0
  · exact add_new base g O l b w hA hl h8 hbw
  · exact add_old base g O l b w hA hl h8
end Go.Proofs.Ytioggdiicgfoaaa
