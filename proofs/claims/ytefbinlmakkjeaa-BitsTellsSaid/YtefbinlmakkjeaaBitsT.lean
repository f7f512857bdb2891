/- Contracts of the document's bits: with, a new byte. -/
import Derived.Test.YtefbinlmakkjeaaBitsS
namespace Go.Proofs.Ytefbinlmakkjeaa
open Go.RowKit Rf Mem Bv Bits Str
attribute [local go_sem ↓] run_max2 run_min2
set_option maxHeartbeats 1000000 in
set_option maxRecDepth 100000 in
theorem with_new (base : Nat) (v : Value) (B : List (BitVec 8)) (l : List Bool) (b : Bool) (w : World) (ho : w.ownsRow base 5 1 v B.length (u8s B)) (hH : Holds B l) (hl : l.length ≤ 1000000) (h8 : l.length % 8 = 0) (hbw : base ≤ w.heap.size) :
    Calls Try.prog 24 #[bv v (l.length : Int), .bool b] w (WithPost base v l b w) := by
  obtain ⟨i0, hi, hz0, hz1, hz2⟩ := info_parts info_u8
  have hvb : ∀ k, v.ownBlock = some k → k < w.heap.size := fun k hk => (own_base ho hk).2
  have hadd := holds_add hH b
  have hBl := hH.1
  obtain ⟨A, c, rfl, hc1, hc2⟩ := (sliceAt_of_own ho).form
  have hB : Below w.heap.size w ((w.alloc (.cells #[.slice A B.length c, .int .i64 (l.length : Int)] 24)).alloc (.cells #[.slice none 0 0, .int .i64 0] 24)) := below_step (below_new w _) (below_new _ _)
  have hg : ((w.alloc (.cells #[.slice A B.length c, .int .i64 (l.length : Int)] 24)).alloc (.cells #[.slice none 0 0, .int .i64 0] 24)).heap[w.heap.size]? = some _ := old_at (new_at rfl _) _
  have hr : ((w.alloc (.cells #[.slice A B.length c, .int .i64 (l.length : Int)] 24)).alloc (.cells #[.slice none 0 0, .int .i64 0] 24)).heap[w.heap.size + 1]? = some _ := new_at (by simp) _
  have hown := own_later (w' := (((w.alloc (.cells #[.slice A B.length c, .int .i64 (l.length : Int)] 24)).alloc (.cells #[.slice none 0 0, .int .i64 0] 24)).alloc (.cells #[.int .u8 0] 5))) ho (fun k hk => (Below.heap_alloc _ _ _ (by have := hvb k hk; simp; omega)).trans (hB.block k (hvb k hk)))
  have hne : (Value.slice A B.length c).ownBlock ≠ some w.heap.size := fun e => by have := hvb _ e; omega
  have hneR : (Value.slice A B.length c).ownBlock ≠ some (w.heap.size + 1) := fun e => by have := hvb _ e; omega
  have hm : (l.length : Int) % 8 = 0 := by omega
  have hm8 : (l.length : Int) / 8 = (B.length : Int) := by omega
  have hB0 : addB B l.length b = if b then (B ++ [0#8]).modify B.length (fun x => x ||| 128#8) else B ++ [0#8] := by unfold addB; simp [h8]
  rw [hB0] at hadd
  have hlenB : B.length ≤ 125001 := by omega
  have HADD := Lib.hid hadd
  have HVB := Lib.hid hvb
  have HK0 := Lib.hid ((Keep.of_below (S := fun k => (Value.slice A B.length c).ownBlock ≠ some k) hB (fun k h _ => h)).alloc (.cells #[.int .u8 0] 5))
  clear hH hBl hB0 hadd h8 ho hvb
  cases b
  · go_enter Try.func24, Try.ntmps24
    go_wp2_with (at_builtin; refine wpList_append_src (by rfl) (.tmp 10) (.tmp 11) _ (by rfl) base 5 i0 _ 1 1 Try.underlying22 hi hz0 hz1 hz2 rfl (by omega) (.slice A B.length c) B.length (u8s B) (by rfl) hown (.slice (some ⟨w.heap.size + 2, 0, none⟩) 1 1) 1 [.int .u8 0] (by rfl) (sliceAt_blk (new_at (by simp) _) rfl (by simp [maxLen])) (by simp [Value.oneCell']) (by simp only [maxLen]; omega) (by omega) (by simp; omega) ?_; intro v1 w1 ho1 hg1 hw1; obtain ⟨A1, k1, rfl, p1, p2⟩ := (sliceAt_of_own ho1).form; obtain ⟨g1, rfl⟩ := own_some ho1 (by omega); obtain ⟨hgne, hG1, hK1, hO1⟩ := add_facts hg hg1 hw1 hne (fun _ => Iff.rfl); obtain ⟨hgneR, hR1, _, _⟩ := add_facts hr hg1 hw1 hneR (fun _ => Iff.rfl); have HK1 := Lib.hid (HK0.out.grown hg1 (fun k hk _ h => h hk)); have hO2 : (Value.slice A B.length c).ownBlock = some g1 ∨ w.heap.size + 2 ≤ g1 := hO1.elim (fun h => h.elim (fun h => absurd h hgne) .inl) (fun h => .inr (by simpa using h)); have HO2 := Lib.hid hO2; clear hO1 hO2; have d0 := cell_at hG1 0; have d1 := cell_at hG1 1; have e0 := free_at hG1 0; have e1 := free_at hG1 1; have dr0 := cell_at hR1 0; have dr1 := cell_at hR1 1; have er0 := free_at hR1 0; have er1 := free_at hR1 1)
    refine bodyPost_ret (res_bits rfl rfl (set_at (set_at (g := w.heap.size + 1) (set_far (p := ⟨w.heap.size, 1, none⟩) (set_far (p := ⟨w.heap.size, 0, none⟩) hR1 (by simp) _) (by simp) _) 0 _) 1 _)) rfl ?_
    refine with_end (W := w1.setCell ⟨w.heap.size, 0, none⟩ (.slice (some ⟨g1, 0, none⟩) (B.length + 1) k1)) (set0 hG1) (own_set' (p := ⟨w.heap.size, 0, none⟩) (own_snoc ho1) (fun e => hgne (Option.some.inj e)) _) (by have h := HADD.out; rwa [if_neg (by simp)] at h) (HK1.out.setCell (by simp) _) (fun k hk => ?_) HVB.out
    cases hk
    exact HO2.out
  · have hor0 : Go.bits .or .u8 0 (128 / 2 ^ 0) = 128 := by decide
    go_enter Try.func24, Try.ntmps24
    go_wp2_with (at_builtin; refine wpList_append_src (by rfl) (.tmp 10) (.tmp 11) _ (by rfl) base 5 i0 _ 1 1 Try.underlying22 hi hz0 hz1 hz2 rfl (by omega) (.slice A B.length c) B.length (u8s B) (by rfl) hown (.slice (some ⟨w.heap.size + 2, 0, none⟩) 1 1) 1 [.int .u8 0] (by rfl) (sliceAt_blk (new_at (by simp) _) rfl (by simp [maxLen])) (by simp [Value.oneCell']) (by simp only [maxLen]; omega) (by omega) (by simp; omega) ?_; intro v1 w1 ho1 hg1 hw1; obtain ⟨A1, k1, rfl, p1, p2⟩ := (sliceAt_of_own ho1).form; obtain ⟨g1, rfl⟩ := own_some ho1 (by omega); obtain ⟨hgne, hG1, hK1, hO1⟩ := add_facts hg hg1 hw1 hne (fun _ => Iff.rfl); obtain ⟨hgneR, hR1, _, _⟩ := add_facts hr hg1 hw1 hneR (fun _ => Iff.rfl); have HK1 := Lib.hid (HK0.out.grown hg1 (fun k hk _ h => h hk)); have hO2 : (Value.slice A B.length c).ownBlock = some g1 ∨ w.heap.size + 2 ≤ g1 := hO1.elim (fun h => h.elim (fun h => absurd h hgne) .inl) (fun h => .inr (by simpa using h)); have HO2 := Lib.hid hO2; clear hO1 hO2; have d0 := cell_at hG1 0; have d1 := cell_at hG1 1; have e0 := free_at hG1 0; have e1 := free_at hG1 1; have dr0 := cell_at hR1 0; have dr1 := cell_at hR1 1; have er0 := free_at hR1 0; have er1 := free_at hR1 1)
    have hG2 := set0 (u := .slice (some ⟨g1, 0, none⟩) (B.length + 1) k1) hG1
    have ho2 := own_set' ho1 (p := ⟨w.heap.size, 0, none⟩) (fun e => hgne (Option.some.inj e)) (.slice (some ⟨g1, 0, none⟩) (B.length + 1) k1)
    have hR2 := set_far (p := ⟨w.heap.size, 0, none⟩) hR1 (by simp) (.slice (some ⟨g1, 0, none⟩) (B.length + 1) k1)
    have hK2 := HK1.out.setCell (p := ⟨w.heap.size, 0, none⟩) (by simp) (.slice (some ⟨g1, 0, none⟩) (B.length + 1) k1)
    clear d0 d1 e0 e1 dr0 dr1 er0 er1 ho1 hG1 hR1 hK1 HK1 hg1 hg hr hown HK0
    generalize w1.setCell ⟨w.heap.size, 0, none⟩ (.slice (some ⟨g1, 0, none⟩) (B.length + 1) k1) = w2 at *
    have d0 := cell_at hG2 0
    have d1 := cell_at hG2 1
    have e0 := free_at hG2 0
    have e1 := free_at hG2 1
    have dr0 := cell_at hR2 0
    have dr1 := cell_at hR2 1
    have er0 := free_at hR2 0
    have er1 := free_at hR2 1
    have cy := (ho2.cellAt B.length (by omega)).trans (last_zero B)
    have fy := ho2.frozenAt B.length
    have i1 : (0 : Int) ≤ (B.length : Int) := by omega
    have i2 : (B.length : Int) < (B.length : Int) + 1 := by omega
    have i3 : B.length < B.length + 1 := by omega
    have i4 : (l.length : Int) ≤ 1000000 := by omega
    have hwl : IntKind.i64.wrap (B.length : Int) = (B.length : Int) := IntWalk.i64_in _ (by omega)
    have HSH := Lib.hid (show min (IntKind.u64.wrap ((l.length : Int).tmod 8)).toNat 8 = 0 by rw [Int.tmod_eq_emod_of_nonneg (by omega), hm]; rfl)
    have HST := Lib.hid (ho2.stored B.length (.int .u8 128)).1
    go_still_tail 18, (by kernel_rfl)
    change wpList _ _ _ _ _ w2.drew
    simp only [HSH.out, hor0]
    go_wp2
    refine bodyPost_ret (res_bits rfl rfl (set_at (set_at (g := w.heap.size + 1) ((Below.heap_setCell _ ⟨w.heap.size, 1, none⟩ _ _ (by simp)).trans ((Below.heap_setCell w2.drew ⟨g1, B.length, none⟩ _ _ (by simp; omega)).trans hR2)) 0 _) 1 _)) rfl ?_
    have hadd := HADD.out
    simp only [if_true] at hadd
    have hD1 : ((B ++ [0#8]).modify B.length (fun x => x ||| 128#8)).length = B.length + 1 := by simp
    have hD2 : (u8s B ++ [Value.int .u8 0]).set B.length (.int .u8 128) = u8s ((B ++ [0#8]).modify B.length (fun x => x ||| 128#8)) := by
      have := u8s_modify (B ++ [0#8]) B.length 0#8 (fun x => x ||| 128#8) (by rw [List.getElem?_append_right (Nat.le_refl _), Nat.sub_self]; rfl)
      rw [← this]; simp [u8s]
    have hst := HST.out
    rw [hD2] at hst
    have hG3 : (w2.drew.setCell ⟨g1, B.length, none⟩ (.int .u8 128)).heap[w.heap.size]? = _ := (Below.heap_setCell w2.drew ⟨g1, B.length, none⟩ _ _ (by simp; omega)).trans hG2
    refine with_end (W := w2.drew.setCell ⟨g1, B.length, none⟩ (.int .u8 128)) hG3 (by rw [hD1]; exact hst) hadd (Keep.setCell (p := ⟨g1, B.length, none⟩) (Keep.drew hK2) (fun hlt h => ?_) _) (fun k hk => ?_) HVB.out
    · rcases HO2.out with h1 | h1
      · exact h h1
      · exact absurd hlt (by simp; omega)
    · cases hk
      exact HO2.out
theorem with_c (base : Nat) (v : Value) (B : List (BitVec 8)) (l : List Bool) (b : Bool) (w : World) (ho : w.ownsRow base 5 1 v B.length (u8s B)) (hH : Holds B l) (hl : l.length ≤ 1000000) (hbw : base ≤ w.heap.size) :
    Calls Try.prog 24 #[bv v (l.length : Int), .bool b] w (WithPost base v l b w) := by
  by_cases h8 : l.length % 8 = 0
  · exact with_new base v B l b w ho hH hl h8 hbw
  · exact with_old base v B l b w ho hH hl h8
end Go.Proofs.Ytefbinlmakkjeaa
