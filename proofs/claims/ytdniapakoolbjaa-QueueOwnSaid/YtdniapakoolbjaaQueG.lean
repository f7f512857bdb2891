/- Queues of numbers: the contract of Keep. Nothing that was there is turned. -/
import Derived.Test.YtdniapakoolbjaaQueF
namespace Go.Proofs.Ytdniapakoolbjaa
open Go.RowKit Rf Mem
attribute [local go_sem ↓] run_max2 run_min2
attribute [local go_sem] Oper.semAt_some
/-- what is kept of the first k -/
def kept (zs : List Int) (l : List Bool) (k : Nat) : List Int := ((List.range k).filter (mark l)).map (fun i => zs.getD i 0)
theorem kept_yes {zs : List Int} {l : List Bool} {k : Nat} (h : mark l k = true) : kept zs l (k + 1) = kept zs l k ++ [zs.getD k 0] := by
  unfold kept; rw [List.range_succ, List.filter_append, List.map_append]; simp [h]
theorem kept_no {zs : List Int} {l : List Bool} {k : Nat} (h : mark l k = false) : kept zs l (k + 1) = kept zs l k := by
  unfold kept; rw [List.range_succ, List.filter_append, List.map_append]; simp [h]
theorem kept_len (zs : List Int) (l : List Bool) (k : Nat) : (kept zs l k).length ≤ k := by
  unfold kept; rw [List.length_map]; have := List.length_filter_le (mark l) (List.range k); simpa using this
/-- block g holds a row of numbers that the call owns; O: these blocks -/
def BAcc (base g : Nat) (O : Nat → Prop) (w : World) (ys : List Int) : Prop :=
  ∃ v, w.heap[g]? = some (.cells #[v] 24 (0, 0)) ∧ w.ownsRow base 3 1 v ys.length (nums ys) ∧ v.ownBlock ≠ some g ∧ ∀ k, O k ↔ (k = g ∨ v.ownBlock = some k)
theorem bacc_keep {base g : Nat} {O S : Nat → Prop} {W W' : World} {l : List Int} (h : BAcc base g O W l) (hk : Keep S W W') (hS : ∀ k, O k → S k) : BAcc base g O W' l := by
  obtain ⟨v, hg, ho, hne, hO⟩ := h
  exact ⟨v, hk.at_ hg (hS g ((hO g).2 (.inl rfl))), own_later ho (fun k hk' => hk.block k (own_base ho hk').2 (hS k ((hO k).2 (.inr hk')))), hne, hO⟩
theorem load_row (W : World) (g : Nat) (x : Value) (h : W.cell? ⟨g, 0, none⟩ = some x) : (loadVar 24 ⟨g, 0, none⟩).run Try.prog W = .ok x W := by simp [go_sem, h]
theorem bodyPostM_row {fn : Func} {R : Ending → World → Prop} {t : Tmp} (hf : fn.results = #[.cell t 24]) {tmps : Array Value} {D g : Nat} {W : World} {x : Value} {e : TypeId} {f : Nat × Nat}
    (hD : W.heap[D]? = some (.deferred (some []))) (hs : tmps.getD t undef = .pointer (some ⟨g, 0, none⟩)) (hg : (W.putObj D (.deferred none)).heap[g]? = some (.cells #[x] e f))
    (h : R (.returned x) (W.putObj D (.deferred none))) :
    bodyPostM Fence.wide 0 Try.prog fn R .ret { tmps := tmps, defers := [{ target := .collected D, args := #[] }] } W := by
  refine ⟨by simp, .inl ⟨_, _, rfl, run_takeDeferred hD, ?_⟩⟩
  exact ⟨_, res_one (by intro W; simp [go_sem]) load_row hf hs hg, h⟩
set_option maxHeartbeats 1000000 in
set_option maxRecDepth 100000 in
theorem Keep_c (v u : Value) (zs : List Int) (l : List Bool) (w : World) (hs : SliceAt w 1 v zs.length (nums zs)) (hu : SliceAt w 1 u l.length (bools l)) (hl : zs.length ≤ 1000) (hl2 : l.length ≤ 1000) :
    Calls Try.prog 12 #[v, u] w fun e w' => Below w.heap.size w w' ∧ ∃ v', e = .returned v' ∧ w'.ownsRow w.heap.size 3 1 v' (kept zs l zs.length).length (nums (kept zs l zs.length)) := by
  obtain ⟨i0, hi, hz0, hz1, hz2⟩ := info_parts info_int
  obtain ⟨A, c, rfl, _⟩ := hs.form
  obtain ⟨B, d, rfl, _⟩ := hu.form
  refine (callsIn_wide (n := 0)).1 (callsIn_of_wp_marks Try.func12 rfl trivial ?_ rfl)
  refine wpIn_wide.2 ?_
  simp only [Try.ntmps12, List.size_toArray, List.length_cons, List.length_nil, Nat.reduceAdd, Nat.reduceSub, Array.replicate_succ, Array.replicate_zero, List.push_toArray, List.append_toArray, List.nil_append, List.cons_append]
  go_wp2_with fail
  refine (marked_c _ _ _ _ _ _ _).mono ?_
  rintro e W' ⟨rfl, rfl⟩
  go_wp2_with fail
  obtain ⟨W0, hW0⟩ : ∃ W0, W0 = ((w.alloc (.cells #[.slice none 0 0] 24)).alloc (.cells #[.slice A zs.length c] 24)).alloc (.cells #[.slice B l.length d] 54) := ⟨_, rfl⟩
  rw [← hW0]
  have hB0 : Below w.heap.size w W0 := by rw [hW0]; exact (((below_new w _)).alloc (by simp) _).alloc (by simp; omega) _
  have hsz0 : W0.heap.size = w.heap.size + 3 := by rw [hW0]; simp
  have G0 : W0.heap[w.heap.size]? = some (.cells #[.slice none 0 0] 24 (0, 0)) := by rw [hW0]; exact old_at (old_at (new_at rfl _) _) _
  have M : MPre W0 (w.heap.size + 1) (.slice A zs.length c) (.slice B l.length d) zs l :=
    ⟨by rw [hW0]; exact old_at (new_at (by simp) _) _, by rw [hW0]; exact new_at (by simp) _, hs.later hB0, hu.later hB0⟩
  have hvb : ∀ q, VB (.slice A zs.length c) zs.length q ∨ VB (.slice B l.length d) l.length q → q < w.heap.size := fun q hq => by
    rcases hq with hq | hq
    · exact vblock_lt hs hq
    · exact vblock_lt hu hq
  clear hW0
  refine wp_iter (xs := markL zs l) (Fp := fun _ => False) (Rd := MRd (w.heap.size + 1) (.slice A zs.length c) (.slice B l.length d) zs.length l.length) (gf := 20) (lb := #[.pointer (some ⟨w.heap.size + 1, 0, none⟩), .pointer (some ⟨w.heap.size + 1 + 1, 0, none⟩)]) rfl (enters Try.func20 (by kernel_rfl) rfl)
    (marked1 _ _ _ zs l hl hl2) ?hps
    (fun q O W => BAcc w.heap.size w.heap.size O W (kept zs l q) ∧ Below w.heap.size w W) (fun q => q = w.heap.size) ?hpre ?hO ?hFp ?hI ?h0
    (fun x => { tmps := #[.slice A zs.length c, .slice B l.length d, undef, undef, .pointer (some ⟨w.heap.size, 0, none⟩), x.getD 0 undef, x.getD 1 undef,
          .slice A zs.length c, .slice B l.length d, .func (.func 20) #[] #[.pointer (some ⟨w.heap.size + 1, 0, none⟩), .pointer (some ⟨w.heap.size + 1 + 1, 0, none⟩)], x.getD 0 undef, x.getD 1 undef, undef, undef, undef, undef, undef, undef], defers := [] }) ?assign ?body ?done
  case hps => intro x hx; simp only [markL, List.mem_map] at hx; obtain ⟨q, _, rfl⟩ := hx; rfl
  case hpre => exact fun W hW => M.keep (S := fun q => q < W0.heap.size) (Keep.of_below hW (fun _ h _ => h)) (fun q hq => M.lt hq)
  case hO =>
    rintro q rfl
    refine ⟨by omega, id, fun h => ?_⟩
    rcases h with h | h | h | h
    · omega
    · omega
    · have := hvb _ (.inl h); omega
    · have := hvb _ (.inr h); omega
  case hFp => rintro q ⟨⟩
  case hI =>
    rintro i O W W' ⟨h1, h2⟩ hk
    exact ⟨bacc_keep h1 hk (fun q h => .inl h), below_keep h2 hk (Nat.le_refl _) (fun q h => .inr ⟨by omega, id⟩)⟩
  case h0 =>
    refine ⟨⟨.slice none 0 0, G0, own_nil _ _ _ _, ?_, fun q => ⟨.inl, ?_⟩⟩, hB0⟩
    · intro e; cases e
    · rintro (h | h)
      · exact h
      · cases h
  case assign =>
    intro l' x W K hx hK
    simp only [markL, List.mem_map] at hx
    obtain ⟨q, _, rfl⟩ := hx
    unfold markV at hK ⊢
    gi_wp2
    exact hK
  case body =>
    rintro l' q x O W ho ⟨h1, h2⟩ hsz'
    have hq : q < zs.length := by have := (List.getElem?_eq_some_iff.1 ho).1; rwa [markL_length] at this
    rw [markL_at hq] at ho
    obtain rfl := Option.some.inj ho
    unfold markV
    simp only [show ∀ y z : Value, (#[y, z] : Array Value).getD 0 undef = y from fun _ _ => rfl, show ∀ y z : Value, (#[y, z] : Array Value).getD 1 undef = z from fun _ _ => rfl]
    have hkl := kept_len zs l q
    rcases hmk : mark l q with _ | _
    · have HT := Lib.hid (kept_no (zs := zs) hmk)
      clear hmk ho
      gi_wp2
      exact ⟨O, ⟨by rw [HT.out]; exact h1, h2⟩, fun k h => .inl h, Keep.refl _ _⟩
    · have HT := Lib.hid (kept_yes (zs := zs) hmk)
      clear hmk ho
      generalize kept zs l q = l0 at *
      generalize zs.getD q 0 = z at *
      obtain ⟨v, hg, ho, hne, hO2⟩ := h1
      obtain ⟨A0, c0, rfl, _⟩ := (sliceAt_of_own ho).form
      have e0 := cell_at hg 0
      have f0 := free_at hg 0
      have hgs : w.heap.size < W.heap.size := (Array.getElem?_eq_some_iff.1 hg).1
      have hown := own_later (w' := W.alloc (.cells #[.int .i64 z] 3)) ho (fun q hq => Below.heap_alloc _ _ _ (own_base ho hq).2)
      have hgA := old_at hg (.cells #[.int .i64 z] 3)
      gi_wp2_with (gi_at_builtin; refine wpListIn_append_src (by rfl) (.tmp 13) (.tmp 15) _ (by rfl) w.heap.size 3 i0 _ 1 8 Try.underlying24 hi hz0 hz1 hz2 rfl (by omega) (.slice A0 l0.length c0) l0.length (nums l0) (by rfl) hown (.slice (some ⟨W.heap.size, 0, none⟩) 1 1) 1 [.int .i64 z] (by rfl) (sliceAt_blk (new_at rfl _) rfl (by simp [maxLen])) (by simp [Value.oneCell']) (by simp only [maxLen]; omega) (by omega) (by simp; omega) ?_; intro v1 w2 ho1 hg1 hw1; obtain ⟨A1, k1, rfl, _, _⟩ := (sliceAt_of_own ho1).form; have hgB := (hg1.block _ (by simp; omega) (fun e => hne e.symm)).trans hgA; have e1 := cell_at hgB 0; have f1 := free_at hgB 0)
      have hnew : (W.alloc (.cells #[.int .i64 z] 3)).heap.size = W.heap.size + 1 := by simp
      have hne1 : (Value.slice A1 (l0.length + 1) k1).ownBlock ≠ some w.heap.size := by
        rcases hw1 with h | h
        · rw [h]; exact hne
        · rw [h, hnew]; intro e; have := Option.some.inj e; omega
      have hK : Keep (fun q => ¬ O q) W (w2.setCell ⟨w.heap.size, 0, none⟩ (.slice A1 (l0.length + 1) k1)) :=
        (((Keep.refl _ W).alloc _).grown hg1 (fun q hq _ h => h ((hO2 q).2 (.inr hq)))).setCell (fun _ h => h ((hO2 _).2 (.inl rfl))) _
      have el : (l0 ++ [z]).length = l0.length + 1 := by simp
      have eu : nums (l0 ++ [z]) = nums l0 ++ [.int .i64 z] := by simp [ints]
      refine ⟨fun q => q = w.heap.size ∨ (Value.slice A1 (l0.length + 1) k1).ownBlock = some q, ⟨?_, below_keep h2 hK (Nat.le_refl _) (fun q hq hOq => ?_)⟩, fun q hq => ?_, hK⟩
      · rw [HT.out]
        refine ⟨_, ?_, ?_, hne1, fun q => Iff.rfl⟩
        · rw [set_at hgB 0]; rfl
        · rw [el, eu]
          exact own_set ho1 hne1 _
      · rcases (hO2 q).1 hOq with h | h
        · omega
        · have := (own_base ho h).1; omega
      · rcases hq with h | h
        · exact .inl ((hO2 q).2 (.inl h))
        · rcases hw1 with h' | h'
          · rw [h'] at h; exact .inl ((hO2 q).2 (.inr h))
          · rw [h', hnew] at h; have := Option.some.inj h; exact .inr (by omega)
  case done =>
    rintro D O W ⟨h1, h2⟩ hD1 hD2
    rw [markL_length] at h1
    obtain ⟨v, hg, ho, hne, hO2⟩ := h1
    obtain ⟨l0, hl0⟩ : ∃ l0, kept zs l zs.length = l0 := ⟨_, rfl⟩
    rw [hl0] at ho
    have HL := Lib.hid hl0
    clear hl0
    obtain ⟨A0, c0, rfl, _⟩ := (sliceAt_of_own ho).form
    have e0 := cell_at hg 0
    have f0 := free_at hg 0
    have hDn : D ≠ w.heap.size := by omega
    go_wp2
    refine bodyPostM_row (t := 4) rfl (set_far hD2 hDn _) rfl ((World.putObj_heap_other (fun e => hDn e.symm)).trans (set_at hg 0 _)) ⟨below_putObj (h2.setCell (Nat.le_refl _) _) (by omega) _, _, rfl, ?_⟩
    rw [HL.out]
    exact own_later ho (fun k hk => (World.putObj_heap_other (ne_own hk (own_def ho hD2))).trans (Below.heap_setCell _ ⟨w.heap.size, 0, none⟩ _ k (ne_own hk hne)))
end Go.Proofs.Ytdniapakoolbjaa
