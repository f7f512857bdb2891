/- Sections that a route holds: contracts of Sections, Has. Nothing that was there is turned. -/
import Derived.Test.YtppcdmbpbbjecaaGreatShI
namespace Go.Proofs.YtppcdmbpbbjecaaGreat
open Go.RowKit Rf Mem Bv AM
attribute [local go_sem ↓] run_max2 run_min2
attribute [local go_sem] Oper.semAt_some
theorem int_info : (Tryz.prog.info? 3).map (fun i => (i.zero, i.size, i.bytes)) = some (some (.int .i64 0), 1, 8) := by kernel_rfl
theorem own_kind {W : World} {base e sz n : Nat} {v : Value} {xs : List Value} (h : W.ownsRow base e sz v n xs) {g : Nat} (hg : v.ownBlock = some g) : ∃ cur, W.heap[g]? = some (.cells cur e (0, 0)) := by
  obtain ⟨_, h⟩ := h
  rcases h with ⟨rfl, _⟩ | ⟨g', cap, cur, rfl, _, hh, _⟩
  · cases hg
  · cases hg; exact ⟨cur, hh⟩
theorem own_nodef {W : World} {base e sz n D : Nat} {v : Value} {xs : List Value} {d : Option (List Deferred)} (h : W.ownsRow base e sz v n xs) (hD : W.heap[D]? = some (.deferred d)) : v.ownBlock ≠ some D := fun hg => by
  obtain ⟨cur, hc⟩ := own_kind h hg
  rw [hD] at hc; cases hc
theorem ne_block {v : Value} {k g : Nat} (h : v.ownBlock = some k) (hn : v.ownBlock ≠ some g) : k ≠ g := fun e => hn (by rw [← e]; exact h)
theorem own_away {w : World} {base e sz n : Nat} {v : Value} {xs : List Value} (h : w.ownsRow base e sz v n xs) {p : Addr} (hp : v.ownBlock ≠ some p.block) (u : Value) : (w.setCell p u).ownsRow base e sz v n xs :=
  own_later h (fun g hg => Below.heap_setCell w p u g (fun e => hp (e ▸ hg)))
theorem res_irow {fn : Func} {t : Tmp} (hf : fn.results = #[.cell t 42]) {tmps : Array Value} {W : World} {g : Nat} {x : Value} {e : TypeId} {f : Nat × Nat} (hs : tmps.getD t undef = .pointer (some ⟨g, 0, none⟩)) (hg : W.heap[g]? = some (.cells #[x] e f)) :
    (results fn tmps).run Tryz.prog W = .ok x W := by
  have hs' : tmps[t]?.getD undef = .pointer (some ⟨g, 0, none⟩) := by simpa using hs
  have c0 := cell_at hg 0
  simp only [List.getElem?_toArray, List.getElem?_cons_zero] at c0
  have hl : (loadVar 42 ⟨g, 0, none⟩).run Tryz.prog W = .ok x W := by simp [go_sem, c0]
  simp [results, hf, hs', asAddr, hl]
theorem bodyPostM_irow {fn : Func} {R : Ending → World → Prop} {t : Tmp} (hf : fn.results = #[.cell t 42]) {tmps : Array Value} {D g : Nat} {W : World} {x : Value} {e : TypeId} {f : Nat × Nat}
    (hD : W.heap[D]? = some (.deferred (some []))) (hs : tmps.getD t undef = .pointer (some ⟨g, 0, none⟩)) (hg : (W.putObj D (.deferred none)).heap[g]? = some (.cells #[x] e f))
    (h : R (.returned x) (W.putObj D (.deferred none))) :
    bodyPostM Fence.wide 0 Tryz.prog fn R .ret { tmps := tmps, defers := [{ target := .collected D, args := #[] }] } W := by
  refine ⟨by simp, .inl ⟨_, _, rfl, run_takeDeferred hD, ?_⟩⟩
  exact ⟨_, res_irow hf hs hg, h⟩
/-- block g holds a row of numbers that the call owns; O: these blocks -/
def IAcc (base g : Nat) (O : Nat → Prop) (w : World) (ys : List Int) : Prop :=
  ∃ v, w.heap[g]? = some (.cells #[v] 42 (0, 0)) ∧ w.ownsRow base 3 1 v ys.length (ints .i64 ys) ∧ v.ownBlock ≠ some g ∧ ∀ k, O k ↔ (k = g ∨ v.ownBlock = some k)
theorem iacc_keep {base g : Nat} {O S : Nat → Prop} {W W' : World} {l : List Int} (h : IAcc base g O W l) (hk : Keep S W W') (hS : ∀ k, O k → S k) : IAcc base g O W' l := by
  obtain ⟨v, hg, ho, hne, hO⟩ := h
  exact ⟨v, hk.at_ hg (hS g ((hO g).2 (.inl rfl))), own_later ho (fun k hk' => hk.block k (own_base ho hk').2 (hS k ((hO k).2 (.inr hk')))), hne, hO⟩
theorem sectionsF_c (cs : List Value) (w : World) : Calls Tryz.prog 127 #[.agg cs.toArray] w fun e W' => e = .returned (.func (.func 133) #[] #[.pointer (some ⟨w.heap.size, 0, none⟩)]) ∧ w.alloc (.cells cs.toArray 75) = W' := by
  obtain h | h : True ∨ True := .inl trivial
  all_goals
    go_enter Tryz.func127, Tryz.ntmps127
    go_wp2
    go_ret
    exact ⟨rfl, rfl⟩
set_option maxHeartbeats 1000000 in
set_option maxRecDepth 100000 in
theorem Sections_c (cs : List Value) (q : HeldM) (w : World) (hH : HeldAt w cs q) (hl1 : q.steps.length ≤ 5864062014700) (hl2 : q.over.length ≤ 5864062014700) :
    Calls Tryz.prog 119 #[.agg cs.toArray] w fun e w' => Below w.heap.size w w' ∧ ∃ A c, e = .returned (.slice A (secsL q).length c) ∧ SliceAt w' 1 (.slice A (secsL q).length c) (secsL q).length (ints .i64 (secsL q)) := by
  obtain ⟨i0, hi, hz0, hz1, hz2⟩ := info_parts int_info
  have szH := held_size hH.len
  obtain ⟨W0, hW0⟩ : ∃ W0, (w.alloc (.cells cs.toArray 75)).alloc (.cells #[.slice none 0 0] 42) = W0 := ⟨_, rfl⟩
  have B0 : Below w.heap.size w W0 := by rw [← hW0]; exact below_step (below_new _ _) (below_new _ _)
  have V0 : W0.heap[w.heap.size]? = some (.cells cs.toArray 75 (0, 0)) := by rw [← hW0]; exact old_at (new_at rfl _) _
  have V1 : W0.heap[w.heap.size + 1]? = some (.cells #[.slice none 0 0] 42 (0, 0)) := by rw [← hW0]; exact new_at (by simp) _
  have s4 : W0.heap.size = w.heap.size + 2 := by rw [← hW0]; simp
  have RH := range_of V0
  have hsl2 : (secsL q).length ≤ 11728124029400 := by
    unfold secsL
    rw [List.length_append, List.length_map, List.length_drop]
    have : (if q.opn then ([] : List Int) else q.over.map (·.1)).length ≤ q.over.length := by split <;> simp
    omega
  have hit := sections1 w cs q W0.heap.size hH hl1 hl2
  obtain ⟨sl, hsl⟩ : ∃ s, secsL q = s := ⟨_, rfl⟩
  rw [hsl] at hit hsl2 ⊢
  have HIT := Lib.hid hit
  have HW0 := Lib.hid hW0
  clear hW0 hit hH hl1 hl2 hsl
  refine (callsIn_wide (n := 0)).1 (callsIn_of_wp_marks Tryz.func119 rfl trivial ?_ rfl)
  refine wpIn_wide.2 ?_
  simp only [Tryz.ntmps119, List.size_toArray, List.length_cons, List.length_nil, Nat.reduceAdd, Nat.reduceSub, Array.replicate_succ, Array.replicate_zero, List.push_toArray, List.append_toArray, List.nil_append, List.cons_append]
  go_wp2_with (first
    | (rw [HW0.out]; refine wpList_load_g (by rfl) 75 (.tmp 1) (by rfl) w.heap.size 0 (by rfl) cs _ RH Tryz.underlying75 rfl szH ?_)
    | fail)
  refine (sectionsF_c cs _).mono ?_
  rintro e W1 ⟨rfl, hW1⟩
  have b1 : Below W0.heap.size W0 W1 := by rw [← hW1]; exact below_new _ _
  have B1 := below_step B0 b1
  have s5 : W1.heap.size = W0.heap.size + 1 := by rw [← hW1]; simp
  have PP : SPre w W1 W0.heap.size cs := ⟨B1, by rw [← hW1]; exact new_at rfl _⟩
  have X1 := var_later V1 b1
  have PH := Lib.hid PP
  have HS4 := Lib.hid s4
  have HS5 := Lib.hid s5
  clear hW1 b1 RH V0 V1 B0 PP HW0 s4 s5
  generalize W0.heap.size = g0 at *
  go_wp2_with fail
  refine wp_iter (xs := intL sl) (Fp := fun _ => False) (Rd := SRd w.heap.size g0) (gf := 133) (lb := #[.pointer (some ⟨g0, 0, none⟩)]) rfl (enters Tryz.func133 (by kernel_rfl) rfl) HIT.out ?hps
    (fun i O W => IAcc (w.heap.size + 1) (w.heap.size + 1) O W (sl.take i) ∧ Below w.heap.size w W) (fun k => k = w.heap.size + 1) ?hpre ?hO ?hFp ?hI ?h0
    (fun x => { tmps := #[.agg cs.toArray, .pointer (some ⟨w.heap.size, 0, none⟩), .pointer (some ⟨w.heap.size + 1, 0, none⟩), x.getD 0 undef, .agg cs.toArray, .func (.func 133) #[] #[.pointer (some ⟨g0, 0, none⟩)], x.getD 0 undef, undef, undef, undef, undef, undef], defers := [] }) ?assign ?body ?done
  case hps => intro z hz; simp only [intL, List.mem_map] at hz; obtain ⟨p, _, rfl⟩ := hz; rfl
  case hpre => exact fun W hW => PH.out.keep (Keep.of_below (S := fun k => k < W1.heap.size) hW (fun _ h _ => h)) (fun q hq => PH.out.lt hq)
  case hO =>
    rintro k rfl
    have h4 := HS4.out
    have h5 := HS5.out
    exact ⟨by omega, id, fun h => by unfold SRd at h; omega⟩
  case hFp => rintro k ⟨⟩
  case hI =>
    rintro i O W W' ⟨h1, h2⟩ hk
    have h4 := HS4.out
    have h5 := HS5.out
    exact ⟨iacc_keep h1 hk (fun k hk => .inl hk), below_keep h2 hk (Nat.le_refl _) (fun q hq => .inr ⟨by omega, id⟩)⟩
  case h0 =>
    refine ⟨⟨.slice none 0 0, X1, own_nil _ _ _ _, ?_, fun k => ⟨.inl, ?_⟩⟩, B1⟩
    · intro e; cases e
    · rintro (h | h)
      · exact h
      · cases h
  case assign =>
    intro l' x W K hx hK
    simp only [intL, List.mem_map] at hx
    obtain ⟨z, _, rfl⟩ := hx
    gi_wp2
    exact hK
  case body =>
    rintro l' i x O W hx ⟨h1, h2⟩ hsz'
    have hi' : i < sl.length := by have := (List.getElem?_eq_some_iff.1 hx).1; simpa [intL] using this
    obtain ⟨z, hz⟩ : ∃ z, sl[i]? = some z := ⟨_, List.getElem?_eq_getElem hi'⟩
    have hxz : x = #[.int .i64 z] := by rw [intL, List.getElem?_map, hz] at hx; exact (Option.some.inj hx).symm
    subst hxz
    have HT := Lib.hid (show sl.take (i + 1) = sl.take i ++ [z] by rw [List.take_add_one, hz]; rfl)
    simp only [show ∀ y : Value, (#[y] : Array Value).getD 0 undef = y from fun _ => rfl]
    have hll : (sl.take i).length ≤ 11728124029399 := by rw [List.length_take]; omega
    clear hx hz
    generalize sl.take i = l0 at *
    obtain ⟨v, hg, ho, hne, hO2⟩ := h1
    obtain ⟨A0, c0, rfl, _⟩ := (sliceAt_of_own ho).form
    have e0 := cell_at hg 0
    have f0 := free_at hg 0
    have hgs : w.heap.size + 1 < W.heap.size := (Array.getElem?_eq_some_iff.1 hg).1
    have hown := own_later (w' := W.alloc (.cells #[.int .i64 z] 3)) ho (fun q hq => Below.heap_alloc _ _ _ (own_base ho hq).2)
    have hgA := old_at hg (.cells #[.int .i64 z] 3)
    gi_wp2_with (gi_at_builtin; refine wpListIn_append_src (by rfl) (.tmp 7) (.tmp 9) _ (by rfl) (w.heap.size + 1) 3 i0 _ 1 8 Tryz.underlying42 hi hz0 hz1 hz2 rfl (by omega) (.slice A0 l0.length c0) l0.length (ints .i64 l0) (by rfl) hown (.slice (some ⟨W.heap.size, 0, none⟩) 1 1) 1 [.int .i64 z] (by rfl) (sliceAt_blk (new_at rfl _) rfl (by simp [maxLen])) (by simp [Value.oneCell']) (by simp only [maxLen]; omega) (by omega) (by simp; omega) ?_; intro v1 w2 ho1 hg1 hw1; obtain ⟨A1, k1, rfl, _, _⟩ := (sliceAt_of_own ho1).form; have hgB := (hg1.block _ (by simp; omega) (fun e => hne e.symm)).trans hgA; have e1 := cell_at hgB 0; have f1 := free_at hgB 0)
    have hnew : (W.alloc (.cells #[.int .i64 z] 3)).heap.size = W.heap.size + 1 := by simp
    have hne1 : (Value.slice A1 (l0.length + 1) k1).ownBlock ≠ some (w.heap.size + 1) := by
      rcases hw1 with h | h
      · rw [h]; exact hne
      · rw [h, hnew]; intro e; have := Option.some.inj e; omega
    have hK : Keep (fun q => ¬ O q) W (w2.setCell ⟨w.heap.size + 1, 0, none⟩ (.slice A1 (l0.length + 1) k1)) :=
      (((Keep.refl _ W).alloc _).grown hg1 (fun q hq _ h => h ((hO2 q).2 (.inr hq)))).setCell (fun _ h => h ((hO2 _).2 (.inl rfl))) _
    have el : (l0 ++ [z]).length = l0.length + 1 := by simp
    have eu : ints .i64 (l0 ++ [z]) = ints .i64 l0 ++ [.int .i64 z] := by simp [ints]
    refine ⟨fun q => q = w.heap.size + 1 ∨ (Value.slice A1 (l0.length + 1) k1).ownBlock = some q, ⟨?_, below_keep h2 hK (Nat.le_refl _) (fun q hq hOq => ?_)⟩, fun q hq => ?_, hK⟩
    · rw [HT.out]
      refine ⟨_, ?_, ?_, hne1, fun q => Iff.rfl⟩
      · rw [set_at hgB 0]; rfl
      · rw [el, eu]
        exact own_away ho1 hne1 _
    · rcases (hO2 q).1 hOq with h | h
      · omega
      · have := (own_base ho h).1; omega
    · rcases hq with h | h
      · exact .inl ((hO2 q).2 (.inl h))
      · rcases hw1 with h' | h'
        · rw [h'] at h; exact .inl ((hO2 q).2 (.inr h))
        · rw [h', hnew] at h; have := Option.some.inj h; exact .inr (by omega)
  case done =>
    rintro D O W ⟨h1, h2⟩ hD1 hD2
    have h4 := HS4.out
    have h5 := HS5.out
    rw [show (intL sl).length = sl.length from by simp [intL], List.take_length] at h1
    obtain ⟨v, hg, ho, hne, hO2⟩ := h1
    obtain ⟨A0, c0, rfl, _⟩ := (sliceAt_of_own ho).form
    have e0 := cell_at hg 0
    have f0 := free_at hg 0
    have hDn : D ≠ w.heap.size + 1 := by omega
    go_wp2
    refine bodyPostM_irow (t := 2) rfl (set_far hD2 hDn _) rfl ((World.putObj_heap_other (fun e => hDn e.symm)).trans (set_at hg 0 _)) ⟨below_putObj (h2.setCell (by simp) _) (by omega) _, _, _, rfl, ?_⟩
    exact sliceAt_of_own (own_later ho (fun k hk => (World.putObj_heap_other (ne_block hk (own_nodef ho hD2))).trans (Below.heap_setCell _ ⟨w.heap.size + 1, 0, none⟩ _ k (ne_block hk hne))))
end Go.Proofs.YtppcdmbpbbjecaaGreat
