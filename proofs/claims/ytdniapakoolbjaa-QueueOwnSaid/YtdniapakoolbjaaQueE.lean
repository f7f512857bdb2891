/- Queues of numbers: the contract of Parts. Nothing that was there is turned. -/
import Derived.Test.YtdniapakoolbjaaQueD
namespace Go.Proofs.Ytdniapakoolbjaa
open Go.RowKit Rf Mem
attribute [local go_sem ↓] run_max2 run_min2
attribute [local go_sem] Oper.semAt_some
theorem res_one {fn : Func} {t : Tmp} {ty : TypeId} (ht : ∀ W : World, (Go.sizeOf ty).run Try.prog W = .ok 1 W) (hl : ∀ (W : World) (g : Nat) (x : Value), W.cell? ⟨g, 0, none⟩ = some x → (loadVar ty ⟨g, 0, none⟩).run Try.prog W = .ok x W)
    (hf : fn.results = #[.cell t ty]) {tmps : Array Value} {W : World} {g : Nat} {x : Value} {e : TypeId} {f : Nat × Nat} (hs : tmps.getD t undef = .pointer (some ⟨g, 0, none⟩)) (hg : W.heap[g]? = some (.cells #[x] e f)) :
    (results fn tmps).run Try.prog W = .ok x W := by
  have hs' : tmps[t]?.getD undef = .pointer (some ⟨g, 0, none⟩) := by simpa using hs
  have c0 := cell_at hg 0
  simp only [List.getElem?_toArray, List.getElem?_cons_zero] at c0
  simp [results, hf, hs', asAddr, hl W g x c0]
theorem load_rows (W : World) (g : Nat) (x : Value) (h : W.cell? ⟨g, 0, none⟩ = some x) : (loadVar 35 ⟨g, 0, none⟩).run Try.prog W = .ok x W := by simp [go_sem, h]
theorem bodyPostM_rows {fn : Func} {R : Ending → World → Prop} {t : Tmp} (hf : fn.results = #[.cell t 35]) {tmps : Array Value} {D g : Nat} {W : World} {x : Value} {e : TypeId} {f : Nat × Nat}
    (hD : W.heap[D]? = some (.deferred (some []))) (hs : tmps.getD t undef = .pointer (some ⟨g, 0, none⟩)) (hg : (W.putObj D (.deferred none)).heap[g]? = some (.cells #[x] e f))
    (h : R (.returned x) (W.putObj D (.deferred none))) :
    bodyPostM Fence.wide 0 Try.prog fn R .ret { tmps := tmps, defers := [{ target := .collected D, args := #[] }] } W := by
  refine ⟨by simp, .inl ⟨_, _, rfl, run_takeDeferred hD, ?_⟩⟩
  exact ⟨_, res_one (by intro W; simp [go_sem]) load_rows hf hs hg, h⟩
theorem own_def {W : World} {base e sz n D : Nat} {v : Value} {xs : List Value} {d : Option (List Deferred)} (h : W.ownsRow base e sz v n xs) (hD : W.heap[D]? = some (.deferred d)) : v.ownBlock ≠ some D := fun hg => by
  obtain ⟨cur, hc⟩ := own_type h hg
  rw [hD] at hc; cases hc
theorem ne_own {v : Value} {k g : Nat} (h : v.ownBlock = some k) (hn : v.ownBlock ≠ some g) : k ≠ g := fun e => hn (by rw [← e]; exact h)
/-- what Parts answers -/
def PartsR (w w' : World) (v : Value) (n : Nat) (zs : List Int) : Prop :=
  ∃ vs : List Value, w'.ownsRow w.heap.size 24 1 v (chunks n zs.length) vs ∧ ∀ i u, vs[i]? = some u → w'.ownsRow w.heap.size 3 1 u (part n zs i).length (nums (part n zs i))
def wide (most : Int) (len : Nat) : Nat := if most < 1 then max len 1 else most.toNat
set_option maxHeartbeats 1000000 in
set_option maxRecDepth 100000 in
theorem Parts_c (v : Value) (most : Int) (zs : List Int) (w : World) (hs : SliceAt w 1 v zs.length (nums zs)) (hl : zs.length ≤ 1000) (hm : most ≤ 9223372036854775807) :
    Calls Try.prog 11 #[v, .int .i64 most] w fun e w' => Below w.heap.size w w' ∧ ∃ v', e = .returned v' ∧ PartsR w w' v' (wide most zs.length) zs := by
  obtain ⟨i0, hi, hz0, hz1, hz2⟩ := info_parts info_sl
  obtain ⟨n, hn⟩ : ∃ n, wide most zs.length = n := ⟨_, rfl⟩
  have hn0 : 0 < n := by rw [← hn]; unfold wide; split <;> omega
  have hn2 : n ≤ 9223372036854775807 := by rw [← hn]; unfold wide; split <;> omega
  have hcase : (decide (most < 1) = true ∧ max (zs.length : Int) 1 = (n : Int)) ∨ (decide (most < 1) = false ∧ most = (n : Int)) := by
    rw [← hn]; unfold wide
    by_cases h : most < 1
    · left; rw [if_pos h]; exact ⟨decide_eq_true h, by omega⟩
    · right; rw [if_neg h]; exact ⟨decide_eq_false h, by omega⟩
  rw [hn]
  clear hn
  have hs' := hs
  obtain ⟨A, c, rfl, hc1, hc2, hc3, hc4⟩ := hs'
  obtain ⟨b, off, hA⟩ : ∃ b off, zs.length = 0 ∨ A = some ⟨b, off, none⟩ := by
    rcases hc4 with h | ⟨b, off, rfl, _⟩
    · exact ⟨0, 0, .inl h⟩
    · exact ⟨b, off, .inr rfl⟩
  have hb0 := below_new w (.cells #[.slice none 0 0] 35)
  have HS := Lib.hid hs
  clear hs hc2 hc3 hc4
  rcases hcase with ⟨q1, q2⟩ | ⟨q1, rfl⟩
  · skip
    refine (callsIn_wide (n := 0)).1 (callsIn_of_wp_marks Try.func11 rfl trivial ?_ rfl)
    refine wpIn_wide.2 ?_
    simp only [Try.ntmps11, List.size_toArray, List.length_cons, List.length_nil, Nat.reduceAdd, Nat.reduceSub, Array.replicate_succ, Array.replicate_zero, List.push_toArray, List.append_toArray, List.nil_append, List.cons_append]
    go_wp2_with fail
    refine (Chunk_c _ _ _ _ _ (by omega)).mono ?_
    rintro e W' ⟨rfl, rfl⟩
    go_wp2_with fail
    obtain ⟨W0, hW0⟩ : ∃ W0, W0 = ((w.alloc (.cells #[.slice none 0 0] 35)).alloc (.cells #[.slice A zs.length c] 24)).alloc (.cells #[.int .i64 n] 3) := ⟨_, rfl⟩
    rw [← hW0]
    have hB0 : Below w.heap.size w W0 := by rw [hW0]; exact ((hb0).alloc (by simp) _).alloc (by simp; omega) _
    have hsz0 : W0.heap.size = w.heap.size + 3 := by rw [hW0]; simp
    have G0 : W0.heap[w.heap.size]? = some (.cells #[.slice none 0 0] 35 (0, 0)) := by rw [hW0]; exact old_at (old_at (new_at rfl _) _) _
    have G1 : W0.heap[w.heap.size + 1]? = some (.cells #[.slice A zs.length c] 24 (0, 0)) := by rw [hW0]; exact old_at (new_at (by simp) _) _
    have G2 : W0.heap[w.heap.size + 1 + 1]? = some (.cells #[.int .i64 n] 3 (0, 0)) := by rw [hW0]; exact new_at (by simp) _
    clear hW0
    refine wp_iter (xs := chunkL b off n zs.length) (Fp := fun _ => False) (Rd := fun q => q = w.heap.size + 1 ∨ q = w.heap.size + 1 + 1) (gf := 19) (lb := #[.pointer (some ⟨w.heap.size + 1, 0, none⟩), .pointer (some ⟨w.heap.size + 1 + 1, 0, none⟩)]) rfl (enters Try.func19 (by kernel_rfl) rfl)
      (chunk1 _ A b off c n zs.length hA hn0 hn2 hl hc1) ?hps
      (fun q O W => (∃ v vs, PAcc w.heap.size w.heap.size n zs q O W v vs) ∧ Below w.heap.size w W) (fun q => q = w.heap.size) ?hpre ?hO ?hFp ?hI ?h0
      (fun x => { tmps := #[.slice A zs.length c, .int .i64 n, undef, undef, .pointer (some ⟨w.heap.size, 0, none⟩), x.getD 0 undef, .int .i64 most, .bool true, .slice A zs.length c, .int .i64 zs.length, .int .i64 n,
            .slice A zs.length c, .int .i64 n, .func (.func 19) #[] #[.pointer (some ⟨w.heap.size + 1, 0, none⟩), .pointer (some ⟨w.heap.size + 1 + 1, 0, none⟩)], x.getD 0 undef, undef, undef, undef, undef, undef, undef], defers := [] }) ?assign ?body ?done
    case hps => intro x hx; simp only [chunkL, List.mem_map] at hx; obtain ⟨q, _, rfl⟩ := hx; rfl
    case hpre => exact fun W hW => ⟨below_at hW G1 (by omega), below_at hW G2 (by omega)⟩
    case hO => rintro q rfl; exact ⟨by omega, id, by omega⟩
    case hFp => rintro q ⟨⟩
    case hI =>
      rintro i O W W' ⟨⟨v, vs, h1⟩, h2⟩ hk
      exact ⟨⟨v, vs, h1.keep hk (fun q h => .inl h)⟩, below_keep h2 hk (Nat.le_refl _) (fun q h => .inr ⟨by omega, id⟩)⟩
    case h0 =>
      refine ⟨⟨.slice none 0 0, [], G0, own_nil _ _ _ _, by simp, fun q => ⟨.inl, ?_⟩⟩, hB0⟩
      rintro (h | h | ⟨u, hu, _⟩)
      · exact h
      · cases h
      · cases hu
    case assign =>
      intro l' x W K hx hK
      simp only [chunkL, List.mem_map] at hx
      obtain ⟨q, _, rfl⟩ := hx
      unfold chunkV at hK ⊢
      gi_wp2
      exact hK
    case body =>
      rintro l' q x O W ho ⟨⟨v, vs, PA⟩, hbw⟩ hsz'
      have hq : q < chunks n zs.length := by have := (List.getElem?_eq_some_iff.1 ho).1; rwa [chunkL_length] at this
      have hqn := (chunks_lt hn0).1 hq
      rw [chunkL_at hn0 hqn] at ho
      obtain rfl := Option.some.inj ho
      obtain rfl : A = some ⟨b, off, none⟩ := by
        rcases hA with h | h
        · omega
        · exact h
      have hq100 : q ≤ 1000 := by
        have : q ≤ q * n := Nat.le_mul_of_pos_right q hn0
        omega
      have hsub : SliceAt W.drew 1 (.slice (some ⟨b, off + q * n, none⟩) (min n (zs.length - q * n)) (min n (zs.length - q * n))) (part n zs q).length (nums (part n zs q)) := by
        have hpl : (part n zs q).length = min n (zs.length - q * n) := by unfold part; simp
        have hf := (HS.out.later hbw).later (Below.refl _ W).drew
        obtain ⟨b', off', c', hv, _, h63, hlt', hcc⟩ := hf.pos (by omega)
        obtain ⟨hv1, _, _⟩ := Value.slice.inj hv
        obtain ⟨rfl, rfl, _⟩ := Addr.mk.inj (Option.some.inj hv1)
        refine ⟨_, _, by rw [hpl], by omega, by simp [maxLen]; omega, by simp [ints], .inr ⟨b, off + q * n, rfl, hlt', fun i u hu => ?_⟩⟩
        rw [Nat.add_assoc]
        refine hcc (q * n + i) u ?_
        simp only [part, ints, List.map_take, List.map_drop] at hu ⊢
        rw [List.getElem?_take] at hu
        split at hu
        · rwa [List.getElem?_drop] at hu
        · cases hu
      unfold chunkV
      simp only [show ∀ y : Value, (#[y] : Array Value).getD 0 undef = y from fun _ => rfl]
      have hpl5 : (part n zs q).length ≤ 1000 := by unfold part; simp; omega
      obtain ⟨m, hm⟩ : ∃ m, min n (zs.length - q * n) = m := ⟨_, rfl⟩
      rw [hm] at hsub ⊢
      obtain ⟨p, hp⟩ : ∃ p, off + q * n = p := ⟨_, rfl⟩
      rw [hp] at hsub ⊢
      obtain ⟨A0, c0, rfl, _⟩ := (sliceAt_of_own PA.own).form
      have d0 := cell_at PA.at_ 0
      have hgs : w.heap.size < W.heap.size := (Array.getElem?_eq_some_iff.1 PA.at_).1
      clear hm hp hqn hq ho G0 G1 G2 hsz0 hB0 hb0
      have PA := PA.keep (Keep.refl (fun _ => True) W).drew (fun _ _ => trivial)
      have d0 : W.drew.cell? ⟨w.heap.size, 0, none⟩ = some (.slice A0 q c0) := d0
      have hgr : w.heap.size ≤ w.heap.size := Nat.le_refl _
      have hbwd := hbw.drew
      have hgsd : w.heap.size < W.drew.heap.size := hgs
      have HWD := Lib.hid (show Keep (fun k => ¬ O k) W W.drew ∧ W.drew.heap.size = W.heap.size from ⟨(Keep.refl _ W).drew, rfl⟩)
      clear hbw hgs
      gi_wp2
      refine wpIn_region_held_round (S := (fun _ => True)) (by kernel_rfl) (by kernel_rfl) ?_ (fun hHeld => ?_)
      · trivial
      generalize W.drew = WD at *
      refine wpAnyH_take (i := 1) (v := ?_) rfl (by kernel_rfl) (by kernel_rfl) (by kernel_rfl) (fun _ _ _ h => h) (Or.inl ⟨by rfl, ?_⟩) (by assumption) ?_
      rotate_left
      · intro w hSw
        try dsimp only at hSw
        go_simp
        try with_reducible rfl
      simp only [List.getElem_toArray, List.getElem_cons_succ, List.getElem_cons_zero, Act.put, List.setIfInBounds_toArray, List.set_cons_zero, List.set_cons_succ]
      refine wpAnyH_ready (rs := [0, 2]) (by kernel_rfl) (by simp) ?_
      refine AllReadyH.cons rfl ?_ (AllReadyH.cons rfl ?_ AllReadyH.nil)
      · intro K hK
        go_simp
        refine hK.out _ _ trivial (fun _ => ?_)
        clear hK K
        try simp only [List.getElem_toArray, List.getElem_cons_succ, List.getElem_cons_zero, Act.put, List.setIfInBounds_toArray, List.set_cons_zero, List.set_cons_succ]
        refine wpAnyH_ready (rs := [2]) (by kernel_rfl) (by simp) ?_
        refine AllReadyH.cons rfl (fun K hK => ?_) AllReadyH.nil
        go_simp
        refine (Clone_c _ (part n zs q) _ hsub (by omega)).mono ?_
        rintro e W1 ⟨v1, rfl, o1, b1⟩
        obtain ⟨A1, c1, rfl, _⟩ := (sliceAt_of_own o1).form
        have d1 := (b1.cell (p := ⟨w.heap.size, 0, none⟩) hgsd).trans d0
        have oA := own_later PA.own (w' := W1.alloc (.cells #[.slice A1 (part n zs q).length c1] 24)) (fun k hk => (Below.heap_alloc _ _ k (by have := (own_base PA.own hk).2; have := b1.size; omega)).trans (b1.block k (own_base PA.own hk).2))
        have d2 := (Below.heap_alloc W1 (.cells #[.slice A1 (part n zs q).length c1] 24) w.heap.size (by have := b1.size; omega))
        have d3 : (W1.alloc (.cells #[.slice A1 (part n zs q).length c1] 24)).cell? ⟨w.heap.size, 0, none⟩ = some (.slice A0 q c0) := (World.cell?_of_block (a := ⟨w.heap.size, 0, none⟩) d2).trans d1
        clear d2
        refine hK.out _ _ trivial (fun _ => ?_)
        clear hK K
        try simp only [List.getElem_toArray, List.getElem_cons_succ, List.getElem_cons_zero, Act.put, List.setIfInBounds_toArray, List.set_cons_zero, List.set_cons_succ]
        refine wpAnyH_ready (rs := [3]) (by kernel_rfl) (by simp) ?_
        refine AllReadyH.cons rfl (fun K hK => ?_) AllReadyH.nil
        go_simp
        refine hK.out _ _ trivial (fun _ => ?_)
        clear hK K
        try simp only [List.getElem_toArray, List.getElem_cons_succ, List.getElem_cons_zero, Act.put, List.setIfInBounds_toArray, List.set_cons_zero, List.set_cons_succ]
        refine wpAnyH_ready (rs := [4]) (by kernel_rfl) (by simp) ?_
        refine AllReadyH.cons rfl (fun K hK => ?_) AllReadyH.nil
        rw [if_pos (by rfl)]
        refine wp_append_src (.tmp 15) (.tmp 18) _ (by rfl) w.heap.size 24 i0 _ 1 24 Try.underlying35 hi hz0 hz1 hz2 rfl (by omega) (.slice A0 q c0) q vs (by rfl) oA (.slice (some ⟨W1.heap.size, 0, none⟩) 1 1) 1 [.slice A1 (part n zs q).length c1] (by rfl) (sliceAt_blk (new_at rfl _) rfl (by simp [maxLen])) (by simp [Value.oneCell']) (by simp only [maxLen]; omega) (by omega) (by have := hbwd.size; have := b1.size; simp; omega) ?_
        intro v3 w3 o3 g3 hv3
        have nx := PA.next (w := w) (W := WD) (A1 := A1) (c1 := c1) hgr hbwd rfl b1 o1 rfl o3 g3 hv3
        obtain ⟨A3, c3, rfl, _, _⟩ := (sliceAt_of_own o3).form
        have nx0 := (g3.block w.heap.size (by have := (Array.getElem?_eq_some_iff.1 PA.at_).1; have := b1.size; simp; omega) (fun e => PA.ne e.symm)).trans (old_at (below_at b1 PA.at_ (Array.getElem?_eq_some_iff.1 PA.at_).1) _)
        have k0 := cell_at nx0 0
        have f0 := free_at nx0 0
        refine hK.out _ _ trivial (fun _ => ?_)
        clear hK K
        try simp only [List.getElem_toArray, List.getElem_cons_succ, List.getElem_cons_zero, Act.put, List.setIfInBounds_toArray, List.set_cons_zero, List.set_cons_succ]
        refine wpAnyH_ready (rs := [5]) (by kernel_rfl) (by simp) ?_
        refine AllReadyH.cons rfl (fun K hK => ?_) AllReadyH.nil
        go_simp
        refine hK.out _ _ trivial (fun _ => ?_)
        clear hK K
        try simp only [List.getElem_toArray, List.getElem_cons_succ, List.getElem_cons_zero, Act.put, List.setIfInBounds_toArray, List.set_cons_zero, List.set_cons_succ]
        refine wpAnyH_done (by kernel_rfl) ?_ _
        obtain ⟨O', n1, n2, n3, n4⟩ := nx
        simp only [nq]
        gi_wp2
        exact ⟨O', ⟨⟨_, _, n1⟩, n4⟩, fun k hk => (n2 k hk).imp id (fun h => by have := HWD.out.2; omega), HWD.out.1.trans n3⟩
      · intro K hK
        go_simp
        refine (Clone_c _ (part n zs q) _ hsub (by omega)).mono ?_
        rintro e W1 ⟨v1, rfl, o1, b1⟩
        obtain ⟨A1, c1, rfl, _⟩ := (sliceAt_of_own o1).form
        have d1 := (b1.cell (p := ⟨w.heap.size, 0, none⟩) hgsd).trans d0
        have oA := own_later PA.own (w' := W1.alloc (.cells #[.slice A1 (part n zs q).length c1] 24)) (fun k hk => (Below.heap_alloc _ _ k (by have := (own_base PA.own hk).2; have := b1.size; omega)).trans (b1.block k (own_base PA.own hk).2))
        have d2 := (Below.heap_alloc W1 (.cells #[.slice A1 (part n zs q).length c1] 24) w.heap.size (by have := b1.size; omega))
        have d3 : (W1.alloc (.cells #[.slice A1 (part n zs q).length c1] 24)).cell? ⟨w.heap.size, 0, none⟩ = some (.slice A0 q c0) := (World.cell?_of_block (a := ⟨w.heap.size, 0, none⟩) d2).trans d1
        clear d2
        refine hK.out _ _ trivial (fun _ => ?_)
        clear hK K
        try simp only [List.getElem_toArray, List.getElem_cons_succ, List.getElem_cons_zero, Act.put, List.setIfInBounds_toArray, List.set_cons_zero, List.set_cons_succ]
        refine wpAnyH_ready (rs := [0, 3]) (by kernel_rfl) (by simp) ?_
        refine AllReadyH.cons rfl ?_ (AllReadyH.cons rfl ?_ AllReadyH.nil)
        · intro K hK
          go_simp
          refine hK.out _ _ trivial (fun _ => ?_)
          clear hK K
          try simp only [List.getElem_toArray, List.getElem_cons_succ, List.getElem_cons_zero, Act.put, List.setIfInBounds_toArray, List.set_cons_zero, List.set_cons_succ]
          refine wpAnyH_ready (rs := [3]) (by kernel_rfl) (by simp) ?_
          refine AllReadyH.cons rfl (fun K hK => ?_) AllReadyH.nil
          go_simp
          refine hK.out _ _ trivial (fun _ => ?_)
          clear hK K
          try simp only [List.getElem_toArray, List.getElem_cons_succ, List.getElem_cons_zero, Act.put, List.setIfInBounds_toArray, List.set_cons_zero, List.set_cons_succ]
          refine wpAnyH_ready (rs := [4]) (by kernel_rfl) (by simp) ?_
          refine AllReadyH.cons rfl (fun K hK => ?_) AllReadyH.nil
          rw [if_pos (by rfl)]
          refine wp_append_src (.tmp 15) (.tmp 18) _ (by rfl) w.heap.size 24 i0 _ 1 24 Try.underlying35 hi hz0 hz1 hz2 rfl (by omega) (.slice A0 q c0) q vs (by rfl) oA (.slice (some ⟨W1.heap.size, 0, none⟩) 1 1) 1 [.slice A1 (part n zs q).length c1] (by rfl) (sliceAt_blk (new_at rfl _) rfl (by simp [maxLen])) (by simp [Value.oneCell']) (by simp only [maxLen]; omega) (by omega) (by have := hbwd.size; have := b1.size; simp; omega) ?_
          intro v3 w3 o3 g3 hv3
          have nx := PA.next (w := w) (W := WD) (A1 := A1) (c1 := c1) hgr hbwd rfl b1 o1 rfl o3 g3 hv3
          obtain ⟨A3, c3, rfl, _, _⟩ := (sliceAt_of_own o3).form
          have nx0 := (g3.block w.heap.size (by have := (Array.getElem?_eq_some_iff.1 PA.at_).1; have := b1.size; simp; omega) (fun e => PA.ne e.symm)).trans (old_at (below_at b1 PA.at_ (Array.getElem?_eq_some_iff.1 PA.at_).1) _)
          have k0 := cell_at nx0 0
          have f0 := free_at nx0 0
          refine hK.out _ _ trivial (fun _ => ?_)
          clear hK K
          try simp only [List.getElem_toArray, List.getElem_cons_succ, List.getElem_cons_zero, Act.put, List.setIfInBounds_toArray, List.set_cons_zero, List.set_cons_succ]
          refine wpAnyH_ready (rs := [5]) (by kernel_rfl) (by simp) ?_
          refine AllReadyH.cons rfl (fun K hK => ?_) AllReadyH.nil
          go_simp
          refine hK.out _ _ trivial (fun _ => ?_)
          clear hK K
          try simp only [List.getElem_toArray, List.getElem_cons_succ, List.getElem_cons_zero, Act.put, List.setIfInBounds_toArray, List.set_cons_zero, List.set_cons_succ]
          refine wpAnyH_done (by kernel_rfl) ?_ _
          obtain ⟨O', n1, n2, n3, n4⟩ := nx
          simp only [nq]
          gi_wp2
          exact ⟨O', ⟨⟨_, _, n1⟩, n4⟩, fun k hk => (n2 k hk).imp id (fun h => by have := HWD.out.2; omega), HWD.out.1.trans n3⟩
        · intro K hK
          go_simp
          refine hK.out _ _ trivial (fun _ => ?_)
          clear hK K
          try simp only [List.getElem_toArray, List.getElem_cons_succ, List.getElem_cons_zero, Act.put, List.setIfInBounds_toArray, List.set_cons_zero, List.set_cons_succ]
          refine wpAnyH_ready (rs := [0]) (by kernel_rfl) (by simp) ?_
          refine AllReadyH.cons rfl (fun K hK => ?_) AllReadyH.nil
          go_simp
          refine hK.out _ _ trivial (fun _ => ?_)
          clear hK K
          try simp only [List.getElem_toArray, List.getElem_cons_succ, List.getElem_cons_zero, Act.put, List.setIfInBounds_toArray, List.set_cons_zero, List.set_cons_succ]
          refine wpAnyH_ready (rs := [4]) (by kernel_rfl) (by simp) ?_
          refine AllReadyH.cons rfl (fun K hK => ?_) AllReadyH.nil
          rw [if_pos (by rfl)]
          refine wp_append_src (.tmp 15) (.tmp 18) _ (by rfl) w.heap.size 24 i0 _ 1 24 Try.underlying35 hi hz0 hz1 hz2 rfl (by omega) (.slice A0 q c0) q vs (by rfl) oA (.slice (some ⟨W1.heap.size, 0, none⟩) 1 1) 1 [.slice A1 (part n zs q).length c1] (by rfl) (sliceAt_blk (new_at rfl _) rfl (by simp [maxLen])) (by simp [Value.oneCell']) (by simp only [maxLen]; omega) (by omega) (by have := hbwd.size; have := b1.size; simp; omega) ?_
          intro v3 w3 o3 g3 hv3
          have nx := PA.next (w := w) (W := WD) (A1 := A1) (c1 := c1) hgr hbwd rfl b1 o1 rfl o3 g3 hv3
          obtain ⟨A3, c3, rfl, _, _⟩ := (sliceAt_of_own o3).form
          have nx0 := (g3.block w.heap.size (by have := (Array.getElem?_eq_some_iff.1 PA.at_).1; have := b1.size; simp; omega) (fun e => PA.ne e.symm)).trans (old_at (below_at b1 PA.at_ (Array.getElem?_eq_some_iff.1 PA.at_).1) _)
          have k0 := cell_at nx0 0
          have f0 := free_at nx0 0
          refine hK.out _ _ trivial (fun _ => ?_)
          clear hK K
          try simp only [List.getElem_toArray, List.getElem_cons_succ, List.getElem_cons_zero, Act.put, List.setIfInBounds_toArray, List.set_cons_zero, List.set_cons_succ]
          refine wpAnyH_ready (rs := [5]) (by kernel_rfl) (by simp) ?_
          refine AllReadyH.cons rfl (fun K hK => ?_) AllReadyH.nil
          go_simp
          refine hK.out _ _ trivial (fun _ => ?_)
          clear hK K
          try simp only [List.getElem_toArray, List.getElem_cons_succ, List.getElem_cons_zero, Act.put, List.setIfInBounds_toArray, List.set_cons_zero, List.set_cons_succ]
          refine wpAnyH_done (by kernel_rfl) ?_ _
          obtain ⟨O', n1, n2, n3, n4⟩ := nx
          simp only [nq]
          gi_wp2
          exact ⟨O', ⟨⟨_, _, n1⟩, n4⟩, fun k hk => (n2 k hk).imp id (fun h => by have := HWD.out.2; omega), HWD.out.1.trans n3⟩
    case done =>
      rintro D O W ⟨⟨v, vs, PA⟩, hbw⟩ hD1 hD2
      rw [chunkL_length] at PA
      obtain ⟨A0, c0, rfl, _⟩ := (sliceAt_of_own PA.own).form
      have d0 := cell_at PA.at_ 0
      have e0 := free_at PA.at_ 0
      have hDn : D ≠ w.heap.size := by omega
      go_wp2
      refine bodyPostM_rows (t := 4) rfl (set_far hD2 hDn _) rfl ((World.putObj_heap_other (fun e => hDn e.symm)).trans (set_at PA.at_ 0 _)) ⟨below_putObj (hbw.setCell (Nat.le_refl _) _) (by omega) _, _, rfl, vs, ?_, fun i u hu => ?_⟩
      · exact own_later PA.own (fun k hk => (World.putObj_heap_other (ne_own hk (own_def PA.own hD2))).trans (Below.heap_setCell _ ⟨w.heap.size, 0, none⟩ _ k (ne_own hk PA.ne)))
      · exact own_later (PA.each i u hu) (fun k hk => (World.putObj_heap_other (ne_own hk (own_def (PA.each i u hu) hD2))).trans (Below.heap_setCell _ ⟨w.heap.size, 0, none⟩ _ k (ne_own hk (PA.ne2 hu))))
  · skip
    refine (callsIn_wide (n := 0)).1 (callsIn_of_wp_marks Try.func11 rfl trivial ?_ rfl)
    refine wpIn_wide.2 ?_
    simp only [Try.ntmps11, List.size_toArray, List.length_cons, List.length_nil, Nat.reduceAdd, Nat.reduceSub, Array.replicate_succ, Array.replicate_zero, List.push_toArray, List.append_toArray, List.nil_append, List.cons_append]
    go_wp2_with fail
    refine (Chunk_c _ _ _ _ _ (by omega)).mono ?_
    rintro e W' ⟨rfl, rfl⟩
    go_wp2_with fail
    obtain ⟨W0, hW0⟩ : ∃ W0, W0 = ((w.alloc (.cells #[.slice none 0 0] 35)).alloc (.cells #[.slice A zs.length c] 24)).alloc (.cells #[.int .i64 n] 3) := ⟨_, rfl⟩
    rw [← hW0]
    have hB0 : Below w.heap.size w W0 := by rw [hW0]; exact ((hb0).alloc (by simp) _).alloc (by simp; omega) _
    have hsz0 : W0.heap.size = w.heap.size + 3 := by rw [hW0]; simp
    have G0 : W0.heap[w.heap.size]? = some (.cells #[.slice none 0 0] 35 (0, 0)) := by rw [hW0]; exact old_at (old_at (new_at rfl _) _) _
    have G1 : W0.heap[w.heap.size + 1]? = some (.cells #[.slice A zs.length c] 24 (0, 0)) := by rw [hW0]; exact old_at (new_at (by simp) _) _
    have G2 : W0.heap[w.heap.size + 1 + 1]? = some (.cells #[.int .i64 n] 3 (0, 0)) := by rw [hW0]; exact new_at (by simp) _
    clear hW0
    refine wp_iter (xs := chunkL b off n zs.length) (Fp := fun _ => False) (Rd := fun q => q = w.heap.size + 1 ∨ q = w.heap.size + 1 + 1) (gf := 19) (lb := #[.pointer (some ⟨w.heap.size + 1, 0, none⟩), .pointer (some ⟨w.heap.size + 1 + 1, 0, none⟩)]) rfl (enters Try.func19 (by kernel_rfl) rfl)
      (chunk1 _ A b off c n zs.length hA hn0 hn2 hl hc1) ?hps
      (fun q O W => (∃ v vs, PAcc w.heap.size w.heap.size n zs q O W v vs) ∧ Below w.heap.size w W) (fun q => q = w.heap.size) ?hpre ?hO ?hFp ?hI ?h0
      (fun x => { tmps := #[.slice A zs.length c, .int .i64 n, undef, undef, .pointer (some ⟨w.heap.size, 0, none⟩), x.getD 0 undef, .int .i64 n, .bool false, undef, undef, undef,
            .slice A zs.length c, .int .i64 n, .func (.func 19) #[] #[.pointer (some ⟨w.heap.size + 1, 0, none⟩), .pointer (some ⟨w.heap.size + 1 + 1, 0, none⟩)], x.getD 0 undef, undef, undef, undef, undef, undef, undef], defers := [] }) ?assign ?body ?done
    case hps => intro x hx; simp only [chunkL, List.mem_map] at hx; obtain ⟨q, _, rfl⟩ := hx; rfl
    case hpre => exact fun W hW => ⟨below_at hW G1 (by omega), below_at hW G2 (by omega)⟩
    case hO => rintro q rfl; exact ⟨by omega, id, by omega⟩
    case hFp => rintro q ⟨⟩
    case hI =>
      rintro i O W W' ⟨⟨v, vs, h1⟩, h2⟩ hk
      exact ⟨⟨v, vs, h1.keep hk (fun q h => .inl h)⟩, below_keep h2 hk (Nat.le_refl _) (fun q h => .inr ⟨by omega, id⟩)⟩
    case h0 =>
      refine ⟨⟨.slice none 0 0, [], G0, own_nil _ _ _ _, by simp, fun q => ⟨.inl, ?_⟩⟩, hB0⟩
      rintro (h | h | ⟨u, hu, _⟩)
      · exact h
      · cases h
      · cases hu
    case assign =>
      intro l' x W K hx hK
      simp only [chunkL, List.mem_map] at hx
      obtain ⟨q, _, rfl⟩ := hx
      unfold chunkV at hK ⊢
      gi_wp2
      exact hK
    case body =>
      rintro l' q x O W ho ⟨⟨v, vs, PA⟩, hbw⟩ hsz'
      have hq : q < chunks n zs.length := by have := (List.getElem?_eq_some_iff.1 ho).1; rwa [chunkL_length] at this
      have hqn := (chunks_lt hn0).1 hq
      rw [chunkL_at hn0 hqn] at ho
      obtain rfl := Option.some.inj ho
      obtain rfl : A = some ⟨b, off, none⟩ := by
        rcases hA with h | h
        · omega
        · exact h
      have hq100 : q ≤ 1000 := by
        have : q ≤ q * n := Nat.le_mul_of_pos_right q hn0
        omega
      have hsub : SliceAt W.drew 1 (.slice (some ⟨b, off + q * n, none⟩) (min n (zs.length - q * n)) (min n (zs.length - q * n))) (part n zs q).length (nums (part n zs q)) := by
        have hpl : (part n zs q).length = min n (zs.length - q * n) := by unfold part; simp
        have hf := (HS.out.later hbw).later (Below.refl _ W).drew
        obtain ⟨b', off', c', hv, _, h63, hlt', hcc⟩ := hf.pos (by omega)
        obtain ⟨hv1, _, _⟩ := Value.slice.inj hv
        obtain ⟨rfl, rfl, _⟩ := Addr.mk.inj (Option.some.inj hv1)
        refine ⟨_, _, by rw [hpl], by omega, by simp [maxLen]; omega, by simp [ints], .inr ⟨b, off + q * n, rfl, hlt', fun i u hu => ?_⟩⟩
        rw [Nat.add_assoc]
        refine hcc (q * n + i) u ?_
        simp only [part, ints, List.map_take, List.map_drop] at hu ⊢
        rw [List.getElem?_take] at hu
        split at hu
        · rwa [List.getElem?_drop] at hu
        · cases hu
      unfold chunkV
      simp only [show ∀ y : Value, (#[y] : Array Value).getD 0 undef = y from fun _ => rfl]
      have hpl5 : (part n zs q).length ≤ 1000 := by unfold part; simp; omega
      obtain ⟨m, hm⟩ : ∃ m, min n (zs.length - q * n) = m := ⟨_, rfl⟩
      rw [hm] at hsub ⊢
      obtain ⟨p, hp⟩ : ∃ p, off + q * n = p := ⟨_, rfl⟩
      rw [hp] at hsub ⊢
      obtain ⟨A0, c0, rfl, _⟩ := (sliceAt_of_own PA.own).form
      have d0 := cell_at PA.at_ 0
      have hgs : w.heap.size < W.heap.size := (Array.getElem?_eq_some_iff.1 PA.at_).1
      clear hm hp hqn hq ho G0 G1 G2 hsz0 hB0 hb0
      have PA := PA.keep (Keep.refl (fun _ => True) W).drew (fun _ _ => trivial)
      have d0 : W.drew.cell? ⟨w.heap.size, 0, none⟩ = some (.slice A0 q c0) := d0
      have hgr : w.heap.size ≤ w.heap.size := Nat.le_refl _
      have hbwd := hbw.drew
      have hgsd : w.heap.size < W.drew.heap.size := hgs
      have HWD := Lib.hid (show Keep (fun k => ¬ O k) W W.drew ∧ W.drew.heap.size = W.heap.size from ⟨(Keep.refl _ W).drew, rfl⟩)
      clear hbw hgs
      gi_wp2
      refine wpIn_region_held_round (S := (fun _ => True)) (by kernel_rfl) (by kernel_rfl) ?_ (fun hHeld => ?_)
      · trivial
      generalize W.drew = WD at *
      refine wpAnyH_take (i := 1) (v := ?_) rfl (by kernel_rfl) (by kernel_rfl) (by kernel_rfl) (fun _ _ _ h => h) (Or.inl ⟨by rfl, ?_⟩) (by assumption) ?_
      rotate_left
      · intro w hSw
        try dsimp only at hSw
        go_simp
        try with_reducible rfl
      simp only [List.getElem_toArray, List.getElem_cons_succ, List.getElem_cons_zero, Act.put, List.setIfInBounds_toArray, List.set_cons_zero, List.set_cons_succ]
      refine wpAnyH_ready (rs := [0, 2]) (by kernel_rfl) (by simp) ?_
      refine AllReadyH.cons rfl ?_ (AllReadyH.cons rfl ?_ AllReadyH.nil)
      · intro K hK
        go_simp
        refine hK.out _ _ trivial (fun _ => ?_)
        clear hK K
        try simp only [List.getElem_toArray, List.getElem_cons_succ, List.getElem_cons_zero, Act.put, List.setIfInBounds_toArray, List.set_cons_zero, List.set_cons_succ]
        refine wpAnyH_ready (rs := [2]) (by kernel_rfl) (by simp) ?_
        refine AllReadyH.cons rfl (fun K hK => ?_) AllReadyH.nil
        go_simp
        refine (Clone_c _ (part n zs q) _ hsub (by omega)).mono ?_
        rintro e W1 ⟨v1, rfl, o1, b1⟩
        obtain ⟨A1, c1, rfl, _⟩ := (sliceAt_of_own o1).form
        have d1 := (b1.cell (p := ⟨w.heap.size, 0, none⟩) hgsd).trans d0
        have oA := own_later PA.own (w' := W1.alloc (.cells #[.slice A1 (part n zs q).length c1] 24)) (fun k hk => (Below.heap_alloc _ _ k (by have := (own_base PA.own hk).2; have := b1.size; omega)).trans (b1.block k (own_base PA.own hk).2))
        have d2 := (Below.heap_alloc W1 (.cells #[.slice A1 (part n zs q).length c1] 24) w.heap.size (by have := b1.size; omega))
        have d3 : (W1.alloc (.cells #[.slice A1 (part n zs q).length c1] 24)).cell? ⟨w.heap.size, 0, none⟩ = some (.slice A0 q c0) := (World.cell?_of_block (a := ⟨w.heap.size, 0, none⟩) d2).trans d1
        clear d2
        refine hK.out _ _ trivial (fun _ => ?_)
        clear hK K
        try simp only [List.getElem_toArray, List.getElem_cons_succ, List.getElem_cons_zero, Act.put, List.setIfInBounds_toArray, List.set_cons_zero, List.set_cons_succ]
        refine wpAnyH_ready (rs := [3]) (by kernel_rfl) (by simp) ?_
        refine AllReadyH.cons rfl (fun K hK => ?_) AllReadyH.nil
        go_simp
        refine hK.out _ _ trivial (fun _ => ?_)
        clear hK K
        try simp only [List.getElem_toArray, List.getElem_cons_succ, List.getElem_cons_zero, Act.put, List.setIfInBounds_toArray, List.set_cons_zero, List.set_cons_succ]
        refine wpAnyH_ready (rs := [4]) (by kernel_rfl) (by simp) ?_
        refine AllReadyH.cons rfl (fun K hK => ?_) AllReadyH.nil
        rw [if_pos (by rfl)]
        refine wp_append_src (.tmp 15) (.tmp 18) _ (by rfl) w.heap.size 24 i0 _ 1 24 Try.underlying35 hi hz0 hz1 hz2 rfl (by omega) (.slice A0 q c0) q vs (by rfl) oA (.slice (some ⟨W1.heap.size, 0, none⟩) 1 1) 1 [.slice A1 (part n zs q).length c1] (by rfl) (sliceAt_blk (new_at rfl _) rfl (by simp [maxLen])) (by simp [Value.oneCell']) (by simp only [maxLen]; omega) (by omega) (by have := hbwd.size; have := b1.size; simp; omega) ?_
        intro v3 w3 o3 g3 hv3
        have nx := PA.next (w := w) (W := WD) (A1 := A1) (c1 := c1) hgr hbwd rfl b1 o1 rfl o3 g3 hv3
        obtain ⟨A3, c3, rfl, _, _⟩ := (sliceAt_of_own o3).form
        have nx0 := (g3.block w.heap.size (by have := (Array.getElem?_eq_some_iff.1 PA.at_).1; have := b1.size; simp; omega) (fun e => PA.ne e.symm)).trans (old_at (below_at b1 PA.at_ (Array.getElem?_eq_some_iff.1 PA.at_).1) _)
        have k0 := cell_at nx0 0
        have f0 := free_at nx0 0
        refine hK.out _ _ trivial (fun _ => ?_)
        clear hK K
        try simp only [List.getElem_toArray, List.getElem_cons_succ, List.getElem_cons_zero, Act.put, List.setIfInBounds_toArray, List.set_cons_zero, List.set_cons_succ]
        refine wpAnyH_ready (rs := [5]) (by kernel_rfl) (by simp) ?_
        refine AllReadyH.cons rfl (fun K hK => ?_) AllReadyH.nil
        go_simp
        refine hK.out _ _ trivial (fun _ => ?_)
        clear hK K
        try simp only [List.getElem_toArray, List.getElem_cons_succ, List.getElem_cons_zero, Act.put, List.setIfInBounds_toArray, List.set_cons_zero, List.set_cons_succ]
        refine wpAnyH_done (by kernel_rfl) ?_ _
        obtain ⟨O', n1, n2, n3, n4⟩ := nx
        simp only [nq]
        gi_wp2
        exact ⟨O', ⟨⟨_, _, n1⟩, n4⟩, fun k hk => (n2 k hk).imp id (fun h => by have := HWD.out.2; omega), HWD.out.1.trans n3⟩
      · intro K hK
        go_simp
        refine (Clone_c _ (part n zs q) _ hsub (by omega)).mono ?_
        rintro e W1 ⟨v1, rfl, o1, b1⟩
        obtain ⟨A1, c1, rfl, _⟩ := (sliceAt_of_own o1).form
        have d1 := (b1.cell (p := ⟨w.heap.size, 0, none⟩) hgsd).trans d0
        have oA := own_later PA.own (w' := W1.alloc (.cells #[.slice A1 (part n zs q).length c1] 24)) (fun k hk => (Below.heap_alloc _ _ k (by have := (own_base PA.own hk).2; have := b1.size; omega)).trans (b1.block k (own_base PA.own hk).2))
        have d2 := (Below.heap_alloc W1 (.cells #[.slice A1 (part n zs q).length c1] 24) w.heap.size (by have := b1.size; omega))
        have d3 : (W1.alloc (.cells #[.slice A1 (part n zs q).length c1] 24)).cell? ⟨w.heap.size, 0, none⟩ = some (.slice A0 q c0) := (World.cell?_of_block (a := ⟨w.heap.size, 0, none⟩) d2).trans d1
        clear d2
        refine hK.out _ _ trivial (fun _ => ?_)
        clear hK K
        try simp only [List.getElem_toArray, List.getElem_cons_succ, List.getElem_cons_zero, Act.put, List.setIfInBounds_toArray, List.set_cons_zero, List.set_cons_succ]
        refine wpAnyH_ready (rs := [0, 3]) (by kernel_rfl) (by simp) ?_
        refine AllReadyH.cons rfl ?_ (AllReadyH.cons rfl ?_ AllReadyH.nil)
        · intro K hK
          go_simp
          refine hK.out _ _ trivial (fun _ => ?_)
          clear hK K
          try simp only [List.getElem_toArray, List.getElem_cons_succ, List.getElem_cons_zero, Act.put, List.setIfInBounds_toArray, List.set_cons_zero, List.set_cons_succ]
          refine wpAnyH_ready (rs := [3]) (by kernel_rfl) (by simp) ?_
          refine AllReadyH.cons rfl (fun K hK => ?_) AllReadyH.nil
          go_simp
          refine hK.out _ _ trivial (fun _ => ?_)
          clear hK K
          try simp only [List.getElem_toArray, List.getElem_cons_succ, List.getElem_cons_zero, Act.put, List.setIfInBounds_toArray, List.set_cons_zero, List.set_cons_succ]
          refine wpAnyH_ready (rs := [4]) (by kernel_rfl) (by simp) ?_
          refine AllReadyH.cons rfl (fun K hK => ?_) AllReadyH.nil
          rw [if_pos (by rfl)]
          refine wp_append_src (.tmp 15) (.tmp 18) _ (by rfl) w.heap.size 24 i0 _ 1 24 Try.underlying35 hi hz0 hz1 hz2 rfl (by omega) (.slice A0 q c0) q vs (by rfl) oA (.slice (some ⟨W1.heap.size, 0, none⟩) 1 1) 1 [.slice A1 (part n zs q).length c1] (by rfl) (sliceAt_blk (new_at rfl _) rfl (by simp [maxLen])) (by simp [Value.oneCell']) (by simp only [maxLen]; omega) (by omega) (by have := hbwd.size; have := b1.size; simp; omega) ?_
          intro v3 w3 o3 g3 hv3
          have nx := PA.next (w := w) (W := WD) (A1 := A1) (c1 := c1) hgr hbwd rfl b1 o1 rfl o3 g3 hv3
          obtain ⟨A3, c3, rfl, _, _⟩ := (sliceAt_of_own o3).form
          have nx0 := (g3.block w.heap.size (by have := (Array.getElem?_eq_some_iff.1 PA.at_).1; have := b1.size; simp; omega) (fun e => PA.ne e.symm)).trans (old_at (below_at b1 PA.at_ (Array.getElem?_eq_some_iff.1 PA.at_).1) _)
          have k0 := cell_at nx0 0
          have f0 := free_at nx0 0
          refine hK.out _ _ trivial (fun _ => ?_)
          clear hK K
          try simp only [List.getElem_toArray, List.getElem_cons_succ, List.getElem_cons_zero, Act.put, List.setIfInBounds_toArray, List.set_cons_zero, List.set_cons_succ]
          refine wpAnyH_ready (rs := [5]) (by kernel_rfl) (by simp) ?_
          refine AllReadyH.cons rfl (fun K hK => ?_) AllReadyH.nil
          go_simp
          refine hK.out _ _ trivial (fun _ => ?_)
          clear hK K
          try simp only [List.getElem_toArray, List.getElem_cons_succ, List.getElem_cons_zero, Act.put, List.setIfInBounds_toArray, List.set_cons_zero, List.set_cons_succ]
          refine wpAnyH_done (by kernel_rfl) ?_ _
          obtain ⟨O', n1, n2, n3, n4⟩ := nx
          simp only [nq]
          gi_wp2
          exact ⟨O', ⟨⟨_, _, n1⟩, n4⟩, fun k hk => (n2 k hk).imp id (fun h => by have := HWD.out.2; omega), HWD.out.1.trans n3⟩
        · intro K hK
          go_simp
          refine hK.out _ _ trivial (fun _ => ?_)
          clear hK K
          try simp only [List.getElem_toArray, List.getElem_cons_succ, List.getElem_cons_zero, Act.put, List.setIfInBounds_toArray, List.set_cons_zero, List.set_cons_succ]
          refine wpAnyH_ready (rs := [0]) (by kernel_rfl) (by simp) ?_
          refine AllReadyH.cons rfl (fun K hK => ?_) AllReadyH.nil
          go_simp
          refine hK.out _ _ trivial (fun _ => ?_)
          clear hK K
          try simp only [List.getElem_toArray, List.getElem_cons_succ, List.getElem_cons_zero, Act.put, List.setIfInBounds_toArray, List.set_cons_zero, List.set_cons_succ]
          refine wpAnyH_ready (rs := [4]) (by kernel_rfl) (by simp) ?_
          refine AllReadyH.cons rfl (fun K hK => ?_) AllReadyH.nil
          rw [if_pos (by rfl)]
          refine wp_append_src (.tmp 15) (.tmp 18) _ (by rfl) w.heap.size 24 i0 _ 1 24 Try.underlying35 hi hz0 hz1 hz2 rfl (by omega) (.slice A0 q c0) q vs (by rfl) oA (.slice (some ⟨W1.heap.size, 0, none⟩) 1 1) 1 [.slice A1 (part n zs q).length c1] (by rfl) (sliceAt_blk (new_at rfl _) rfl (by simp [maxLen])) (by simp [Value.oneCell']) (by simp only [maxLen]; omega) (by omega) (by have := hbwd.size; have := b1.size; simp; omega) ?_
          intro v3 w3 o3 g3 hv3
          have nx := PA.next (w := w) (W := WD) (A1 := A1) (c1 := c1) hgr hbwd rfl b1 o1 rfl o3 g3 hv3
          obtain ⟨A3, c3, rfl, _, _⟩ := (sliceAt_of_own o3).form
          have nx0 := (g3.block w.heap.size (by have := (Array.getElem?_eq_some_iff.1 PA.at_).1; have := b1.size; simp; omega) (fun e => PA.ne e.symm)).trans (old_at (below_at b1 PA.at_ (Array.getElem?_eq_some_iff.1 PA.at_).1) _)
          have k0 := cell_at nx0 0
          have f0 := free_at nx0 0
          refine hK.out _ _ trivial (fun _ => ?_)
          clear hK K
          try simp only [List.getElem_toArray, List.getElem_cons_succ, List.getElem_cons_zero, Act.put, List.setIfInBounds_toArray, List.set_cons_zero, List.set_cons_succ]
          refine wpAnyH_ready (rs := [5]) (by kernel_rfl) (by simp) ?_
          refine AllReadyH.cons rfl (fun K hK => ?_) AllReadyH.nil
          go_simp
          refine hK.out _ _ trivial (fun _ => ?_)
          clear hK K
          try simp only [List.getElem_toArray, List.getElem_cons_succ, List.getElem_cons_zero, Act.put, List.setIfInBounds_toArray, List.set_cons_zero, List.set_cons_succ]
          refine wpAnyH_done (by kernel_rfl) ?_ _
          obtain ⟨O', n1, n2, n3, n4⟩ := nx
          simp only [nq]
          gi_wp2
          exact ⟨O', ⟨⟨_, _, n1⟩, n4⟩, fun k hk => (n2 k hk).imp id (fun h => by have := HWD.out.2; omega), HWD.out.1.trans n3⟩
    case done =>
      rintro D O W ⟨⟨v, vs, PA⟩, hbw⟩ hD1 hD2
      rw [chunkL_length] at PA
      obtain ⟨A0, c0, rfl, _⟩ := (sliceAt_of_own PA.own).form
      have d0 := cell_at PA.at_ 0
      have e0 := free_at PA.at_ 0
      have hDn : D ≠ w.heap.size := by omega
      go_wp2
      refine bodyPostM_rows (t := 4) rfl (set_far hD2 hDn _) rfl ((World.putObj_heap_other (fun e => hDn e.symm)).trans (set_at PA.at_ 0 _)) ⟨below_putObj (hbw.setCell (Nat.le_refl _) _) (by omega) _, _, rfl, vs, ?_, fun i u hu => ?_⟩
      · exact own_later PA.own (fun k hk => (World.putObj_heap_other (ne_own hk (own_def PA.own hD2))).trans (Below.heap_setCell _ ⟨w.heap.size, 0, none⟩ _ k (ne_own hk PA.ne)))
      · exact own_later (PA.each i u hu) (fun k hk => (World.putObj_heap_other (ne_own hk (own_def (PA.each i u hu) hD2))).trans (Below.heap_setCell _ ⟨w.heap.size, 0, none⟩ _ k (ne_own hk (PA.ne2 hu))))
end Go.Proofs.Ytdniapakoolbjaa
