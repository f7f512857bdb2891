/- A kernel of one route in memory of its own: contracts of Clone, Own. Nothing that was there is turned. -/
import Derived.Test.YtkmioplegjeopaaAspM
namespace Go.Proofs.Ytkmioplegjeopaa
open Go.RowKit Rf Mem Bv AM
attribute [local go_sem ↓] run_max2 run_min2
theorem wpList_new {P : Program} {w : World} {ops : Array Oper} {rest : List Oper} {o : Oper} {a : Act} {Q : Exit → Act → World → Prop} (hgd : o.guard = none) (T : TypeId) (z : Value) (zs : Array Value) (hi : (P.info? T).map (·.zero) = some (some z)) (hz : z.cells = zs) (ho : o.op = .alloc T)
    (h : wpList P ops Q rest (a.put o.dst (.pointer (some ⟨w.heap.size, 0, none⟩))) (w.alloc (.cells zs T))) : wpList P ops Q (o :: rest) a w :=
  wpList_plain hgd fun _ hK => Node.wp_new T z zs hi hz ho (hK _ _ h)
theorem ker_zero : ∃ z, (Try.prog.info? 41).map (·.zero) = some (some z) ∧ z.cells.size = 74 := by
  have h1 : (((Try.prog.info? 41).bind (·.zero)).map (·.cells.size)) = some 74 := by kernel_rfl
  obtain ⟨z, h2, h3⟩ := Option.map_eq_some_iff.1 h1
  obtain ⟨i, h4, h5⟩ := Option.bind_eq_some_iff.1 h2
  exact ⟨z, by rw [h4]; simp [h5], h3⟩
theorem ker_size {cs : List Value} (h : cs.length = 74) : (Try.prog.info? 41).map (·.size) = some cs.length := by rw [h]; kernel_rfl
/-- a kernel's cells -/
abbrev kcL (nx : Int) (v : Value) (R : List Value) : List Value := .int .i64 nx :: v :: R
set_option maxHeartbeats 400000 in
set_option maxRecDepth 100000 in
theorem cloneHeld1_c (ad : Addr) (c : Nat) (cs : List Value) (w : World) (hs : SliceAt w 23 (.slice (some ad) 1 c) 1 cs) (hone : ∀ u ∈ cs, u.oneCell' = true) :
    Calls Try.prog 49 #[.slice (some ad) 1 c] w fun e w' => ∃ v', e = .returned v' ∧ Below w.heap.size w w' ∧ w'.ownsRow w.heap.size 52 23 v' 1 cs := by
  obtain ⟨i0, hi, hz0, hz1, hz2⟩ := info_parts info_held
  have hq := fun (W : World) (a : Option Addr) (n c : Nat) => Lib.run_eql_slice_nil (P := Try.prog) W 36 52 a n c 0 0 Try.underlying36
  have hown := own_empty w 52 23
  have hsrc := hs.later ((Below.refl _ w).alloc (Nat.le_refl _) (.cells #[] 52))
  clear hs
  go_enter Try.func49, Try.ntmps49
  go_wp2_with (at_builtin; refine wpList_append_src (by rfl) (.tmp 5) (.tmp 6) _ (by rfl) w.heap.size 52 i0 _ 23 144 Try.underlying36 hi hz0 hz1 hz2 rfl (by omega) (.slice (some ⟨w.heap.size, 0, none⟩) 0 0) 0 [] (by rfl) hown (.slice (some ad) 1 c) 1 cs (by rfl) hsrc hone (by simp [maxLen]) (by omega) (by simp) ?_; intro v1 w1 ho1 hg1 _)
  go_ret
  simp only [Nat.zero_add, List.nil_append] at ho1
  exact ⟨_, rfl, below_own ((Below.refl _ w).alloc (Nat.le_refl _) _) hg1 (by simp) (by intro g hg; cases hg; exact Nat.le_refl _), ho1⟩
theorem own_one {W : World} {base e : Nat} {v : Value} {cs : List Value} (h : W.ownsRow base e 23 v 1 cs) : ∃ g c cur, v = .slice (some ⟨g, 0, none⟩) 1 c ∧ base ≤ g ∧ W.heap[g]? = some (.cells cur e (0, 0)) ∧ 1 ≤ c ∧ c ≤ maxLen ∧ 23 ≤ cur.size ∧ cur.toList.take 23 = cs := by
  rcases h.2 with ⟨_, h0⟩ | ⟨g, c, cur, h1, h2, h3, h4, h5, h6, h7⟩
  · omega
  · exact ⟨g, c, cur, h1, h2, h3, h4, h5, by rw [h6]; omega, by simpa using h7⟩
/-- block g begins with a route's cells -/
structure Blk (W : World) (g : Nat) (cs : List Value) : Prop where
  h : ∃ cur, W.heap[g]? = some (.cells cur 52 (0, 0)) ∧ 23 ≤ cur.size ∧ cur.toList.take 23 = cs
theorem Blk.later {W W' : World} {g : Nat} {cs : List Value} (h : Blk W g cs) (b : Below W.heap.size W W') : Blk W' g cs := by
  obtain ⟨cur, h1, h2⟩ := h.h
  exact ⟨cur, var_later h1 b, h2⟩
theorem Blk.keep {W W' : World} {g : Nat} {cs : List Value} (h : Blk W g cs) (hk : W'.heap[g]? = W.heap[g]?) : Blk W' g cs := by
  obtain ⟨cur, h1, h2⟩ := h.h
  exact ⟨cur, hk.trans h1, h2⟩
theorem Blk.rng {W : World} {g : Nat} {cs : List Value} (h : Blk W g cs) : W.rangeAt g 0 cs := fun j v hv => by
  obtain ⟨cur, h1, h2, h3⟩ := h.h
  rw [Nat.zero_add, cell_at h1, ← Array.getElem?_toList]
  rw [← h3, List.getElem?_take] at hv
  split at hv
  · exact hv
  · cases hv
theorem Blk.lt {W : World} {g : Nat} {cs : List Value} (h : Blk W g cs) : g < W.heap.size := by
  obtain ⟨cur, h1, _⟩ := h.h
  exact lt_at h1
theorem Blk.there {W : World} {g : Nat} {cs : List Value} (h : Blk W g cs) : W.there g 0 23 := by
  obtain ⟨cur, h1, h2, _⟩ := h.h
  exact there_of h1 0 23 (by omega)
theorem Blk.fill {W : World} {g : Nat} {cs : List Value} (h : Blk W g cs) (M : List Value) (hM : M.length = 23) : Blk (W.setCells g 0 M.toArray.toList) g M := by
  obtain ⟨cur, h1, h2, _⟩ := h.h
  refine ⟨_, setCells_at _ _ h1, by rw [setL_size]; exact h2, ?_⟩
  rw [setL_list _ _ _ (by simp; omega)]
  simp [hM]
theorem Blk.set {W : World} {g : Nat} {cs : List Value} (h : Blk W g cs) (i : Nat) (u : Value) : ∃ cs', Blk (W.setCell ⟨g, i, none⟩ u) g cs' := by
  obtain ⟨cur, h1, h2, _⟩ := h.h
  exact ⟨_, _, set_at h1 i u, by simpa using h2, rfl⟩
theorem Blk.sl {W : World} {g c : Nat} {cs : List Value} (h : Blk W g cs) (hcs : cs.length = 23) (h1 : 1 ≤ c) (h2 : c ≤ maxLen) : SliceAt W 23 (.slice (some ⟨g, 0, none⟩) 1 c) 1 cs :=
  ⟨some ⟨g, 0, none⟩, c, rfl, h1, h2, by rw [hcs], .inr ⟨g, 0, rfl, h.lt, fun i u hu => h.rng i u hu⟩⟩
theorem hc_held {W : World} {st : Int} {v3 v5 : Value} {sh : Bool} {l3 l5 : List T3} (h3 : TAt W v3 l3) (h5 : TAt W v5 l5) : HeldAt W (hcL st v3 (.slice none 0 0) v5 sh) ⟨1, 0, 0, l3, [], l5, st, 0, List.replicate 12 false, false, 0, sh⟩ :=
  ⟨rfl, rfl, rfl, rfl, ⟨_, rfl, h3⟩, ⟨_, rfl, SliceAt.nil_ _ _⟩, ⟨_, rfl, h5⟩, rfl, rfl, rfl, fun i hi => by
    match i, hi with
    | 0, _ | 1, _ | 2, _ | 3, _ | 4, _ | 5, _ | 6, _ | 7, _ | 8, _ | 9, _ | 10, _ | 11, _ => rfl, rfl, rfl, rfl⟩
/-- block q holds elements of the slice v, of n -/
def VB (v : Value) (n q : Nat) : Prop := 0 < n ∧ v.ownBlock = some q
theorem slice_keep {S : Nat → Prop} {W W' : World} {sz n : Nat} {v : Value} {cs : List Value} (h : SliceAt W sz v n cs) (hk : Keep S W W') (hS : ∀ q, VB v n q → S q) : SliceAt W' sz v n cs := by
  obtain ⟨A, c, rfl, h1, h2, h3, h4⟩ := h
  refine ⟨A, c, rfl, h1, h2, h3, ?_⟩
  rcases Nat.eq_zero_or_pos n with h0 | h0
  · exact .inl h0
  rcases h4 with h4 | ⟨b, off, rfl, hlt, hc⟩
  · exact .inl h4
  · exact .inr ⟨b, off, rfl, Nat.lt_of_lt_of_le hlt hk.size, fun i u hu => (World.cell?_of_block (a := ⟨b, off + i, none⟩) (hk.block b hlt (hS b ⟨h0, rfl⟩))).trans (hc i u hu)⟩
theorem vb_lt {W : World} {sz n : Nat} {v : Value} {cs : List Value} (h : SliceAt W sz v n cs) {q : Nat} (hq : VB v n q) : q < W.heap.size := by
  obtain ⟨hn, hq⟩ := hq
  obtain ⟨b, off, c, rfl, _, _, hlt, _⟩ := h.pos hn
  cases hq; exact hlt
theorem keep_set {W : World} {g i : Nat} {u : Value} : Keep (fun q => q ≠ g) W (W.setCell ⟨g, i, none⟩ u) := (Keep.refl _ _).setCell (fun _ h => h rfl) _
theorem keep_cells {g : Nat} : ∀ (vs : List Value) (o : Nat) {W : World}, Keep (fun q => q ≠ g) W (W.setCells g o vs)
  | [], _, _ => Keep.refl _ _
  | v :: r, o, W => by rw [World.setCells]; exact keep_set.trans (keep_cells r (o + 1))
/-- what the loop of free.Own holds -/
structure FO (w W : World) (nx : Int) (R : List Value) (zk : Array Value) (g c : Nat) (v3 v5 : Value) (l3 l5 : List T3) : Prop where
  bel : Below w.heap.size w W
  k : W.heap[w.heap.size]? = some (.cells (kcL nx (.slice (some ⟨g, 0, none⟩) 1 c) R).toArray 41 (0, 0))
  z : W.heap[w.heap.size + 1]? = some (.cells zk 41 (0, 0))
  hg : w.heap.size + 2 ≤ g
  b : Blk W g (hcL 2 v3 (.slice none 0 0) v5 false)
  t3 : TAt W v3 l3
  t5 : TAt W v5 l5
  d3 : ∀ q, VB v3 l3.length q → q ≠ w.heap.size ∧ q ≠ w.heap.size + 1 ∧ q ≠ g
  d5 : ∀ q, VB v5 l5.length q → q ≠ w.heap.size ∧ q ≠ w.heap.size + 1 ∧ q ≠ g
theorem FO.later {w W W' : World} {nx : Int} {R : List Value} {zk : Array Value} {g c : Nat} {v3 v5 : Value} {l3 l5 : List T3} (h : FO w W nx R zk g c v3 v5 l3 l5) (b : Below W.heap.size W W') : FO w W' nx R zk g c v3 v5 l3 l5 :=
  ⟨below_step h.bel b, var_later h.k b, var_later h.z b, h.hg, h.b.later b, h.t3.later b, h.t5.later b, h.d3, h.d5⟩
set_option maxHeartbeats 4000000 in
set_option maxRecDepth 100000 in
theorem fOwn_c (nx : Int) (R : List Value) (b0 o0 c0 : Nat) (v3 v5 : Value) (l3 l5 : List T3) (w : World) (hR : R.length = 72) (hR1 : ∀ u ∈ R, u.oneCell' = true) (hs : SliceAt w 23 (.slice (some ⟨b0, o0, none⟩) 1 c0) 1 (hcL 2 v3 (.slice none 0 0) v5 false)) (h3 : TAt w v3 l3) (h5 : TAt w v5 l5) (hl3 : l3.length ≤ 100000) (hl5 : l5.length ≤ 100000) :
    Calls Try.prog 39 #[.agg (kcL nx (.slice (some ⟨b0, o0, none⟩) 1 c0) R).toArray] w fun e w' => ∃ (g c : Nat) (v3' v5' : Value), e = .returned (.agg (kcL nx (.slice (some ⟨g, 0, none⟩) 1 c) R).toArray) ∧ Below w.heap.size w w' ∧ w.heap.size ≤ g ∧ 1 ≤ c ∧ c ≤ maxLen ∧ Blk w' g (hcL 2 v3' (.slice none 0 0) v5' false) ∧ TAt w' v3' l3 ∧ TAt w' v5' l5 ∧ (∀ q, VB v3' l3.length q → w.heap.size ≤ q) ∧ (∀ q, VB v5' l5.length q → w.heap.size ≤ q) := by
  obtain ⟨zv, hzi, hzs⟩ := ker_zero
  obtain ⟨zk, hzk⟩ : ∃ zk, zv.cells = zk := ⟨_, rfl⟩
  rw [hzk] at hzs
  have a0 := below_new w (.cells (kcL nx (.slice (some ⟨b0, o0, none⟩) 1 c0) R).toArray 41)
  have a1 := below_new (w.alloc (.cells (kcL nx (.slice (some ⟨b0, o0, none⟩) 1 c0) R).toArray 41)) (.cells zk 41)
  have G1 := old_at (new_at (w := w) rfl (.cells (kcL nx (.slice (some ⟨b0, o0, none⟩) 1 c0) R).toArray 41)) (.cells zk 41)
  have G2 : ((w.alloc (.cells (kcL nx (.slice (some ⟨b0, o0, none⟩) 1 c0) R).toArray 41)).alloc (.cells zk 41)).heap[w.heap.size + 1]? = some (.cells zk 41 (0, 0)) := new_at (by simp) _
  have B := below_step a0 a1
  have t3 := h3.later B
  have t5 := h5.later B
  have hs0 := hs.later B
  have szK : ∀ v, (Try.prog.info? 41).map (·.size) = some (kcL nx v R).length := fun v => ker_size (by simp [hR])
  have oneh := (hc_held h3 h5 (st := 2) (sh := false)).one
  have x1 := cell_list G1 (i := 1) rfl
  have HW0 : ((w.alloc (.cells (kcL nx (.slice (some ⟨b0, o0, none⟩) 1 c0) R).toArray 41)).alloc (.cells zk 41)).heap.size = w.heap.size + 2 := by simp
  clear a0 a1 hs
  go_enter Try.func39, Try.ntmps39
  go_upto_region 1 with (refine wpList_new (by rfl) 41 zv zk hzi hzk (by rfl) ?_)
  generalize (w.alloc (.cells (kcL nx (.slice (some ⟨b0, o0, none⟩) 1 c0) R).toArray 41)).alloc (.cells zk 41) = W0 at *
  go_wp2_with fail
  refine (cloneHeld1_c ⟨b0, o0, none⟩ c0 _ _ hs0 oneh).mono ?_
  rintro e W1 ⟨v', rfl, bF, ho⟩
  obtain ⟨g, c, cur, rfl, hg, hG, hc1, hc2, hcz, hct⟩ := own_one ho
  rw [HW0] at hg
  have BK : Blk W1 g (hcL 2 v3 (.slice none 0 0) v5 false) := ⟨cur, hG, hcz, hct⟩
  replace G1 := var_later G1 bF
  replace G2 := var_later G2 bF
  replace B := below_step B bF
  replace t3 := t3.later bF
  replace t5 := t5.later bF
  clear bF ho hG hct hcz x1 hs0 oneh HW0
  have x1 := cell_list G1 (i := 1) rfl
  have f1 := free_at G1 1
  have F : FO w (W1.setCell ⟨w.heap.size, 1, none⟩ (.slice (some ⟨g, 0, none⟩) 1 c)) nx R zk g c v3 v5 l3 l5 :=
    ⟨below_set B (Nat.le_refl _) 1 _, by have h := set_at G1 1 (.slice (some ⟨g, 0, none⟩) 1 c); rw [List.setIfInBounds_toArray] at h; exact h, set_far G2 (by simp) _, hg,
      BK.keep (Below.heap_setCell _ _ _ _ (by simp; omega)), h3.later (below_set B (Nat.le_refl _) 1 _), h5.later (below_set B (Nat.le_refl _) 1 _), fun q hq => by have := vb_lt h3 hq; omega, fun q hq => by have := vb_lt h5 hq; omega⟩
  go_upto_region 2 with (fail)
  clear x1 f1 B G1 G2 BK t3 t5 h3 h5
  generalize W1.setCell ⟨w.heap.size, 1, none⟩ (.slice (some ⟨g, 0, none⟩) 1 c) = W2 at *
  have x1 := cell_list F.k (i := 1) rfl
  have szH : ∀ v3 v5, (Try.prog.info? 52).map (·.size) = some (hcL 2 v3 (.slice none 0 0) v5 false).length := fun _ _ => held_size rfl
  have HC := Lib.hid (And.intro hc1 hc2)
  go_wp2
  clear x1
  go_loopw [12] (fun i wr => ∃ (k : Nat) (v3 v5 : Value), k ≤ 1 ∧ i = .int .i64 k ∧ FO w wr nx R zk g c v3 v5 l3 l5 ∧ (k = 1 → (∀ q, VB v3 l3.length q → w.heap.size ≤ q) ∧ (∀ q, VB v5 l5.length q → w.heap.size ≤ q))) (fun i _ => 1 - (intOf i).toNat)
  case atStart => exact ⟨0, v3, v5, Nat.zero_le _, rfl, F, fun h => by omega⟩
  case round =>
    clear F v3 v5
    obtain ⟨k, v3, v5, hk, rfl, F, hown⟩ := hrel
    have HOWN := Lib.hid hown
    clear hown
    have x1 := cell_list F.k (i := 1) rfl
    by_cases hlt : k < 1
    · have hk0 : k = 0 := by omega
      have hHq := hc_held F.t3 F.t5 (st := 2) (sh := false)
      have hr := F.b.rng
      obtain ⟨Ws, hWs, k3, k4, k2⟩ := newv (V := wr) (hcL 2 v3 (.slice none 0 0) v5 false) zHeld 52 rfl
      have oneS := all_one hHq.one
      have i1 : (k : Int) < 1 := by omega
      have HWS := Lib.hid hWs
      have F2 := F.later k4
      have lg := F.b.lt
      have lk := lt_at F.k
      have hngp : wr.heap.size ≠ g := by omega
      have hnk : wr.heap.size ≠ w.heap.size := by omega
      clear hWs k4
      go_upto_region 5 with (first
        | refine wpList_load_g (by rfl) 52 (.tmp 15) (by rfl) g 0 (by rfl) _ _ hr Try.underlying52 rfl (szH v3 v5) ?_
        | (refine wpList_store_mid rfl 52 (.tmp 4) (.tmp 16) (by rfl) wr.heap.size 0 (hcL 2 v3 (.slice none 0 0) v5 false).toArray (by rfl) (by rfl) k2 (by simpa using szH v3 v5) oneS ?_; rw [HWS.out])
        | fail)
      clear F hr k2 oneS x1 hHq
      generalize wr.heap.size = gp at *
      refine wp_region_held_drew (S := (fun w' => w'.rangeAt gp 0 (hcL 2 v3 (.slice none 0 0) v5 false) ∧ w'.cell? ⟨w.heap.size, 1, none⟩ = some (.slice (some ⟨g, 0, none⟩) 1 c))) (by kernel_rfl) ?_ (fun hHeld => ?_)
      · exact ⟨range_of k3, cell_list F2.k rfl⟩
      have bd : Below Ws.heap.size Ws Ws.drew := (Below.refl _ Ws).drew
      replace F2 := F2.later bd
      replace k3 := var_later k3 bd
      clear bd
      generalize Ws.drew = V at *
      refine wpAnyH_take (i := 0) (v := ?_) rfl (by kernel_rfl) (by kernel_rfl) (by kernel_rfl) (fun _ _ _ h => h) (Or.inl ⟨by kernel_rfl, ?_⟩) (by assumption) ?_
      rotate_left
      · intro w hSw
        try dsimp only at hSw
        go_simp
        try with_reducible rfl
      simp only [List.getElem_toArray, List.getElem_cons_succ, List.getElem_cons_zero, Act.put, List.setIfInBounds_toArray, List.set_cons_zero, List.set_cons_succ]
      refine wpAnyH_take (i := 1) (v := ?_) rfl (by kernel_rfl) (by kernel_rfl) (by kernel_rfl) (fun _ _ _ h => h) (Or.inl ⟨by kernel_rfl, ?_⟩) (by assumption) ?_
      rotate_left
      · intro w hSw
        try dsimp only at hSw
        go_simp
        try with_reducible rfl
      simp only [List.getElem_toArray, List.getElem_cons_succ, List.getElem_cons_zero, Act.put, List.setIfInBounds_toArray, List.set_cons_zero, List.set_cons_succ]
      refine wpAnyH_take (i := 2) (v := ?_) rfl (by kernel_rfl) (by kernel_rfl) (by kernel_rfl) (fun _ _ _ h => h) (Or.inl ⟨by kernel_rfl, ?_⟩) (by assumption) ?_
      rotate_left
      · intro w hSw
        try dsimp only at hSw
        go_simp
        try with_reducible rfl
      simp only [List.getElem_toArray, List.getElem_cons_succ, List.getElem_cons_zero, Act.put, List.setIfInBounds_toArray, List.set_cons_zero, List.set_cons_succ]
      have szh := szH v3 v5
      refine wpAnyH_take (i := 3) (v := .agg ((hcL 2 v3 (.slice none 0 0) v5 false) : List Value).toArray) rfl (by kernel_rfl) (by kernel_rfl) (by kernel_rfl) (fun _ _ _ h => h) (yieldsIf_load_mid (by kernel_rfl) 52 (.tmp 4) (by kernel_rfl) (gp) 0 (by kernel_rfl) (hcL 2 v3 (.slice none 0 0) v5 false) _ (fun w' h => h.1) (by first | exact Try.underlying52) rfl (by first | assumption | (simp only [*]; kernel_rfl))) (by assumption) ?_
      try simp only [List.getElem_toArray, List.getElem_cons_succ, List.getElem_cons_zero, Act.put, List.setIfInBounds_toArray, List.set_cons_zero, List.set_cons_succ]
      clear hHeld
      refine wpAnyH_ready (rs := [4]) (by kernel_rfl) (by simp) ?_
      refine AllReadyH.cons rfl (fun K hK => ?_) AllReadyH.nil
      refine Node.wp_fn 50 [.tmp 20] _ [.agg (hcL 2 v3 (.slice none 0 0) v5 false).toArray] (by rfl) (by rfl) (enters Try.func50 (by kernel_rfl) rfl) (hOwn_c v3 v5 l3 l5 V F2.t3 F2.t5 hl3 hl5) ?_
      rintro e V' ⟨v3', v5', rfl, bF, O3, O5⟩
      refine ⟨_, rfl, ?_⟩
      have lV := F2.b.lt
      have lK := lt_at F2.z
      replace F2 := F2.later bF
      replace k3 := var_later k3 bF
      clear bF
      generalize V.heap.size = nV at *
      refine hK.out _ _ ⟨range_of k3, cell_list F2.k rfl⟩ (fun _ => ?_)
      clear hK K
      try simp only [List.getElem_toArray, List.getElem_cons_succ, List.getElem_cons_zero, Act.put, List.setIfInBounds_toArray, List.set_cons_zero, List.set_cons_succ]
      refine wpAnyH_take (i := 5) (v := ?_) rfl (by kernel_rfl) (by kernel_rfl) (by kernel_rfl) (fun _ _ _ h => h) (Or.inl ⟨by kernel_rfl, ?_⟩) (by assumption) ?_
      rotate_left
      · intro w hSw
        try dsimp only at hSw
        go_simp
        try with_reducible rfl
      simp only [List.getElem_toArray, List.getElem_cons_succ, List.getElem_cons_zero, Act.put, List.setIfInBounds_toArray, List.set_cons_zero, List.set_cons_succ]
      refine wpAnyH_ready (rs := [6]) (by kernel_rfl) (by simp) ?_
      refine AllReadyH.cons rfl (fun K hK => ?_) AllReadyH.nil
      have hOne := all_one (hc_held O3.at_ O5.at_ (st := 2) (sh := false)).one
      refine wp_store_mid 52 (.tmp 22) (.tmp 21) (by rfl) g 0 (hcL 2 v3' (.slice none 0 0) v5' false).toArray (by rfl) (by rfl) F2.b.there (by simpa using szH v3' v5') hOne ?_
      have hFg := F2.hg
      have bV : Below w.heap.size w (V'.setCells g 0 (hcL 2 v3' (.slice none 0 0) v5' false).toArray.toList) := below_setCells (by omega) _ _ F2.bel
      have F3 : FO w (V'.setCells g 0 (hcL 2 v3' (.slice none 0 0) v5' false).toArray.toList) nx R zk g c v3' v5' l3 l5 :=
        ⟨bV, (setCells_other _ _ (by omega)).trans F2.k, (setCells_other _ _ (by omega)).trans F2.z, hFg, F2.b.fill _ rfl,
          (O3.keep (fun q hq => setCells_other _ _ (by omega))).at_, (O5.keep (fun q hq => setCells_other _ _ (by omega))).at_,
          fun q hq => by have := (own_base O3 hq.2).1; omega, fun q hq => by have := (own_base O5 hq.2).1; omega⟩
      have HO3 := Lib.hid (fun q (hq : VB v3' l3.length q) => show w.heap.size ≤ q by have := (own_base O3 hq.2).1; omega)
      have HO5 := Lib.hid (fun q (hq : VB v5' l5.length q) => show w.heap.size ≤ q by have := (own_base O5 hq.2).1; omega)
      replace k3 := (setCells_other (hcL 2 v3' (.slice none 0 0) v5' false).toArray.toList 0 (w := V') (g := g) (k := gp) hngp).trans k3
      clear hOne bV F2 O3 O5
      generalize V'.setCells g 0 (hcL 2 v3' (.slice none 0 0) v5' false).toArray.toList = V2 at *
      refine hK.out _ _ ⟨range_of k3, cell_list F3.k rfl⟩ (fun _ => ?_)
      clear hK K
      try simp only [List.getElem_toArray, List.getElem_cons_succ, List.getElem_cons_zero, Act.put, List.setIfInBounds_toArray, List.set_cons_zero, List.set_cons_succ]
      refine wpAnyH_done (by kernel_rfl) ?_ _
      go_wp2
      go_roundw
      case rel => exact ⟨1, v3', v5', Nat.le_refl _, by simp, F3, fun _ => ⟨HO3.out, HO5.out⟩⟩
      case measure => simp [intOf]; omega
    · obtain rfl : k = 1 := by omega
      have RK := range_of F.k
      obtain ⟨W3, hW, X, BF, far, ths⟩ := fill_new (kcL nx (.slice (some ⟨g, 0, none⟩) 1 c) R) F.z (by simp [hR, hzs]) F.bel (by omega)
      have HW := Lib.hid hW
      have oneK : (kcL nx (.slice (some ⟨g, 0, none⟩) 1 c) R).toArray.all (·.oneCell') = true := all_one (fun u hu => by
        simp only [List.mem_cons] at hu
        rcases hu with rfl | rfl | hu
        · rfl
        · rfl
        · exact hR1 u hu)
      clear hW
      go_wp2_with (first
        | refine wpList_load_g (by rfl) 41 (.tmp 1) (by rfl) w.heap.size 0 (by rfl) _ _ RK Try.underlying41 rfl (szK _) ?_
        | (refine wpList_store_mid rfl 41 (.tmp 2) (.tmp 24) (by rfl) (w.heap.size + 1) 0 (kcL nx (.slice (some ⟨g, 0, none⟩) 1 c) R).toArray (by rfl) (by rfl) ths (by simpa using szK (.slice (some ⟨g, 0, none⟩) 1 c)) oneK ?_; rw [HW.out])
        | fail)
      refine bodyPost_ret (res_mid (t := 2) (M := kcL nx (.slice (some ⟨g, 0, none⟩) 1 c) R) Try.underlying41 rfl rfl (szK _) rfl X) rfl ⟨g, c, rfl, BF, by have := F.hg; omega, HC.out.1, HC.out.2, v3, v5, F.b.keep (far _ (by have := F.hg; omega)), ?_, ?_, (HOWN.out trivial).1, (HOWN.out trivial).2⟩
      · rw [← HW.out]; exact slice_keep F.t3 (keep_cells _ _) (fun q hq => (F.d3 q hq).2.1)
      · rw [← HW.out]; exact slice_keep F.t5 (keep_cells _ _) (fun q hq => (F.d5 q hq).2.1)
end Go.Proofs.Ytkmioplegjeopaa
