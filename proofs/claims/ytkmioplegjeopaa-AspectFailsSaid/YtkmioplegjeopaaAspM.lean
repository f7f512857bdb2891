/- Routes in memory of their own: contracts of Own. Nothing that was there is turned. -/
import Derived.Test.YtkmioplegjeopaaAspK
namespace Go.Proofs.Ytkmioplegjeopaa
open Go.RowKit Rf Mem Bv AM
attribute [local go_sem ↓] run_max2 run_min2
theorem own_base_le {w : World} {base base' e sz n : Nat} {v : Value} {xs : List Value} (h : w.ownsRow base e sz v n xs) (hb : base' ≤ base) : w.ownsRow base' e sz v n xs :=
  ⟨h.1, h.2.imp id (fun ⟨g, cap, cur, q1, q2, q3⟩ => ⟨g, cap, cur, q1, by omega, q3⟩)⟩
theorem there_new (w : World) (zs : Array Value) (T : TypeId) : (w.alloc (.cells zs T)).heap[w.heap.size]? = some (.cells zs T (0, 0)) := new_at rfl _
theorem path_size {cs : List Value} (h : cs.length = 3) : (Try.prog.info? 48).map (·.size) = some cs.length := by rw [h]; kernel_rfl
set_option maxHeartbeats 1000000 in
set_option maxRecDepth 100000 in
theorem rOwn_c (a b : Int) (v : Value) (l : List T3) (w : World) (hs : TAt w v l) (hl : l.length ≤ 100000) :
    Calls Try.prog 56 #[.agg #[.int .i64 a, .int .i64 b, v]] w fun e w' => ∃ v', e = .returned (.agg #[.int .i64 a, .int .i64 b, v']) ∧ Below w.heap.size w w' ∧ w'.ownsRow w.heap.size 55 3 v' l.length (t3s l) := by
  have b0 := below_new w (.cells #[.int .i64 a, .int .i64 b, v] 48)
  have b1 := below_new (w.alloc (.cells #[.int .i64 a, .int .i64 b, v] 48)) (.cells #[.int .i64 0, .int .i64 0, .slice none 0 0] 48)
  have G1 := old_at (new_at (w := w) rfl (.cells #[.int .i64 a, .int .i64 b, v] 48)) (.cells #[.int .i64 0, .int .i64 0, .slice none 0 0] 48)
  have G2 : ((w.alloc (.cells #[.int .i64 a, .int .i64 b, v] 48)).alloc (.cells #[.int .i64 0, .int .i64 0, .slice none 0 0] 48)).heap[w.heap.size + 1]? = some (.cells #[.int .i64 0, .int .i64 0, .slice none 0 0] 48 (0, 0)) := new_at (by simp) _
  have B := below_step b0 b1
  have hs2 := hs.later B
  have x2 := cell_at G1 2
  clear hs
  go_enter Try.func56, Try.ntmps56
  go_upto_region 1 with (fail)
  generalize (w.alloc (.cells #[.int .i64 a, .int .i64 b, v] 48)).alloc (.cells #[.int .i64 0, .int .i64 0, .slice none 0 0] 48) = W0 at *
  go_wp2_with fail
  refine (cloneStep_c v l _ hs2 hl).mono ?_
  rintro e W1 ⟨v', rfl, b2, HO, _⟩
  have hs0 : w.heap.size + 1 < W0.heap.size := lt_at G2
  replace G1 := var_later G1 b2
  replace G2 := var_later G2 b2
  replace B := below_step B b2
  clear x2 hs2 b0 b1 b2
  have y0 := cell_at G1 0
  have y1 := cell_at G1 1
  have y2 := cell_at G1 2
  have f2 := free_at G1 2
  have z0 := cell_at G2 0
  have z1 := cell_at G2 1
  have z2 := cell_at G2 2
  have g0 := free_at G2 0
  have g1 := free_at G2 1
  have g2 := free_at G2 2
  obtain ⟨A', c', rfl, _⟩ := (sliceAt_of_own HO).form
  go_wp2
  have hM : Hid True := Lib.hid trivial
  refine bodyPost_ret (res_mid (t := 2) (M := [.int .i64 a, .int .i64 b, .slice A' l.length c']) Try.underlying48 rfl rfl (path_size rfl) rfl (set_at (set_at (set_at (set_far G2 (by simp) _) 0 _) 1 _) 2 _)) rfl ⟨_, rfl, ?_, ?_⟩
  · exact (((B.setCell (by simp) _).setCell (by simp) _).setCell (by simp) _).setCell (by simp) _
  · refine own_base_le (own_later HO (fun q hq => ?_)) (by omega)
    have h1 := (own_base HO hq).1
    exact (Below.heap_setCell _ _ _ _ (by simp; omega)).trans ((Below.heap_setCell _ _ _ _ (by simp; omega)).trans ((Below.heap_setCell _ _ _ _ (by simp; omega)).trans (Below.heap_setCell _ _ _ _ (by simp; omega))))
/-- the route that the law's wakes hold -/
abbrev hcL (st : Int) (v3 v4 v5 : Value) (sh : Bool) : List Value := [.int .i64 1, .int .i64 0, .int .i64 0, v3, v4, v5, .int .u8 st, .int .i64 0, .bool false, .bool false, .bool false, .bool false, .bool false, .bool false, .bool false, .bool false, .bool false, .bool false, .bool false, .bool false, .bool false, .int .i64 0, .bool sh]
/-- a row of triples in blocks behind block n -/
def OwnT (n : Nat) (W : World) (E : TypeId) (v : Value) (l : List T3) : Prop := W.ownsRow n E 3 v l.length (t3s l)
theorem OwnT.later {n : Nat} {W W' : World} {E : TypeId} {v : Value} {l : List T3} (h : OwnT n W E v l) (b : Below W.heap.size W W') : OwnT n W' E v l := own_bel h b
theorem OwnT.keep {n : Nat} {W W' : World} {E : TypeId} {v : Value} {l : List T3} (h : OwnT n W E v l) (hk : ∀ q, n ≤ q → W'.heap[q]? = W.heap[q]?) : OwnT n W' E v l := own_later h (fun q hq => hk q (own_base h hq).1)
theorem OwnT.at_ {n : Nat} {W : World} {E : TypeId} {v : Value} {l : List T3} (h : OwnT n W E v l) : TAt W v l := sliceAt_of_own h
theorem rng3 {W : World} {g : Nat} {st : Int} {v3 v4 v5 : Value} {sh : Bool} {T : TypeId} {f : Nat × Nat} (h : W.heap[g]? = some (.cells (hcL st v3 v4 v5 sh).toArray T f)) : W.rangeAt g 1 [.int .i64 0, .int .i64 0, v3] := fun j v hv => by
  rw [cell_at h]
  match j, hv with
  | 0, hv => cases hv; rfl
  | 1, hv => cases hv; rfl
  | 2, hv => cases hv; rfl
set_option maxHeartbeats 4000000 in
set_option maxRecDepth 100000 in
theorem hOwn_c (v3 v5 : Value) (l3 l5 : List T3) (w : World) (h3 : TAt w v3 l3) (h5 : TAt w v5 l5) (hl3 : l3.length ≤ 100000) (hl5 : l5.length ≤ 100000) :
    Calls Try.prog 50 #[.agg (hcL 2 v3 (.slice none 0 0) v5 false).toArray] w fun e w' => ∃ v3' v5', e = .returned (.agg (hcL 2 v3' (.slice none 0 0) v5' false).toArray) ∧ Below w.heap.size w w' ∧ OwnT w.heap.size w' 55 v3' l3 ∧ OwnT w.heap.size w' 59 v5' l5 := by
  have b0 := below_new w (.cells (hcL 2 v3 (.slice none 0 0) v5 false).toArray 52)
  have b1 := below_new (w.alloc (.cells (hcL 2 v3 (.slice none 0 0) v5 false).toArray 52)) (.cells zHeld 52)
  have G1 := old_at (new_at (w := w) rfl (.cells (hcL 2 v3 (.slice none 0 0) v5 false).toArray 52)) (.cells zHeld 52)
  have G2 : ((w.alloc (.cells (hcL 2 v3 (.slice none 0 0) v5 false).toArray 52)).alloc (.cells zHeld 52)).heap[w.heap.size + 1]? = some (.cells zHeld 52 (0, 0)) := new_at (by simp) _
  have B := below_step b0 b1
  have t3 := h3.later B
  have t5 := h5.later B
  have n2 : w.heap.size + 2 ≤ ((w.alloc (.cells (hcL 2 v3 (.slice none 0 0) v5 false).toArray 52)).alloc (.cells zHeld 52)).heap.size := by simp
  clear h3 h5 b0 b1
  go_enter Try.func50, Try.ntmps50
  go_upto_region 1 with (fail)
  generalize (w.alloc (.cells (hcL 2 v3 (.slice none 0 0) v5 false).toArray 52)).alloc (.cells zHeld 52) = W0 at *
  refine wp_region_held_drew (S := (fun w' => w'.cell? ⟨w.heap.size, 4, none⟩ = some (.slice none 0 0))) (by kernel_rfl) ?_ (fun hHeld => ?_)
  · exact cell_list G1 rfl
  have bd : Below W0.heap.size W0 W0.drew := (Below.refl _ W0).drew
  replace G1 := var_later G1 bd
  replace G2 := var_later G2 bd
  replace B := below_step B bd
  replace t3 := t3.later bd
  replace t5 := t5.later bd
  replace n2 : w.heap.size + 2 ≤ W0.drew.heap.size := n2
  clear bd
  generalize W0.drew = V at *
  refine wpAnyH_take (i := 0) (v := ?_) rfl (by kernel_rfl) (by kernel_rfl) (by kernel_rfl) (fun _ _ _ h => h) (Or.inl ⟨by kernel_rfl, ?_⟩) (by assumption) ?_
  rotate_left
  · intro w hSw
    try dsimp only at hSw
    go_simp
    try with_reducible rfl
  simp only [List.getElem_toArray, List.getElem_cons_succ, List.getElem_cons_zero, Act.put, List.setIfInBounds_toArray, List.set_cons_zero, List.set_cons_succ]
  refine wpAnyH_take (i := 3) (v := ?_) rfl (by kernel_rfl) (by kernel_rfl) (by kernel_rfl) (fun _ _ _ h => h) (Or.inl ⟨by kernel_rfl, ?_⟩) (by assumption) ?_
  rotate_left
  · intro w hSw
    try dsimp only at hSw
    go_simp
    try with_reducible rfl
  simp only [List.getElem_toArray, List.getElem_cons_succ, List.getElem_cons_zero, Act.put, List.setIfInBounds_toArray, List.set_cons_zero, List.set_cons_succ]
  refine wpAnyH_take (i := 4) (v := ?_) rfl (by kernel_rfl) (by kernel_rfl) (by kernel_rfl) (fun _ _ _ h => h) (Or.inl ⟨by kernel_rfl, ?_⟩) (by assumption) ?_
  rotate_left
  · intro w hSw
    try dsimp only at hSw
    go_simp
    try with_reducible rfl
  simp only [List.getElem_toArray, List.getElem_cons_succ, List.getElem_cons_zero, Act.put, List.setIfInBounds_toArray, List.set_cons_zero, List.set_cons_succ]
  refine wpAnyH_take (i := 6) (v := ?_) rfl (by kernel_rfl) (by kernel_rfl) (by kernel_rfl) (fun _ _ _ h => h) (Or.inl ⟨by kernel_rfl, ?_⟩) (by assumption) ?_
  rotate_left
  · intro w hSw
    try dsimp only at hSw
    go_simp
    try with_reducible rfl
  simp only [List.getElem_toArray, List.getElem_cons_succ, List.getElem_cons_zero, Act.put, List.setIfInBounds_toArray, List.set_cons_zero, List.set_cons_succ]
  clear hHeld
  refine wpAnyH_ready (rs := [1, 7]) (by kernel_rfl) (by simp) ?_
  refine AllReadyH.cons rfl (fun K hK => ?_) (AllReadyH.cons rfl (fun K hK => ?_) AllReadyH.nil)
  · skip
    refine wp_load_mid 48 (.tmp 3) (by rfl) w.heap.size 1 (by rfl) [.int .i64 0, .int .i64 0, v3] _ (rng3 G1) Try.underlying48 rfl (path_size rfl) ?_
    refine hK.out _ _ (cell_list G1 rfl) (fun _ => ?_)
    clear hK K
    try simp only [List.getElem_toArray, List.getElem_cons_succ, List.getElem_cons_zero, Act.put, List.setIfInBounds_toArray, List.set_cons_zero, List.set_cons_succ]
    refine wpAnyH_ready (rs := [2, 7]) (by kernel_rfl) (by simp) ?_
    refine AllReadyH.cons rfl (fun K hK => ?_) (AllReadyH.cons rfl (fun K hK => ?_) AllReadyH.nil)
    · skip
      refine Node.wp_fn 56 [.tmp 4] _ [.agg #[.int .i64 0, .int .i64 0, v3]] (by rfl) (by rfl) (enters Try.func56 (by kernel_rfl) rfl) (rOwn_c 0 0 v3 l3 V t3 hl3) ?_
      rintro e V' ⟨v3', rfl, bF, O3⟩
      refine ⟨_, rfl, ?_⟩
      replace O3 : OwnT (w.heap.size + 2) V' 55 v3' l3 := own_base_le O3 n2
      replace G1 := var_later G1 bF
      replace G2 := var_later G2 bF
      replace B := below_step B bF
      replace t5 := t5.later bF
      replace n2 := Nat.le_trans n2 bF.size
      clear bF t3
      generalize V' = V at *
      refine hK.out _ _ (cell_list G1 rfl) (fun _ => ?_)
      clear hK K
      try simp only [List.getElem_toArray, List.getElem_cons_succ, List.getElem_cons_zero, Act.put, List.setIfInBounds_toArray, List.set_cons_zero, List.set_cons_succ]
      refine wpAnyH_ready (rs := [5, 7]) (by kernel_rfl) (by simp) ?_
      refine AllReadyH.cons rfl (fun K hK => ?_) (AllReadyH.cons rfl (fun K hK => ?_) AllReadyH.nil)
      · skip
        refine Node.wp_fn 57 [.tmp 7] _ [.slice none 0 0] (by rfl) (by rfl) (enters Try.func57 (by kernel_rfl) rfl) (cloneStep_c (.slice none 0 0) [] V (SliceAt.nil_ _ _) (by simp)) ?_
        rintro e V' ⟨v4, rfl, bF, _, hv4⟩
        obtain rfl := hv4 rfl
        refine ⟨_, rfl, ?_⟩
        replace G1 := var_later G1 bF
        replace G2 := var_later G2 bF
        replace B := below_step B bF
        replace t5 := t5.later bF
        replace O3 := O3.later bF
        replace n2 := Nat.le_trans n2 bF.size
        clear bF hv4
        generalize V' = V at *
        refine hK.out _ _ (cell_list G1 rfl) (fun _ => ?_)
        clear hK K
        try simp only [List.getElem_toArray, List.getElem_cons_succ, List.getElem_cons_zero, Act.put, List.setIfInBounds_toArray, List.set_cons_zero, List.set_cons_succ]
        refine wpAnyH_ready (rs := [7]) (by kernel_rfl) (by simp) ?_
        refine AllReadyH.cons rfl (fun K hK => ?_) AllReadyH.nil
        have x5 := cell_list G1 (i := 5) rfl
        go_simp
        clear x5
        refine hK.out _ _ (cell_list G1 rfl) (fun _ => ?_)
        clear hK K
        try simp only [List.getElem_toArray, List.getElem_cons_succ, List.getElem_cons_zero, Act.put, List.setIfInBounds_toArray, List.set_cons_zero, List.set_cons_succ]
        refine wpAnyH_ready (rs := [8, 9]) (by kernel_rfl) (by simp) ?_
        refine AllReadyH.cons rfl (fun K hK => ?_) (AllReadyH.cons rfl (fun K hK => ?_) AllReadyH.nil)
        · skip
          refine Node.wp_fn 58 [.tmp 10] _ [v5] (by rfl) (by rfl) (enters Try.func58 (by kernel_rfl) rfl) (cloneNeed_c v5 l5 V t5 hl5) ?_
          rintro e V' ⟨v5', rfl, bF, O5, _⟩
          refine ⟨_, rfl, ?_⟩
          replace O5 : OwnT (w.heap.size + 2) V' 59 v5' l5 := own_base_le O5 n2
          replace G1 := var_later G1 bF
          replace G2 := var_later G2 bF
          replace B := below_step B bF
          replace O3 := O3.later bF
          replace n2 := Nat.le_trans n2 bF.size
          clear bF t5
          generalize V' = V at *
          refine hK.out _ _ (cell_list G1 rfl) (fun _ => ?_)
          clear hK K
          try simp only [List.getElem_toArray, List.getElem_cons_succ, List.getElem_cons_zero, Act.put, List.setIfInBounds_toArray, List.set_cons_zero, List.set_cons_succ]
          refine wpAnyH_ready (rs := [9]) (by kernel_rfl) (by simp) ?_
          refine AllReadyH.cons rfl (fun K hK => ?_) AllReadyH.nil
          go_simp
          refine hK.out _ _ (cell_list G1 rfl) (fun _ => ?_)
          clear hK K
          try simp only [List.getElem_toArray, List.getElem_cons_succ, List.getElem_cons_zero, Act.put, List.setIfInBounds_toArray, List.set_cons_zero, List.set_cons_succ]
          refine wpAnyH_ready (rs := [10]) (by kernel_rfl) (by simp) ?_
          refine AllReadyH.cons rfl (fun K hK => ?_) AllReadyH.nil
          obtain ⟨A3, c3, hv3, _⟩ := (sliceAt_of_own O3).form
          refine wp_store_mid 48 (.tmp 12) (.tmp 5) (by rfl) w.heap.size 1 ([.int .i64 0, .int .i64 0, v3'] : List Value).toArray (by rfl) (by rfl) (there_of G1 1 _ (by simp)) (by simpa using path_size (cs := [.int .i64 0, .int .i64 0, v3']) rfl) (all_one (by rw [hv3]; simp [Value.oneCell'])) ?_
          replace G1 := setCells_at (([.int .i64 0, .int .i64 0, v3'] : List Value).toArray.toList) 1 G1
          replace G2 := (setCells_other (([.int .i64 0, .int .i64 0, v3'] : List Value).toArray.toList) 1 (w := V) (g := w.heap.size) (k := w.heap.size + 1) (by omega)).trans G2
          replace B := below_setCells (Nat.le_refl _) (([.int .i64 0, .int .i64 0, v3'] : List Value).toArray.toList) 1 B
          replace O3 := O3.keep (fun q hq => setCells_other (([.int .i64 0, .int .i64 0, v3'] : List Value).toArray.toList) 1 (w := V) (g := w.heap.size) (k := q) (by omega))
          replace O5 := O5.keep (fun q hq => setCells_other (([.int .i64 0, .int .i64 0, v3'] : List Value).toArray.toList) 1 (w := V) (g := w.heap.size) (k := q) (by omega))
          replace G1 : (V.setCells w.heap.size 1 ([.int .i64 0, .int .i64 0, v3'] : List Value).toArray.toList).heap[w.heap.size]? = some (.cells (hcL 2 v3' (.slice none 0 0) v5 false).toArray 52 (0, 0)) := G1
          clear hv3
          generalize V.setCells w.heap.size 1 ([.int .i64 0, .int .i64 0, v3'] : List Value).toArray.toList = V at *
          refine hK.out _ _ (cell_list G1 rfl) (fun _ => ?_)
          clear hK K
          try simp only [List.getElem_toArray, List.getElem_cons_succ, List.getElem_cons_zero, Act.put, List.setIfInBounds_toArray, List.set_cons_zero, List.set_cons_succ]
          refine wpAnyH_ready (rs := [11]) (by kernel_rfl) (by simp) ?_
          refine AllReadyH.cons rfl (fun K hK => ?_) AllReadyH.nil
          go_simp
          refine hK.out _ _ (cell_list G1 rfl) (fun _ => ?_)
          clear hK K
          try simp only [List.getElem_toArray, List.getElem_cons_succ, List.getElem_cons_zero, Act.put, List.setIfInBounds_toArray, List.set_cons_zero, List.set_cons_succ]
          refine wpAnyH_ready (rs := [12]) (by kernel_rfl) (by simp) ?_
          refine AllReadyH.cons rfl (fun K hK => ?_) AllReadyH.nil
          have x4 := cell_list G1 (i := 4) rfl
          have f4 := free_at G1 4
          go_simp
          clear x4 f4
          replace G1 : (V.setCell ⟨w.heap.size, 4, none⟩ (.slice none 0 0)).heap[w.heap.size]? = some (.cells (hcL 2 v3' (.slice none 0 0) v5 false).toArray 52 (0, 0)) := set_at G1 4 (.slice none 0 0)
          replace G2 := set_far G2 (p := ⟨w.heap.size, 4, none⟩) (by simp) (.slice none 0 0)
          replace B := below_set B (Nat.le_refl _) 4 (.slice none 0 0)
          replace O3 := O3.keep (fun q hq => Below.heap_setCell V ⟨w.heap.size, 4, none⟩ (.slice none 0 0) q (by simp; omega))
          replace O5 := O5.keep (fun q hq => Below.heap_setCell V ⟨w.heap.size, 4, none⟩ (.slice none 0 0) q (by simp; omega))
          generalize V.setCell ⟨w.heap.size, 4, none⟩ (.slice none 0 0) = V at *
          refine hK.out _ _ (cell_list G1 rfl) (fun _ => ?_)
          clear hK K
          try simp only [List.getElem_toArray, List.getElem_cons_succ, List.getElem_cons_zero, Act.put, List.setIfInBounds_toArray, List.set_cons_zero, List.set_cons_succ]
          refine wpAnyH_ready (rs := [13]) (by kernel_rfl) (by simp) ?_
          refine AllReadyH.cons rfl (fun K hK => ?_) AllReadyH.nil
          go_simp
          refine hK.out _ _ (cell_list G1 rfl) (fun _ => ?_)
          clear hK K
          try simp only [List.getElem_toArray, List.getElem_cons_succ, List.getElem_cons_zero, Act.put, List.setIfInBounds_toArray, List.set_cons_zero, List.set_cons_succ]
          refine wpAnyH_ready (rs := [14]) (by kernel_rfl) (by simp) ?_
          refine AllReadyH.cons rfl (fun K hK => ?_) AllReadyH.nil
          have x4 := cell_list G1 (i := 5) rfl
          have f4 := free_at G1 5
          obtain ⟨A5, c5, rfl, _⟩ := (sliceAt_of_own O5).form
          go_simp
          clear x4 f4
          replace G1 : (V.setCell ⟨w.heap.size, 5, none⟩ (.slice A5 l5.length c5)).heap[w.heap.size]? = some (.cells (hcL 2 v3' (.slice none 0 0) (.slice A5 l5.length c5) false).toArray 52 (0, 0)) := set_at G1 5 (.slice A5 l5.length c5)
          replace G2 := set_far G2 (p := ⟨w.heap.size, 5, none⟩) (by simp) (.slice A5 l5.length c5)
          replace B := below_set B (Nat.le_refl _) 5 (.slice A5 l5.length c5)
          replace O3 := O3.keep (fun q hq => Below.heap_setCell V ⟨w.heap.size, 5, none⟩ (.slice A5 l5.length c5) q (by simp; omega))
          replace O5 := O5.keep (fun q hq => Below.heap_setCell V ⟨w.heap.size, 5, none⟩ (.slice A5 l5.length c5) q (by simp; omega))
          generalize V.setCell ⟨w.heap.size, 5, none⟩ (.slice A5 l5.length c5) = V at *
          refine hK.out _ _ (cell_list G1 rfl) (fun _ => ?_)
          clear hK K
          try simp only [List.getElem_toArray, List.getElem_cons_succ, List.getElem_cons_zero, Act.put, List.setIfInBounds_toArray, List.set_cons_zero, List.set_cons_succ]
          refine wpAnyH_done (by kernel_rfl) ?_ _
          have RG := range_of G1
          have szH : (Try.prog.info? 52).map (·.size) = some (hcL 2 v3' (.slice none 0 0) (.slice A5 l5.length c5) false).length := held_size rfl
          obtain ⟨A3, c3, rfl, _⟩ := (sliceAt_of_own O3).form
          have oneH : (hcL 2 (.slice A3 l3.length c3) (.slice none 0 0) (.slice A5 l5.length c5) false).toArray.all (·.oneCell') = true := all_one (by simp [Value.oneCell'])
          obtain ⟨V', hW, X, BF, far, ths⟩ := fill_new (hcL 2 (.slice A3 l3.length c3) (.slice none 0 0) (.slice A5 l5.length c5) false) G2 rfl B (by omega)
          have HW := Lib.hid hW
          clear hW
          go_wp2_with (first
            | refine wpList_load_g (by rfl) 52 (.tmp 1) (by rfl) w.heap.size 0 (by rfl) (hcL 2 (.slice A3 l3.length c3) (.slice none 0 0) (.slice A5 l5.length c5) false) _ RG Try.underlying52 rfl szH ?_
            | (refine wpList_store_mid rfl 52 (.tmp 2) (.tmp 15) (by rfl) (w.heap.size + 1) 0 (hcL 2 (.slice A3 l3.length c3) (.slice none 0 0) (.slice A5 l5.length c5) false).toArray (by rfl) (by rfl) ths (by simpa using szH) oneH ?_; rw [HW.out])
            | fail)
          exact bodyPost_ret (res_mid (t := 2) (M := hcL 2 (.slice A3 l3.length c3) (.slice none 0 0) (.slice A5 l5.length c5) false) Try.underlying52 rfl rfl szH rfl X) rfl ⟨_, _, rfl, BF, own_base_le (O3.keep (fun q hq => far q (by omega))) (by omega), own_base_le (O5.keep (fun q hq => far q (by omega))) (by omega)⟩
        · skip
          go_simp
          refine hK.out _ _ (cell_list G1 rfl) (fun _ => ?_)
          clear hK K
          try simp only [List.getElem_toArray, List.getElem_cons_succ, List.getElem_cons_zero, Act.put, List.setIfInBounds_toArray, List.set_cons_zero, List.set_cons_succ]
          refine wpAnyH_ready (rs := [8]) (by kernel_rfl) (by simp) ?_
          refine AllReadyH.cons rfl (fun K hK => ?_) AllReadyH.nil
          refine Node.wp_fn 58 [.tmp 10] _ [v5] (by rfl) (by rfl) (enters Try.func58 (by kernel_rfl) rfl) (cloneNeed_c v5 l5 V t5 hl5) ?_
          rintro e V' ⟨v5', rfl, bF, O5, _⟩
          refine ⟨_, rfl, ?_⟩
          replace O5 : OwnT (w.heap.size + 2) V' 59 v5' l5 := own_base_le O5 n2
          replace G1 := var_later G1 bF
          replace G2 := var_later G2 bF
          replace B := below_step B bF
          replace O3 := O3.later bF
          replace n2 := Nat.le_trans n2 bF.size
          clear bF t5
          generalize V' = V at *
          refine hK.out _ _ (cell_list G1 rfl) (fun _ => ?_)
          clear hK K
          try simp only [List.getElem_toArray, List.getElem_cons_succ, List.getElem_cons_zero, Act.put, List.setIfInBounds_toArray, List.set_cons_zero, List.set_cons_succ]
          refine wpAnyH_ready (rs := [10]) (by kernel_rfl) (by simp) ?_
          refine AllReadyH.cons rfl (fun K hK => ?_) AllReadyH.nil
          obtain ⟨A3, c3, hv3, _⟩ := (sliceAt_of_own O3).form
          refine wp_store_mid 48 (.tmp 12) (.tmp 5) (by rfl) w.heap.size 1 ([.int .i64 0, .int .i64 0, v3'] : List Value).toArray (by rfl) (by rfl) (there_of G1 1 _ (by simp)) (by simpa using path_size (cs := [.int .i64 0, .int .i64 0, v3']) rfl) (all_one (by rw [hv3]; simp [Value.oneCell'])) ?_
          replace G1 := setCells_at (([.int .i64 0, .int .i64 0, v3'] : List Value).toArray.toList) 1 G1
          replace G2 := (setCells_other (([.int .i64 0, .int .i64 0, v3'] : List Value).toArray.toList) 1 (w := V) (g := w.heap.size) (k := w.heap.size + 1) (by omega)).trans G2
          replace B := below_setCells (Nat.le_refl _) (([.int .i64 0, .int .i64 0, v3'] : List Value).toArray.toList) 1 B
          replace O3 := O3.keep (fun q hq => setCells_other (([.int .i64 0, .int .i64 0, v3'] : List Value).toArray.toList) 1 (w := V) (g := w.heap.size) (k := q) (by omega))
          replace O5 := O5.keep (fun q hq => setCells_other (([.int .i64 0, .int .i64 0, v3'] : List Value).toArray.toList) 1 (w := V) (g := w.heap.size) (k := q) (by omega))
          replace G1 : (V.setCells w.heap.size 1 ([.int .i64 0, .int .i64 0, v3'] : List Value).toArray.toList).heap[w.heap.size]? = some (.cells (hcL 2 v3' (.slice none 0 0) v5 false).toArray 52 (0, 0)) := G1
          clear hv3
          generalize V.setCells w.heap.size 1 ([.int .i64 0, .int .i64 0, v3'] : List Value).toArray.toList = V at *
          refine hK.out _ _ (cell_list G1 rfl) (fun _ => ?_)
          clear hK K
          try simp only [List.getElem_toArray, List.getElem_cons_succ, List.getElem_cons_zero, Act.put, List.setIfInBounds_toArray, List.set_cons_zero, List.set_cons_succ]
          refine wpAnyH_ready (rs := [11]) (by kernel_rfl) (by simp) ?_
          refine AllReadyH.cons rfl (fun K hK => ?_) AllReadyH.nil
          go_simp
          refine hK.out _ _ (cell_list G1 rfl) (fun _ => ?_)
          clear hK K
          try simp only [List.getElem_toArray, List.getElem_cons_succ, List.getElem_cons_zero, Act.put, List.setIfInBounds_toArray, List.set_cons_zero, List.set_cons_succ]
          refine wpAnyH_ready (rs := [12]) (by kernel_rfl) (by simp) ?_
          refine AllReadyH.cons rfl (fun K hK => ?_) AllReadyH.nil
          have x4 := cell_list G1 (i := 4) rfl
          have f4 := free_at G1 4
          go_simp
          clear x4 f4
          replace G1 : (V.setCell ⟨w.heap.size, 4, none⟩ (.slice none 0 0)).heap[w.heap.size]? = some (.cells (hcL 2 v3' (.slice none 0 0) v5 false).toArray 52 (0, 0)) := set_at G1 4 (.slice none 0 0)
          replace G2 := set_far G2 (p := ⟨w.heap.size, 4, none⟩) (by simp) (.slice none 0 0)
          replace B := below_set B (Nat.le_refl _) 4 (.slice none 0 0)
          replace O3 := O3.keep (fun q hq => Below.heap_setCell V ⟨w.heap.size, 4, none⟩ (.slice none 0 0) q (by simp; omega))
          replace O5 := O5.keep (fun q hq => Below.heap_setCell V ⟨w.heap.size, 4, none⟩ (.slice none 0 0) q (by simp; omega))
          generalize V.setCell ⟨w.heap.size, 4, none⟩ (.slice none 0 0) = V at *
          refine hK.out _ _ (cell_list G1 rfl) (fun _ => ?_)
          clear hK K
          try simp only [List.getElem_toArray, List.getElem_cons_succ, List.getElem_cons_zero, Act.put, List.setIfInBounds_toArray, List.set_cons_zero, List.set_cons_succ]
          refine wpAnyH_ready (rs := [13]) (by kernel_rfl) (by simp) ?_
          refine AllReadyH.cons rfl (fun K hK => ?_) AllReadyH.nil
          go_simp
          refine hK.out _ _ (cell_list G1 rfl) (fun _ => ?_)
          clear hK K
          try simp only [List.getElem_toArray, List.getElem_cons_succ, List.getElem_cons_zero, Act.put, List.setIfInBounds_toArray, List.set_cons_zero, List.set_cons_succ]
          refine wpAnyH_ready (rs := [14]) (by kernel_rfl) (by simp) ?_
          refine AllReadyH.cons rfl (fun K hK => ?_) AllReadyH.nil
          have x4 := cell_list G1 (i := 5) rfl
          have f4 := free_at G1 5
          obtain ⟨A5, c5, rfl, _⟩ := (sliceAt_of_own O5).form
          go_simp
          clear x4 f4
          replace G1 : (V.setCell ⟨w.heap.size, 5, none⟩ (.slice A5 l5.length c5)).heap[w.heap.size]? = some (.cells (hcL 2 v3' (.slice none 0 0) (.slice A5 l5.length c5) false).toArray 52 (0, 0)) := set_at G1 5 (.slice A5 l5.length c5)
          replace G2 := set_far G2 (p := ⟨w.heap.size, 5, none⟩) (by simp) (.slice A5 l5.length c5)
          replace B := below_set B (Nat.le_refl _) 5 (.slice A5 l5.length c5)
          replace O3 := O3.keep (fun q hq => Below.heap_setCell V ⟨w.heap.size, 5, none⟩ (.slice A5 l5.length c5) q (by simp; omega))
          replace O5 := O5.keep (fun q hq => Below.heap_setCell V ⟨w.heap.size, 5, none⟩ (.slice A5 l5.length c5) q (by simp; omega))
          generalize V.setCell ⟨w.heap.size, 5, none⟩ (.slice A5 l5.length c5) = V at *
          refine hK.out _ _ (cell_list G1 rfl) (fun _ => ?_)
          clear hK K
          try simp only [List.getElem_toArray, List.getElem_cons_succ, List.getElem_cons_zero, Act.put, List.setIfInBounds_toArray, List.set_cons_zero, List.set_cons_succ]
          refine wpAnyH_done (by kernel_rfl) ?_ _
          have RG := range_of G1
          have szH : (Try.prog.info? 52).map (·.size) = some (hcL 2 v3' (.slice none 0 0) (.slice A5 l5.length c5) false).length := held_size rfl
          obtain ⟨A3, c3, rfl, _⟩ := (sliceAt_of_own O3).form
          have oneH : (hcL 2 (.slice A3 l3.length c3) (.slice none 0 0) (.slice A5 l5.length c5) false).toArray.all (·.oneCell') = true := all_one (by simp [Value.oneCell'])
          obtain ⟨V', hW, X, BF, far, ths⟩ := fill_new (hcL 2 (.slice A3 l3.length c3) (.slice none 0 0) (.slice A5 l5.length c5) false) G2 rfl B (by omega)
          have HW := Lib.hid hW
          clear hW
          go_wp2_with (first
            | refine wpList_load_g (by rfl) 52 (.tmp 1) (by rfl) w.heap.size 0 (by rfl) (hcL 2 (.slice A3 l3.length c3) (.slice none 0 0) (.slice A5 l5.length c5) false) _ RG Try.underlying52 rfl szH ?_
            | (refine wpList_store_mid rfl 52 (.tmp 2) (.tmp 15) (by rfl) (w.heap.size + 1) 0 (hcL 2 (.slice A3 l3.length c3) (.slice none 0 0) (.slice A5 l5.length c5) false).toArray (by rfl) (by rfl) ths (by simpa using szH) oneH ?_; rw [HW.out])
            | fail)
          exact bodyPost_ret (res_mid (t := 2) (M := hcL 2 (.slice A3 l3.length c3) (.slice none 0 0) (.slice A5 l5.length c5) false) Try.underlying52 rfl rfl szH rfl X) rfl ⟨_, _, rfl, BF, own_base_le (O3.keep (fun q hq => far q (by omega))) (by omega), own_base_le (O5.keep (fun q hq => far q (by omega))) (by omega)⟩
      · skip
        have x5 := cell_list G1 (i := 5) rfl
        go_simp
        clear x5
        refine hK.out _ _ (cell_list G1 rfl) (fun _ => ?_)
        clear hK K
        try simp only [List.getElem_toArray, List.getElem_cons_succ, List.getElem_cons_zero, Act.put, List.setIfInBounds_toArray, List.set_cons_zero, List.set_cons_succ]
        refine wpAnyH_ready (rs := [5, 9]) (by kernel_rfl) (by simp) ?_
        refine AllReadyH.cons rfl (fun K hK => ?_) (AllReadyH.cons rfl (fun K hK => ?_) AllReadyH.nil)
        · skip
          refine Node.wp_fn 57 [.tmp 7] _ [.slice none 0 0] (by rfl) (by rfl) (enters Try.func57 (by kernel_rfl) rfl) (cloneStep_c (.slice none 0 0) [] V (SliceAt.nil_ _ _) (by simp)) ?_
          rintro e V' ⟨v4, rfl, bF, _, hv4⟩
          obtain rfl := hv4 rfl
          refine ⟨_, rfl, ?_⟩
          replace G1 := var_later G1 bF
          replace G2 := var_later G2 bF
          replace B := below_step B bF
          replace t5 := t5.later bF
          replace O3 := O3.later bF
          replace n2 := Nat.le_trans n2 bF.size
          clear bF hv4
          generalize V' = V at *
          refine hK.out _ _ (cell_list G1 rfl) (fun _ => ?_)
          clear hK K
          try simp only [List.getElem_toArray, List.getElem_cons_succ, List.getElem_cons_zero, Act.put, List.setIfInBounds_toArray, List.set_cons_zero, List.set_cons_succ]
          refine wpAnyH_ready (rs := [8, 9]) (by kernel_rfl) (by simp) ?_
          refine AllReadyH.cons rfl (fun K hK => ?_) (AllReadyH.cons rfl (fun K hK => ?_) AllReadyH.nil)
          · skip
            refine Node.wp_fn 58 [.tmp 10] _ [v5] (by rfl) (by rfl) (enters Try.func58 (by kernel_rfl) rfl) (cloneNeed_c v5 l5 V t5 hl5) ?_
            rintro e V' ⟨v5', rfl, bF, O5, _⟩
            refine ⟨_, rfl, ?_⟩
            replace O5 : OwnT (w.heap.size + 2) V' 59 v5' l5 := own_base_le O5 n2
            replace G1 := var_later G1 bF
            replace G2 := var_later G2 bF
            replace B := below_step B bF
            replace O3 := O3.later bF
            replace n2 := Nat.le_trans n2 bF.size
            clear bF t5
            generalize V' = V at *
            refine hK.out _ _ (cell_list G1 rfl) (fun _ => ?_)
            clear hK K
            try simp only [List.getElem_toArray, List.getElem_cons_succ, List.getElem_cons_zero, Act.put, List.setIfInBounds_toArray, List.set_cons_zero, List.set_cons_succ]
            refine wpAnyH_ready (rs := [9]) (by kernel_rfl) (by simp) ?_
            refine AllReadyH.cons rfl (fun K hK => ?_) AllReadyH.nil
            go_simp
            refine hK.out _ _ (cell_list G1 rfl) (fun _ => ?_)
            clear hK K
            try simp only [List.getElem_toArray, List.getElem_cons_succ, List.getElem_cons_zero, Act.put, List.setIfInBounds_toArray, List.set_cons_zero, List.set_cons_succ]
            refine wpAnyH_ready (rs := [10]) (by kernel_rfl) (by simp) ?_
            refine AllReadyH.cons rfl (fun K hK => ?_) AllReadyH.nil
            obtain ⟨A3, c3, hv3, _⟩ := (sliceAt_of_own O3).form
            refine wp_store_mid 48 (.tmp 12) (.tmp 5) (by rfl) w.heap.size 1 ([.int .i64 0, .int .i64 0, v3'] : List Value).toArray (by rfl) (by rfl) (there_of G1 1 _ (by simp)) (by simpa using path_size (cs := [.int .i64 0, .int .i64 0, v3']) rfl) (all_one (by rw [hv3]; simp [Value.oneCell'])) ?_
            replace G1 := setCells_at (([.int .i64 0, .int .i64 0, v3'] : List Value).toArray.toList) 1 G1
            replace G2 := (setCells_other (([.int .i64 0, .int .i64 0, v3'] : List Value).toArray.toList) 1 (w := V) (g := w.heap.size) (k := w.heap.size + 1) (by omega)).trans G2
            replace B := below_setCells (Nat.le_refl _) (([.int .i64 0, .int .i64 0, v3'] : List Value).toArray.toList) 1 B
            replace O3 := O3.keep (fun q hq => setCells_other (([.int .i64 0, .int .i64 0, v3'] : List Value).toArray.toList) 1 (w := V) (g := w.heap.size) (k := q) (by omega))
            replace O5 := O5.keep (fun q hq => setCells_other (([.int .i64 0, .int .i64 0, v3'] : List Value).toArray.toList) 1 (w := V) (g := w.heap.size) (k := q) (by omega))
            replace G1 : (V.setCells w.heap.size 1 ([.int .i64 0, .int .i64 0, v3'] : List Value).toArray.toList).heap[w.heap.size]? = some (.cells (hcL 2 v3' (.slice none 0 0) v5 false).toArray 52 (0, 0)) := G1
            clear hv3
            generalize V.setCells w.heap.size 1 ([.int .i64 0, .int .i64 0, v3'] : List Value).toArray.toList = V at *
            refine hK.out _ _ (cell_list G1 rfl) (fun _ => ?_)
            clear hK K
            try simp only [List.getElem_toArray, List.getElem_cons_succ, List.getElem_cons_zero, Act.put, List.setIfInBounds_toArray, List.set_cons_zero, List.set_cons_succ]
            refine wpAnyH_ready (rs := [11]) (by kernel_rfl) (by simp) ?_
            refine AllReadyH.cons rfl (fun K hK => ?_) AllReadyH.nil
            go_simp
            refine hK.out _ _ (cell_list G1 rfl) (fun _ => ?_)
            clear hK K
            try simp only [List.getElem_toArray, List.getElem_cons_succ, List.getElem_cons_zero, Act.put, List.setIfInBounds_toArray, List.set_cons_zero, List.set_cons_succ]
            refine wpAnyH_ready (rs := [12]) (by kernel_rfl) (by simp) ?_
            refine AllReadyH.cons rfl (fun K hK => ?_) AllReadyH.nil
            have x4 := cell_list G1 (i := 4) rfl
            have f4 := free_at G1 4
            go_simp
            clear x4 f4
            replace G1 : (V.setCell ⟨w.heap.size, 4, none⟩ (.slice none 0 0)).heap[w.heap.size]? = some (.cells (hcL 2 v3' (.slice none 0 0) v5 false).toArray 52 (0, 0)) := set_at G1 4 (.slice none 0 0)
            replace G2 := set_far G2 (p := ⟨w.heap.size, 4, none⟩) (by simp) (.slice none 0 0)
            replace B := below_set B (Nat.le_refl _) 4 (.slice none 0 0)
            replace O3 := O3.keep (fun q hq => Below.heap_setCell V ⟨w.heap.size, 4, none⟩ (.slice none 0 0) q (by simp; omega))
            replace O5 := O5.keep (fun q hq => Below.heap_setCell V ⟨w.heap.size, 4, none⟩ (.slice none 0 0) q (by simp; omega))
            generalize V.setCell ⟨w.heap.size, 4, none⟩ (.slice none 0 0) = V at *
            refine hK.out _ _ (cell_list G1 rfl) (fun _ => ?_)
            clear hK K
            try simp only [List.getElem_toArray, List.getElem_cons_succ, List.getElem_cons_zero, Act.put, List.setIfInBounds_toArray, List.set_cons_zero, List.set_cons_succ]
            refine wpAnyH_ready (rs := [13]) (by kernel_rfl) (by simp) ?_
            refine AllReadyH.cons rfl (fun K hK => ?_) AllReadyH.nil
            go_simp
            refine hK.out _ _ (cell_list G1 rfl) (fun _ => ?_)
            clear hK K
            try simp only [List.getElem_toArray, List.getElem_cons_succ, List.getElem_cons_zero, Act.put, List.setIfInBounds_toArray, List.set_cons_zero, List.set_cons_succ]
            refine wpAnyH_ready (rs := [14]) (by kernel_rfl) (by simp) ?_
            refine AllReadyH.cons rfl (fun K hK => ?_) AllReadyH.nil
            have x4 := cell_list G1 (i := 5) rfl
            have f4 := free_at G1 5
            obtain ⟨A5, c5, rfl, _⟩ := (sliceAt_of_own O5).form
            go_simp
            clear x4 f4
            replace G1 : (V.setCell ⟨w.heap.size, 5, none⟩ (.slice A5 l5.length c5)).heap[w.heap.size]? = some (.cells (hcL 2 v3' (.slice none 0 0) (.slice A5 l5.length c5) false).toArray 52 (0, 0)) := set_at G1 5 (.slice A5 l5.length c5)
            replace G2 := set_far G2 (p := ⟨w.heap.size, 5, none⟩) (by simp) (.slice A5 l5.length c5)
            replace B := below_set B (Nat.le_refl _) 5 (.slice A5 l5.length c5)
            replace O3 := O3.keep (fun q hq => Below.heap_setCell V ⟨w.heap.size, 5, none⟩ (.slice A5 l5.length c5) q (by simp; omega))
            replace O5 := O5.keep (fun q hq => Below.heap_setCell V ⟨w.heap.size, 5, none⟩ (.slice A5 l5.length c5) q (by simp; omega))
            generalize V.setCell ⟨w.heap.size, 5, none⟩ (.slice A5 l5.length c5) = V at *
            refine hK.out _ _ (cell_list G1 rfl) (fun _ => ?_)
            clear hK K
            try simp only [List.getElem_toArray, List.getElem_cons_succ, List.getElem_cons_zero, Act.put, List.setIfInBounds_toArray, List.set_cons_zero, List.set_cons_succ]
            refine wpAnyH_done (by kernel_rfl) ?_ _
            have RG := range_of G1
            have szH : (Try.prog.info? 52).map (·.size) = some (hcL 2 v3' (.slice none 0 0) (.slice A5 l5.length c5) false).length := held_size rfl
            obtain ⟨A3, c3, rfl, _⟩ := (sliceAt_of_own O3).form
            have oneH : (hcL 2 (.slice A3 l3.length c3) (.slice none 0 0) (.slice A5 l5.length c5) false).toArray.all (·.oneCell') = true := all_one (by simp [Value.oneCell'])
            obtain ⟨V', hW, X, BF, far, ths⟩ := fill_new (hcL 2 (.slice A3 l3.length c3) (.slice none 0 0) (.slice A5 l5.length c5) false) G2 rfl B (by omega)
            have HW := Lib.hid hW
            clear hW
            go_wp2_with (first
              | refine wpList_load_g (by rfl) 52 (.tmp 1) (by rfl) w.heap.size 0 (by rfl) (hcL 2 (.slice A3 l3.length c3) (.slice none 0 0) (.slice A5 l5.length c5) false) _ RG Try.underlying52 rfl szH ?_
              | (refine wpList_store_mid rfl 52 (.tmp 2) (.tmp 15) (by rfl) (w.heap.size + 1) 0 (hcL 2 (.slice A3 l3.length c3) (.slice none 0 0) (.slice A5 l5.length c5) false).toArray (by rfl) (by rfl) ths (by simpa using szH) oneH ?_; rw [HW.out])
              | fail)
            exact bodyPost_ret (res_mid (t := 2) (M := hcL 2 (.slice A3 l3.length c3) (.slice none 0 0) (.slice A5 l5.length c5) false) Try.underlying52 rfl rfl szH rfl X) rfl ⟨_, _, rfl, BF, own_base_le (O3.keep (fun q hq => far q (by omega))) (by omega), own_base_le (O5.keep (fun q hq => far q (by omega))) (by omega)⟩
          · skip
            go_simp
            refine hK.out _ _ (cell_list G1 rfl) (fun _ => ?_)
            clear hK K
            try simp only [List.getElem_toArray, List.getElem_cons_succ, List.getElem_cons_zero, Act.put, List.setIfInBounds_toArray, List.set_cons_zero, List.set_cons_succ]
            refine wpAnyH_ready (rs := [8]) (by kernel_rfl) (by simp) ?_
            refine AllReadyH.cons rfl (fun K hK => ?_) AllReadyH.nil
            refine Node.wp_fn 58 [.tmp 10] _ [v5] (by rfl) (by rfl) (enters Try.func58 (by kernel_rfl) rfl) (cloneNeed_c v5 l5 V t5 hl5) ?_
            rintro e V' ⟨v5', rfl, bF, O5, _⟩
            refine ⟨_, rfl, ?_⟩
            replace O5 : OwnT (w.heap.size + 2) V' 59 v5' l5 := own_base_le O5 n2
            replace G1 := var_later G1 bF
            replace G2 := var_later G2 bF
            replace B := below_step B bF
            replace O3 := O3.later bF
            replace n2 := Nat.le_trans n2 bF.size
            clear bF t5
            generalize V' = V at *
            refine hK.out _ _ (cell_list G1 rfl) (fun _ => ?_)
            clear hK K
            try simp only [List.getElem_toArray, List.getElem_cons_succ, List.getElem_cons_zero, Act.put, List.setIfInBounds_toArray, List.set_cons_zero, List.set_cons_succ]
            refine wpAnyH_ready (rs := [10]) (by kernel_rfl) (by simp) ?_
            refine AllReadyH.cons rfl (fun K hK => ?_) AllReadyH.nil
            obtain ⟨A3, c3, hv3, _⟩ := (sliceAt_of_own O3).form
            refine wp_store_mid 48 (.tmp 12) (.tmp 5) (by rfl) w.heap.size 1 ([.int .i64 0, .int .i64 0, v3'] : List Value).toArray (by rfl) (by rfl) (there_of G1 1 _ (by simp)) (by simpa using path_size (cs := [.int .i64 0, .int .i64 0, v3']) rfl) (all_one (by rw [hv3]; simp [Value.oneCell'])) ?_
            replace G1 := setCells_at (([.int .i64 0, .int .i64 0, v3'] : List Value).toArray.toList) 1 G1
            replace G2 := (setCells_other (([.int .i64 0, .int .i64 0, v3'] : List Value).toArray.toList) 1 (w := V) (g := w.heap.size) (k := w.heap.size + 1) (by omega)).trans G2
            replace B := below_setCells (Nat.le_refl _) (([.int .i64 0, .int .i64 0, v3'] : List Value).toArray.toList) 1 B
            replace O3 := O3.keep (fun q hq => setCells_other (([.int .i64 0, .int .i64 0, v3'] : List Value).toArray.toList) 1 (w := V) (g := w.heap.size) (k := q) (by omega))
            replace O5 := O5.keep (fun q hq => setCells_other (([.int .i64 0, .int .i64 0, v3'] : List Value).toArray.toList) 1 (w := V) (g := w.heap.size) (k := q) (by omega))
            replace G1 : (V.setCells w.heap.size 1 ([.int .i64 0, .int .i64 0, v3'] : List Value).toArray.toList).heap[w.heap.size]? = some (.cells (hcL 2 v3' (.slice none 0 0) v5 false).toArray 52 (0, 0)) := G1
            clear hv3
            generalize V.setCells w.heap.size 1 ([.int .i64 0, .int .i64 0, v3'] : List Value).toArray.toList = V at *
            refine hK.out _ _ (cell_list G1 rfl) (fun _ => ?_)
            clear hK K
            try simp only [List.getElem_toArray, List.getElem_cons_succ, List.getElem_cons_zero, Act.put, List.setIfInBounds_toArray, List.set_cons_zero, List.set_cons_succ]
            refine wpAnyH_ready (rs := [11]) (by kernel_rfl) (by simp) ?_
            refine AllReadyH.cons rfl (fun K hK => ?_) AllReadyH.nil
            go_simp
            refine hK.out _ _ (cell_list G1 rfl) (fun _ => ?_)
            clear hK K
            try simp only [List.getElem_toArray, List.getElem_cons_succ, List.getElem_cons_zero, Act.put, List.setIfInBounds_toArray, List.set_cons_zero, List.set_cons_succ]
            refine wpAnyH_ready (rs := [12]) (by kernel_rfl) (by simp) ?_
            refine AllReadyH.cons rfl (fun K hK => ?_) AllReadyH.nil
            have x4 := cell_list G1 (i := 4) rfl
            have f4 := free_at G1 4
            go_simp
            clear x4 f4
            replace G1 : (V.setCell ⟨w.heap.size, 4, none⟩ (.slice none 0 0)).heap[w.heap.size]? = some (.cells (hcL 2 v3' (.slice none 0 0) v5 false).toArray 52 (0, 0)) := set_at G1 4 (.slice none 0 0)
            replace G2 := set_far G2 (p := ⟨w.heap.size, 4, none⟩) (by simp) (.slice none 0 0)
            replace B := below_set B (Nat.le_refl _) 4 (.slice none 0 0)
            replace O3 := O3.keep (fun q hq => Below.heap_setCell V ⟨w.heap.size, 4, none⟩ (.slice none 0 0) q (by simp; omega))
            replace O5 := O5.keep (fun q hq => Below.heap_setCell V ⟨w.heap.size, 4, none⟩ (.slice none 0 0) q (by simp; omega))
            generalize V.setCell ⟨w.heap.size, 4, none⟩ (.slice none 0 0) = V at *
            refine hK.out _ _ (cell_list G1 rfl) (fun _ => ?_)
            clear hK K
            try simp only [List.getElem_toArray, List.getElem_cons_succ, List.getElem_cons_zero, Act.put, List.setIfInBounds_toArray, List.set_cons_zero, List.set_cons_succ]
            refine wpAnyH_ready (rs := [13]) (by kernel_rfl) (by simp) ?_
            refine AllReadyH.cons rfl (fun K hK => ?_) AllReadyH.nil
            go_simp
            refine hK.out _ _ (cell_list G1 rfl) (fun _ => ?_)
            clear hK K
            try simp only [List.getElem_toArray, List.getElem_cons_succ, List.getElem_cons_zero, Act.put, List.setIfInBounds_toArray, List.set_cons_zero, List.set_cons_succ]
            refine wpAnyH_ready (rs := [14]) (by kernel_rfl) (by simp) ?_
            refine AllReadyH.cons rfl (fun K hK => ?_) AllReadyH.nil
            have x4 := cell_list G1 (i := 5) rfl
            have f4 := free_at G1 5
            obtain ⟨A5, c5, rfl, _⟩ := (sliceAt_of_own O5).form
            go_simp
            clear x4 f4
            replace G1 : (V.setCell ⟨w.heap.size, 5, none⟩ (.slice A5 l5.length c5)).heap[w.heap.size]? = some (.cells (hcL 2 v3' (.slice none 0 0) (.slice A5 l5.length c5) false).toArray 52 (0, 0)) := set_at G1 5 (.slice A5 l5.length c5)
            replace G2 := set_far G2 (p := ⟨w.heap.size, 5, none⟩) (by simp) (.slice A5 l5.length c5)
            replace B := below_set B (Nat.le_refl _) 5 (.slice A5 l5.length c5)
            replace O3 := O3.keep (fun q hq => Below.heap_setCell V ⟨w.heap.size, 5, none⟩ (.slice A5 l5.length c5) q (by simp; omega))
            replace O5 := O5.keep (fun q hq => Below.heap_setCell V ⟨w.heap.size, 5, none⟩ (.slice A5 l5.length c5) q (by simp; omega))
            generalize V.setCell ⟨w.heap.size, 5, none⟩ (.slice A5 l5.length c5) = V at *
            refine hK.out _ _ (cell_list G1 rfl) (fun _ => ?_)
            clear hK K
            try simp only [List.getElem_toArray, List.getElem_cons_succ, List.getElem_cons_zero, Act.put, List.setIfInBounds_toArray, List.set_cons_zero, List.set_cons_succ]
            refine wpAnyH_done (by kernel_rfl) ?_ _
            have RG := range_of G1
            have szH : (Try.prog.info? 52).map (·.size) = some (hcL 2 v3' (.slice none 0 0) (.slice A5 l5.length c5) false).length := held_size rfl
            obtain ⟨A3, c3, rfl, _⟩ := (sliceAt_of_own O3).form
            have oneH : (hcL 2 (.slice A3 l3.length c3) (.slice none 0 0) (.slice A5 l5.length c5) false).toArray.all (·.oneCell') = true := all_one (by simp [Value.oneCell'])
            obtain ⟨V', hW, X, BF, far, ths⟩ := fill_new (hcL 2 (.slice A3 l3.length c3) (.slice none 0 0) (.slice A5 l5.length c5) false) G2 rfl B (by omega)
            have HW := Lib.hid hW
            clear hW
            go_wp2_with (first
              | refine wpList_load_g (by rfl) 52 (.tmp 1) (by rfl) w.heap.size 0 (by rfl) (hcL 2 (.slice A3 l3.length c3) (.slice none 0 0) (.slice A5 l5.length c5) false) _ RG Try.underlying52 rfl szH ?_
              | (refine wpList_store_mid rfl 52 (.tmp 2) (.tmp 15) (by rfl) (w.heap.size + 1) 0 (hcL 2 (.slice A3 l3.length c3) (.slice none 0 0) (.slice A5 l5.length c5) false).toArray (by rfl) (by rfl) ths (by simpa using szH) oneH ?_; rw [HW.out])
              | fail)
            exact bodyPost_ret (res_mid (t := 2) (M := hcL 2 (.slice A3 l3.length c3) (.slice none 0 0) (.slice A5 l5.length c5) false) Try.underlying52 rfl rfl szH rfl X) rfl ⟨_, _, rfl, BF, own_base_le (O3.keep (fun q hq => far q (by omega))) (by omega), own_base_le (O5.keep (fun q hq => far q (by omega))) (by omega)⟩
        · skip
          go_simp
          refine hK.out _ _ (cell_list G1 rfl) (fun _ => ?_)
          clear hK K
          try simp only [List.getElem_toArray, List.getElem_cons_succ, List.getElem_cons_zero, Act.put, List.setIfInBounds_toArray, List.set_cons_zero, List.set_cons_succ]
          refine wpAnyH_ready (rs := [5]) (by kernel_rfl) (by simp) ?_
          refine AllReadyH.cons rfl (fun K hK => ?_) AllReadyH.nil
          refine Node.wp_fn 57 [.tmp 7] _ [.slice none 0 0] (by rfl) (by rfl) (enters Try.func57 (by kernel_rfl) rfl) (cloneStep_c (.slice none 0 0) [] V (SliceAt.nil_ _ _) (by simp)) ?_
          rintro e V' ⟨v4, rfl, bF, _, hv4⟩
          obtain rfl := hv4 rfl
          refine ⟨_, rfl, ?_⟩
          replace G1 := var_later G1 bF
          replace G2 := var_later G2 bF
          replace B := below_step B bF
          replace t5 := t5.later bF
          replace O3 := O3.later bF
          replace n2 := Nat.le_trans n2 bF.size
          clear bF hv4
          generalize V' = V at *
          refine hK.out _ _ (cell_list G1 rfl) (fun _ => ?_)
          clear hK K
          try simp only [List.getElem_toArray, List.getElem_cons_succ, List.getElem_cons_zero, Act.put, List.setIfInBounds_toArray, List.set_cons_zero, List.set_cons_succ]
          refine wpAnyH_ready (rs := [8]) (by kernel_rfl) (by simp) ?_
          refine AllReadyH.cons rfl (fun K hK => ?_) AllReadyH.nil
          refine Node.wp_fn 58 [.tmp 10] _ [v5] (by rfl) (by rfl) (enters Try.func58 (by kernel_rfl) rfl) (cloneNeed_c v5 l5 V t5 hl5) ?_
          rintro e V' ⟨v5', rfl, bF, O5, _⟩
          refine ⟨_, rfl, ?_⟩
          replace O5 : OwnT (w.heap.size + 2) V' 59 v5' l5 := own_base_le O5 n2
          replace G1 := var_later G1 bF
          replace G2 := var_later G2 bF
          replace B := below_step B bF
          replace O3 := O3.later bF
          replace n2 := Nat.le_trans n2 bF.size
          clear bF t5
          generalize V' = V at *
          refine hK.out _ _ (cell_list G1 rfl) (fun _ => ?_)
          clear hK K
          try simp only [List.getElem_toArray, List.getElem_cons_succ, List.getElem_cons_zero, Act.put, List.setIfInBounds_toArray, List.set_cons_zero, List.set_cons_succ]
          refine wpAnyH_ready (rs := [10]) (by kernel_rfl) (by simp) ?_
          refine AllReadyH.cons rfl (fun K hK => ?_) AllReadyH.nil
          obtain ⟨A3, c3, hv3, _⟩ := (sliceAt_of_own O3).form
          refine wp_store_mid 48 (.tmp 12) (.tmp 5) (by rfl) w.heap.size 1 ([.int .i64 0, .int .i64 0, v3'] : List Value).toArray (by rfl) (by rfl) (there_of G1 1 _ (by simp)) (by simpa using path_size (cs := [.int .i64 0, .int .i64 0, v3']) rfl) (all_one (by rw [hv3]; simp [Value.oneCell'])) ?_
          replace G1 := setCells_at (([.int .i64 0, .int .i64 0, v3'] : List Value).toArray.toList) 1 G1
          replace G2 := (setCells_other (([.int .i64 0, .int .i64 0, v3'] : List Value).toArray.toList) 1 (w := V) (g := w.heap.size) (k := w.heap.size + 1) (by omega)).trans G2
          replace B := below_setCells (Nat.le_refl _) (([.int .i64 0, .int .i64 0, v3'] : List Value).toArray.toList) 1 B
          replace O3 := O3.keep (fun q hq => setCells_other (([.int .i64 0, .int .i64 0, v3'] : List Value).toArray.toList) 1 (w := V) (g := w.heap.size) (k := q) (by omega))
          replace O5 := O5.keep (fun q hq => setCells_other (([.int .i64 0, .int .i64 0, v3'] : List Value).toArray.toList) 1 (w := V) (g := w.heap.size) (k := q) (by omega))
          replace G1 : (V.setCells w.heap.size 1 ([.int .i64 0, .int .i64 0, v3'] : List Value).toArray.toList).heap[w.heap.size]? = some (.cells (hcL 2 v3' (.slice none 0 0) v5 false).toArray 52 (0, 0)) := G1
          clear hv3
          generalize V.setCells w.heap.size 1 ([.int .i64 0, .int .i64 0, v3'] : List Value).toArray.toList = V at *
          refine hK.out _ _ (cell_list G1 rfl) (fun _ => ?_)
          clear hK K
          try simp only [List.getElem_toArray, List.getElem_cons_succ, List.getElem_cons_zero, Act.put, List.setIfInBounds_toArray, List.set_cons_zero, List.set_cons_succ]
          refine wpAnyH_ready (rs := [11]) (by kernel_rfl) (by simp) ?_
          refine AllReadyH.cons rfl (fun K hK => ?_) AllReadyH.nil
          go_simp
          refine hK.out _ _ (cell_list G1 rfl) (fun _ => ?_)
          clear hK K
          try simp only [List.getElem_toArray, List.getElem_cons_succ, List.getElem_cons_zero, Act.put, List.setIfInBounds_toArray, List.set_cons_zero, List.set_cons_succ]
          refine wpAnyH_ready (rs := [12]) (by kernel_rfl) (by simp) ?_
          refine AllReadyH.cons rfl (fun K hK => ?_) AllReadyH.nil
          have x4 := cell_list G1 (i := 4) rfl
          have f4 := free_at G1 4
          go_simp
          clear x4 f4
          replace G1 : (V.setCell ⟨w.heap.size, 4, none⟩ (.slice none 0 0)).heap[w.heap.size]? = some (.cells (hcL 2 v3' (.slice none 0 0) v5 false).toArray 52 (0, 0)) := set_at G1 4 (.slice none 0 0)
          replace G2 := set_far G2 (p := ⟨w.heap.size, 4, none⟩) (by simp) (.slice none 0 0)
          replace B := below_set B (Nat.le_refl _) 4 (.slice none 0 0)
          replace O3 := O3.keep (fun q hq => Below.heap_setCell V ⟨w.heap.size, 4, none⟩ (.slice none 0 0) q (by simp; omega))
          replace O5 := O5.keep (fun q hq => Below.heap_setCell V ⟨w.heap.size, 4, none⟩ (.slice none 0 0) q (by simp; omega))
          generalize V.setCell ⟨w.heap.size, 4, none⟩ (.slice none 0 0) = V at *
          refine hK.out _ _ (cell_list G1 rfl) (fun _ => ?_)
          clear hK K
          try simp only [List.getElem_toArray, List.getElem_cons_succ, List.getElem_cons_zero, Act.put, List.setIfInBounds_toArray, List.set_cons_zero, List.set_cons_succ]
          refine wpAnyH_ready (rs := [13]) (by kernel_rfl) (by simp) ?_
          refine AllReadyH.cons rfl (fun K hK => ?_) AllReadyH.nil
          go_simp
          refine hK.out _ _ (cell_list G1 rfl) (fun _ => ?_)
          clear hK K
          try simp only [List.getElem_toArray, List.getElem_cons_succ, List.getElem_cons_zero, Act.put, List.setIfInBounds_toArray, List.set_cons_zero, List.set_cons_succ]
          refine wpAnyH_ready (rs := [14]) (by kernel_rfl) (by simp) ?_
          refine AllReadyH.cons rfl (fun K hK => ?_) AllReadyH.nil
          have x4 := cell_list G1 (i := 5) rfl
          have f4 := free_at G1 5
          obtain ⟨A5, c5, rfl, _⟩ := (sliceAt_of_own O5).form
          go_simp
          clear x4 f4
          replace G1 : (V.setCell ⟨w.heap.size, 5, none⟩ (.slice A5 l5.length c5)).heap[w.heap.size]? = some (.cells (hcL 2 v3' (.slice none 0 0) (.slice A5 l5.length c5) false).toArray 52 (0, 0)) := set_at G1 5 (.slice A5 l5.length c5)
          replace G2 := set_far G2 (p := ⟨w.heap.size, 5, none⟩) (by simp) (.slice A5 l5.length c5)
          replace B := below_set B (Nat.le_refl _) 5 (.slice A5 l5.length c5)
          replace O3 := O3.keep (fun q hq => Below.heap_setCell V ⟨w.heap.size, 5, none⟩ (.slice A5 l5.length c5) q (by simp; omega))
          replace O5 := O5.keep (fun q hq => Below.heap_setCell V ⟨w.heap.size, 5, none⟩ (.slice A5 l5.length c5) q (by simp; omega))
          generalize V.setCell ⟨w.heap.size, 5, none⟩ (.slice A5 l5.length c5) = V at *
          refine hK.out _ _ (cell_list G1 rfl) (fun _ => ?_)
          clear hK K
          try simp only [List.getElem_toArray, List.getElem_cons_succ, List.getElem_cons_zero, Act.put, List.setIfInBounds_toArray, List.set_cons_zero, List.set_cons_succ]
          refine wpAnyH_done (by kernel_rfl) ?_ _
          have RG := range_of G1
          have szH : (Try.prog.info? 52).map (·.size) = some (hcL 2 v3' (.slice none 0 0) (.slice A5 l5.length c5) false).length := held_size rfl
          obtain ⟨A3, c3, rfl, _⟩ := (sliceAt_of_own O3).form
          have oneH : (hcL 2 (.slice A3 l3.length c3) (.slice none 0 0) (.slice A5 l5.length c5) false).toArray.all (·.oneCell') = true := all_one (by simp [Value.oneCell'])
          obtain ⟨V', hW, X, BF, far, ths⟩ := fill_new (hcL 2 (.slice A3 l3.length c3) (.slice none 0 0) (.slice A5 l5.length c5) false) G2 rfl B (by omega)
          have HW := Lib.hid hW
          clear hW
          go_wp2_with (first
            | refine wpList_load_g (by rfl) 52 (.tmp 1) (by rfl) w.heap.size 0 (by rfl) (hcL 2 (.slice A3 l3.length c3) (.slice none 0 0) (.slice A5 l5.length c5) false) _ RG Try.underlying52 rfl szH ?_
            | (refine wpList_store_mid rfl 52 (.tmp 2) (.tmp 15) (by rfl) (w.heap.size + 1) 0 (hcL 2 (.slice A3 l3.length c3) (.slice none 0 0) (.slice A5 l5.length c5) false).toArray (by rfl) (by rfl) ths (by simpa using szH) oneH ?_; rw [HW.out])
            | fail)
          exact bodyPost_ret (res_mid (t := 2) (M := hcL 2 (.slice A3 l3.length c3) (.slice none 0 0) (.slice A5 l5.length c5) false) Try.underlying52 rfl rfl szH rfl X) rfl ⟨_, _, rfl, BF, own_base_le (O3.keep (fun q hq => far q (by omega))) (by omega), own_base_le (O5.keep (fun q hq => far q (by omega))) (by omega)⟩
    · skip
      have x5 := cell_list G1 (i := 5) rfl
      go_simp
      clear x5
      refine hK.out _ _ (cell_list G1 rfl) (fun _ => ?_)
      clear hK K
      try simp only [List.getElem_toArray, List.getElem_cons_succ, List.getElem_cons_zero, Act.put, List.setIfInBounds_toArray, List.set_cons_zero, List.set_cons_succ]
      refine wpAnyH_ready (rs := [2]) (by kernel_rfl) (by simp) ?_
      refine AllReadyH.cons rfl (fun K hK => ?_) AllReadyH.nil
      refine Node.wp_fn 56 [.tmp 4] _ [.agg #[.int .i64 0, .int .i64 0, v3]] (by rfl) (by rfl) (enters Try.func56 (by kernel_rfl) rfl) (rOwn_c 0 0 v3 l3 V t3 hl3) ?_
      rintro e V' ⟨v3', rfl, bF, O3⟩
      refine ⟨_, rfl, ?_⟩
      replace O3 : OwnT (w.heap.size + 2) V' 55 v3' l3 := own_base_le O3 n2
      replace G1 := var_later G1 bF
      replace G2 := var_later G2 bF
      replace B := below_step B bF
      replace t5 := t5.later bF
      replace n2 := Nat.le_trans n2 bF.size
      clear bF t3
      generalize V' = V at *
      refine hK.out _ _ (cell_list G1 rfl) (fun _ => ?_)
      clear hK K
      try simp only [List.getElem_toArray, List.getElem_cons_succ, List.getElem_cons_zero, Act.put, List.setIfInBounds_toArray, List.set_cons_zero, List.set_cons_succ]
      refine wpAnyH_ready (rs := [5, 9]) (by kernel_rfl) (by simp) ?_
      refine AllReadyH.cons rfl (fun K hK => ?_) (AllReadyH.cons rfl (fun K hK => ?_) AllReadyH.nil)
      · skip
        refine Node.wp_fn 57 [.tmp 7] _ [.slice none 0 0] (by rfl) (by rfl) (enters Try.func57 (by kernel_rfl) rfl) (cloneStep_c (.slice none 0 0) [] V (SliceAt.nil_ _ _) (by simp)) ?_
        rintro e V' ⟨v4, rfl, bF, _, hv4⟩
        obtain rfl := hv4 rfl
        refine ⟨_, rfl, ?_⟩
        replace G1 := var_later G1 bF
        replace G2 := var_later G2 bF
        replace B := below_step B bF
        replace t5 := t5.later bF
        replace O3 := O3.later bF
        replace n2 := Nat.le_trans n2 bF.size
        clear bF hv4
        generalize V' = V at *
        refine hK.out _ _ (cell_list G1 rfl) (fun _ => ?_)
        clear hK K
        try simp only [List.getElem_toArray, List.getElem_cons_succ, List.getElem_cons_zero, Act.put, List.setIfInBounds_toArray, List.set_cons_zero, List.set_cons_succ]
        refine wpAnyH_ready (rs := [8, 9]) (by kernel_rfl) (by simp) ?_
        refine AllReadyH.cons rfl (fun K hK => ?_) (AllReadyH.cons rfl (fun K hK => ?_) AllReadyH.nil)
        · skip
          refine Node.wp_fn 58 [.tmp 10] _ [v5] (by rfl) (by rfl) (enters Try.func58 (by kernel_rfl) rfl) (cloneNeed_c v5 l5 V t5 hl5) ?_
          rintro e V' ⟨v5', rfl, bF, O5, _⟩
          refine ⟨_, rfl, ?_⟩
          replace O5 : OwnT (w.heap.size + 2) V' 59 v5' l5 := own_base_le O5 n2
          replace G1 := var_later G1 bF
          replace G2 := var_later G2 bF
          replace B := below_step B bF
          replace O3 := O3.later bF
          replace n2 := Nat.le_trans n2 bF.size
          clear bF t5
          generalize V' = V at *
          refine hK.out _ _ (cell_list G1 rfl) (fun _ => ?_)
          clear hK K
          try simp only [List.getElem_toArray, List.getElem_cons_succ, List.getElem_cons_zero, Act.put, List.setIfInBounds_toArray, List.set_cons_zero, List.set_cons_succ]
          refine wpAnyH_ready (rs := [9]) (by kernel_rfl) (by simp) ?_
          refine AllReadyH.cons rfl (fun K hK => ?_) AllReadyH.nil
          go_simp
          refine hK.out _ _ (cell_list G1 rfl) (fun _ => ?_)
          clear hK K
          try simp only [List.getElem_toArray, List.getElem_cons_succ, List.getElem_cons_zero, Act.put, List.setIfInBounds_toArray, List.set_cons_zero, List.set_cons_succ]
          refine wpAnyH_ready (rs := [10]) (by kernel_rfl) (by simp) ?_
          refine AllReadyH.cons rfl (fun K hK => ?_) AllReadyH.nil
          obtain ⟨A3, c3, hv3, _⟩ := (sliceAt_of_own O3).form
          refine wp_store_mid 48 (.tmp 12) (.tmp 5) (by rfl) w.heap.size 1 ([.int .i64 0, .int .i64 0, v3'] : List Value).toArray (by rfl) (by rfl) (there_of G1 1 _ (by simp)) (by simpa using path_size (cs := [.int .i64 0, .int .i64 0, v3']) rfl) (all_one (by rw [hv3]; simp [Value.oneCell'])) ?_
          replace G1 := setCells_at (([.int .i64 0, .int .i64 0, v3'] : List Value).toArray.toList) 1 G1
          replace G2 := (setCells_other (([.int .i64 0, .int .i64 0, v3'] : List Value).toArray.toList) 1 (w := V) (g := w.heap.size) (k := w.heap.size + 1) (by omega)).trans G2
          replace B := below_setCells (Nat.le_refl _) (([.int .i64 0, .int .i64 0, v3'] : List Value).toArray.toList) 1 B
          replace O3 := O3.keep (fun q hq => setCells_other (([.int .i64 0, .int .i64 0, v3'] : List Value).toArray.toList) 1 (w := V) (g := w.heap.size) (k := q) (by omega))
          replace O5 := O5.keep (fun q hq => setCells_other (([.int .i64 0, .int .i64 0, v3'] : List Value).toArray.toList) 1 (w := V) (g := w.heap.size) (k := q) (by omega))
          replace G1 : (V.setCells w.heap.size 1 ([.int .i64 0, .int .i64 0, v3'] : List Value).toArray.toList).heap[w.heap.size]? = some (.cells (hcL 2 v3' (.slice none 0 0) v5 false).toArray 52 (0, 0)) := G1
          clear hv3
          generalize V.setCells w.heap.size 1 ([.int .i64 0, .int .i64 0, v3'] : List Value).toArray.toList = V at *
          refine hK.out _ _ (cell_list G1 rfl) (fun _ => ?_)
          clear hK K
          try simp only [List.getElem_toArray, List.getElem_cons_succ, List.getElem_cons_zero, Act.put, List.setIfInBounds_toArray, List.set_cons_zero, List.set_cons_succ]
          refine wpAnyH_ready (rs := [11]) (by kernel_rfl) (by simp) ?_
          refine AllReadyH.cons rfl (fun K hK => ?_) AllReadyH.nil
          go_simp
          refine hK.out _ _ (cell_list G1 rfl) (fun _ => ?_)
          clear hK K
          try simp only [List.getElem_toArray, List.getElem_cons_succ, List.getElem_cons_zero, Act.put, List.setIfInBounds_toArray, List.set_cons_zero, List.set_cons_succ]
          refine wpAnyH_ready (rs := [12]) (by kernel_rfl) (by simp) ?_
          refine AllReadyH.cons rfl (fun K hK => ?_) AllReadyH.nil
          have x4 := cell_list G1 (i := 4) rfl
          have f4 := free_at G1 4
          go_simp
          clear x4 f4
          replace G1 : (V.setCell ⟨w.heap.size, 4, none⟩ (.slice none 0 0)).heap[w.heap.size]? = some (.cells (hcL 2 v3' (.slice none 0 0) v5 false).toArray 52 (0, 0)) := set_at G1 4 (.slice none 0 0)
          replace G2 := set_far G2 (p := ⟨w.heap.size, 4, none⟩) (by simp) (.slice none 0 0)
          replace B := below_set B (Nat.le_refl _) 4 (.slice none 0 0)
          replace O3 := O3.keep (fun q hq => Below.heap_setCell V ⟨w.heap.size, 4, none⟩ (.slice none 0 0) q (by simp; omega))
          replace O5 := O5.keep (fun q hq => Below.heap_setCell V ⟨w.heap.size, 4, none⟩ (.slice none 0 0) q (by simp; omega))
          generalize V.setCell ⟨w.heap.size, 4, none⟩ (.slice none 0 0) = V at *
          refine hK.out _ _ (cell_list G1 rfl) (fun _ => ?_)
          clear hK K
          try simp only [List.getElem_toArray, List.getElem_cons_succ, List.getElem_cons_zero, Act.put, List.setIfInBounds_toArray, List.set_cons_zero, List.set_cons_succ]
          refine wpAnyH_ready (rs := [13]) (by kernel_rfl) (by simp) ?_
          refine AllReadyH.cons rfl (fun K hK => ?_) AllReadyH.nil
          go_simp
          refine hK.out _ _ (cell_list G1 rfl) (fun _ => ?_)
          clear hK K
          try simp only [List.getElem_toArray, List.getElem_cons_succ, List.getElem_cons_zero, Act.put, List.setIfInBounds_toArray, List.set_cons_zero, List.set_cons_succ]
          refine wpAnyH_ready (rs := [14]) (by kernel_rfl) (by simp) ?_
          refine AllReadyH.cons rfl (fun K hK => ?_) AllReadyH.nil
          have x4 := cell_list G1 (i := 5) rfl
          have f4 := free_at G1 5
          obtain ⟨A5, c5, rfl, _⟩ := (sliceAt_of_own O5).form
          go_simp
          clear x4 f4
          replace G1 : (V.setCell ⟨w.heap.size, 5, none⟩ (.slice A5 l5.length c5)).heap[w.heap.size]? = some (.cells (hcL 2 v3' (.slice none 0 0) (.slice A5 l5.length c5) false).toArray 52 (0, 0)) := set_at G1 5 (.slice A5 l5.length c5)
          replace G2 := set_far G2 (p := ⟨w.heap.size, 5, none⟩) (by simp) (.slice A5 l5.length c5)
          replace B := below_set B (Nat.le_refl _) 5 (.slice A5 l5.length c5)
          replace O3 := O3.keep (fun q hq => Below.heap_setCell V ⟨w.heap.size, 5, none⟩ (.slice A5 l5.length c5) q (by simp; omega))
          replace O5 := O5.keep (fun q hq => Below.heap_setCell V ⟨w.heap.size, 5, none⟩ (.slice A5 l5.length c5) q (by simp; omega))
          generalize V.setCell ⟨w.heap.size, 5, none⟩ (.slice A5 l5.length c5) = V at *
          refine hK.out _ _ (cell_list G1 rfl) (fun _ => ?_)
          clear hK K
          try simp only [List.getElem_toArray, List.getElem_cons_succ, List.getElem_cons_zero, Act.put, List.setIfInBounds_toArray, List.set_cons_zero, List.set_cons_succ]
          refine wpAnyH_done (by kernel_rfl) ?_ _
          have RG := range_of G1
          have szH : (Try.prog.info? 52).map (·.size) = some (hcL 2 v3' (.slice none 0 0) (.slice A5 l5.length c5) false).length := held_size rfl
          obtain ⟨A3, c3, rfl, _⟩ := (sliceAt_of_own O3).form
          have oneH : (hcL 2 (.slice A3 l3.length c3) (.slice none 0 0) (.slice A5 l5.length c5) false).toArray.all (·.oneCell') = true := all_one (by simp [Value.oneCell'])
          obtain ⟨V', hW, X, BF, far, ths⟩ := fill_new (hcL 2 (.slice A3 l3.length c3) (.slice none 0 0) (.slice A5 l5.length c5) false) G2 rfl B (by omega)
          have HW := Lib.hid hW
          clear hW
          go_wp2_with (first
            | refine wpList_load_g (by rfl) 52 (.tmp 1) (by rfl) w.heap.size 0 (by rfl) (hcL 2 (.slice A3 l3.length c3) (.slice none 0 0) (.slice A5 l5.length c5) false) _ RG Try.underlying52 rfl szH ?_
            | (refine wpList_store_mid rfl 52 (.tmp 2) (.tmp 15) (by rfl) (w.heap.size + 1) 0 (hcL 2 (.slice A3 l3.length c3) (.slice none 0 0) (.slice A5 l5.length c5) false).toArray (by rfl) (by rfl) ths (by simpa using szH) oneH ?_; rw [HW.out])
            | fail)
          exact bodyPost_ret (res_mid (t := 2) (M := hcL 2 (.slice A3 l3.length c3) (.slice none 0 0) (.slice A5 l5.length c5) false) Try.underlying52 rfl rfl szH rfl X) rfl ⟨_, _, rfl, BF, own_base_le (O3.keep (fun q hq => far q (by omega))) (by omega), own_base_le (O5.keep (fun q hq => far q (by omega))) (by omega)⟩
        · skip
          go_simp
          refine hK.out _ _ (cell_list G1 rfl) (fun _ => ?_)
          clear hK K
          try simp only [List.getElem_toArray, List.getElem_cons_succ, List.getElem_cons_zero, Act.put, List.setIfInBounds_toArray, List.set_cons_zero, List.set_cons_succ]
          refine wpAnyH_ready (rs := [8]) (by kernel_rfl) (by simp) ?_
          refine AllReadyH.cons rfl (fun K hK => ?_) AllReadyH.nil
          refine Node.wp_fn 58 [.tmp 10] _ [v5] (by rfl) (by rfl) (enters Try.func58 (by kernel_rfl) rfl) (cloneNeed_c v5 l5 V t5 hl5) ?_
          rintro e V' ⟨v5', rfl, bF, O5, _⟩
          refine ⟨_, rfl, ?_⟩
          replace O5 : OwnT (w.heap.size + 2) V' 59 v5' l5 := own_base_le O5 n2
          replace G1 := var_later G1 bF
          replace G2 := var_later G2 bF
          replace B := below_step B bF
          replace O3 := O3.later bF
          replace n2 := Nat.le_trans n2 bF.size
          clear bF t5
          generalize V' = V at *
          refine hK.out _ _ (cell_list G1 rfl) (fun _ => ?_)
          clear hK K
          try simp only [List.getElem_toArray, List.getElem_cons_succ, List.getElem_cons_zero, Act.put, List.setIfInBounds_toArray, List.set_cons_zero, List.set_cons_succ]
          refine wpAnyH_ready (rs := [10]) (by kernel_rfl) (by simp) ?_
          refine AllReadyH.cons rfl (fun K hK => ?_) AllReadyH.nil
          obtain ⟨A3, c3, hv3, _⟩ := (sliceAt_of_own O3).form
          refine wp_store_mid 48 (.tmp 12) (.tmp 5) (by rfl) w.heap.size 1 ([.int .i64 0, .int .i64 0, v3'] : List Value).toArray (by rfl) (by rfl) (there_of G1 1 _ (by simp)) (by simpa using path_size (cs := [.int .i64 0, .int .i64 0, v3']) rfl) (all_one (by rw [hv3]; simp [Value.oneCell'])) ?_
          replace G1 := setCells_at (([.int .i64 0, .int .i64 0, v3'] : List Value).toArray.toList) 1 G1
          replace G2 := (setCells_other (([.int .i64 0, .int .i64 0, v3'] : List Value).toArray.toList) 1 (w := V) (g := w.heap.size) (k := w.heap.size + 1) (by omega)).trans G2
          replace B := below_setCells (Nat.le_refl _) (([.int .i64 0, .int .i64 0, v3'] : List Value).toArray.toList) 1 B
          replace O3 := O3.keep (fun q hq => setCells_other (([.int .i64 0, .int .i64 0, v3'] : List Value).toArray.toList) 1 (w := V) (g := w.heap.size) (k := q) (by omega))
          replace O5 := O5.keep (fun q hq => setCells_other (([.int .i64 0, .int .i64 0, v3'] : List Value).toArray.toList) 1 (w := V) (g := w.heap.size) (k := q) (by omega))
          replace G1 : (V.setCells w.heap.size 1 ([.int .i64 0, .int .i64 0, v3'] : List Value).toArray.toList).heap[w.heap.size]? = some (.cells (hcL 2 v3' (.slice none 0 0) v5 false).toArray 52 (0, 0)) := G1
          clear hv3
          generalize V.setCells w.heap.size 1 ([.int .i64 0, .int .i64 0, v3'] : List Value).toArray.toList = V at *
          refine hK.out _ _ (cell_list G1 rfl) (fun _ => ?_)
          clear hK K
          try simp only [List.getElem_toArray, List.getElem_cons_succ, List.getElem_cons_zero, Act.put, List.setIfInBounds_toArray, List.set_cons_zero, List.set_cons_succ]
          refine wpAnyH_ready (rs := [11]) (by kernel_rfl) (by simp) ?_
          refine AllReadyH.cons rfl (fun K hK => ?_) AllReadyH.nil
          go_simp
          refine hK.out _ _ (cell_list G1 rfl) (fun _ => ?_)
          clear hK K
          try simp only [List.getElem_toArray, List.getElem_cons_succ, List.getElem_cons_zero, Act.put, List.setIfInBounds_toArray, List.set_cons_zero, List.set_cons_succ]
          refine wpAnyH_ready (rs := [12]) (by kernel_rfl) (by simp) ?_
          refine AllReadyH.cons rfl (fun K hK => ?_) AllReadyH.nil
          have x4 := cell_list G1 (i := 4) rfl
          have f4 := free_at G1 4
          go_simp
          clear x4 f4
          replace G1 : (V.setCell ⟨w.heap.size, 4, none⟩ (.slice none 0 0)).heap[w.heap.size]? = some (.cells (hcL 2 v3' (.slice none 0 0) v5 false).toArray 52 (0, 0)) := set_at G1 4 (.slice none 0 0)
          replace G2 := set_far G2 (p := ⟨w.heap.size, 4, none⟩) (by simp) (.slice none 0 0)
          replace B := below_set B (Nat.le_refl _) 4 (.slice none 0 0)
          replace O3 := O3.keep (fun q hq => Below.heap_setCell V ⟨w.heap.size, 4, none⟩ (.slice none 0 0) q (by simp; omega))
          replace O5 := O5.keep (fun q hq => Below.heap_setCell V ⟨w.heap.size, 4, none⟩ (.slice none 0 0) q (by simp; omega))
          generalize V.setCell ⟨w.heap.size, 4, none⟩ (.slice none 0 0) = V at *
          refine hK.out _ _ (cell_list G1 rfl) (fun _ => ?_)
          clear hK K
          try simp only [List.getElem_toArray, List.getElem_cons_succ, List.getElem_cons_zero, Act.put, List.setIfInBounds_toArray, List.set_cons_zero, List.set_cons_succ]
          refine wpAnyH_ready (rs := [13]) (by kernel_rfl) (by simp) ?_
          refine AllReadyH.cons rfl (fun K hK => ?_) AllReadyH.nil
          go_simp
          refine hK.out _ _ (cell_list G1 rfl) (fun _ => ?_)
          clear hK K
          try simp only [List.getElem_toArray, List.getElem_cons_succ, List.getElem_cons_zero, Act.put, List.setIfInBounds_toArray, List.set_cons_zero, List.set_cons_succ]
          refine wpAnyH_ready (rs := [14]) (by kernel_rfl) (by simp) ?_
          refine AllReadyH.cons rfl (fun K hK => ?_) AllReadyH.nil
          have x4 := cell_list G1 (i := 5) rfl
          have f4 := free_at G1 5
          obtain ⟨A5, c5, rfl, _⟩ := (sliceAt_of_own O5).form
          go_simp
          clear x4 f4
          replace G1 : (V.setCell ⟨w.heap.size, 5, none⟩ (.slice A5 l5.length c5)).heap[w.heap.size]? = some (.cells (hcL 2 v3' (.slice none 0 0) (.slice A5 l5.length c5) false).toArray 52 (0, 0)) := set_at G1 5 (.slice A5 l5.length c5)
          replace G2 := set_far G2 (p := ⟨w.heap.size, 5, none⟩) (by simp) (.slice A5 l5.length c5)
          replace B := below_set B (Nat.le_refl _) 5 (.slice A5 l5.length c5)
          replace O3 := O3.keep (fun q hq => Below.heap_setCell V ⟨w.heap.size, 5, none⟩ (.slice A5 l5.length c5) q (by simp; omega))
          replace O5 := O5.keep (fun q hq => Below.heap_setCell V ⟨w.heap.size, 5, none⟩ (.slice A5 l5.length c5) q (by simp; omega))
          generalize V.setCell ⟨w.heap.size, 5, none⟩ (.slice A5 l5.length c5) = V at *
          refine hK.out _ _ (cell_list G1 rfl) (fun _ => ?_)
          clear hK K
          try simp only [List.getElem_toArray, List.getElem_cons_succ, List.getElem_cons_zero, Act.put, List.setIfInBounds_toArray, List.set_cons_zero, List.set_cons_succ]
          refine wpAnyH_done (by kernel_rfl) ?_ _
          have RG := range_of G1
          have szH : (Try.prog.info? 52).map (·.size) = some (hcL 2 v3' (.slice none 0 0) (.slice A5 l5.length c5) false).length := held_size rfl
          obtain ⟨A3, c3, rfl, _⟩ := (sliceAt_of_own O3).form
          have oneH : (hcL 2 (.slice A3 l3.length c3) (.slice none 0 0) (.slice A5 l5.length c5) false).toArray.all (·.oneCell') = true := all_one (by simp [Value.oneCell'])
          obtain ⟨V', hW, X, BF, far, ths⟩ := fill_new (hcL 2 (.slice A3 l3.length c3) (.slice none 0 0) (.slice A5 l5.length c5) false) G2 rfl B (by omega)
          have HW := Lib.hid hW
          clear hW
          go_wp2_with (first
            | refine wpList_load_g (by rfl) 52 (.tmp 1) (by rfl) w.heap.size 0 (by rfl) (hcL 2 (.slice A3 l3.length c3) (.slice none 0 0) (.slice A5 l5.length c5) false) _ RG Try.underlying52 rfl szH ?_
            | (refine wpList_store_mid rfl 52 (.tmp 2) (.tmp 15) (by rfl) (w.heap.size + 1) 0 (hcL 2 (.slice A3 l3.length c3) (.slice none 0 0) (.slice A5 l5.length c5) false).toArray (by rfl) (by rfl) ths (by simpa using szH) oneH ?_; rw [HW.out])
            | fail)
          exact bodyPost_ret (res_mid (t := 2) (M := hcL 2 (.slice A3 l3.length c3) (.slice none 0 0) (.slice A5 l5.length c5) false) Try.underlying52 rfl rfl szH rfl X) rfl ⟨_, _, rfl, BF, own_base_le (O3.keep (fun q hq => far q (by omega))) (by omega), own_base_le (O5.keep (fun q hq => far q (by omega))) (by omega)⟩
      · skip
        go_simp
        refine hK.out _ _ (cell_list G1 rfl) (fun _ => ?_)
        clear hK K
        try simp only [List.getElem_toArray, List.getElem_cons_succ, List.getElem_cons_zero, Act.put, List.setIfInBounds_toArray, List.set_cons_zero, List.set_cons_succ]
        refine wpAnyH_ready (rs := [5]) (by kernel_rfl) (by simp) ?_
        refine AllReadyH.cons rfl (fun K hK => ?_) AllReadyH.nil
        refine Node.wp_fn 57 [.tmp 7] _ [.slice none 0 0] (by rfl) (by rfl) (enters Try.func57 (by kernel_rfl) rfl) (cloneStep_c (.slice none 0 0) [] V (SliceAt.nil_ _ _) (by simp)) ?_
        rintro e V' ⟨v4, rfl, bF, _, hv4⟩
        obtain rfl := hv4 rfl
        refine ⟨_, rfl, ?_⟩
        replace G1 := var_later G1 bF
        replace G2 := var_later G2 bF
        replace B := below_step B bF
        replace t5 := t5.later bF
        replace O3 := O3.later bF
        replace n2 := Nat.le_trans n2 bF.size
        clear bF hv4
        generalize V' = V at *
        refine hK.out _ _ (cell_list G1 rfl) (fun _ => ?_)
        clear hK K
        try simp only [List.getElem_toArray, List.getElem_cons_succ, List.getElem_cons_zero, Act.put, List.setIfInBounds_toArray, List.set_cons_zero, List.set_cons_succ]
        refine wpAnyH_ready (rs := [8]) (by kernel_rfl) (by simp) ?_
        refine AllReadyH.cons rfl (fun K hK => ?_) AllReadyH.nil
        refine Node.wp_fn 58 [.tmp 10] _ [v5] (by rfl) (by rfl) (enters Try.func58 (by kernel_rfl) rfl) (cloneNeed_c v5 l5 V t5 hl5) ?_
        rintro e V' ⟨v5', rfl, bF, O5, _⟩
        refine ⟨_, rfl, ?_⟩
        replace O5 : OwnT (w.heap.size + 2) V' 59 v5' l5 := own_base_le O5 n2
        replace G1 := var_later G1 bF
        replace G2 := var_later G2 bF
        replace B := below_step B bF
        replace O3 := O3.later bF
        replace n2 := Nat.le_trans n2 bF.size
        clear bF t5
        generalize V' = V at *
        refine hK.out _ _ (cell_list G1 rfl) (fun _ => ?_)
        clear hK K
        try simp only [List.getElem_toArray, List.getElem_cons_succ, List.getElem_cons_zero, Act.put, List.setIfInBounds_toArray, List.set_cons_zero, List.set_cons_succ]
        refine wpAnyH_ready (rs := [10]) (by kernel_rfl) (by simp) ?_
        refine AllReadyH.cons rfl (fun K hK => ?_) AllReadyH.nil
        obtain ⟨A3, c3, hv3, _⟩ := (sliceAt_of_own O3).form
        refine wp_store_mid 48 (.tmp 12) (.tmp 5) (by rfl) w.heap.size 1 ([.int .i64 0, .int .i64 0, v3'] : List Value).toArray (by rfl) (by rfl) (there_of G1 1 _ (by simp)) (by simpa using path_size (cs := [.int .i64 0, .int .i64 0, v3']) rfl) (all_one (by rw [hv3]; simp [Value.oneCell'])) ?_
        replace G1 := setCells_at (([.int .i64 0, .int .i64 0, v3'] : List Value).toArray.toList) 1 G1
        replace G2 := (setCells_other (([.int .i64 0, .int .i64 0, v3'] : List Value).toArray.toList) 1 (w := V) (g := w.heap.size) (k := w.heap.size + 1) (by omega)).trans G2
        replace B := below_setCells (Nat.le_refl _) (([.int .i64 0, .int .i64 0, v3'] : List Value).toArray.toList) 1 B
        replace O3 := O3.keep (fun q hq => setCells_other (([.int .i64 0, .int .i64 0, v3'] : List Value).toArray.toList) 1 (w := V) (g := w.heap.size) (k := q) (by omega))
        replace O5 := O5.keep (fun q hq => setCells_other (([.int .i64 0, .int .i64 0, v3'] : List Value).toArray.toList) 1 (w := V) (g := w.heap.size) (k := q) (by omega))
        replace G1 : (V.setCells w.heap.size 1 ([.int .i64 0, .int .i64 0, v3'] : List Value).toArray.toList).heap[w.heap.size]? = some (.cells (hcL 2 v3' (.slice none 0 0) v5 false).toArray 52 (0, 0)) := G1
        clear hv3
        generalize V.setCells w.heap.size 1 ([.int .i64 0, .int .i64 0, v3'] : List Value).toArray.toList = V at *
        refine hK.out _ _ (cell_list G1 rfl) (fun _ => ?_)
        clear hK K
        try simp only [List.getElem_toArray, List.getElem_cons_succ, List.getElem_cons_zero, Act.put, List.setIfInBounds_toArray, List.set_cons_zero, List.set_cons_succ]
        refine wpAnyH_ready (rs := [11]) (by kernel_rfl) (by simp) ?_
        refine AllReadyH.cons rfl (fun K hK => ?_) AllReadyH.nil
        go_simp
        refine hK.out _ _ (cell_list G1 rfl) (fun _ => ?_)
        clear hK K
        try simp only [List.getElem_toArray, List.getElem_cons_succ, List.getElem_cons_zero, Act.put, List.setIfInBounds_toArray, List.set_cons_zero, List.set_cons_succ]
        refine wpAnyH_ready (rs := [12]) (by kernel_rfl) (by simp) ?_
        refine AllReadyH.cons rfl (fun K hK => ?_) AllReadyH.nil
        have x4 := cell_list G1 (i := 4) rfl
        have f4 := free_at G1 4
        go_simp
        clear x4 f4
        replace G1 : (V.setCell ⟨w.heap.size, 4, none⟩ (.slice none 0 0)).heap[w.heap.size]? = some (.cells (hcL 2 v3' (.slice none 0 0) v5 false).toArray 52 (0, 0)) := set_at G1 4 (.slice none 0 0)
        replace G2 := set_far G2 (p := ⟨w.heap.size, 4, none⟩) (by simp) (.slice none 0 0)
        replace B := below_set B (Nat.le_refl _) 4 (.slice none 0 0)
        replace O3 := O3.keep (fun q hq => Below.heap_setCell V ⟨w.heap.size, 4, none⟩ (.slice none 0 0) q (by simp; omega))
        replace O5 := O5.keep (fun q hq => Below.heap_setCell V ⟨w.heap.size, 4, none⟩ (.slice none 0 0) q (by simp; omega))
        generalize V.setCell ⟨w.heap.size, 4, none⟩ (.slice none 0 0) = V at *
        refine hK.out _ _ (cell_list G1 rfl) (fun _ => ?_)
        clear hK K
        try simp only [List.getElem_toArray, List.getElem_cons_succ, List.getElem_cons_zero, Act.put, List.setIfInBounds_toArray, List.set_cons_zero, List.set_cons_succ]
        refine wpAnyH_ready (rs := [13]) (by kernel_rfl) (by simp) ?_
        refine AllReadyH.cons rfl (fun K hK => ?_) AllReadyH.nil
        go_simp
        refine hK.out _ _ (cell_list G1 rfl) (fun _ => ?_)
        clear hK K
        try simp only [List.getElem_toArray, List.getElem_cons_succ, List.getElem_cons_zero, Act.put, List.setIfInBounds_toArray, List.set_cons_zero, List.set_cons_succ]
        refine wpAnyH_ready (rs := [14]) (by kernel_rfl) (by simp) ?_
        refine AllReadyH.cons rfl (fun K hK => ?_) AllReadyH.nil
        have x4 := cell_list G1 (i := 5) rfl
        have f4 := free_at G1 5
        obtain ⟨A5, c5, rfl, _⟩ := (sliceAt_of_own O5).form
        go_simp
        clear x4 f4
        replace G1 : (V.setCell ⟨w.heap.size, 5, none⟩ (.slice A5 l5.length c5)).heap[w.heap.size]? = some (.cells (hcL 2 v3' (.slice none 0 0) (.slice A5 l5.length c5) false).toArray 52 (0, 0)) := set_at G1 5 (.slice A5 l5.length c5)
        replace G2 := set_far G2 (p := ⟨w.heap.size, 5, none⟩) (by simp) (.slice A5 l5.length c5)
        replace B := below_set B (Nat.le_refl _) 5 (.slice A5 l5.length c5)
        replace O3 := O3.keep (fun q hq => Below.heap_setCell V ⟨w.heap.size, 5, none⟩ (.slice A5 l5.length c5) q (by simp; omega))
        replace O5 := O5.keep (fun q hq => Below.heap_setCell V ⟨w.heap.size, 5, none⟩ (.slice A5 l5.length c5) q (by simp; omega))
        generalize V.setCell ⟨w.heap.size, 5, none⟩ (.slice A5 l5.length c5) = V at *
        refine hK.out _ _ (cell_list G1 rfl) (fun _ => ?_)
        clear hK K
        try simp only [List.getElem_toArray, List.getElem_cons_succ, List.getElem_cons_zero, Act.put, List.setIfInBounds_toArray, List.set_cons_zero, List.set_cons_succ]
        refine wpAnyH_done (by kernel_rfl) ?_ _
        have RG := range_of G1
        have szH : (Try.prog.info? 52).map (·.size) = some (hcL 2 v3' (.slice none 0 0) (.slice A5 l5.length c5) false).length := held_size rfl
        obtain ⟨A3, c3, rfl, _⟩ := (sliceAt_of_own O3).form
        have oneH : (hcL 2 (.slice A3 l3.length c3) (.slice none 0 0) (.slice A5 l5.length c5) false).toArray.all (·.oneCell') = true := all_one (by simp [Value.oneCell'])
        obtain ⟨V', hW, X, BF, far, ths⟩ := fill_new (hcL 2 (.slice A3 l3.length c3) (.slice none 0 0) (.slice A5 l5.length c5) false) G2 rfl B (by omega)
        have HW := Lib.hid hW
        clear hW
        go_wp2_with (first
          | refine wpList_load_g (by rfl) 52 (.tmp 1) (by rfl) w.heap.size 0 (by rfl) (hcL 2 (.slice A3 l3.length c3) (.slice none 0 0) (.slice A5 l5.length c5) false) _ RG Try.underlying52 rfl szH ?_
          | (refine wpList_store_mid rfl 52 (.tmp 2) (.tmp 15) (by rfl) (w.heap.size + 1) 0 (hcL 2 (.slice A3 l3.length c3) (.slice none 0 0) (.slice A5 l5.length c5) false).toArray (by rfl) (by rfl) ths (by simpa using szH) oneH ?_; rw [HW.out])
          | fail)
        exact bodyPost_ret (res_mid (t := 2) (M := hcL 2 (.slice A3 l3.length c3) (.slice none 0 0) (.slice A5 l5.length c5) false) Try.underlying52 rfl rfl szH rfl X) rfl ⟨_, _, rfl, BF, own_base_le (O3.keep (fun q hq => far q (by omega))) (by omega), own_base_le (O5.keep (fun q hq => far q (by omega))) (by omega)⟩
  · skip
    have x5 := cell_list G1 (i := 5) rfl
    go_simp
    clear x5
    refine hK.out _ _ (cell_list G1 rfl) (fun _ => ?_)
    clear hK K
    try simp only [List.getElem_toArray, List.getElem_cons_succ, List.getElem_cons_zero, Act.put, List.setIfInBounds_toArray, List.set_cons_zero, List.set_cons_succ]
    refine wpAnyH_ready (rs := [1]) (by kernel_rfl) (by simp) ?_
    refine AllReadyH.cons rfl (fun K hK => ?_) AllReadyH.nil
    refine wp_load_mid 48 (.tmp 3) (by rfl) w.heap.size 1 (by rfl) [.int .i64 0, .int .i64 0, v3] _ (rng3 G1) Try.underlying48 rfl (path_size rfl) ?_
    refine hK.out _ _ (cell_list G1 rfl) (fun _ => ?_)
    clear hK K
    try simp only [List.getElem_toArray, List.getElem_cons_succ, List.getElem_cons_zero, Act.put, List.setIfInBounds_toArray, List.set_cons_zero, List.set_cons_succ]
    refine wpAnyH_ready (rs := [2]) (by kernel_rfl) (by simp) ?_
    refine AllReadyH.cons rfl (fun K hK => ?_) AllReadyH.nil
    refine Node.wp_fn 56 [.tmp 4] _ [.agg #[.int .i64 0, .int .i64 0, v3]] (by rfl) (by rfl) (enters Try.func56 (by kernel_rfl) rfl) (rOwn_c 0 0 v3 l3 V t3 hl3) ?_
    rintro e V' ⟨v3', rfl, bF, O3⟩
    refine ⟨_, rfl, ?_⟩
    replace O3 : OwnT (w.heap.size + 2) V' 55 v3' l3 := own_base_le O3 n2
    replace G1 := var_later G1 bF
    replace G2 := var_later G2 bF
    replace B := below_step B bF
    replace t5 := t5.later bF
    replace n2 := Nat.le_trans n2 bF.size
    clear bF t3
    generalize V' = V at *
    refine hK.out _ _ (cell_list G1 rfl) (fun _ => ?_)
    clear hK K
    try simp only [List.getElem_toArray, List.getElem_cons_succ, List.getElem_cons_zero, Act.put, List.setIfInBounds_toArray, List.set_cons_zero, List.set_cons_succ]
    refine wpAnyH_ready (rs := [5, 9]) (by kernel_rfl) (by simp) ?_
    refine AllReadyH.cons rfl (fun K hK => ?_) (AllReadyH.cons rfl (fun K hK => ?_) AllReadyH.nil)
    · skip
      refine Node.wp_fn 57 [.tmp 7] _ [.slice none 0 0] (by rfl) (by rfl) (enters Try.func57 (by kernel_rfl) rfl) (cloneStep_c (.slice none 0 0) [] V (SliceAt.nil_ _ _) (by simp)) ?_
      rintro e V' ⟨v4, rfl, bF, _, hv4⟩
      obtain rfl := hv4 rfl
      refine ⟨_, rfl, ?_⟩
      replace G1 := var_later G1 bF
      replace G2 := var_later G2 bF
      replace B := below_step B bF
      replace t5 := t5.later bF
      replace O3 := O3.later bF
      replace n2 := Nat.le_trans n2 bF.size
      clear bF hv4
      generalize V' = V at *
      refine hK.out _ _ (cell_list G1 rfl) (fun _ => ?_)
      clear hK K
      try simp only [List.getElem_toArray, List.getElem_cons_succ, List.getElem_cons_zero, Act.put, List.setIfInBounds_toArray, List.set_cons_zero, List.set_cons_succ]
      refine wpAnyH_ready (rs := [8, 9]) (by kernel_rfl) (by simp) ?_
      refine AllReadyH.cons rfl (fun K hK => ?_) (AllReadyH.cons rfl (fun K hK => ?_) AllReadyH.nil)
      · skip
        refine Node.wp_fn 58 [.tmp 10] _ [v5] (by rfl) (by rfl) (enters Try.func58 (by kernel_rfl) rfl) (cloneNeed_c v5 l5 V t5 hl5) ?_
        rintro e V' ⟨v5', rfl, bF, O5, _⟩
        refine ⟨_, rfl, ?_⟩
        replace O5 : OwnT (w.heap.size + 2) V' 59 v5' l5 := own_base_le O5 n2
        replace G1 := var_later G1 bF
        replace G2 := var_later G2 bF
        replace B := below_step B bF
        replace O3 := O3.later bF
        replace n2 := Nat.le_trans n2 bF.size
        clear bF t5
        generalize V' = V at *
        refine hK.out _ _ (cell_list G1 rfl) (fun _ => ?_)
        clear hK K
        try simp only [List.getElem_toArray, List.getElem_cons_succ, List.getElem_cons_zero, Act.put, List.setIfInBounds_toArray, List.set_cons_zero, List.set_cons_succ]
        refine wpAnyH_ready (rs := [9]) (by kernel_rfl) (by simp) ?_
        refine AllReadyH.cons rfl (fun K hK => ?_) AllReadyH.nil
        go_simp
        refine hK.out _ _ (cell_list G1 rfl) (fun _ => ?_)
        clear hK K
        try simp only [List.getElem_toArray, List.getElem_cons_succ, List.getElem_cons_zero, Act.put, List.setIfInBounds_toArray, List.set_cons_zero, List.set_cons_succ]
        refine wpAnyH_ready (rs := [10]) (by kernel_rfl) (by simp) ?_
        refine AllReadyH.cons rfl (fun K hK => ?_) AllReadyH.nil
        obtain ⟨A3, c3, hv3, _⟩ := (sliceAt_of_own O3).form
        refine wp_store_mid 48 (.tmp 12) (.tmp 5) (by rfl) w.heap.size 1 ([.int .i64 0, .int .i64 0, v3'] : List Value).toArray (by rfl) (by rfl) (there_of G1 1 _ (by simp)) (by simpa using path_size (cs := [.int .i64 0, .int .i64 0, v3']) rfl) (all_one (by rw [hv3]; simp [Value.oneCell'])) ?_
        replace G1 := setCells_at (([.int .i64 0, .int .i64 0, v3'] : List Value).toArray.toList) 1 G1
        replace G2 := (setCells_other (([.int .i64 0, .int .i64 0, v3'] : List Value).toArray.toList) 1 (w := V) (g := w.heap.size) (k := w.heap.size + 1) (by omega)).trans G2
        replace B := below_setCells (Nat.le_refl _) (([.int .i64 0, .int .i64 0, v3'] : List Value).toArray.toList) 1 B
        replace O3 := O3.keep (fun q hq => setCells_other (([.int .i64 0, .int .i64 0, v3'] : List Value).toArray.toList) 1 (w := V) (g := w.heap.size) (k := q) (by omega))
        replace O5 := O5.keep (fun q hq => setCells_other (([.int .i64 0, .int .i64 0, v3'] : List Value).toArray.toList) 1 (w := V) (g := w.heap.size) (k := q) (by omega))
        replace G1 : (V.setCells w.heap.size 1 ([.int .i64 0, .int .i64 0, v3'] : List Value).toArray.toList).heap[w.heap.size]? = some (.cells (hcL 2 v3' (.slice none 0 0) v5 false).toArray 52 (0, 0)) := G1
        clear hv3
        generalize V.setCells w.heap.size 1 ([.int .i64 0, .int .i64 0, v3'] : List Value).toArray.toList = V at *
        refine hK.out _ _ (cell_list G1 rfl) (fun _ => ?_)
        clear hK K
        try simp only [List.getElem_toArray, List.getElem_cons_succ, List.getElem_cons_zero, Act.put, List.setIfInBounds_toArray, List.set_cons_zero, List.set_cons_succ]
        refine wpAnyH_ready (rs := [11]) (by kernel_rfl) (by simp) ?_
        refine AllReadyH.cons rfl (fun K hK => ?_) AllReadyH.nil
        go_simp
        refine hK.out _ _ (cell_list G1 rfl) (fun _ => ?_)
        clear hK K
        try simp only [List.getElem_toArray, List.getElem_cons_succ, List.getElem_cons_zero, Act.put, List.setIfInBounds_toArray, List.set_cons_zero, List.set_cons_succ]
        refine wpAnyH_ready (rs := [12]) (by kernel_rfl) (by simp) ?_
        refine AllReadyH.cons rfl (fun K hK => ?_) AllReadyH.nil
        have x4 := cell_list G1 (i := 4) rfl
        have f4 := free_at G1 4
        go_simp
        clear x4 f4
        replace G1 : (V.setCell ⟨w.heap.size, 4, none⟩ (.slice none 0 0)).heap[w.heap.size]? = some (.cells (hcL 2 v3' (.slice none 0 0) v5 false).toArray 52 (0, 0)) := set_at G1 4 (.slice none 0 0)
        replace G2 := set_far G2 (p := ⟨w.heap.size, 4, none⟩) (by simp) (.slice none 0 0)
        replace B := below_set B (Nat.le_refl _) 4 (.slice none 0 0)
        replace O3 := O3.keep (fun q hq => Below.heap_setCell V ⟨w.heap.size, 4, none⟩ (.slice none 0 0) q (by simp; omega))
        replace O5 := O5.keep (fun q hq => Below.heap_setCell V ⟨w.heap.size, 4, none⟩ (.slice none 0 0) q (by simp; omega))
        generalize V.setCell ⟨w.heap.size, 4, none⟩ (.slice none 0 0) = V at *
        refine hK.out _ _ (cell_list G1 rfl) (fun _ => ?_)
        clear hK K
        try simp only [List.getElem_toArray, List.getElem_cons_succ, List.getElem_cons_zero, Act.put, List.setIfInBounds_toArray, List.set_cons_zero, List.set_cons_succ]
        refine wpAnyH_ready (rs := [13]) (by kernel_rfl) (by simp) ?_
        refine AllReadyH.cons rfl (fun K hK => ?_) AllReadyH.nil
        go_simp
        refine hK.out _ _ (cell_list G1 rfl) (fun _ => ?_)
        clear hK K
        try simp only [List.getElem_toArray, List.getElem_cons_succ, List.getElem_cons_zero, Act.put, List.setIfInBounds_toArray, List.set_cons_zero, List.set_cons_succ]
        refine wpAnyH_ready (rs := [14]) (by kernel_rfl) (by simp) ?_
        refine AllReadyH.cons rfl (fun K hK => ?_) AllReadyH.nil
        have x4 := cell_list G1 (i := 5) rfl
        have f4 := free_at G1 5
        obtain ⟨A5, c5, rfl, _⟩ := (sliceAt_of_own O5).form
        go_simp
        clear x4 f4
        replace G1 : (V.setCell ⟨w.heap.size, 5, none⟩ (.slice A5 l5.length c5)).heap[w.heap.size]? = some (.cells (hcL 2 v3' (.slice none 0 0) (.slice A5 l5.length c5) false).toArray 52 (0, 0)) := set_at G1 5 (.slice A5 l5.length c5)
        replace G2 := set_far G2 (p := ⟨w.heap.size, 5, none⟩) (by simp) (.slice A5 l5.length c5)
        replace B := below_set B (Nat.le_refl _) 5 (.slice A5 l5.length c5)
        replace O3 := O3.keep (fun q hq => Below.heap_setCell V ⟨w.heap.size, 5, none⟩ (.slice A5 l5.length c5) q (by simp; omega))
        replace O5 := O5.keep (fun q hq => Below.heap_setCell V ⟨w.heap.size, 5, none⟩ (.slice A5 l5.length c5) q (by simp; omega))
        generalize V.setCell ⟨w.heap.size, 5, none⟩ (.slice A5 l5.length c5) = V at *
        refine hK.out _ _ (cell_list G1 rfl) (fun _ => ?_)
        clear hK K
        try simp only [List.getElem_toArray, List.getElem_cons_succ, List.getElem_cons_zero, Act.put, List.setIfInBounds_toArray, List.set_cons_zero, List.set_cons_succ]
        refine wpAnyH_done (by kernel_rfl) ?_ _
        have RG := range_of G1
        have szH : (Try.prog.info? 52).map (·.size) = some (hcL 2 v3' (.slice none 0 0) (.slice A5 l5.length c5) false).length := held_size rfl
        obtain ⟨A3, c3, rfl, _⟩ := (sliceAt_of_own O3).form
        have oneH : (hcL 2 (.slice A3 l3.length c3) (.slice none 0 0) (.slice A5 l5.length c5) false).toArray.all (·.oneCell') = true := all_one (by simp [Value.oneCell'])
        obtain ⟨V', hW, X, BF, far, ths⟩ := fill_new (hcL 2 (.slice A3 l3.length c3) (.slice none 0 0) (.slice A5 l5.length c5) false) G2 rfl B (by omega)
        have HW := Lib.hid hW
        clear hW
        go_wp2_with (first
          | refine wpList_load_g (by rfl) 52 (.tmp 1) (by rfl) w.heap.size 0 (by rfl) (hcL 2 (.slice A3 l3.length c3) (.slice none 0 0) (.slice A5 l5.length c5) false) _ RG Try.underlying52 rfl szH ?_
          | (refine wpList_store_mid rfl 52 (.tmp 2) (.tmp 15) (by rfl) (w.heap.size + 1) 0 (hcL 2 (.slice A3 l3.length c3) (.slice none 0 0) (.slice A5 l5.length c5) false).toArray (by rfl) (by rfl) ths (by simpa using szH) oneH ?_; rw [HW.out])
          | fail)
        exact bodyPost_ret (res_mid (t := 2) (M := hcL 2 (.slice A3 l3.length c3) (.slice none 0 0) (.slice A5 l5.length c5) false) Try.underlying52 rfl rfl szH rfl X) rfl ⟨_, _, rfl, BF, own_base_le (O3.keep (fun q hq => far q (by omega))) (by omega), own_base_le (O5.keep (fun q hq => far q (by omega))) (by omega)⟩
      · skip
        go_simp
        refine hK.out _ _ (cell_list G1 rfl) (fun _ => ?_)
        clear hK K
        try simp only [List.getElem_toArray, List.getElem_cons_succ, List.getElem_cons_zero, Act.put, List.setIfInBounds_toArray, List.set_cons_zero, List.set_cons_succ]
        refine wpAnyH_ready (rs := [8]) (by kernel_rfl) (by simp) ?_
        refine AllReadyH.cons rfl (fun K hK => ?_) AllReadyH.nil
        refine Node.wp_fn 58 [.tmp 10] _ [v5] (by rfl) (by rfl) (enters Try.func58 (by kernel_rfl) rfl) (cloneNeed_c v5 l5 V t5 hl5) ?_
        rintro e V' ⟨v5', rfl, bF, O5, _⟩
        refine ⟨_, rfl, ?_⟩
        replace O5 : OwnT (w.heap.size + 2) V' 59 v5' l5 := own_base_le O5 n2
        replace G1 := var_later G1 bF
        replace G2 := var_later G2 bF
        replace B := below_step B bF
        replace O3 := O3.later bF
        replace n2 := Nat.le_trans n2 bF.size
        clear bF t5
        generalize V' = V at *
        refine hK.out _ _ (cell_list G1 rfl) (fun _ => ?_)
        clear hK K
        try simp only [List.getElem_toArray, List.getElem_cons_succ, List.getElem_cons_zero, Act.put, List.setIfInBounds_toArray, List.set_cons_zero, List.set_cons_succ]
        refine wpAnyH_ready (rs := [10]) (by kernel_rfl) (by simp) ?_
        refine AllReadyH.cons rfl (fun K hK => ?_) AllReadyH.nil
        obtain ⟨A3, c3, hv3, _⟩ := (sliceAt_of_own O3).form
        refine wp_store_mid 48 (.tmp 12) (.tmp 5) (by rfl) w.heap.size 1 ([.int .i64 0, .int .i64 0, v3'] : List Value).toArray (by rfl) (by rfl) (there_of G1 1 _ (by simp)) (by simpa using path_size (cs := [.int .i64 0, .int .i64 0, v3']) rfl) (all_one (by rw [hv3]; simp [Value.oneCell'])) ?_
        replace G1 := setCells_at (([.int .i64 0, .int .i64 0, v3'] : List Value).toArray.toList) 1 G1
        replace G2 := (setCells_other (([.int .i64 0, .int .i64 0, v3'] : List Value).toArray.toList) 1 (w := V) (g := w.heap.size) (k := w.heap.size + 1) (by omega)).trans G2
        replace B := below_setCells (Nat.le_refl _) (([.int .i64 0, .int .i64 0, v3'] : List Value).toArray.toList) 1 B
        replace O3 := O3.keep (fun q hq => setCells_other (([.int .i64 0, .int .i64 0, v3'] : List Value).toArray.toList) 1 (w := V) (g := w.heap.size) (k := q) (by omega))
        replace O5 := O5.keep (fun q hq => setCells_other (([.int .i64 0, .int .i64 0, v3'] : List Value).toArray.toList) 1 (w := V) (g := w.heap.size) (k := q) (by omega))
        replace G1 : (V.setCells w.heap.size 1 ([.int .i64 0, .int .i64 0, v3'] : List Value).toArray.toList).heap[w.heap.size]? = some (.cells (hcL 2 v3' (.slice none 0 0) v5 false).toArray 52 (0, 0)) := G1
        clear hv3
        generalize V.setCells w.heap.size 1 ([.int .i64 0, .int .i64 0, v3'] : List Value).toArray.toList = V at *
        refine hK.out _ _ (cell_list G1 rfl) (fun _ => ?_)
        clear hK K
        try simp only [List.getElem_toArray, List.getElem_cons_succ, List.getElem_cons_zero, Act.put, List.setIfInBounds_toArray, List.set_cons_zero, List.set_cons_succ]
        refine wpAnyH_ready (rs := [11]) (by kernel_rfl) (by simp) ?_
        refine AllReadyH.cons rfl (fun K hK => ?_) AllReadyH.nil
        go_simp
        refine hK.out _ _ (cell_list G1 rfl) (fun _ => ?_)
        clear hK K
        try simp only [List.getElem_toArray, List.getElem_cons_succ, List.getElem_cons_zero, Act.put, List.setIfInBounds_toArray, List.set_cons_zero, List.set_cons_succ]
        refine wpAnyH_ready (rs := [12]) (by kernel_rfl) (by simp) ?_
        refine AllReadyH.cons rfl (fun K hK => ?_) AllReadyH.nil
        have x4 := cell_list G1 (i := 4) rfl
        have f4 := free_at G1 4
        go_simp
        clear x4 f4
        replace G1 : (V.setCell ⟨w.heap.size, 4, none⟩ (.slice none 0 0)).heap[w.heap.size]? = some (.cells (hcL 2 v3' (.slice none 0 0) v5 false).toArray 52 (0, 0)) := set_at G1 4 (.slice none 0 0)
        replace G2 := set_far G2 (p := ⟨w.heap.size, 4, none⟩) (by simp) (.slice none 0 0)
        replace B := below_set B (Nat.le_refl _) 4 (.slice none 0 0)
        replace O3 := O3.keep (fun q hq => Below.heap_setCell V ⟨w.heap.size, 4, none⟩ (.slice none 0 0) q (by simp; omega))
        replace O5 := O5.keep (fun q hq => Below.heap_setCell V ⟨w.heap.size, 4, none⟩ (.slice none 0 0) q (by simp; omega))
        generalize V.setCell ⟨w.heap.size, 4, none⟩ (.slice none 0 0) = V at *
        refine hK.out _ _ (cell_list G1 rfl) (fun _ => ?_)
        clear hK K
        try simp only [List.getElem_toArray, List.getElem_cons_succ, List.getElem_cons_zero, Act.put, List.setIfInBounds_toArray, List.set_cons_zero, List.set_cons_succ]
        refine wpAnyH_ready (rs := [13]) (by kernel_rfl) (by simp) ?_
        refine AllReadyH.cons rfl (fun K hK => ?_) AllReadyH.nil
        go_simp
        refine hK.out _ _ (cell_list G1 rfl) (fun _ => ?_)
        clear hK K
        try simp only [List.getElem_toArray, List.getElem_cons_succ, List.getElem_cons_zero, Act.put, List.setIfInBounds_toArray, List.set_cons_zero, List.set_cons_succ]
        refine wpAnyH_ready (rs := [14]) (by kernel_rfl) (by simp) ?_
        refine AllReadyH.cons rfl (fun K hK => ?_) AllReadyH.nil
        have x4 := cell_list G1 (i := 5) rfl
        have f4 := free_at G1 5
        obtain ⟨A5, c5, rfl, _⟩ := (sliceAt_of_own O5).form
        go_simp
        clear x4 f4
        replace G1 : (V.setCell ⟨w.heap.size, 5, none⟩ (.slice A5 l5.length c5)).heap[w.heap.size]? = some (.cells (hcL 2 v3' (.slice none 0 0) (.slice A5 l5.length c5) false).toArray 52 (0, 0)) := set_at G1 5 (.slice A5 l5.length c5)
        replace G2 := set_far G2 (p := ⟨w.heap.size, 5, none⟩) (by simp) (.slice A5 l5.length c5)
        replace B := below_set B (Nat.le_refl _) 5 (.slice A5 l5.length c5)
        replace O3 := O3.keep (fun q hq => Below.heap_setCell V ⟨w.heap.size, 5, none⟩ (.slice A5 l5.length c5) q (by simp; omega))
        replace O5 := O5.keep (fun q hq => Below.heap_setCell V ⟨w.heap.size, 5, none⟩ (.slice A5 l5.length c5) q (by simp; omega))
        generalize V.setCell ⟨w.heap.size, 5, none⟩ (.slice A5 l5.length c5) = V at *
        refine hK.out _ _ (cell_list G1 rfl) (fun _ => ?_)
        clear hK K
        try simp only [List.getElem_toArray, List.getElem_cons_succ, List.getElem_cons_zero, Act.put, List.setIfInBounds_toArray, List.set_cons_zero, List.set_cons_succ]
        refine wpAnyH_done (by kernel_rfl) ?_ _
        have RG := range_of G1
        have szH : (Try.prog.info? 52).map (·.size) = some (hcL 2 v3' (.slice none 0 0) (.slice A5 l5.length c5) false).length := held_size rfl
        obtain ⟨A3, c3, rfl, _⟩ := (sliceAt_of_own O3).form
        have oneH : (hcL 2 (.slice A3 l3.length c3) (.slice none 0 0) (.slice A5 l5.length c5) false).toArray.all (·.oneCell') = true := all_one (by simp [Value.oneCell'])
        obtain ⟨V', hW, X, BF, far, ths⟩ := fill_new (hcL 2 (.slice A3 l3.length c3) (.slice none 0 0) (.slice A5 l5.length c5) false) G2 rfl B (by omega)
        have HW := Lib.hid hW
        clear hW
        go_wp2_with (first
          | refine wpList_load_g (by rfl) 52 (.tmp 1) (by rfl) w.heap.size 0 (by rfl) (hcL 2 (.slice A3 l3.length c3) (.slice none 0 0) (.slice A5 l5.length c5) false) _ RG Try.underlying52 rfl szH ?_
          | (refine wpList_store_mid rfl 52 (.tmp 2) (.tmp 15) (by rfl) (w.heap.size + 1) 0 (hcL 2 (.slice A3 l3.length c3) (.slice none 0 0) (.slice A5 l5.length c5) false).toArray (by rfl) (by rfl) ths (by simpa using szH) oneH ?_; rw [HW.out])
          | fail)
        exact bodyPost_ret (res_mid (t := 2) (M := hcL 2 (.slice A3 l3.length c3) (.slice none 0 0) (.slice A5 l5.length c5) false) Try.underlying52 rfl rfl szH rfl X) rfl ⟨_, _, rfl, BF, own_base_le (O3.keep (fun q hq => far q (by omega))) (by omega), own_base_le (O5.keep (fun q hq => far q (by omega))) (by omega)⟩
    · skip
      go_simp
      refine hK.out _ _ (cell_list G1 rfl) (fun _ => ?_)
      clear hK K
      try simp only [List.getElem_toArray, List.getElem_cons_succ, List.getElem_cons_zero, Act.put, List.setIfInBounds_toArray, List.set_cons_zero, List.set_cons_succ]
      refine wpAnyH_ready (rs := [5]) (by kernel_rfl) (by simp) ?_
      refine AllReadyH.cons rfl (fun K hK => ?_) AllReadyH.nil
      refine Node.wp_fn 57 [.tmp 7] _ [.slice none 0 0] (by rfl) (by rfl) (enters Try.func57 (by kernel_rfl) rfl) (cloneStep_c (.slice none 0 0) [] V (SliceAt.nil_ _ _) (by simp)) ?_
      rintro e V' ⟨v4, rfl, bF, _, hv4⟩
      obtain rfl := hv4 rfl
      refine ⟨_, rfl, ?_⟩
      replace G1 := var_later G1 bF
      replace G2 := var_later G2 bF
      replace B := below_step B bF
      replace t5 := t5.later bF
      replace O3 := O3.later bF
      replace n2 := Nat.le_trans n2 bF.size
      clear bF hv4
      generalize V' = V at *
      refine hK.out _ _ (cell_list G1 rfl) (fun _ => ?_)
      clear hK K
      try simp only [List.getElem_toArray, List.getElem_cons_succ, List.getElem_cons_zero, Act.put, List.setIfInBounds_toArray, List.set_cons_zero, List.set_cons_succ]
      refine wpAnyH_ready (rs := [8]) (by kernel_rfl) (by simp) ?_
      refine AllReadyH.cons rfl (fun K hK => ?_) AllReadyH.nil
      refine Node.wp_fn 58 [.tmp 10] _ [v5] (by rfl) (by rfl) (enters Try.func58 (by kernel_rfl) rfl) (cloneNeed_c v5 l5 V t5 hl5) ?_
      rintro e V' ⟨v5', rfl, bF, O5, _⟩
      refine ⟨_, rfl, ?_⟩
      replace O5 : OwnT (w.heap.size + 2) V' 59 v5' l5 := own_base_le O5 n2
      replace G1 := var_later G1 bF
      replace G2 := var_later G2 bF
      replace B := below_step B bF
      replace O3 := O3.later bF
      replace n2 := Nat.le_trans n2 bF.size
      clear bF t5
      generalize V' = V at *
      refine hK.out _ _ (cell_list G1 rfl) (fun _ => ?_)
      clear hK K
      try simp only [List.getElem_toArray, List.getElem_cons_succ, List.getElem_cons_zero, Act.put, List.setIfInBounds_toArray, List.set_cons_zero, List.set_cons_succ]
      refine wpAnyH_ready (rs := [10]) (by kernel_rfl) (by simp) ?_
      refine AllReadyH.cons rfl (fun K hK => ?_) AllReadyH.nil
      obtain ⟨A3, c3, hv3, _⟩ := (sliceAt_of_own O3).form
      refine wp_store_mid 48 (.tmp 12) (.tmp 5) (by rfl) w.heap.size 1 ([.int .i64 0, .int .i64 0, v3'] : List Value).toArray (by rfl) (by rfl) (there_of G1 1 _ (by simp)) (by simpa using path_size (cs := [.int .i64 0, .int .i64 0, v3']) rfl) (all_one (by rw [hv3]; simp [Value.oneCell'])) ?_
      replace G1 := setCells_at (([.int .i64 0, .int .i64 0, v3'] : List Value).toArray.toList) 1 G1
      replace G2 := (setCells_other (([.int .i64 0, .int .i64 0, v3'] : List Value).toArray.toList) 1 (w := V) (g := w.heap.size) (k := w.heap.size + 1) (by omega)).trans G2
      replace B := below_setCells (Nat.le_refl _) (([.int .i64 0, .int .i64 0, v3'] : List Value).toArray.toList) 1 B
      replace O3 := O3.keep (fun q hq => setCells_other (([.int .i64 0, .int .i64 0, v3'] : List Value).toArray.toList) 1 (w := V) (g := w.heap.size) (k := q) (by omega))
      replace O5 := O5.keep (fun q hq => setCells_other (([.int .i64 0, .int .i64 0, v3'] : List Value).toArray.toList) 1 (w := V) (g := w.heap.size) (k := q) (by omega))
      replace G1 : (V.setCells w.heap.size 1 ([.int .i64 0, .int .i64 0, v3'] : List Value).toArray.toList).heap[w.heap.size]? = some (.cells (hcL 2 v3' (.slice none 0 0) v5 false).toArray 52 (0, 0)) := G1
      clear hv3
      generalize V.setCells w.heap.size 1 ([.int .i64 0, .int .i64 0, v3'] : List Value).toArray.toList = V at *
      refine hK.out _ _ (cell_list G1 rfl) (fun _ => ?_)
      clear hK K
      try simp only [List.getElem_toArray, List.getElem_cons_succ, List.getElem_cons_zero, Act.put, List.setIfInBounds_toArray, List.set_cons_zero, List.set_cons_succ]
      refine wpAnyH_ready (rs := [11]) (by kernel_rfl) (by simp) ?_
      refine AllReadyH.cons rfl (fun K hK => ?_) AllReadyH.nil
      go_simp
      refine hK.out _ _ (cell_list G1 rfl) (fun _ => ?_)
      clear hK K
      try simp only [List.getElem_toArray, List.getElem_cons_succ, List.getElem_cons_zero, Act.put, List.setIfInBounds_toArray, List.set_cons_zero, List.set_cons_succ]
      refine wpAnyH_ready (rs := [12]) (by kernel_rfl) (by simp) ?_
      refine AllReadyH.cons rfl (fun K hK => ?_) AllReadyH.nil
      have x4 := cell_list G1 (i := 4) rfl
      have f4 := free_at G1 4
      go_simp
      clear x4 f4
      replace G1 : (V.setCell ⟨w.heap.size, 4, none⟩ (.slice none 0 0)).heap[w.heap.size]? = some (.cells (hcL 2 v3' (.slice none 0 0) v5 false).toArray 52 (0, 0)) := set_at G1 4 (.slice none 0 0)
      replace G2 := set_far G2 (p := ⟨w.heap.size, 4, none⟩) (by simp) (.slice none 0 0)
      replace B := below_set B (Nat.le_refl _) 4 (.slice none 0 0)
      replace O3 := O3.keep (fun q hq => Below.heap_setCell V ⟨w.heap.size, 4, none⟩ (.slice none 0 0) q (by simp; omega))
      replace O5 := O5.keep (fun q hq => Below.heap_setCell V ⟨w.heap.size, 4, none⟩ (.slice none 0 0) q (by simp; omega))
      generalize V.setCell ⟨w.heap.size, 4, none⟩ (.slice none 0 0) = V at *
      refine hK.out _ _ (cell_list G1 rfl) (fun _ => ?_)
      clear hK K
      try simp only [List.getElem_toArray, List.getElem_cons_succ, List.getElem_cons_zero, Act.put, List.setIfInBounds_toArray, List.set_cons_zero, List.set_cons_succ]
      refine wpAnyH_ready (rs := [13]) (by kernel_rfl) (by simp) ?_
      refine AllReadyH.cons rfl (fun K hK => ?_) AllReadyH.nil
      go_simp
      refine hK.out _ _ (cell_list G1 rfl) (fun _ => ?_)
      clear hK K
      try simp only [List.getElem_toArray, List.getElem_cons_succ, List.getElem_cons_zero, Act.put, List.setIfInBounds_toArray, List.set_cons_zero, List.set_cons_succ]
      refine wpAnyH_ready (rs := [14]) (by kernel_rfl) (by simp) ?_
      refine AllReadyH.cons rfl (fun K hK => ?_) AllReadyH.nil
      have x4 := cell_list G1 (i := 5) rfl
      have f4 := free_at G1 5
      obtain ⟨A5, c5, rfl, _⟩ := (sliceAt_of_own O5).form
      go_simp
      clear x4 f4
      replace G1 : (V.setCell ⟨w.heap.size, 5, none⟩ (.slice A5 l5.length c5)).heap[w.heap.size]? = some (.cells (hcL 2 v3' (.slice none 0 0) (.slice A5 l5.length c5) false).toArray 52 (0, 0)) := set_at G1 5 (.slice A5 l5.length c5)
      replace G2 := set_far G2 (p := ⟨w.heap.size, 5, none⟩) (by simp) (.slice A5 l5.length c5)
      replace B := below_set B (Nat.le_refl _) 5 (.slice A5 l5.length c5)
      replace O3 := O3.keep (fun q hq => Below.heap_setCell V ⟨w.heap.size, 5, none⟩ (.slice A5 l5.length c5) q (by simp; omega))
      replace O5 := O5.keep (fun q hq => Below.heap_setCell V ⟨w.heap.size, 5, none⟩ (.slice A5 l5.length c5) q (by simp; omega))
      generalize V.setCell ⟨w.heap.size, 5, none⟩ (.slice A5 l5.length c5) = V at *
      refine hK.out _ _ (cell_list G1 rfl) (fun _ => ?_)
      clear hK K
      try simp only [List.getElem_toArray, List.getElem_cons_succ, List.getElem_cons_zero, Act.put, List.setIfInBounds_toArray, List.set_cons_zero, List.set_cons_succ]
      refine wpAnyH_done (by kernel_rfl) ?_ _
      have RG := range_of G1
      have szH : (Try.prog.info? 52).map (·.size) = some (hcL 2 v3' (.slice none 0 0) (.slice A5 l5.length c5) false).length := held_size rfl
      obtain ⟨A3, c3, rfl, _⟩ := (sliceAt_of_own O3).form
      have oneH : (hcL 2 (.slice A3 l3.length c3) (.slice none 0 0) (.slice A5 l5.length c5) false).toArray.all (·.oneCell') = true := all_one (by simp [Value.oneCell'])
      obtain ⟨V', hW, X, BF, far, ths⟩ := fill_new (hcL 2 (.slice A3 l3.length c3) (.slice none 0 0) (.slice A5 l5.length c5) false) G2 rfl B (by omega)
      have HW := Lib.hid hW
      clear hW
      go_wp2_with (first
        | refine wpList_load_g (by rfl) 52 (.tmp 1) (by rfl) w.heap.size 0 (by rfl) (hcL 2 (.slice A3 l3.length c3) (.slice none 0 0) (.slice A5 l5.length c5) false) _ RG Try.underlying52 rfl szH ?_
        | (refine wpList_store_mid rfl 52 (.tmp 2) (.tmp 15) (by rfl) (w.heap.size + 1) 0 (hcL 2 (.slice A3 l3.length c3) (.slice none 0 0) (.slice A5 l5.length c5) false).toArray (by rfl) (by rfl) ths (by simpa using szH) oneH ?_; rw [HW.out])
        | fail)
      exact bodyPost_ret (res_mid (t := 2) (M := hcL 2 (.slice A3 l3.length c3) (.slice none 0 0) (.slice A5 l5.length c5) false) Try.underlying52 rfl rfl szH rfl X) rfl ⟨_, _, rfl, BF, own_base_le (O3.keep (fun q hq => far q (by omega))) (by omega), own_base_le (O5.keep (fun q hq => far q (by omega))) (by omega)⟩
end Go.Proofs.Ytkmioplegjeopaa
