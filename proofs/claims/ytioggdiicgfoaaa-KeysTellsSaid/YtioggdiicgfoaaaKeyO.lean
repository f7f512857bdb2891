/- Keys: the law's rows. Nothing that was there is turned. -/
import Derived.Test.YtioggdiicgfoaaaKeyN
namespace Go.Proofs.Ytioggdiicgfoaaa
open Go.RowKit Rf Mem KM Bits Bv
attribute [local go_sem ↓] run_max2 run_min2
theorem bytes_le {b n : Nat} (h : b ≤ 1000) (hn : n ≤ 1000) : (b : Int) * (n : Int) ≤ 281474976710656 := by
  have h5 : b * n ≤ 1000 * 1000 := Nat.mul_le_mul h hn
  have h6 : ((b * n : Nat) : Int) ≤ 1000000 := by omega
  rw [Int.natCast_mul] at h6
  omega
theorem mk_any {t e : TypeId} (ht : Try.prog.underlying t = some (.slice e)) (hi : (Try.prog.info? e).map (fun i => (i.zero.isSome, decide (i.bytes ≤ 1000))) = some (true, true)) (n : Nat) (hn : n ≤ 1000) : ∃ cells : Array Value, ∀ w : World, (Instr.makeSlice t (.int .i64 (n : Int)) (.int .i64 (n : Int))).run Try.prog w = .ok (.slice (some ⟨w.heap.size, 0, none⟩) n n) (w.alloc (.cells cells e)) := by
  obtain ⟨i, h1, h2⟩ := Option.map_eq_some_iff.1 hi
  simp only [Prod.mk.injEq, decide_eq_true_eq] at h2
  obtain ⟨h3, h4⟩ := h2
  obtain ⟨z, hz⟩ := Option.isSome_iff_exists.1 h3
  have hb := bytes_le h4 hn
  refine ⟨madeCells z.cells (n * i.size), fun w => ?_⟩
  have := run_make (P := Try.prog) w t e i z ht h1 hz .i64 .i64 n n (by omega) (Int.le_refl _) hb (by omega)
  simpa using this
theorem mk_one {t e : TypeId} {z : Value} {size : Nat} (ht : Try.prog.underlying t = some (.slice e)) (hi : (Try.prog.info? e).map (fun i => (i.zero, i.size, decide (i.bytes ≤ 1000))) = some (some z, size, true)) (n : Nat) (hn : n ≤ 1000) (w : World) : (Instr.makeSlice t (.int .i64 (n : Int)) (.int .i64 (n : Int))).run Try.prog w = .ok (.slice (some ⟨w.heap.size, 0, none⟩) n n) (w.alloc (.cells (madeCells z.cells (n * size)) e)) := by
  obtain ⟨i, h1, h2⟩ := Option.map_eq_some_iff.1 hi
  simp only [Prod.mk.injEq, decide_eq_true_eq] at h2
  obtain ⟨hz, rfl, h4⟩ := h2
  have hb := bytes_le h4 hn
  have := run_make (P := Try.prog) w t e i z ht h1 hz .i64 .i64 n n (by omega) (Int.le_refl _) hb (by omega)
  simpa using this
theorem build_lay (a b c : Value) (ha : ∃ A n k, a = .slice A n k) (hb : ∃ A n k, b = .slice A n k) (hc : ∃ A n k, c = .slice A n k) (w : World) : (Instr.build 29 #[(1, b), (2, c), (0, a)]).run Try.prog w = .ok (.agg ([a, b, c, .slice none 0 0, .int .i64 0, .int .i64 0, .int .i64 0, .int .i64 0, .int .i64 0, .int .i64 0, .int .i64 0] : List Value).toArray) w := by
  obtain ⟨_, _, _, rfl⟩ := ha
  obtain ⟨_, _, _, rfl⟩ := hb
  obtain ⟨_, _, _, rfl⟩ := hc
  exact run_build w _ _ _ (by kernel_rfl)
set_option maxRecDepth 100000 in
theorem rows_c (w : World) : Calls Try.prog 17 #[.int .i64 2, .int .i64 1, .int .i64 3] w fun e w' => Below w.heap.size w w' ∧ ∃ (L : List Value) (A : Option Addr) (c : Nat) (A1 : Option Addr) (c1 : Nat) (A3 : Option Addr) (c3 : Nat) (ve : Value), e = .returned (.agg L.toArray) ∧ LayN w' L 3 [0] 2 0 A c A1 c1 A3 c3 ve ∧ ∀ v ∈ L, v.oneCell' = true := by
  obtain ⟨x1, hm1⟩ : ∃ cells : Array Value, ∀ w : World, (Instr.makeSlice 23 (.int .i64 2) (.int .i64 2)).run Try.prog w = .ok (.slice (some ⟨w.heap.size, 0, none⟩) 2 2) (w.alloc (.cells cells 123)) := mk_any (t := 23) Try.underlying23 (by kernel_rfl) 2 (by omega)
  have hm3 : ∀ w : World, (Instr.makeSlice 24 (.int .i64 1) (.int .i64 1)).run Try.prog w = .ok (.slice (some ⟨w.heap.size, 0, none⟩) 1 1) (w.alloc (.cells ([.int .i64 0, .int .i64 0, .slice none 0 0] : List Value).toArray 54)) := fun w => by
    have h := mk_one (z := .agg #[.int .i64 0, .int .i64 0, .slice none 0 0]) (size := 3) (t := 24) Try.underlying24 (by kernel_rfl) 1 (by omega) w
    rw [show madeCells (Value.agg #[.int .i64 0, .int .i64 0, .slice none 0 0]).cells (1 * 3) = ([.int .i64 0, .int .i64 0, .slice none 0 0] : List Value).toArray by kernel_rfl] at h
    exact h
  obtain ⟨x5, hm5⟩ : ∃ cells : Array Value, ∀ w : World, (Instr.makeSlice 22 (.int .i64 3) (.int .i64 3)).run Try.prog w = .ok (.slice (some ⟨w.heap.size, 0, none⟩) 3 3) (w.alloc (.cells cells 121)) := mk_any (t := 22) Try.underlying22 (by kernel_rfl) 3 (by omega)
  have G0 : (w.alloc (.cells #[.slice none 0 0, .slice none 0 0, .slice none 0 0, .slice none 0 0, .int .i64 0, .int .i64 0, .int .i64 0, .int .i64 0, .int .i64 0, .int .i64 0, .int .i64 0] 29)).heap[w.heap.size]? = some (.cells #[.slice none 0 0, .slice none 0 0, .slice none 0 0, .slice none 0 0, .int .i64 0, .int .i64 0, .int .i64 0, .int .i64 0, .int .i64 0, .int .i64 0, .int .i64 0] 29 (0, 0)) := new_at rfl _
  have B0 := kbelow_new w (.cells #[.slice none 0 0, .slice none 0 0, .slice none 0 0, .slice none 0 0, .int .i64 0, .int .i64 0, .int .i64 0, .int .i64 0, .int .i64 0, .int .i64 0, .int .i64 0] 29)
  have szL : (Try.prog.info? 29).map (·.size) = some 11 := by kernel_rfl
  go_enter Try.func17, Try.ntmps17
  go_upto_region 1 with (fail)
  generalize w.alloc (.cells #[.slice none 0 0, .slice none 0 0, .slice none 0 0, .slice none 0 0, .int .i64 0, .int .i64 0, .int .i64 0, .int .i64 0, .int .i64 0, .int .i64 0, .int .i64 0] 29) = V at *
  refine wp_region_held_drew (S := (fun _ => True)) (by kernel_rfl) ?_ (fun hHeld => ?_)
  · trivial
  replace G0 := var_later G0 ((Below.refl _ V).drew)
  replace B0 := B0.drew
  generalize V.drew = V at *
  refine wpAnyH_take (i := 0) (v := ?_) rfl (by kernel_rfl) (by kernel_rfl) (by kernel_rfl) (fun _ _ _ h => h) (Or.inl ⟨by rfl, ?_⟩) (by assumption) ?_
  rotate_left
  · intro w hSw
    try dsimp only at hSw
    go_simp
    try with_reducible rfl
  simp only [List.getElem_toArray, List.getElem_cons_succ, List.getElem_cons_zero, Act.put, List.setIfInBounds_toArray, List.set_cons_zero, List.set_cons_succ]
  refine wpAnyH_take (i := 2) (v := ?_) rfl (by kernel_rfl) (by kernel_rfl) (by kernel_rfl) (fun _ _ _ h => h) (Or.inl ⟨by rfl, ?_⟩) (by assumption) ?_
  rotate_left
  · intro w hSw
    try dsimp only at hSw
    go_simp
    try with_reducible rfl
  simp only [List.getElem_toArray, List.getElem_cons_succ, List.getElem_cons_zero, Act.put, List.setIfInBounds_toArray, List.set_cons_zero, List.set_cons_succ]
  refine wpAnyH_take (i := 4) (v := ?_) rfl (by kernel_rfl) (by kernel_rfl) (by kernel_rfl) (fun _ _ _ h => h) (Or.inl ⟨by rfl, ?_⟩) (by assumption) ?_
  rotate_left
  · intro w hSw
    try dsimp only at hSw
    go_simp
    try with_reducible rfl
  simp only [List.getElem_toArray, List.getElem_cons_succ, List.getElem_cons_zero, Act.put, List.setIfInBounds_toArray, List.set_cons_zero, List.set_cons_succ]
  clear hHeld
  refine wpAnyH_ready (rs := [1, 3, 5]) (by kernel_rfl) (by simp) ?_
  refine AllReadyH.cons rfl (fun K hK => ?_) (AllReadyH.cons rfl (fun K hK => ?_) (AllReadyH.cons rfl (fun K hK => ?_) AllReadyH.nil))
  · skip
    have h1 := hm1 V
    go_simp
    have b1 := kbelow_new V (.cells x1 123)
    replace G0 := var_later G0 b1
    replace B0 := below_step B0 b1
    try replace VE := var_later VE b1
    clear b1 h1
    generalize V.heap.size = g1 at *
    generalize V.alloc (.cells x1 123) = V at *
    refine hK.out _ _ trivial (fun _ => ?_)
    clear hK K
    try simp only [List.getElem_toArray, List.getElem_cons_succ, List.getElem_cons_zero, Act.put, List.setIfInBounds_toArray, List.set_cons_zero, List.set_cons_succ]
    refine wpAnyH_ready (rs := [3, 5]) (by kernel_rfl) (by simp) ?_
    refine AllReadyH.cons rfl (fun K hK => ?_) (AllReadyH.cons rfl (fun K hK => ?_) AllReadyH.nil)
    · skip
      have h1 := hm3 V
      go_simp
      have b1 := kbelow_new V (.cells ([.int .i64 0, .int .i64 0, .slice none 0 0] : List Value).toArray 54)
      have VE := new_at (w := V) rfl (.cells ([.int .i64 0, .int .i64 0, .slice none 0 0] : List Value).toArray 54)
      replace G0 := var_later G0 b1
      replace B0 := below_step B0 b1
      clear b1 h1
      generalize V.heap.size = g3 at *
      generalize V.alloc (.cells ([.int .i64 0, .int .i64 0, .slice none 0 0] : List Value).toArray 54) = V at *
      refine hK.out _ _ trivial (fun _ => ?_)
      clear hK K
      try simp only [List.getElem_toArray, List.getElem_cons_succ, List.getElem_cons_zero, Act.put, List.setIfInBounds_toArray, List.set_cons_zero, List.set_cons_succ]
      refine wpAnyH_ready (rs := [5]) (by kernel_rfl) (by simp) ?_
      refine AllReadyH.cons rfl (fun K hK => ?_) AllReadyH.nil
      have h1 := hm5 V
      go_simp
      have b1 := kbelow_new V (.cells x5 121)
      replace G0 := var_later G0 b1
      replace B0 := below_step B0 b1
      try replace VE := var_later VE b1
      clear b1 h1
      generalize V.heap.size = g5 at *
      generalize V.alloc (.cells x5 121) = V at *
      refine hK.out _ _ trivial (fun _ => ?_)
      clear hK K
      try simp only [List.getElem_toArray, List.getElem_cons_succ, List.getElem_cons_zero, Act.put, List.setIfInBounds_toArray, List.set_cons_zero, List.set_cons_succ]
      refine wpAnyH_ready (rs := [6]) (by kernel_rfl) (by simp) ?_
      refine AllReadyH.cons rfl (fun K hK => ?_) AllReadyH.nil
      go_simp
      refine hK.out _ _ trivial (fun _ => ?_)
      clear hK K
      try simp only [List.getElem_toArray, List.getElem_cons_succ, List.getElem_cons_zero, Act.put, List.setIfInBounds_toArray, List.set_cons_zero, List.set_cons_succ]
      refine wpAnyH_ready (rs := [7]) (by kernel_rfl) (by simp) ?_
      refine AllReadyH.cons rfl (fun K hK => ?_) AllReadyH.nil
      refine wp_store_mid 29 (.tmp 6) (.tmp 13) (by rfl) w.heap.size 0 ([.slice (some ⟨g5, 0, none⟩) 3 3, .slice (some ⟨g1, 0, none⟩) 2 2, .slice (some ⟨g3, 0, none⟩) 1 1, .slice none 0 0, .int .i64 0, .int .i64 0, .int .i64 0, .int .i64 0, .int .i64 0, .int .i64 0, .int .i64 0] : List Value).toArray (by rfl) (by rfl) (there_of G0 0 _ (by simp)) (by simpa using szL) (all_one (by simp [Value.oneCell'])) ?_
      have k3 : (V.setCells w.heap.size 0 ([.slice (some ⟨g5, 0, none⟩) 3 3, .slice (some ⟨g1, 0, none⟩) 2 2, .slice (some ⟨g3, 0, none⟩) 1 1, .slice none 0 0, .int .i64 0, .int .i64 0, .int .i64 0, .int .i64 0, .int .i64 0, .int .i64 0, .int .i64 0] : List Value).toArray.toList).heap[w.heap.size]? = some (.cells ([.slice (some ⟨g5, 0, none⟩) 3 3, .slice (some ⟨g1, 0, none⟩) 2 2, .slice (some ⟨g3, 0, none⟩) 1 1, .slice none 0 0, .int .i64 0, .int .i64 0, .int .i64 0, .int .i64 0, .int .i64 0, .int .i64 0, .int .i64 0] : List Value).toArray 29 (0, 0)) := by rw [setCells_at _ _ G0, setL_all (by rfl)]
      replace B0 := below_setCells (Nat.le_refl _) ([.slice (some ⟨g5, 0, none⟩) 3 3, .slice (some ⟨g1, 0, none⟩) 2 2, .slice (some ⟨g3, 0, none⟩) 1 1, .slice none 0 0, .int .i64 0, .int .i64 0, .int .i64 0, .int .i64 0, .int .i64 0, .int .i64 0, .int .i64 0] : List Value).toArray.toList 0 B0
      have hne3 : g3 ≠ w.heap.size := by
        rintro rfl
        rw [G0] at VE
        cases VE
      replace VE := (setCells_far (([.slice (some ⟨g5, 0, none⟩) 3 3, .slice (some ⟨g1, 0, none⟩) 2 2, .slice (some ⟨g3, 0, none⟩) 1 1, .slice none 0 0, .int .i64 0, .int .i64 0, .int .i64 0, .int .i64 0, .int .i64 0, .int .i64 0, .int .i64 0] : List Value).toArray.toList) 0 hne3).trans VE
      clear hne3 G0
      generalize V.setCells w.heap.size 0 ([.slice (some ⟨g5, 0, none⟩) 3 3, .slice (some ⟨g1, 0, none⟩) 2 2, .slice (some ⟨g3, 0, none⟩) 1 1, .slice none 0 0, .int .i64 0, .int .i64 0, .int .i64 0, .int .i64 0, .int .i64 0, .int .i64 0, .int .i64 0] : List Value).toArray.toList = V at *
      refine hK.out _ _ trivial (fun _ => ?_)
      clear hK K
      try simp only [List.getElem_toArray, List.getElem_cons_succ, List.getElem_cons_zero, Act.put, List.setIfInBounds_toArray, List.set_cons_zero, List.set_cons_succ]
      refine wpAnyH_done (by kernel_rfl) ?_ _
      go_wp2_with fail
      refine bodyPost_ret (res_mid (t := 6) Try.underlying29 rfl rfl (by simpa using szL) rfl k3) rfl ⟨B0, _, _, _, _, _, _, _, _, rfl, ⟨rfl, rfl, rfl, rfl, rfl, ⟨_, _, rfl, Nat.le_refl _, by simp [maxLen], .inr ⟨_, _, rfl, (Array.getElem?_eq_some_iff.1 VE).1, fun k n hk => ?_⟩⟩⟩, by simp [Value.oneCell']⟩
      match k, hk with
      | 0, hk => cases hk; exact ⟨_, _, cell_list VE rfl⟩
      | k + 1, hk => simp at hk
    · skip
      have h1 := hm5 V
      go_simp
      have b1 := kbelow_new V (.cells x5 121)
      replace G0 := var_later G0 b1
      replace B0 := below_step B0 b1
      try replace VE := var_later VE b1
      clear b1 h1
      generalize V.heap.size = g5 at *
      generalize V.alloc (.cells x5 121) = V at *
      refine hK.out _ _ trivial (fun _ => ?_)
      clear hK K
      try simp only [List.getElem_toArray, List.getElem_cons_succ, List.getElem_cons_zero, Act.put, List.setIfInBounds_toArray, List.set_cons_zero, List.set_cons_succ]
      refine wpAnyH_ready (rs := [3]) (by kernel_rfl) (by simp) ?_
      refine AllReadyH.cons rfl (fun K hK => ?_) AllReadyH.nil
      have h1 := hm3 V
      go_simp
      have b1 := kbelow_new V (.cells ([.int .i64 0, .int .i64 0, .slice none 0 0] : List Value).toArray 54)
      have VE := new_at (w := V) rfl (.cells ([.int .i64 0, .int .i64 0, .slice none 0 0] : List Value).toArray 54)
      replace G0 := var_later G0 b1
      replace B0 := below_step B0 b1
      clear b1 h1
      generalize V.heap.size = g3 at *
      generalize V.alloc (.cells ([.int .i64 0, .int .i64 0, .slice none 0 0] : List Value).toArray 54) = V at *
      refine hK.out _ _ trivial (fun _ => ?_)
      clear hK K
      try simp only [List.getElem_toArray, List.getElem_cons_succ, List.getElem_cons_zero, Act.put, List.setIfInBounds_toArray, List.set_cons_zero, List.set_cons_succ]
      refine wpAnyH_ready (rs := [6]) (by kernel_rfl) (by simp) ?_
      refine AllReadyH.cons rfl (fun K hK => ?_) AllReadyH.nil
      go_simp
      refine hK.out _ _ trivial (fun _ => ?_)
      clear hK K
      try simp only [List.getElem_toArray, List.getElem_cons_succ, List.getElem_cons_zero, Act.put, List.setIfInBounds_toArray, List.set_cons_zero, List.set_cons_succ]
      refine wpAnyH_ready (rs := [7]) (by kernel_rfl) (by simp) ?_
      refine AllReadyH.cons rfl (fun K hK => ?_) AllReadyH.nil
      refine wp_store_mid 29 (.tmp 6) (.tmp 13) (by rfl) w.heap.size 0 ([.slice (some ⟨g5, 0, none⟩) 3 3, .slice (some ⟨g1, 0, none⟩) 2 2, .slice (some ⟨g3, 0, none⟩) 1 1, .slice none 0 0, .int .i64 0, .int .i64 0, .int .i64 0, .int .i64 0, .int .i64 0, .int .i64 0, .int .i64 0] : List Value).toArray (by rfl) (by rfl) (there_of G0 0 _ (by simp)) (by simpa using szL) (all_one (by simp [Value.oneCell'])) ?_
      have k3 : (V.setCells w.heap.size 0 ([.slice (some ⟨g5, 0, none⟩) 3 3, .slice (some ⟨g1, 0, none⟩) 2 2, .slice (some ⟨g3, 0, none⟩) 1 1, .slice none 0 0, .int .i64 0, .int .i64 0, .int .i64 0, .int .i64 0, .int .i64 0, .int .i64 0, .int .i64 0] : List Value).toArray.toList).heap[w.heap.size]? = some (.cells ([.slice (some ⟨g5, 0, none⟩) 3 3, .slice (some ⟨g1, 0, none⟩) 2 2, .slice (some ⟨g3, 0, none⟩) 1 1, .slice none 0 0, .int .i64 0, .int .i64 0, .int .i64 0, .int .i64 0, .int .i64 0, .int .i64 0, .int .i64 0] : List Value).toArray 29 (0, 0)) := by rw [setCells_at _ _ G0, setL_all (by rfl)]
      replace B0 := below_setCells (Nat.le_refl _) ([.slice (some ⟨g5, 0, none⟩) 3 3, .slice (some ⟨g1, 0, none⟩) 2 2, .slice (some ⟨g3, 0, none⟩) 1 1, .slice none 0 0, .int .i64 0, .int .i64 0, .int .i64 0, .int .i64 0, .int .i64 0, .int .i64 0, .int .i64 0] : List Value).toArray.toList 0 B0
      have hne3 : g3 ≠ w.heap.size := by
        rintro rfl
        rw [G0] at VE
        cases VE
      replace VE := (setCells_far (([.slice (some ⟨g5, 0, none⟩) 3 3, .slice (some ⟨g1, 0, none⟩) 2 2, .slice (some ⟨g3, 0, none⟩) 1 1, .slice none 0 0, .int .i64 0, .int .i64 0, .int .i64 0, .int .i64 0, .int .i64 0, .int .i64 0, .int .i64 0] : List Value).toArray.toList) 0 hne3).trans VE
      clear hne3 G0
      generalize V.setCells w.heap.size 0 ([.slice (some ⟨g5, 0, none⟩) 3 3, .slice (some ⟨g1, 0, none⟩) 2 2, .slice (some ⟨g3, 0, none⟩) 1 1, .slice none 0 0, .int .i64 0, .int .i64 0, .int .i64 0, .int .i64 0, .int .i64 0, .int .i64 0, .int .i64 0] : List Value).toArray.toList = V at *
      refine hK.out _ _ trivial (fun _ => ?_)
      clear hK K
      try simp only [List.getElem_toArray, List.getElem_cons_succ, List.getElem_cons_zero, Act.put, List.setIfInBounds_toArray, List.set_cons_zero, List.set_cons_succ]
      refine wpAnyH_done (by kernel_rfl) ?_ _
      go_wp2_with fail
      refine bodyPost_ret (res_mid (t := 6) Try.underlying29 rfl rfl (by simpa using szL) rfl k3) rfl ⟨B0, _, _, _, _, _, _, _, _, rfl, ⟨rfl, rfl, rfl, rfl, rfl, ⟨_, _, rfl, Nat.le_refl _, by simp [maxLen], .inr ⟨_, _, rfl, (Array.getElem?_eq_some_iff.1 VE).1, fun k n hk => ?_⟩⟩⟩, by simp [Value.oneCell']⟩
      match k, hk with
      | 0, hk => cases hk; exact ⟨_, _, cell_list VE rfl⟩
      | k + 1, hk => simp at hk
  · skip
    have h1 := hm3 V
    go_simp
    have b1 := kbelow_new V (.cells ([.int .i64 0, .int .i64 0, .slice none 0 0] : List Value).toArray 54)
    have VE := new_at (w := V) rfl (.cells ([.int .i64 0, .int .i64 0, .slice none 0 0] : List Value).toArray 54)
    replace G0 := var_later G0 b1
    replace B0 := below_step B0 b1
    clear b1 h1
    generalize V.heap.size = g3 at *
    generalize V.alloc (.cells ([.int .i64 0, .int .i64 0, .slice none 0 0] : List Value).toArray 54) = V at *
    refine hK.out _ _ trivial (fun _ => ?_)
    clear hK K
    try simp only [List.getElem_toArray, List.getElem_cons_succ, List.getElem_cons_zero, Act.put, List.setIfInBounds_toArray, List.set_cons_zero, List.set_cons_succ]
    refine wpAnyH_ready (rs := [1, 5]) (by kernel_rfl) (by simp) ?_
    refine AllReadyH.cons rfl (fun K hK => ?_) (AllReadyH.cons rfl (fun K hK => ?_) AllReadyH.nil)
    · skip
      have h1 := hm1 V
      go_simp
      have b1 := kbelow_new V (.cells x1 123)
      replace G0 := var_later G0 b1
      replace B0 := below_step B0 b1
      try replace VE := var_later VE b1
      clear b1 h1
      generalize V.heap.size = g1 at *
      generalize V.alloc (.cells x1 123) = V at *
      refine hK.out _ _ trivial (fun _ => ?_)
      clear hK K
      try simp only [List.getElem_toArray, List.getElem_cons_succ, List.getElem_cons_zero, Act.put, List.setIfInBounds_toArray, List.set_cons_zero, List.set_cons_succ]
      refine wpAnyH_ready (rs := [5]) (by kernel_rfl) (by simp) ?_
      refine AllReadyH.cons rfl (fun K hK => ?_) AllReadyH.nil
      have h1 := hm5 V
      go_simp
      have b1 := kbelow_new V (.cells x5 121)
      replace G0 := var_later G0 b1
      replace B0 := below_step B0 b1
      try replace VE := var_later VE b1
      clear b1 h1
      generalize V.heap.size = g5 at *
      generalize V.alloc (.cells x5 121) = V at *
      refine hK.out _ _ trivial (fun _ => ?_)
      clear hK K
      try simp only [List.getElem_toArray, List.getElem_cons_succ, List.getElem_cons_zero, Act.put, List.setIfInBounds_toArray, List.set_cons_zero, List.set_cons_succ]
      refine wpAnyH_ready (rs := [6]) (by kernel_rfl) (by simp) ?_
      refine AllReadyH.cons rfl (fun K hK => ?_) AllReadyH.nil
      go_simp
      refine hK.out _ _ trivial (fun _ => ?_)
      clear hK K
      try simp only [List.getElem_toArray, List.getElem_cons_succ, List.getElem_cons_zero, Act.put, List.setIfInBounds_toArray, List.set_cons_zero, List.set_cons_succ]
      refine wpAnyH_ready (rs := [7]) (by kernel_rfl) (by simp) ?_
      refine AllReadyH.cons rfl (fun K hK => ?_) AllReadyH.nil
      refine wp_store_mid 29 (.tmp 6) (.tmp 13) (by rfl) w.heap.size 0 ([.slice (some ⟨g5, 0, none⟩) 3 3, .slice (some ⟨g1, 0, none⟩) 2 2, .slice (some ⟨g3, 0, none⟩) 1 1, .slice none 0 0, .int .i64 0, .int .i64 0, .int .i64 0, .int .i64 0, .int .i64 0, .int .i64 0, .int .i64 0] : List Value).toArray (by rfl) (by rfl) (there_of G0 0 _ (by simp)) (by simpa using szL) (all_one (by simp [Value.oneCell'])) ?_
      have k3 : (V.setCells w.heap.size 0 ([.slice (some ⟨g5, 0, none⟩) 3 3, .slice (some ⟨g1, 0, none⟩) 2 2, .slice (some ⟨g3, 0, none⟩) 1 1, .slice none 0 0, .int .i64 0, .int .i64 0, .int .i64 0, .int .i64 0, .int .i64 0, .int .i64 0, .int .i64 0] : List Value).toArray.toList).heap[w.heap.size]? = some (.cells ([.slice (some ⟨g5, 0, none⟩) 3 3, .slice (some ⟨g1, 0, none⟩) 2 2, .slice (some ⟨g3, 0, none⟩) 1 1, .slice none 0 0, .int .i64 0, .int .i64 0, .int .i64 0, .int .i64 0, .int .i64 0, .int .i64 0, .int .i64 0] : List Value).toArray 29 (0, 0)) := by rw [setCells_at _ _ G0, setL_all (by rfl)]
      replace B0 := below_setCells (Nat.le_refl _) ([.slice (some ⟨g5, 0, none⟩) 3 3, .slice (some ⟨g1, 0, none⟩) 2 2, .slice (some ⟨g3, 0, none⟩) 1 1, .slice none 0 0, .int .i64 0, .int .i64 0, .int .i64 0, .int .i64 0, .int .i64 0, .int .i64 0, .int .i64 0] : List Value).toArray.toList 0 B0
      have hne3 : g3 ≠ w.heap.size := by
        rintro rfl
        rw [G0] at VE
        cases VE
      replace VE := (setCells_far (([.slice (some ⟨g5, 0, none⟩) 3 3, .slice (some ⟨g1, 0, none⟩) 2 2, .slice (some ⟨g3, 0, none⟩) 1 1, .slice none 0 0, .int .i64 0, .int .i64 0, .int .i64 0, .int .i64 0, .int .i64 0, .int .i64 0, .int .i64 0] : List Value).toArray.toList) 0 hne3).trans VE
      clear hne3 G0
      generalize V.setCells w.heap.size 0 ([.slice (some ⟨g5, 0, none⟩) 3 3, .slice (some ⟨g1, 0, none⟩) 2 2, .slice (some ⟨g3, 0, none⟩) 1 1, .slice none 0 0, .int .i64 0, .int .i64 0, .int .i64 0, .int .i64 0, .int .i64 0, .int .i64 0, .int .i64 0] : List Value).toArray.toList = V at *
      refine hK.out _ _ trivial (fun _ => ?_)
      clear hK K
      try simp only [List.getElem_toArray, List.getElem_cons_succ, List.getElem_cons_zero, Act.put, List.setIfInBounds_toArray, List.set_cons_zero, List.set_cons_succ]
      refine wpAnyH_done (by kernel_rfl) ?_ _
      go_wp2_with fail
      refine bodyPost_ret (res_mid (t := 6) Try.underlying29 rfl rfl (by simpa using szL) rfl k3) rfl ⟨B0, _, _, _, _, _, _, _, _, rfl, ⟨rfl, rfl, rfl, rfl, rfl, ⟨_, _, rfl, Nat.le_refl _, by simp [maxLen], .inr ⟨_, _, rfl, (Array.getElem?_eq_some_iff.1 VE).1, fun k n hk => ?_⟩⟩⟩, by simp [Value.oneCell']⟩
      match k, hk with
      | 0, hk => cases hk; exact ⟨_, _, cell_list VE rfl⟩
      | k + 1, hk => simp at hk
    · skip
      have h1 := hm5 V
      go_simp
      have b1 := kbelow_new V (.cells x5 121)
      replace G0 := var_later G0 b1
      replace B0 := below_step B0 b1
      try replace VE := var_later VE b1
      clear b1 h1
      generalize V.heap.size = g5 at *
      generalize V.alloc (.cells x5 121) = V at *
      refine hK.out _ _ trivial (fun _ => ?_)
      clear hK K
      try simp only [List.getElem_toArray, List.getElem_cons_succ, List.getElem_cons_zero, Act.put, List.setIfInBounds_toArray, List.set_cons_zero, List.set_cons_succ]
      refine wpAnyH_ready (rs := [1]) (by kernel_rfl) (by simp) ?_
      refine AllReadyH.cons rfl (fun K hK => ?_) AllReadyH.nil
      have h1 := hm1 V
      go_simp
      have b1 := kbelow_new V (.cells x1 123)
      replace G0 := var_later G0 b1
      replace B0 := below_step B0 b1
      try replace VE := var_later VE b1
      clear b1 h1
      generalize V.heap.size = g1 at *
      generalize V.alloc (.cells x1 123) = V at *
      refine hK.out _ _ trivial (fun _ => ?_)
      clear hK K
      try simp only [List.getElem_toArray, List.getElem_cons_succ, List.getElem_cons_zero, Act.put, List.setIfInBounds_toArray, List.set_cons_zero, List.set_cons_succ]
      refine wpAnyH_ready (rs := [6]) (by kernel_rfl) (by simp) ?_
      refine AllReadyH.cons rfl (fun K hK => ?_) AllReadyH.nil
      go_simp
      refine hK.out _ _ trivial (fun _ => ?_)
      clear hK K
      try simp only [List.getElem_toArray, List.getElem_cons_succ, List.getElem_cons_zero, Act.put, List.setIfInBounds_toArray, List.set_cons_zero, List.set_cons_succ]
      refine wpAnyH_ready (rs := [7]) (by kernel_rfl) (by simp) ?_
      refine AllReadyH.cons rfl (fun K hK => ?_) AllReadyH.nil
      refine wp_store_mid 29 (.tmp 6) (.tmp 13) (by rfl) w.heap.size 0 ([.slice (some ⟨g5, 0, none⟩) 3 3, .slice (some ⟨g1, 0, none⟩) 2 2, .slice (some ⟨g3, 0, none⟩) 1 1, .slice none 0 0, .int .i64 0, .int .i64 0, .int .i64 0, .int .i64 0, .int .i64 0, .int .i64 0, .int .i64 0] : List Value).toArray (by rfl) (by rfl) (there_of G0 0 _ (by simp)) (by simpa using szL) (all_one (by simp [Value.oneCell'])) ?_
      have k3 : (V.setCells w.heap.size 0 ([.slice (some ⟨g5, 0, none⟩) 3 3, .slice (some ⟨g1, 0, none⟩) 2 2, .slice (some ⟨g3, 0, none⟩) 1 1, .slice none 0 0, .int .i64 0, .int .i64 0, .int .i64 0, .int .i64 0, .int .i64 0, .int .i64 0, .int .i64 0] : List Value).toArray.toList).heap[w.heap.size]? = some (.cells ([.slice (some ⟨g5, 0, none⟩) 3 3, .slice (some ⟨g1, 0, none⟩) 2 2, .slice (some ⟨g3, 0, none⟩) 1 1, .slice none 0 0, .int .i64 0, .int .i64 0, .int .i64 0, .int .i64 0, .int .i64 0, .int .i64 0, .int .i64 0] : List Value).toArray 29 (0, 0)) := by rw [setCells_at _ _ G0, setL_all (by rfl)]
      replace B0 := below_setCells (Nat.le_refl _) ([.slice (some ⟨g5, 0, none⟩) 3 3, .slice (some ⟨g1, 0, none⟩) 2 2, .slice (some ⟨g3, 0, none⟩) 1 1, .slice none 0 0, .int .i64 0, .int .i64 0, .int .i64 0, .int .i64 0, .int .i64 0, .int .i64 0, .int .i64 0] : List Value).toArray.toList 0 B0
      have hne3 : g3 ≠ w.heap.size := by
        rintro rfl
        rw [G0] at VE
        cases VE
      replace VE := (setCells_far (([.slice (some ⟨g5, 0, none⟩) 3 3, .slice (some ⟨g1, 0, none⟩) 2 2, .slice (some ⟨g3, 0, none⟩) 1 1, .slice none 0 0, .int .i64 0, .int .i64 0, .int .i64 0, .int .i64 0, .int .i64 0, .int .i64 0, .int .i64 0] : List Value).toArray.toList) 0 hne3).trans VE
      clear hne3 G0
      generalize V.setCells w.heap.size 0 ([.slice (some ⟨g5, 0, none⟩) 3 3, .slice (some ⟨g1, 0, none⟩) 2 2, .slice (some ⟨g3, 0, none⟩) 1 1, .slice none 0 0, .int .i64 0, .int .i64 0, .int .i64 0, .int .i64 0, .int .i64 0, .int .i64 0, .int .i64 0] : List Value).toArray.toList = V at *
      refine hK.out _ _ trivial (fun _ => ?_)
      clear hK K
      try simp only [List.getElem_toArray, List.getElem_cons_succ, List.getElem_cons_zero, Act.put, List.setIfInBounds_toArray, List.set_cons_zero, List.set_cons_succ]
      refine wpAnyH_done (by kernel_rfl) ?_ _
      go_wp2_with fail
      refine bodyPost_ret (res_mid (t := 6) Try.underlying29 rfl rfl (by simpa using szL) rfl k3) rfl ⟨B0, _, _, _, _, _, _, _, _, rfl, ⟨rfl, rfl, rfl, rfl, rfl, ⟨_, _, rfl, Nat.le_refl _, by simp [maxLen], .inr ⟨_, _, rfl, (Array.getElem?_eq_some_iff.1 VE).1, fun k n hk => ?_⟩⟩⟩, by simp [Value.oneCell']⟩
      match k, hk with
      | 0, hk => cases hk; exact ⟨_, _, cell_list VE rfl⟩
      | k + 1, hk => simp at hk
  · skip
    have h1 := hm5 V
    go_simp
    have b1 := kbelow_new V (.cells x5 121)
    replace G0 := var_later G0 b1
    replace B0 := below_step B0 b1
    try replace VE := var_later VE b1
    clear b1 h1
    generalize V.heap.size = g5 at *
    generalize V.alloc (.cells x5 121) = V at *
    refine hK.out _ _ trivial (fun _ => ?_)
    clear hK K
    try simp only [List.getElem_toArray, List.getElem_cons_succ, List.getElem_cons_zero, Act.put, List.setIfInBounds_toArray, List.set_cons_zero, List.set_cons_succ]
    refine wpAnyH_ready (rs := [1, 3]) (by kernel_rfl) (by simp) ?_
    refine AllReadyH.cons rfl (fun K hK => ?_) (AllReadyH.cons rfl (fun K hK => ?_) AllReadyH.nil)
    · skip
      have h1 := hm1 V
      go_simp
      have b1 := kbelow_new V (.cells x1 123)
      replace G0 := var_later G0 b1
      replace B0 := below_step B0 b1
      try replace VE := var_later VE b1
      clear b1 h1
      generalize V.heap.size = g1 at *
      generalize V.alloc (.cells x1 123) = V at *
      refine hK.out _ _ trivial (fun _ => ?_)
      clear hK K
      try simp only [List.getElem_toArray, List.getElem_cons_succ, List.getElem_cons_zero, Act.put, List.setIfInBounds_toArray, List.set_cons_zero, List.set_cons_succ]
      refine wpAnyH_ready (rs := [3]) (by kernel_rfl) (by simp) ?_
      refine AllReadyH.cons rfl (fun K hK => ?_) AllReadyH.nil
      have h1 := hm3 V
      go_simp
      have b1 := kbelow_new V (.cells ([.int .i64 0, .int .i64 0, .slice none 0 0] : List Value).toArray 54)
      have VE := new_at (w := V) rfl (.cells ([.int .i64 0, .int .i64 0, .slice none 0 0] : List Value).toArray 54)
      replace G0 := var_later G0 b1
      replace B0 := below_step B0 b1
      clear b1 h1
      generalize V.heap.size = g3 at *
      generalize V.alloc (.cells ([.int .i64 0, .int .i64 0, .slice none 0 0] : List Value).toArray 54) = V at *
      refine hK.out _ _ trivial (fun _ => ?_)
      clear hK K
      try simp only [List.getElem_toArray, List.getElem_cons_succ, List.getElem_cons_zero, Act.put, List.setIfInBounds_toArray, List.set_cons_zero, List.set_cons_succ]
      refine wpAnyH_ready (rs := [6]) (by kernel_rfl) (by simp) ?_
      refine AllReadyH.cons rfl (fun K hK => ?_) AllReadyH.nil
      go_simp
      refine hK.out _ _ trivial (fun _ => ?_)
      clear hK K
      try simp only [List.getElem_toArray, List.getElem_cons_succ, List.getElem_cons_zero, Act.put, List.setIfInBounds_toArray, List.set_cons_zero, List.set_cons_succ]
      refine wpAnyH_ready (rs := [7]) (by kernel_rfl) (by simp) ?_
      refine AllReadyH.cons rfl (fun K hK => ?_) AllReadyH.nil
      refine wp_store_mid 29 (.tmp 6) (.tmp 13) (by rfl) w.heap.size 0 ([.slice (some ⟨g5, 0, none⟩) 3 3, .slice (some ⟨g1, 0, none⟩) 2 2, .slice (some ⟨g3, 0, none⟩) 1 1, .slice none 0 0, .int .i64 0, .int .i64 0, .int .i64 0, .int .i64 0, .int .i64 0, .int .i64 0, .int .i64 0] : List Value).toArray (by rfl) (by rfl) (there_of G0 0 _ (by simp)) (by simpa using szL) (all_one (by simp [Value.oneCell'])) ?_
      have k3 : (V.setCells w.heap.size 0 ([.slice (some ⟨g5, 0, none⟩) 3 3, .slice (some ⟨g1, 0, none⟩) 2 2, .slice (some ⟨g3, 0, none⟩) 1 1, .slice none 0 0, .int .i64 0, .int .i64 0, .int .i64 0, .int .i64 0, .int .i64 0, .int .i64 0, .int .i64 0] : List Value).toArray.toList).heap[w.heap.size]? = some (.cells ([.slice (some ⟨g5, 0, none⟩) 3 3, .slice (some ⟨g1, 0, none⟩) 2 2, .slice (some ⟨g3, 0, none⟩) 1 1, .slice none 0 0, .int .i64 0, .int .i64 0, .int .i64 0, .int .i64 0, .int .i64 0, .int .i64 0, .int .i64 0] : List Value).toArray 29 (0, 0)) := by rw [setCells_at _ _ G0, setL_all (by rfl)]
      replace B0 := below_setCells (Nat.le_refl _) ([.slice (some ⟨g5, 0, none⟩) 3 3, .slice (some ⟨g1, 0, none⟩) 2 2, .slice (some ⟨g3, 0, none⟩) 1 1, .slice none 0 0, .int .i64 0, .int .i64 0, .int .i64 0, .int .i64 0, .int .i64 0, .int .i64 0, .int .i64 0] : List Value).toArray.toList 0 B0
      have hne3 : g3 ≠ w.heap.size := by
        rintro rfl
        rw [G0] at VE
        cases VE
      replace VE := (setCells_far (([.slice (some ⟨g5, 0, none⟩) 3 3, .slice (some ⟨g1, 0, none⟩) 2 2, .slice (some ⟨g3, 0, none⟩) 1 1, .slice none 0 0, .int .i64 0, .int .i64 0, .int .i64 0, .int .i64 0, .int .i64 0, .int .i64 0, .int .i64 0] : List Value).toArray.toList) 0 hne3).trans VE
      clear hne3 G0
      generalize V.setCells w.heap.size 0 ([.slice (some ⟨g5, 0, none⟩) 3 3, .slice (some ⟨g1, 0, none⟩) 2 2, .slice (some ⟨g3, 0, none⟩) 1 1, .slice none 0 0, .int .i64 0, .int .i64 0, .int .i64 0, .int .i64 0, .int .i64 0, .int .i64 0, .int .i64 0] : List Value).toArray.toList = V at *
      refine hK.out _ _ trivial (fun _ => ?_)
      clear hK K
      try simp only [List.getElem_toArray, List.getElem_cons_succ, List.getElem_cons_zero, Act.put, List.setIfInBounds_toArray, List.set_cons_zero, List.set_cons_succ]
      refine wpAnyH_done (by kernel_rfl) ?_ _
      go_wp2_with fail
      refine bodyPost_ret (res_mid (t := 6) Try.underlying29 rfl rfl (by simpa using szL) rfl k3) rfl ⟨B0, _, _, _, _, _, _, _, _, rfl, ⟨rfl, rfl, rfl, rfl, rfl, ⟨_, _, rfl, Nat.le_refl _, by simp [maxLen], .inr ⟨_, _, rfl, (Array.getElem?_eq_some_iff.1 VE).1, fun k n hk => ?_⟩⟩⟩, by simp [Value.oneCell']⟩
      match k, hk with
      | 0, hk => cases hk; exact ⟨_, _, cell_list VE rfl⟩
      | k + 1, hk => simp at hk
    · skip
      have h1 := hm3 V
      go_simp
      have b1 := kbelow_new V (.cells ([.int .i64 0, .int .i64 0, .slice none 0 0] : List Value).toArray 54)
      have VE := new_at (w := V) rfl (.cells ([.int .i64 0, .int .i64 0, .slice none 0 0] : List Value).toArray 54)
      replace G0 := var_later G0 b1
      replace B0 := below_step B0 b1
      clear b1 h1
      generalize V.heap.size = g3 at *
      generalize V.alloc (.cells ([.int .i64 0, .int .i64 0, .slice none 0 0] : List Value).toArray 54) = V at *
      refine hK.out _ _ trivial (fun _ => ?_)
      clear hK K
      try simp only [List.getElem_toArray, List.getElem_cons_succ, List.getElem_cons_zero, Act.put, List.setIfInBounds_toArray, List.set_cons_zero, List.set_cons_succ]
      refine wpAnyH_ready (rs := [1]) (by kernel_rfl) (by simp) ?_
      refine AllReadyH.cons rfl (fun K hK => ?_) AllReadyH.nil
      have h1 := hm1 V
      go_simp
      have b1 := kbelow_new V (.cells x1 123)
      replace G0 := var_later G0 b1
      replace B0 := below_step B0 b1
      try replace VE := var_later VE b1
      clear b1 h1
      generalize V.heap.size = g1 at *
      generalize V.alloc (.cells x1 123) = V at *
      refine hK.out _ _ trivial (fun _ => ?_)
      clear hK K
      try simp only [List.getElem_toArray, List.getElem_cons_succ, List.getElem_cons_zero, Act.put, List.setIfInBounds_toArray, List.set_cons_zero, List.set_cons_succ]
      refine wpAnyH_ready (rs := [6]) (by kernel_rfl) (by simp) ?_
      refine AllReadyH.cons rfl (fun K hK => ?_) AllReadyH.nil
      go_simp
      refine hK.out _ _ trivial (fun _ => ?_)
      clear hK K
      try simp only [List.getElem_toArray, List.getElem_cons_succ, List.getElem_cons_zero, Act.put, List.setIfInBounds_toArray, List.set_cons_zero, List.set_cons_succ]
      refine wpAnyH_ready (rs := [7]) (by kernel_rfl) (by simp) ?_
      refine AllReadyH.cons rfl (fun K hK => ?_) AllReadyH.nil
      refine wp_store_mid 29 (.tmp 6) (.tmp 13) (by rfl) w.heap.size 0 ([.slice (some ⟨g5, 0, none⟩) 3 3, .slice (some ⟨g1, 0, none⟩) 2 2, .slice (some ⟨g3, 0, none⟩) 1 1, .slice none 0 0, .int .i64 0, .int .i64 0, .int .i64 0, .int .i64 0, .int .i64 0, .int .i64 0, .int .i64 0] : List Value).toArray (by rfl) (by rfl) (there_of G0 0 _ (by simp)) (by simpa using szL) (all_one (by simp [Value.oneCell'])) ?_
      have k3 : (V.setCells w.heap.size 0 ([.slice (some ⟨g5, 0, none⟩) 3 3, .slice (some ⟨g1, 0, none⟩) 2 2, .slice (some ⟨g3, 0, none⟩) 1 1, .slice none 0 0, .int .i64 0, .int .i64 0, .int .i64 0, .int .i64 0, .int .i64 0, .int .i64 0, .int .i64 0] : List Value).toArray.toList).heap[w.heap.size]? = some (.cells ([.slice (some ⟨g5, 0, none⟩) 3 3, .slice (some ⟨g1, 0, none⟩) 2 2, .slice (some ⟨g3, 0, none⟩) 1 1, .slice none 0 0, .int .i64 0, .int .i64 0, .int .i64 0, .int .i64 0, .int .i64 0, .int .i64 0, .int .i64 0] : List Value).toArray 29 (0, 0)) := by rw [setCells_at _ _ G0, setL_all (by rfl)]
      replace B0 := below_setCells (Nat.le_refl _) ([.slice (some ⟨g5, 0, none⟩) 3 3, .slice (some ⟨g1, 0, none⟩) 2 2, .slice (some ⟨g3, 0, none⟩) 1 1, .slice none 0 0, .int .i64 0, .int .i64 0, .int .i64 0, .int .i64 0, .int .i64 0, .int .i64 0, .int .i64 0] : List Value).toArray.toList 0 B0
      have hne3 : g3 ≠ w.heap.size := by
        rintro rfl
        rw [G0] at VE
        cases VE
      replace VE := (setCells_far (([.slice (some ⟨g5, 0, none⟩) 3 3, .slice (some ⟨g1, 0, none⟩) 2 2, .slice (some ⟨g3, 0, none⟩) 1 1, .slice none 0 0, .int .i64 0, .int .i64 0, .int .i64 0, .int .i64 0, .int .i64 0, .int .i64 0, .int .i64 0] : List Value).toArray.toList) 0 hne3).trans VE
      clear hne3 G0
      generalize V.setCells w.heap.size 0 ([.slice (some ⟨g5, 0, none⟩) 3 3, .slice (some ⟨g1, 0, none⟩) 2 2, .slice (some ⟨g3, 0, none⟩) 1 1, .slice none 0 0, .int .i64 0, .int .i64 0, .int .i64 0, .int .i64 0, .int .i64 0, .int .i64 0, .int .i64 0] : List Value).toArray.toList = V at *
      refine hK.out _ _ trivial (fun _ => ?_)
      clear hK K
      try simp only [List.getElem_toArray, List.getElem_cons_succ, List.getElem_cons_zero, Act.put, List.setIfInBounds_toArray, List.set_cons_zero, List.set_cons_succ]
      refine wpAnyH_done (by kernel_rfl) ?_ _
      go_wp2_with fail
      refine bodyPost_ret (res_mid (t := 6) Try.underlying29 rfl rfl (by simpa using szL) rfl k3) rfl ⟨B0, _, _, _, _, _, _, _, _, rfl, ⟨rfl, rfl, rfl, rfl, rfl, ⟨_, _, rfl, Nat.le_refl _, by simp [maxLen], .inr ⟨_, _, rfl, (Array.getElem?_eq_some_iff.1 VE).1, fun k n hk => ?_⟩⟩⟩, by simp [Value.oneCell']⟩
      match k, hk with
      | 0, hk => cases hk; exact ⟨_, _, cell_list VE rfl⟩
      | k + 1, hk => simp at hk
end Go.Proofs.Ytioggdiicgfoaaa
