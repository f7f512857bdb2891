/- Queues of numbers: contracts of slices.Delete and of Take. Nothing that was there is turned. -/
import Derived.Test.YtdniapakoolbjaaQueB
import Derived.Deep.RegionLaw
import Derived.Lib.SliceRun
namespace Go.Proofs.Ytdniapakoolbjaa
open Go.RowKit Rf Mem
attribute [local go_sem ↓] run_max2 run_min2
/-- cells of a row, set one by one -/
def setL (cs : Array Value) : Nat → List Value → Array Value
  | _, [] => cs
  | o, v :: r => setL (cs.setIfInBounds o v) (o + 1) r
theorem setL_size : ∀ (vs : List Value) (cs : Array Value) (o : Nat), (setL cs o vs).size = cs.size
  | [], _, _ => rfl
  | v :: r, cs, o => by rw [setL, setL_size r]; simp
theorem setL_list : ∀ (vs : List Value) (cs : Array Value) (o : Nat), o + vs.length ≤ cs.size → (setL cs o vs).toList = cs.toList.take o ++ vs ++ cs.toList.drop (o + vs.length)
  | [], cs, o, _ => by simp [setL]
  | v :: r, cs, o, h => by
    simp only [List.length_cons] at h
    rw [setL, setL_list r _ _ (by simp; omega), Array.toList_setIfInBounds]
    have h1 : (cs.toList.set o v).take (o + 1) = cs.toList.take o ++ [v] := by
      rw [List.take_add_one, List.take_set_of_le (Nat.le_refl _), List.getElem?_set_self (by simp; omega)]; rfl
    rw [h1, List.drop_set_of_lt (by omega)]
    simp [Nat.add_assoc, Nat.add_comm 1]
theorem setCells_at {g : Nat} {t : TypeId} {f : Nat × Nat} : ∀ (vs : List Value) (o : Nat) {w : World} {cs : Array Value}, w.heap[g]? = some (.cells cs t f) → (w.setCells g o vs).heap[g]? = some (.cells (setL cs o vs) t f)
  | [], _, _, _, h => h
  | v :: r, o, w, cs, h => by rw [World.setCells, setL]; exact setCells_at r (o + 1) (set_at h o v)
theorem below_setCells {B g : Nat} {a : World} (hB : B ≤ g) : ∀ (vs : List Value) (o : Nat) {w : World}, Below B a w → Below B a (w.setCells g o vs)
  | [], _, _, h => h
  | v :: r, o, w, h => by rw [World.setCells]; exact below_setCells hB r (o + 1) (h.setCell hB v)
set_option maxHeartbeats 1000000 in
set_option maxRecDepth 100000 in
theorem Delete_c (v : Value) (zs : List Int) (i j base : Nat) (w : World) (ho : w.ownsRow base 3 1 v zs.length (nums zs)) (hij : i < j) (hj : j ≤ zs.length) :
    Calls Try.prog 16 #[v, .int .i64 i, .int .i64 j] w fun e w' => Below base w w' ∧ ∃ v', e = .returned v' ∧ w'.ownsRow base 3 1 v' (i + (zs.length - j)) (nums (zs.take i ++ zs.drop j)) := by
  obtain ⟨i0, hi, hz0, hz1, hz2⟩ := info_parts info_int
  obtain ⟨hlen, hcase⟩ := ho
  rcases hcase with ⟨_, h0⟩ | ⟨g, cap, cur, rfl, hb, hg, h1, h2, h3, h4⟩
  · omega
  obtain ⟨n, hn⟩ : ∃ n, zs.length = n := ⟨_, rfl⟩
  rw [Nat.mul_one] at h3 h4
  have hcur : ∀ k, k < n → cur[k]? = some (.int .i64 (zs[k]?.getD 0)) := by
    intro k hk
    have e : (cur.toList.take zs.length)[k]? = (nums zs)[k]? := by rw [h4]
    rw [List.getElem?_take, if_pos (by omega), Array.getElem?_toList, nums_get (by omega)] at e
    rw [e, List.getElem?_eq_getElem (by omega)]; rfl
  obtain ⟨news, hnews⟩ : ∃ news, news = nums (zs.drop j) := ⟨_, rfl⟩
  have hnl : news.length = n - j := by rw [hnews]; simp [hn]
  obtain ⟨A, hA, hsrc⟩ : ∃ A : Addr, (if cap = j then some (⟨g, 0, none⟩ : Addr) else some ⟨g, j, none⟩) = some A ∧ Hid (∀ t u, news[t]? = some u → w.drew.cell? (A.add t) = some u) := by
    have hget : ∀ t u, news[t]? = some u → w.cell? ⟨g, j + t, none⟩ = some u := by
      intro t u hu
      have ht : t < n - j := by rw [← hnl]; exact (List.getElem?_eq_some_iff.1 hu).1
      rw [cell_at hg, hcur (j + t) (by omega)]
      rw [hnews] at hu
      simp only [ints, List.getElem?_map, List.getElem?_drop] at hu
      rw [List.getElem?_eq_getElem (by omega)] at hu ⊢
      exact hu
    by_cases h : cap = j
    · refine ⟨⟨g, 0, none⟩, by simp [h], Lib.hid fun t u hu => ?_⟩
      have h0 : news.length = 0 := by omega
      rw [List.length_eq_zero_iff.1 h0] at hu
      simp at hu
    · refine ⟨⟨g, j, none⟩, by simp [h], Lib.hid fun t u hu => ?_⟩
      have := hget t u hu
      rw [show (⟨g, j, none⟩ : Addr).add t = ⟨g, j + t, none⟩ by unfold Addr.add; split <;> simp_all]
      exact this
  have s1 : Hid (news.length = (n - j) * 1) := Lib.hid (by rw [Nat.mul_one]; exact hnl)
  have s2 : Hid (∀ u ∈ news, u.oneCell' = true) := Lib.hid (by rw [hnews]; exact nums_one _)
  have s3 : Hid (∀ t, t < news.length → (w.drew.cell? ⟨g, 0 + i * 1 + t, none⟩).isSome = true ∧ w.drew.frozen? ⟨g, 0 + i * 1 + t, none⟩ = false) := by
    refine Lib.hid fun t ht => ?_
    have e : w.drew.heap[g]? = some (.cells cur 3 (0, 0)) := hg
    rw [cell_at e, hcur _ (by omega)]
    exact ⟨rfl, free_at e _⟩
  obtain ⟨W1, hW1⟩ : ∃ W1, W1 = w.drew.setCells g (0 + i * 1) news := ⟨_, rfl⟩
  have hg1 : W1.heap[g]? = some (.cells (setL cur i news) 3 (0, 0)) := by rw [hW1, Nat.zero_add, Nat.mul_one]; exact setCells_at _ _ hg
  have hsz1 : (setL cur i news).size = cap := by rw [setL_size]; exact h3
  have hcl : ∀ ty, (Builtin.clear_ #[24] ty #[.slice (some ⟨g, i + (n - j), none⟩) (n - (i + (n - j))) (cap - (i + (n - j)))]).run Try.prog W1 = .ok (.tuple #[]) (W1.setCells g (i + (n - j)) (List.replicate (n - (i + (n - j))) (.int .i64 0))) :=
    fun ty => Lib.run_clear_slice W1 _ _ ty _ Try.underlying24 (by intro w; simp [go_sem, hi, hz0]) rfl rfl g (i + (n - j)) _ _ (by omega) (fun t ht => by rw [cell_at hg1, Array.getElem?_eq_getElem (by omega)]; rfl) (fun t ht => free_at hg1 _)
  have hW : Hid (W1 = w.drew.setCells g (0 + i * 1) news) := Lib.hid hW1
  have hic : i ≤ cap := by omega
  have hjc : j ≤ cap := by omega
  have HN := Lib.hid hn
  have HL := Lib.hid hlen
  have H4 := Lib.hid h4
  have HG := Lib.hid hg1
  have HNW := Lib.hid hnews
  have HNL := Lib.hid hnl
  have HZ := Lib.hid hsz1
  have HB := Lib.hid hb
  have H3 := Lib.hid h3
  rw [hn] at h1 hj ⊢
  clear hW1 hg1 hcur hnews hnl hlen h4 hg hn hsz1 hb h3
  go_enter Try.func16, Try.ntmps16
  go_wp2_with fail
  refine wp_region_held_drew (S := (fun _ => True)) (by kernel_rfl) ?_ (fun hHeld => ?_)
  · trivial
  refine wpAnyH_take (i := 0) (v := ?_) rfl (by kernel_rfl) (by kernel_rfl) (by kernel_rfl) (fun _ _ _ h => h) (Or.inl ⟨by rfl, ?_⟩) (by assumption) ?_
  rotate_left
  · intro w hSw
    try dsimp only at hSw
    go_simp
    try with_reducible rfl
  simp only [List.getElem_toArray, List.getElem_cons_succ, List.getElem_cons_zero, Act.put, List.setIfInBounds_toArray, List.set_cons_zero, List.set_cons_succ]
  refine wpAnyH_take (i := 1) (v := ?_) rfl (by kernel_rfl) (by kernel_rfl) (by kernel_rfl) (fun _ _ _ h => h) (Or.inl ⟨by rfl, ?_⟩) (by assumption) ?_
  rotate_left
  · intro w hSw
    try dsimp only at hSw
    go_simp
    try with_reducible rfl
  simp only [List.getElem_toArray, List.getElem_cons_succ, List.getElem_cons_zero, Act.put, List.setIfInBounds_toArray, List.set_cons_zero, List.set_cons_succ]
  refine wpAnyH_take (i := 2) (v := ?_) rfl (by kernel_rfl) (by kernel_rfl) (by kernel_rfl) (fun _ _ _ h => h) (Or.inl ⟨by rfl, ?_⟩) (by assumption) ?_
  rotate_left
  · intro w hSw
    try dsimp only at hSw
    go_simp
    try with_reducible rfl
  simp only [List.getElem_toArray, List.getElem_cons_succ, List.getElem_cons_zero, Act.put, List.setIfInBounds_toArray, List.set_cons_zero, List.set_cons_succ]
  refine wpAnyH_take (i := 3) (v := ?_) rfl (by kernel_rfl) (by kernel_rfl) (by kernel_rfl) (fun _ _ _ h => h) (Or.inl ⟨by rfl, ?_⟩) (by assumption) ?_
  rotate_left
  · intro w hSw
    try dsimp only at hSw
    go_simp
    try with_reducible rfl
  simp only [List.getElem_toArray, List.getElem_cons_succ, List.getElem_cons_zero, Act.put, List.setIfInBounds_toArray, List.set_cons_zero, List.set_cons_succ]
  refine wpAnyH_take (i := 4) (v := ?_) rfl (by kernel_rfl) (by kernel_rfl) (by kernel_rfl) (fun _ _ _ h => h) (Or.inl ⟨by rfl, ?_⟩) (by assumption) ?_
  rotate_left
  · intro w hSw
    try dsimp only at hSw
    go_simp
    try with_reducible rfl
  simp only [List.getElem_toArray, List.getElem_cons_succ, List.getElem_cons_zero, Act.put, List.setIfInBounds_toArray, List.set_cons_zero, List.set_cons_succ]
  refine wpAnyH_take (i := 5) (v := ?_) rfl (by kernel_rfl) (by kernel_rfl) (by kernel_rfl) (fun _ _ _ h => h) (Or.inl ⟨by rfl, ?_⟩) (by assumption) ?_
  rotate_left
  · intro w hSw
    try dsimp only at hSw
    go_simp
    try with_reducible rfl
  simp only [List.getElem_toArray, List.getElem_cons_succ, List.getElem_cons_zero, Act.put, List.setIfInBounds_toArray, List.set_cons_zero, List.set_cons_succ]
  refine wpAnyH_ready (rs := [6]) (by kernel_rfl) (by simp) ?_
  refine AllReadyH.cons rfl (fun K hK => ?_) AllReadyH.nil
  refine step_append_room rfl (.tmp 22) (.tmp 25) 24 rfl 3 i0 1 Try.underlying24 hi hz1 g 0 i cap (by simp [Act.eval, Act.put]) A (n - j) (cap - j) news (by simp [Act.eval, Act.put, hA]) s1.out hsrc.out s2.out (by omega) s3.out ?_
  rw [← hW.out]
  refine hK.out _ _ trivial (fun _ => ?_)
  clear hK K
  simp only [List.getElem_toArray, List.getElem_cons_succ, List.getElem_cons_zero, Act.put, List.setIfInBounds_toArray, List.set_cons_zero, List.set_cons_succ]
  refine wpAnyH_take (i := 7) (v := ?_) rfl (by kernel_rfl) (by kernel_rfl) (by kernel_rfl) (fun _ _ _ h => h) (Or.inl ⟨by rfl, ?_⟩) (by assumption) ?_
  rotate_left
  · intro w hSw
    try dsimp only at hSw
    go_simp
    try with_reducible rfl
  simp only [List.getElem_toArray, List.getElem_cons_succ, List.getElem_cons_zero, Act.put, List.setIfInBounds_toArray, List.set_cons_zero, List.set_cons_succ]
  refine wpAnyH_done (by kernel_rfl) ?_ _
  go_wp2
  go_ret
  have hn := HN.out
  have hg1 := HG.out
  have h4 := H4.out
  have hb := HB.out
  have h3 := H3.out
  have hn1 := HNW.out
  have hn2 := HNL.out
  have hz := HZ.out
  refine ⟨below_setCells hb _ _ (hW.out ▸ below_setCells hb _ _ (Below.refl _ w).drew), _, rfl, ?_, .inr ⟨g, cap, _, rfl, hb, setCells_at _ _ hg1, by omega, h2, by rw [setL_size, hz, Nat.mul_one], ?_⟩⟩
  · simp [ints]; omega
  · rw [Nat.mul_one, setL_list _ _ _ (by simp; omega), List.append_assoc, List.take_append_of_le_length (by simp; omega), List.take_take, Nat.min_self, setL_list _ _ _ (by omega), List.append_assoc]
    have e1 : cur.toList.take i = nums (zs.take i) := by
      have : (cur.toList.take zs.length).take i = (nums zs).take i := by rw [h4]
      rw [List.take_take, Nat.min_eq_left (by omega)] at this
      rw [this]; simp [ints]
    rw [e1, ← List.append_assoc, List.take_append_of_le_length (by simp [ints]; omega), List.take_of_length_le (by simp [ints]; omega), hn1]
    simp [ints]
theorem Delete_g (v : Value) (zs : List Int) (i j base : Nat) (i' j' : Int) (w : World) (hi : i' = i) (hj' : j' = j) (ho : w.ownsRow base 3 1 v zs.length (nums zs)) (hij : i < j) (hj : j ≤ zs.length) :
    Calls Try.prog 16 #[v, .int .i64 i', .int .i64 j'] w fun e w' => Below base w w' ∧ ∃ A c ys, e = .returned (.slice A (ys : List Int).length c) ∧ ys = zs.take i ++ zs.drop j ∧ w'.ownsRow base 3 1 (.slice A ys.length c) ys.length (nums ys) := by
  subst hi hj'
  refine (Delete_c v zs i j base w ho hij hj).mono ?_
  rintro e w' ⟨b, v', rfl, ho'⟩
  have hl : i + (zs.length - j) = (zs.take i ++ zs.drop j).length := by simp; omega
  rw [hl] at ho'
  obtain ⟨A, c, rfl, _⟩ := (sliceAt_of_own ho').form
  exact ⟨b, A, c, _, rfl, rfl, ho'⟩
theorem Take_no (v : Value) (zs : List Int) (at_ : Int) (w : World) (hs : SliceAt w 1 v zs.length (nums zs)) (hl : zs.length ≤ 1000) (ha : at_ < 0 ∨ (zs.length : Int) ≤ at_) :
    Calls Try.prog 9 #[v, .int .i64 at_] w fun e w' => Below w.heap.size w w' ∧ ∃ A c, e = .returned (.tuple #[.slice A zs.length c, .int .i64 0, .bool false]) ∧ w'.ownsRow w.heap.size 3 1 (.slice A zs.length c) zs.length (nums zs) := by
  have hq : (decide (at_ < 0) = true) ∨ (decide (at_ < 0) = false ∧ decide ((zs.length : Int) ≤ at_) = true) := by
    by_cases h : at_ < 0
    · exact .inl (decide_eq_true h)
    · exact .inr ⟨decide_eq_false h, decide_eq_true (by omega)⟩
  obtain ⟨A', c', rfl, _⟩ := hs.form
  clear ha
  rcases hq with q1 | ⟨q1, q2⟩
  all_goals
    go_enter Try.func9, Try.ntmps9
    go_wp2_with fail
    refine (Clone_c _ zs _ hs (by omega)).mono ?_
    rintro e w1 ⟨v1, rfl, ho1, b1⟩
    obtain ⟨A1, c1, rfl, _⟩ := (sliceAt_of_own ho1).form
    go_wp2
    go_ret3
    exact ⟨b1, A1, c1, rfl, ho1⟩
set_option maxHeartbeats 1000000 in
theorem Take_yes (v : Value) (zs : List Int) (k : Nat) (at_ y : Int) (w : World) (hat : at_ = k) (hy : zs[k]? = some y) (hs : SliceAt w 1 v zs.length (nums zs)) (hl : zs.length ≤ 1000) :
    Calls Try.prog 9 #[v, .int .i64 at_] w fun e w' => Below w.heap.size w w' ∧ ∃ A c ys, e = .returned (.tuple #[.slice A (ys : List Int).length c, .int .i64 y, .bool true]) ∧ ys = zs.take k ++ zs.drop (k + 1) ∧ w'.ownsRow w.heap.size 3 1 (.slice A ys.length c) ys.length (nums ys) := by
  subst hat
  have hk : k < zs.length := (List.getElem?_eq_some_iff.1 hy).1
  have q1 : decide ((k : Int) < 0) = false := decide_eq_false (by omega)
  have q2 : decide ((zs.length : Int) ≤ (k : Int)) = false := decide_eq_false (by omega)
  have i1 : (k : Int) < (zs.length : Int) := by omega
  have hwr : IntKind.i64.wrap ((k : Int) + 1) = (k : Int) + 1 := IntWalk.i64_in _ (by omega)
  have HY := Lib.hid hy
  have hs' := hs
  obtain ⟨b, o, c, rfl, _, _, hb, hc⟩ := hs'.pos (by omega)
  have c0 := hc k (.int .i64 y) (by simp [ints, hy])
  clear hs' hc hy
  go_enter Try.func9, Try.ntmps9
  go_wp2_with fail
  refine (Clone_c _ zs _ hs (by omega)).mono ?_
  rintro e w1 ⟨v1, rfl, ho1, b1⟩
  obtain ⟨A1, c1, rfl, _⟩ := (sliceAt_of_own ho1).form
  have c1' := (b1.cell (p := ⟨b, o + k, none⟩) hb).trans c0
  clear c0
  go_wp2_with fail
  refine wp_region_held_drew (S := (fun w' => w'.cell? ⟨b, o + k, none⟩ = some (.int .i64 y))) (by kernel_rfl) ?_ (fun hHeld => ?_)
  · exact c1'
  refine wpAnyH_take (i := 0) (v := ?_) rfl (by kernel_rfl) (by kernel_rfl) (by kernel_rfl) (fun _ _ _ h => h) (Or.inl ⟨by rfl, ?_⟩) (by assumption) ?_
  rotate_left
  · intro w hSw
    try dsimp only at hSw
    go_simp
    try with_reducible rfl
  simp only [List.getElem_toArray, List.getElem_cons_succ, List.getElem_cons_zero, Act.put, List.setIfInBounds_toArray, List.set_cons_zero, List.set_cons_succ]
  refine wpAnyH_take (i := 1) (v := ?_) rfl (by kernel_rfl) (by kernel_rfl) (by kernel_rfl) (fun _ _ _ h => h) (Or.inl ⟨by rfl, ?_⟩) (by assumption) ?_
  rotate_left
  · intro w hSw
    try dsimp only at hSw
    go_simp
    try with_reducible rfl
  simp only [List.getElem_toArray, List.getElem_cons_succ, List.getElem_cons_zero, Act.put, List.setIfInBounds_toArray, List.set_cons_zero, List.set_cons_succ]
  refine wpAnyH_take (i := 2) (v := ?_) rfl (by kernel_rfl) (by kernel_rfl) (by kernel_rfl) (fun _ _ _ h => h) (Or.inl ⟨by rfl, ?_⟩) (by assumption) ?_
  rotate_left
  · intro w hSw
    try dsimp only at hSw
    go_simp
    try with_reducible rfl
  simp only [List.getElem_toArray, List.getElem_cons_succ, List.getElem_cons_zero, Act.put, List.setIfInBounds_toArray, List.set_cons_zero, List.set_cons_succ]
  refine wpAnyH_take (i := 3) (v := ?_) rfl (by kernel_rfl) (by kernel_rfl) (by kernel_rfl) (fun _ _ _ h => h) (Or.inl ⟨by rfl, ?_⟩) (by assumption) ?_
  rotate_left
  · intro w hSw
    try dsimp only at hSw
    go_simp
    try with_reducible rfl
  simp only [List.getElem_toArray, List.getElem_cons_succ, List.getElem_cons_zero, Act.put, List.setIfInBounds_toArray, List.set_cons_zero, List.set_cons_succ]
  refine wpAnyH_take (i := 5) (v := ?_) rfl (by kernel_rfl) (by kernel_rfl) (by kernel_rfl) (fun _ _ _ h => h) (Or.inl ⟨by rfl, ?_⟩) (by assumption) ?_
  rotate_left
  · intro w hSw
    try dsimp only at hSw
    go_simp
    try with_reducible rfl
  simp only [List.getElem_toArray, List.getElem_cons_succ, List.getElem_cons_zero, Act.put, List.setIfInBounds_toArray, List.set_cons_zero, List.set_cons_succ]
  refine wpAnyH_take (i := 6) (v := ?_) rfl (by kernel_rfl) (by kernel_rfl) (by kernel_rfl) (fun _ _ _ h => h) (Or.inl ⟨by rfl, ?_⟩) (by assumption) ?_
  rotate_left
  · intro w hSw
    try dsimp only at hSw
    go_simp
    try with_reducible rfl
  simp only [List.getElem_toArray, List.getElem_cons_succ, List.getElem_cons_zero, Act.put, List.setIfInBounds_toArray, List.set_cons_zero, List.set_cons_succ]
  refine wpAnyH_take (i := 7) (v := ?_) rfl (by kernel_rfl) (by kernel_rfl) (by kernel_rfl) (fun _ _ _ h => h) (Or.inl ⟨by rfl, ?_⟩) (by assumption) ?_
  rotate_left
  · intro w hSw
    try dsimp only at hSw
    go_simp
    try with_reducible rfl
  simp only [List.getElem_toArray, List.getElem_cons_succ, List.getElem_cons_zero, Act.put, List.setIfInBounds_toArray, List.set_cons_zero, List.set_cons_succ]
  refine wpAnyH_take (i := 8) (v := ?_) rfl (by kernel_rfl) (by kernel_rfl) (by kernel_rfl) (fun _ _ _ h => h) (Or.inl ⟨by rfl, ?_⟩) (by assumption) ?_
  rotate_left
  · intro w hSw
    try dsimp only at hSw
    go_simp
    try with_reducible rfl
  simp only [List.getElem_toArray, List.getElem_cons_succ, List.getElem_cons_zero, Act.put, List.setIfInBounds_toArray, List.set_cons_zero, List.set_cons_succ]
  refine wpAnyH_ready (rs := [4]) (by kernel_rfl) (by simp) ?_
  refine AllReadyH.cons rfl (fun K hK => ?_) AllReadyH.nil
  go_simp
  refine (Delete_g _ zs k (k + 1) w.heap.size _ _ _ rfl (by simp) (own_drew ho1 1) (by omega) (by omega)).mono ?_
  rintro e W2 ⟨b2, A2, c2, ys, rfl, hys, ho2⟩
  refine hK.out _ _ ?_ (fun hHeld => ?_)
  · exact (b2.cell (p := ⟨b, o + k, none⟩) hb).trans c1'
  clear hK K
  have HYS := Lib.hid hys
  clear hys
  refine wpAnyH_take (i := 9) (v := ?_) rfl (by kernel_rfl) (by kernel_rfl) (by kernel_rfl) (fun _ _ _ h => h) (Or.inl ⟨by rfl, ?_⟩) (by assumption) ?_
  rotate_left
  · intro w hSw
    try dsimp only at hSw
    go_simp
    try with_reducible rfl
  simp only [List.getElem_toArray, List.getElem_cons_succ, List.getElem_cons_zero, Act.put, List.setIfInBounds_toArray, List.set_cons_zero, List.set_cons_succ]
  refine wpAnyH_take (i := 10) (v := ?_) rfl (by kernel_rfl) (by kernel_rfl) (by kernel_rfl) (fun _ _ _ h => h) (Or.inl ⟨by rfl, ?_⟩) (by assumption) ?_
  rotate_left
  · intro w hSw
    try dsimp only at hSw
    go_simp
    try with_reducible rfl
  simp only [List.getElem_toArray, List.getElem_cons_succ, List.getElem_cons_zero, Act.put, List.setIfInBounds_toArray, List.set_cons_zero, List.set_cons_succ]
  refine wpAnyH_take (i := 11) (v := ?_) rfl (by kernel_rfl) (by kernel_rfl) (by kernel_rfl) (fun _ _ _ h => h) (Or.inl ⟨by rfl, ?_⟩) (by assumption) ?_
  rotate_left
  · intro w hSw
    try dsimp only at hSw
    go_simp
    try with_reducible rfl
  simp only [List.getElem_toArray, List.getElem_cons_succ, List.getElem_cons_zero, Act.put, List.setIfInBounds_toArray, List.set_cons_zero, List.set_cons_succ]
  refine wpAnyH_done (by kernel_rfl) ?_ _
  go_wp2
  go_ret3
  exact ⟨b1.drew.trans b2, A2, c2, ys, rfl, HYS.out, ho2⟩
end Go.Proofs.Ytdniapakoolbjaa
