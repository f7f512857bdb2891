/- Keys: the document's Rows. Nothing that was there is turned. -/
import Derived.Test.YtioggdiicgfoaaaKeyM
import Derived.BigQuiet
namespace Go.Proofs.Ytioggdiicgfoaaa
open Go.RowKit Rf Mem KM Bits Bv
attribute [local go_sem ↓] run_max2 run_min2
theorem prs_at {l : List Pr} {k : Nat} {p : Pr} (h : l[k]? = some p) : (prs l)[k * 3 + 0]? = some (.int .u8 p.1) ∧ (prs l)[k * 3 + 1]? = some (.int .i64 p.2.1) ∧ (prs l)[k * 3 + 2]? = some (.int .i64 p.2.2) := by
  refine ⟨?_, ?_, ?_⟩
  · rw [prs, flatMap_get (sz := 3) (fun a _ => rfl) k 0 (by omega), h]; rfl
  · rw [prs, flatMap_get (sz := 3) (fun a _ => rfl) k 1 (by omega), h]; rfl
  · rw [prs, flatMap_get (sz := 3) (fun a _ => rfl) k 2 (by omega), h]; rfl
def prNe (p q : Pr) : Bool := !(p.1 == q.1 && (p.2.1 == q.2.1 && p.2.2 == q.2.2))
theorem prNe_iff (p q : Pr) : prNe p q = !decide (p = q) := by
  obtain ⟨a, b, c⟩ := p
  obtain ⟨a', b', c'⟩ := q
  unfold prNe
  congr 1
  rw [Bool.eq_iff_iff]
  simp
/-- where a press of a slice lies -/
structure PrAt (W : World) (v : Value) (p : List Pr) : Prop where
  sl : SliceAt W 3 v p.length (prs p)
theorem pr_cells {W : World} {v : Value} {p : List Pr} (h : SliceAt W 3 v p.length (prs p)) {k : Nat} {a : Pr} (ha : p[k]? = some a) : ∃ b off c, v = .slice (some ⟨b, off, none⟩) p.length c ∧ W.cell? ⟨b, off + k * 3, none⟩ = some (.int .u8 a.1) ∧ W.cell? ⟨b, off + k * 3 + 1, none⟩ = some (.int .i64 a.2.1) ∧ W.cell? ⟨b, off + k * 3 + 2, none⟩ = some (.int .i64 a.2.2) := by
  have hk : k < p.length := (List.getElem?_eq_some_iff.1 ha).1
  obtain ⟨b, off, c, rfl, _, _, _, hc⟩ := h.pos (by omega)
  obtain ⟨h0, h1, h2⟩ := prs_at ha
  exact ⟨b, off, c, rfl, hc _ _ h0, by rw [Nat.add_assoc]; exact hc _ _ h1, by rw [Nat.add_assoc]; exact hc _ _ h2⟩
set_option maxHeartbeats 1000000 in
set_option maxRecDepth 100000 in
theorem Rows_c (u v : Value) (p q : List Pr) (r : Bool) (w : World) (hr : r = decide (p = q)) (hp : SliceAt w 3 u p.length (prs p)) (hq : SliceAt w 3 v q.length (prs q)) :
    Calls Try.prog 16 #[u, v] w fun e w' => e = .returned (.bool r) ∧ Below w.heap.size w w' := by
  obtain ⟨A, c, rfl, hpc, hcm⟩ := hp.form
  obtain ⟨A', c', rfl, hqc, hcm'⟩ := hq.form
  clear hqc hcm'
  have HCM : Hid (p.length ≤ 9223372036854775807) := Lib.hid (Nat.le_trans hpc hcm)
  clear hpc hcm
  have HR := Lib.hid hr
  have HP := Lib.hid hp
  have HQ := Lib.hid hq
  clear hr hp hq
  obtain ⟨n, hn⟩ : ∃ n, n = p.length := ⟨_, rfl⟩
  obtain ⟨m, hm⟩ : ∃ m, m = q.length := ⟨_, rfl⟩
  rw [← hn, ← hm]
  have HN := Lib.hid hn
  have HM := Lib.hid hm
  clear hn hm
  by_cases hnm : n = m
  · subst hnm
    go_enter Try.func16, Try.ntmps16
    go_wp2
    go_loopw [5] (fun i wr => ∃ k : Nat, k ≤ n ∧ i = .int .i64 k ∧ Below w.heap.size w wr ∧ Hid (p.take k = q.take k)) (fun i _ => n - (intOf i).toNat)
    case atStart => exact ⟨0, Nat.zero_le _, rfl, Below.refl _ _, Lib.hid rfl⟩
    case round =>
      obtain ⟨k, hk, rfl, hb, HK⟩ := hrel
      by_cases hlt : k < n
      · have i1 : (k : Int) < (n : Int) := by omega
        have hw1 : wrap64 ((k : Int) + 1) = (k : Int) + 1 := by have := HN.out; have := HCM.out; unfold wrap64; omega
        obtain ⟨a, ha⟩ : ∃ a, p[k]? = some a := ⟨_, List.getElem?_eq_getElem (by have := HN.out; omega)⟩
        obtain ⟨a', ha'⟩ : ∃ a', q[k]? = some a' := ⟨_, List.getElem?_eq_getElem (by have := HM.out; omega)⟩
        obtain ⟨b, off, cc, hu, x0, x1, x2⟩ := pr_cells (HP.out.later hb) ha
        obtain ⟨b', off', cc', hv, y0, y1, y2⟩ := pr_cells (HQ.out.later hb) ha'
        obtain ⟨rfl, _, _⟩ := Value.slice.inj hu
        obtain ⟨rfl, _, _⟩ := Value.slice.inj hv
        have HA := Lib.hid ha
        have HA' := Lib.hid ha'
        have hpn := prNe_iff a a'
        obtain ⟨a0, a1, a2⟩ := a
        obtain ⟨b0, b1, b2⟩ := a'
        simp only at x0 x1 x2 y0 y1 y2
        clear hu hv ha ha'
        go_upto_region 6 with (fail)
        refine wp_region_held_drew (S := (fun w' => (w'.cell? ⟨b, off + k * 3, none⟩ = some (Value.int .u8 a0) ∧ w'.cell? ⟨b, off + k * 3 + 1, none⟩ = some (Value.int .i64 a1) ∧ w'.cell? ⟨b, off + k * 3 + 2, none⟩ = some (Value.int .i64 a2)) ∧ w'.cell? ⟨b', off' + k * 3, none⟩ = some (Value.int .u8 b0) ∧ w'.cell? ⟨b', off' + k * 3 + 1, none⟩ = some (Value.int .i64 b1) ∧ w'.cell? ⟨b', off' + k * 3 + 2, none⟩ = some (Value.int .i64 b2))) (by kernel_rfl) ?_ (fun hHeld => ?_)
        · exact ⟨⟨x0, x1, x2⟩, y0, y1, y2⟩
        have hb2 := hb.drew
        clear x0 x1 x2 y0 y1 y2
        generalize wr.drew = V at *
        refine wpAnyH_take (i := 0) (v := ?_) rfl (by kernel_rfl) (by kernel_rfl) (by kernel_rfl) (fun _ _ _ h => h) (Or.inl ⟨by rfl, ?_⟩) (by assumption) ?_
        rotate_left
        · intro w hSw
          try dsimp only at hSw
          go_simp
          try with_reducible rfl
        simp only [List.getElem_toArray, List.getElem_cons_succ, List.getElem_cons_zero, Act.put, List.setIfInBounds_toArray, List.set_cons_zero, List.set_cons_succ]
        refine wpAnyH_take (i := 1) (v := ?_) rfl (by kernel_rfl) (by kernel_rfl) (by kernel_rfl) (fun _ _ _ h => h) (Or.inl ⟨by rfl, ?_⟩) (by assumption) ?_
        rotate_left
        · intro w hSw
          try dsimp only at hSw
          go_simp
          try with_reducible rfl
        simp only [List.getElem_toArray, List.getElem_cons_succ, List.getElem_cons_zero, Act.put, List.setIfInBounds_toArray, List.set_cons_zero, List.set_cons_succ]
        refine wpAnyH_take (i := 2) (v := ?_) rfl (by kernel_rfl) (by kernel_rfl) (by kernel_rfl) (fun _ _ _ h => h) (Or.inl ⟨by rfl, ?_⟩) (by assumption) ?_
        rotate_left
        · intro w hSw
          try dsimp only at hSw
          go_simp
          try with_reducible rfl
        simp only [List.getElem_toArray, List.getElem_cons_succ, List.getElem_cons_zero, Act.put, List.setIfInBounds_toArray, List.set_cons_zero, List.set_cons_succ]
        refine wpAnyH_take (i := 3) (v := ?_) rfl (by kernel_rfl) (by kernel_rfl) (by kernel_rfl) (fun _ _ _ h => h) (Or.inl ⟨by rfl, ?_⟩) (by assumption) ?_
        rotate_left
        · intro w hSw
          try dsimp only at hSw
          go_simp
          try with_reducible rfl
        simp only [List.getElem_toArray, List.getElem_cons_succ, List.getElem_cons_zero, Act.put, List.setIfInBounds_toArray, List.set_cons_zero, List.set_cons_succ]
        refine wpAnyH_take (i := 4) (v := ?_) rfl (by kernel_rfl) (by kernel_rfl) (by kernel_rfl) (fun _ _ _ h => h) (Or.inl ⟨by rfl, ?_⟩) (by assumption) ?_
        rotate_left
        · intro w hSw
          try dsimp only at hSw
          go_simp
          try with_reducible rfl
        simp only [List.getElem_toArray, List.getElem_cons_succ, List.getElem_cons_zero, Act.put, List.setIfInBounds_toArray, List.set_cons_zero, List.set_cons_succ]
        refine wpAnyH_take (i := 5) (v := ?_) rfl (by kernel_rfl) (by kernel_rfl) (by kernel_rfl) (fun _ _ _ h => h) (Or.inl ⟨by rfl, ?_⟩) (by assumption) ?_
        rotate_left
        · intro w hSw
          try dsimp only at hSw
          go_simp
          try with_reducible rfl
        simp only [List.getElem_toArray, List.getElem_cons_succ, List.getElem_cons_zero, Act.put, List.setIfInBounds_toArray, List.set_cons_zero, List.set_cons_succ]
        refine wpAnyH_take (i := 6) (v := ?_) rfl (by kernel_rfl) (by kernel_rfl) (by kernel_rfl) (fun _ _ _ h => h) (Or.inl ⟨by rfl, ?_⟩) (by assumption) ?_
        rotate_left
        · intro w hSw
          try dsimp only at hSw
          go_simp
          try with_reducible rfl
        simp only [List.getElem_toArray, List.getElem_cons_succ, List.getElem_cons_zero, Act.put, List.setIfInBounds_toArray, List.set_cons_zero, List.set_cons_succ]
        refine wpAnyH_take (i := 7) (v := ?_) rfl (by kernel_rfl) (by kernel_rfl) (by kernel_rfl) (fun _ _ _ h => h) (Or.inl ⟨by rfl, ?_⟩) (by assumption) ?_
        rotate_left
        · intro w hSw
          try dsimp only at hSw
          go_simp
          try with_reducible rfl
        simp only [List.getElem_toArray, List.getElem_cons_succ, List.getElem_cons_zero, Act.put, List.setIfInBounds_toArray, List.set_cons_zero, List.set_cons_succ]
        refine wpAnyH_take (i := 8) (v := .bool (prNe (a0, a1, a2) (b0, b1, b2))) rfl (by kernel_rfl) (by kernel_rfl) (by kernel_rfl) (fun _ _ _ h => h) (Or.inl ⟨by rfl, ?_⟩) (by assumption) ?_
        · intro w hSw
          try dsimp only at hSw
          go_simp
          by_cases h0 : a0 = b0 <;> by_cases h1 : a1 = b1 <;> by_cases h2 : a2 = b2 <;> simp [prNe, h0, h1, h2]
        simp only [List.getElem_toArray, List.getElem_cons_succ, List.getElem_cons_zero, Act.put, List.setIfInBounds_toArray, List.set_cons_zero, List.set_cons_succ]
        refine wpAnyH_done (by kernel_rfl) ?_ _
        rw [hpn]
        clear hHeld hpn
        by_cases heq : (a0, a1, a2) = (b0, b1, b2)
        · rw [decide_eq_true heq]
          have HE := Lib.hid heq
          clear heq
          go_wp2
          go_roundw
          case rel => exact ⟨k + 1, by omega, by go_num, hb2, Lib.hid (by rw [List.take_add_one, List.take_add_one, HK.out, HA.out, HA'.out, HE.out])⟩
          case measure => rw [hw1]; simp only [intOf]; omega
        · rw [decide_eq_false heq]
          have HE := Lib.hid heq
          clear heq
          go_wp2
          go_ret
          have hrf : r = false := by
            rw [HR.out]
            refine decide_eq_false fun h => HE.out ?_
            have h1 := HA.out
            rw [h, HA'.out] at h1
            exact (Option.some.inj h1).symm
          exact ⟨by rw [hrf]; rfl, hb2⟩
      · obtain rfl : k = n := by omega
        have hrt : true = r := by
          rw [HR.out]
          have h1 := HK.out
          rw [List.take_of_length_le (by have := HN.out; omega), List.take_of_length_le (by have := HM.out; omega)] at h1
          exact (decide_eq_true h1).symm
        have HRT := Lib.hid hrt
        clear hrt
        go_wp2
        go_ret
        exact ⟨by rw [← HRT.out]; rfl, hb⟩
  · have hne : ((n : Int) != (m : Int)) = true := by simp; omega
    have hrf : r = false := by
      rw [HR.out]
      refine decide_eq_false fun h => hnm ?_
      rw [HN.out, HM.out, h]
    have HRF := Lib.hid hrf
    clear hnm hrf
    go_enter Try.func16, Try.ntmps16
    go_wp2
    go_ret
    exact ⟨by rw [HRF.out]; rfl, Below.refl _ _⟩
end Go.Proofs.Ytioggdiicgfoaaa
