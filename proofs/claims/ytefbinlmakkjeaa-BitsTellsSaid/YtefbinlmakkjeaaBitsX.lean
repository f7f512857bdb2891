/- Contracts of the document's bits: Flags. -/
import Derived.Test.YtefbinlmakkjeaaBitsV
namespace Go.Proofs.Ytefbinlmakkjeaa
open Go.RowKit Rf Mem Bv Bits Str
attribute [local go_sem ↓] run_max2 run_min2
theorem RV.drew {s : Nat} {w W : World} {v : Value} {B : List (BitVec 8)} {l : List Bool} (h : RV s w W v B l) : RV s w W.drew v B l :=
  ⟨h.x, h.r, own_later h.own (fun _ _ => rfl), h.h, h.b.drew, h.sz, h.le⟩
set_option maxHeartbeats 1000000 in
set_option maxRecDepth 100000 in
theorem refFlags_g (v : Value) (B : List (BitVec 8)) (l : List Bool) (u : Value) (fl : List Bool) (N N' : Int) (w : World) (hN : N = l.length) (hN' : N' = ((l.length + fl.length : Nat) : Int)) (hs : SliceAt w 1 v B.length (u8s B)) (hu : SliceAt w 1 u fl.length (bools fl)) (hH : Holds B l) (hl : l.length ≤ 900000) (hfl : fl.length ≤ 1000) :
    Calls Try.prog 8 #[bv v N, u] w fun e w' => Below w.heap.size w w' ∧
      ∃ A c B', e = .returned (.tuple #[bv (.slice A (B' : List (BitVec 8)).length c) N', .int .i64 0]) ∧ SliceAt w' 1 (.slice A B'.length c) B'.length (u8s B') ∧ Holds B' (l ++ fl) := by
  subst hN hN'
  have hr : true = right B (l.length : Int) := right_yes hH rfl
  have hBl := hH.1
  have HH := Lib.hid hH
  have hBs : B.length ≤ 125000 := by omega
  clear hBl hH
  have hB : Below w.heap.size w ((w.alloc (.cells #[v, .int .i64 (l.length : Int)] 24)).alloc (.cells #[.slice none 0 0, .int .i64 0] 24)) := ((Below.refl _ w).alloc (Nat.le_refl _) _).alloc (by simp) _
  have hs' := hs.later hB
  obtain ⟨A, c, rfl, _⟩ := hs.form
  obtain ⟨UA, uc, rfl, _, _⟩ := hu.form
  have n1 : -9223372036854775808 ≤ (l.length : Int) := by omega
  have n2 : (l.length : Int) ≤ 9223372036854775807 := by omega
  have hfi : (fl.length : Int) ≤ 1000 := by omega
  clear hs
  go_enter Try.func8, Try.ntmps8
  go_wp2_with fail
  refine (refRight_g _ B _ _ _ hr hs' n1 n2).mono ?_
  rintro e w0 ⟨rfl, b0⟩
  have g1 := below_at b0 (k := w.heap.size) (o := .cells #[.slice A B.length c, .int .i64 (l.length : Int)] 24) (old_at (new_at rfl _) _) (by simp; omega)
  have c10 := cell_at g1 0
  have c11 := cell_at g1 1
  clear hr
  go_wp2_with fail
  refine (refOwn_c _ B _ _ (hs'.later b0) (by omega)).mono ?_
  rintro e w1 ⟨b1, A1, c1, rfl, ho1⟩
  obtain ⟨hx, R0⟩ := RV.start (A := A1) (c := c1) undef undef (below_step b0 b1) (own_base_le ho1 b0.size) HH.out
  have d0 := cell_at hx 0
  have d1 := cell_at hx 1
  have e0 := free_at hx 0
  have e1 := free_at hx 1
  clear g1 c10 c11 hs' b1 b0 ho1 hB
  go_wp2_with fail
  clear hx d0 d1 e0 e1
  generalize (w1.setCell ⟨w.heap.size, 0, none⟩ (.slice A1 B.length c1)).setCell ⟨w.heap.size, 1, none⟩ (.int .i64 (l.length : Int)) = W0 at *
  go_loopw [6] (fun i wr => ∃ (k : Nat) (v' : Value) (B' : List (BitVec 8)), k ≤ fl.length ∧ i = .int .i64 k ∧ RV w.heap.size w wr v' B' (l ++ fl.take k)) (fun i _ => fl.length - (intOf i).toNat)
  case atStart => exact ⟨0, _, B, by omega, rfl, by rw [List.take_zero, List.append_nil]; exact R0⟩
  case round =>
    obtain ⟨k, v', B', hk, rfl, R⟩ := hrel
    obtain ⟨m, hm⟩ : ∃ m, l ++ fl.take k = m := ⟨_, rfl⟩
    have hml : m.length = l.length + k := by rw [← hm]; simp; omega
    rw [hm] at R
    have hm5 : m.length ≤ 1000000 := by omega
    have i4 : (m.length : Int) ≤ 1000000 := by omega
    have d0 := cell_at R.x 0
    have d1 := cell_at R.x 1
    have e0 := free_at R.x 0
    have e1 := free_at R.x 1
    have r0 := cell_at R.r 0
    have r1 := cell_at R.r 1
    have er0 := free_at R.r 0
    have er1 := free_at R.r 1
    by_cases hlt : k < fl.length
    · obtain ⟨ba, oa, ca, hva, _, _, hba, hca⟩ := hu.pos (by omega)
      obtain ⟨rfl, _, rfl⟩ := Value.slice.inj hva
      have hfk : fl[k]? = some fl[k] := List.getElem?_eq_getElem hlt
      have cx := (R.b.cell (p := ⟨ba, oa + k, none⟩) hba).trans (hca k (.bool fl[k]) (by simp [hfk]))
      have hT : m ++ [fl[k]] = l ++ fl.take (k + 1) := by rw [← hm, List.take_add_one, hfk, List.append_assoc]; rfl
      have HT := Lib.hid hT
      have hki : (k : Int) < (fl.length : Int) := by omega
      clear hva hca hT hfk hm hml
      generalize fl[k] = b at *
      go_wp2_with fail
      refine wp_region_held_drew (S := (fun _ => True)) (by kernel_rfl) ?_ (fun hHeld => ?_)
      · trivial
      refine wpAnyH_take (i := 1) (v := ?_) rfl (by kernel_rfl) (by kernel_rfl) (by kernel_rfl) (fun _ _ _ h => h) (Or.inl ⟨by rfl, ?_⟩) (by assumption) ?_
      rotate_left
      · intro w hSw
        try dsimp only at hSw
        go_simp
        try with_reducible rfl
      simp only [List.getElem_toArray, List.getElem_cons_succ, List.getElem_cons_zero, Act.put, List.setIfInBounds_toArray, List.set_cons_zero, List.set_cons_succ]
      refine wpAnyH_take (i := 2) (v := ?_) rfl (by kernel_rfl) (by kernel_rfl) (by kernel_rfl) (fun _ _ _ h => h) (Or.inl ⟨by rfl, ?_⟩) (by assumption) ?_
      rotate_left
      · intro w hSw
        try dsimp only at hSw
        go_simp
        try with_reducible rfl
      simp only [List.getElem_toArray, List.getElem_cons_succ, List.getElem_cons_zero, Act.put, List.setIfInBounds_toArray, List.set_cons_zero, List.set_cons_succ]
      refine wpAnyH_take (i := 3) (v := ?_) rfl (by kernel_rfl) (by kernel_rfl) (by kernel_rfl) (fun _ _ _ h => h) (Or.inl ⟨by rfl, ?_⟩) (by assumption) ?_
      rotate_left
      · intro w hSw
        try dsimp only at hSw
        go_simp
        try with_reducible rfl
      simp only [List.getElem_toArray, List.getElem_cons_succ, List.getElem_cons_zero, Act.put, List.setIfInBounds_toArray, List.set_cons_zero, List.set_cons_succ]
      have RD := R.drew
      have cxd : wr.drew.cell? ⟨ba, oa + k, none⟩ = some (.bool b) := cx
      clear d0 d1 e0 e1 r0 r1 er0 er1 cx R
      generalize wr.drew = W2 at *
      have d0 := cell_at RD.x 0
      have d1 := cell_at RD.x 1
      refine wpAnyH_ready (rs := [0, 4]) (by kernel_rfl) (by simp) ?_
      refine AllReadyH.cons rfl ?_ (AllReadyH.cons rfl ?_ AllReadyH.nil)
      · intro K hK
        go_simp
        refine hK.out _ _ trivial (fun _ => ?_)
        clear hK K
        try simp only [List.getElem_toArray, List.getElem_cons_succ, List.getElem_cons_zero, Act.put, List.setIfInBounds_toArray, List.set_cons_zero, List.set_cons_succ]
        refine wpAnyH_ready (rs := [4]) (by kernel_rfl) (by simp) ?_
        refine AllReadyH.cons rfl (fun K hK => ?_) AllReadyH.nil
        go_simp
        refine hK.out _ _ trivial (fun _ => ?_)
        clear hK K
        try simp only [List.getElem_toArray, List.getElem_cons_succ, List.getElem_cons_zero, Act.put, List.setIfInBounds_toArray, List.set_cons_zero, List.set_cons_succ]
        refine wpAnyH_ready (rs := [5]) (by kernel_rfl) (by simp) ?_
        refine AllReadyH.cons rfl (fun K hK => ?_) AllReadyH.nil
        go_simp
        refine (with_c (w.heap.size + 2) v' B' m b W2 RD.own RD.h hm5 (by have := RD.sz; omega)).mono ?_
        rintro e W3 hW
        obtain ⟨A2, c2, B2, rfl, hx2, R2⟩ := RD.step hW
        refine hK.out _ _ trivial (fun _ => ?_)
        clear hK K
        try simp only [List.getElem_toArray, List.getElem_cons_succ, List.getElem_cons_zero, Act.put, List.setIfInBounds_toArray, List.set_cons_zero, List.set_cons_succ]
        have d0 := cell_at hx2 0
        have d1 := cell_at hx2 1
        have e0 := free_at hx2 0
        have e1 := free_at hx2 1
        refine wpAnyH_ready (rs := [6]) (by kernel_rfl) (by simp) ?_
        refine AllReadyH.cons rfl (fun K hK => ?_) AllReadyH.nil
        go_simp
        refine hK.out _ _ trivial (fun _ => ?_)
        clear hK K
        refine wpAnyH_done (by kernel_rfl) ?_ _
        go_wp2
        go_roundw
        case rel => exact ⟨k + 1, _, B2, by omega, by go_num, by rw [← HT.out]; exact R2⟩
        case measure => simp [intOf]; omega
      · intro K hK
        go_simp
        refine hK.out _ _ trivial (fun _ => ?_)
        clear hK K
        try simp only [List.getElem_toArray, List.getElem_cons_succ, List.getElem_cons_zero, Act.put, List.setIfInBounds_toArray, List.set_cons_zero, List.set_cons_succ]
        refine wpAnyH_ready (rs := [0]) (by kernel_rfl) (by simp) ?_
        refine AllReadyH.cons rfl (fun K hK => ?_) AllReadyH.nil
        go_simp
        refine hK.out _ _ trivial (fun _ => ?_)
        clear hK K
        try simp only [List.getElem_toArray, List.getElem_cons_succ, List.getElem_cons_zero, Act.put, List.setIfInBounds_toArray, List.set_cons_zero, List.set_cons_succ]
        refine wpAnyH_ready (rs := [5]) (by kernel_rfl) (by simp) ?_
        refine AllReadyH.cons rfl (fun K hK => ?_) AllReadyH.nil
        go_simp
        refine (with_c (w.heap.size + 2) v' B' m b W2 RD.own RD.h hm5 (by have := RD.sz; omega)).mono ?_
        rintro e W3 hW
        obtain ⟨A2, c2, B2, rfl, hx2, R2⟩ := RD.step hW
        refine hK.out _ _ trivial (fun _ => ?_)
        clear hK K
        try simp only [List.getElem_toArray, List.getElem_cons_succ, List.getElem_cons_zero, Act.put, List.setIfInBounds_toArray, List.set_cons_zero, List.set_cons_succ]
        have d0 := cell_at hx2 0
        have d1 := cell_at hx2 1
        have e0 := free_at hx2 0
        have e1 := free_at hx2 1
        refine wpAnyH_ready (rs := [6]) (by kernel_rfl) (by simp) ?_
        refine AllReadyH.cons rfl (fun K hK => ?_) AllReadyH.nil
        go_simp
        refine hK.out _ _ trivial (fun _ => ?_)
        clear hK K
        refine wpAnyH_done (by kernel_rfl) ?_ _
        go_wp2
        go_roundw
        case rel => exact ⟨k + 1, _, B2, by omega, by go_num, by rw [← HT.out]; exact R2⟩
        case measure => simp [intOf]; omega
    · have e : k = fl.length := by omega
      rw [e, List.take_of_length_le (Nat.le_refl _)] at hm
      have hfin : (m.length : Int) = ((l.length + fl.length : Nat) : Int) := by omega
      have HF := Lib.hid hfin
      have HM := Lib.hid hm
      have e' : (k : Int) = (fl.length : Int) := by omega
      clear hm hml e hfin hlt
      obtain ⟨A3, c3, rfl, hb3, hs3⟩ := R.done (.int .i64 (m.length : Int))
      go_wp2
      refine bodyPost_ret (res_bits2 (t := 4) (u := 5) rfl rfl (set_at (set_at R.r 0 _) 1 _)) rfl ?_
      exact ⟨hb3, A3, c3, B', by rw [← HF.out]; rfl, hs3, by rw [HM.out]; exact R.h⟩
end Go.Proofs.Ytefbinlmakkjeaa
