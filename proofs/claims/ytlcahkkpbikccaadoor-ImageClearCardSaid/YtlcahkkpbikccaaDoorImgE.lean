/- Images: the contract of At. Nothing that was there is turned. -/
import Derived.Test.YtlcahkkpbikccaaDoorImgD
namespace Go.Proofs.YtlcahkkpbikccaaDoor
open Go.RowKit Rf Mem
attribute [local go_sem ↓] run_max2 run_min2
/-- a slice of sections reads; their kinds -/
def SecsAt (W : World) (v : Value) (kinds : List Int) : Prop :=
  ∃ A c, v = .slice A kinds.length c ∧ kinds.length ≤ c ∧ c ≤ maxLen ∧ (kinds.length = 0 ∨ ∃ b off, A = some ⟨b, off, none⟩ ∧ b < W.heap.size ∧ ∀ (k : Nat) (z : Int), kinds[k]? = some z → W.cell? ⟨b, off + k * 11, none⟩ = some (.int .u8 z))
theorem SecsAt.later {W W' : World} {v : Value} {kinds : List Int} (h : SecsAt W v kinds) (hb : Below W.heap.size W W') : SecsAt W' v kinds := by
  obtain ⟨A, c, rfl, h1, h2, h3⟩ := h
  refine ⟨A, c, rfl, h1, h2, h3.imp id ?_⟩
  rintro ⟨b, off, rfl, hlt, hc⟩
  exact ⟨b, off, rfl, Nat.lt_of_lt_of_le hlt hb.size, fun k z hk => (hb.cell (p := ⟨b, off + k * 11, none⟩) hlt).trans (hc k z hk)⟩
/-- where a point stands -/
def atV (kinds : List Int) (nor rev : BitVec 32) (stale : Bool) (p : Int) : Int :=
  if decide (p < 0) || (decide ((kinds.length : Int) ≤ p) || ((kinds.getD p.toNat 0 != 2) || stale)) then -1
  else if bitV nor p && !bitV rev p then 0 else if bitV rev p && !bitV nor p then 1 else -1
set_option maxHeartbeats 4000000 in
set_option maxRecDepth 100000 in
theorem At_c (L M : List Value) (kinds : List Int) (nsig : Nat) (clr st age n : Int) (A A1 : Option Addr) (c c1 : Nat) (free : List Int) (occ nor rev lam : BitVec 32) (w : World) (hL : LayF L kinds.length nsig clr st A c A1 c1) (hM : ImgF M age free occ nor rev lam) (hS : SecsAt w (.slice A kinds.length c) kinds) :
    Calls Tryd.prog 15 #[.agg L.toArray, .agg M.toArray, .int .i64 n] w fun e w' => e = .returned (.int .i64 (atV kinds nor rev (decide (st < age)) n)) ∧ Below w.heap.size w w' := by
  have T := Two.new w L M
  have x0 := T.cl hL.sec
  have szL := lay_size hL.len
  have szM := img_size hM.len
  unfold atV
  by_cases h1 : n < 0
  · have q1 : decide (n < 0) = true := decide_eq_true h1
    rw [q1, Bool.true_or, if_pos rfl]
    go_enter Tryd.func15, Tryd.ntmps15
    go_wp2
    go_ret
    exact ⟨rfl, T.below⟩
  have q1 : decide (n < 0) = false := decide_eq_false h1
  rw [q1, Bool.false_or]
  by_cases h2 : (kinds.length : Int) ≤ n
  · have q2 : decide ((kinds.length : Int) ≤ n) = true := decide_eq_true h2
    rw [q2, Bool.true_or, if_pos rfl]
    go_enter Tryd.func15, Tryd.ntmps15
    go_wp2
    go_ret
    exact ⟨rfl, T.below⟩
  have q2 : decide ((kinds.length : Int) ≤ n) = false := decide_eq_false h2
  rw [q2, Bool.false_or]
  obtain ⟨k, rfl⟩ := Int.eq_ofNat_of_zero_le (by omega : 0 ≤ n)
  have hkl : k < kinds.length := by omega
  obtain ⟨z, hz⟩ : ∃ z, kinds[k]? = some z := ⟨_, List.getElem?_eq_getElem hkl⟩
  have hgd : kinds.getD (k : Int).toNat 0 = z := by simp [List.getD, hz]
  rw [hgd]
  obtain ⟨A', c', hv, _, _, hcase⟩ := hS
  obtain ⟨rfl, _, rfl⟩ := Value.slice.inj hv
  obtain ⟨bs, os, rfl, hbs, hcs⟩ := hcase.resolve_left (by omega)
  have y0 := (T.below.cell (p := ⟨bs, os + k * 11, none⟩) hbs).trans (hcs k z hz)
  have i1 : (k : Int) < (kinds.length : Int) := by omega
  have q3 : decide (kinds.length ≤ k) = false := decide_eq_false (by omega)
  obtain ⟨s, hs⟩ : ∃ s, decide (st < age) = s := ⟨_, rfl⟩
  obtain ⟨p, hp⟩ : ∃ p, bitV nor k = p := ⟨_, rfl⟩
  obtain ⟨q, hq⟩ : ∃ q, bitV rev k = q := ⟨_, rfl⟩
  rw [hs, hp, hq]
  have HST := Lib.hid hs.symm
  have HP := Lib.hid hp.symm
  have HQ := Lib.hid hq.symm
  clear hv hcase hcs hgd hz h1 h2 hs hp hq hkl
  rcases hk2 : (z != 2) with _ | _
  · rw [Bool.false_or]
    obtain ⟨r, hr⟩ : ∃ r : Int, (if s then -1 else if p && !q then 0 else if q && !p then 1 else -1) = r := ⟨_, rfl⟩
    rw [hr]
    have HR := Lib.hid hr
    clear hr
    have RL := T.rl
    have RM := T.rm
    go_enter Tryd.func15, Tryd.ntmps15
    go_wp2_with (first
      | refine wpList_load_g (by rfl) 29 (.tmp 3) (by rfl) w.heap.size 0 (by rfl) L _ RL Tryd.underlying29 rfl szL ?_
      | refine wpList_load_g (by rfl) 39 (.tmp 4) (by rfl) (w.heap.size + 1) 0 (by rfl) M _ RM Tryd.underlying39 rfl szM ?_)
    generalize (w.alloc (.cells L.toArray 29)).alloc (.cells M.toArray 39) = W0 at *
    refine (Stale_g L M age st s _ HST.out hL.st hM.age).mono ?_
    rintro e W1 ⟨rfl, b1⟩
    replace T := T.later b1
    clear x0 y0 RL RM b1
    cases s
    · have TD := T.drew
      have hno := hM.nor
      have hre := hM.rev
      go_wp2_with fail
      refine wp_region_held_drew (S := (fun w' => w'.cell? ⟨w.heap.size + 1, 26, none⟩ = some (.int .u32 nor.toNat) ∧ w'.cell? ⟨w.heap.size + 1, 27, none⟩ = some (.int .u32 rev.toNat))) (by kernel_rfl) ?_ (fun hHeld => ?_)
      · exact ⟨TD.cm hno, TD.cm hre⟩
      refine wpAnyH_take (i := 0) (v := ?_) rfl (by kernel_rfl) (by kernel_rfl) (by kernel_rfl) (fun _ _ _ h => h) (Or.inl ⟨by rfl, ?_⟩) (by assumption) ?_
      rotate_left
      · intro w hSw
        try dsimp only at hSw
        go_simp
        try with_reducible rfl
      simp only [List.getElem_toArray, List.getElem_cons_succ, List.getElem_cons_zero, Act.put, List.setIfInBounds_toArray, List.set_cons_zero, List.set_cons_succ]
      refine wpAnyH_take (i := 1) (v := ?_) rfl (by kernel_rfl) (by kernel_rfl) (by kernel_rfl) (fun _ _ _ h => h) (Or.inl ⟨by rfl, ?_⟩) (by assumption) ?_
      rotate_left
      · intro w hSw
        try dsimp only at hSw
        go_simp
        try with_reducible rfl
      simp only [List.getElem_toArray, List.getElem_cons_succ, List.getElem_cons_zero, Act.put, List.setIfInBounds_toArray, List.set_cons_zero, List.set_cons_succ]
      refine wpAnyH_take (i := 2) (v := ?_) rfl (by kernel_rfl) (by kernel_rfl) (by kernel_rfl) (fun _ _ _ h => h) (Or.inl ⟨by rfl, ?_⟩) (by assumption) ?_
      rotate_left
      · intro w hSw
        try dsimp only at hSw
        go_simp
        try with_reducible rfl
      simp only [List.getElem_toArray, List.getElem_cons_succ, List.getElem_cons_zero, Act.put, List.setIfInBounds_toArray, List.set_cons_zero, List.set_cons_succ]
      refine wpAnyH_take (i := 4) (v := ?_) rfl (by kernel_rfl) (by kernel_rfl) (by kernel_rfl) (fun _ _ _ h => h) (Or.inl ⟨by rfl, ?_⟩) (by assumption) ?_
      rotate_left
      · intro w hSw
        try dsimp only at hSw
        go_simp
        try with_reducible rfl
      simp only [List.getElem_toArray, List.getElem_cons_succ, List.getElem_cons_zero, Act.put, List.setIfInBounds_toArray, List.set_cons_zero, List.set_cons_succ]
      refine wpAnyH_take (i := 6) (v := ?_) rfl (by kernel_rfl) (by kernel_rfl) (by kernel_rfl) (fun _ _ _ h => h) (Or.inl ⟨by rfl, ?_⟩) (by assumption) ?_
      rotate_left
      · intro w hSw
        try dsimp only at hSw
        go_simp
        try with_reducible rfl
      simp only [List.getElem_toArray, List.getElem_cons_succ, List.getElem_cons_zero, Act.put, List.setIfInBounds_toArray, List.set_cons_zero, List.set_cons_succ]
      refine wpAnyH_take (i := 7) (v := ?_) rfl (by kernel_rfl) (by kernel_rfl) (by kernel_rfl) (fun _ _ _ h => h) (Or.inl ⟨by rfl, ?_⟩) (by assumption) ?_
      rotate_left
      · intro w hSw
        try dsimp only at hSw
        go_simp
        try with_reducible rfl
      simp only [List.getElem_toArray, List.getElem_cons_succ, List.getElem_cons_zero, Act.put, List.setIfInBounds_toArray, List.set_cons_zero, List.set_cons_succ]
      refine wpAnyH_take (i := 8) (v := ?_) rfl (by kernel_rfl) (by kernel_rfl) (by kernel_rfl) (fun _ _ _ h => h) (Or.inl ⟨by rfl, ?_⟩) (by assumption) ?_
      rotate_left
      · intro w hSw
        try dsimp only at hSw
        go_simp
        try with_reducible rfl
      simp only [List.getElem_toArray, List.getElem_cons_succ, List.getElem_cons_zero, Act.put, List.setIfInBounds_toArray, List.set_cons_zero, List.set_cons_succ]
      refine wpAnyH_take (i := 10) (v := ?_) rfl (by kernel_rfl) (by kernel_rfl) (by kernel_rfl) (fun _ _ _ h => h) (Or.inl ⟨by rfl, ?_⟩) (by assumption) ?_
      rotate_left
      · intro w hSw
        try dsimp only at hSw
        go_simp
        try with_reducible rfl
      simp only [List.getElem_toArray, List.getElem_cons_succ, List.getElem_cons_zero, Act.put, List.setIfInBounds_toArray, List.set_cons_zero, List.set_cons_succ]
      refine wpAnyH_ready (rs := [3]) (by kernel_rfl) (by simp) ?_
      refine AllReadyH.cons rfl (fun K hK => ?_) AllReadyH.nil
      go_simp
      refine (bit_g nor _).mono ?_
      rintro e W2 ⟨b2, g2, rfl, hg2⟩
      refine hK.out _ _ ?_ (fun hHeld => ?_)
      · exact ⟨(TD.later b2).cm hno, (TD.later b2).cm hre⟩
      clear hK K
      replace TD := TD.later b2
      clear b2
      try simp only [List.getElem_toArray, List.getElem_cons_succ, List.getElem_cons_zero, Act.put, List.setIfInBounds_toArray, List.set_cons_zero, List.set_cons_succ]
      refine wpAnyH_ready (rs := [5]) (by kernel_rfl) (by simp) ?_
      refine AllReadyH.cons rfl (fun K hK => ?_) AllReadyH.nil
      go_simp
      refine (bit1_g g2 nor k p _ HP.out hg2).mono ?_
      rintro e W3 ⟨rfl, b3⟩
      refine hK.out _ _ ?_ (fun hHeld => ?_)
      · exact ⟨(TD.later b3).cm hno, (TD.later b3).cm hre⟩
      clear hK K
      replace TD := TD.later b3
      clear b3 hg2
      try simp only [List.getElem_toArray, List.getElem_cons_succ, List.getElem_cons_zero, Act.put, List.setIfInBounds_toArray, List.set_cons_zero, List.set_cons_succ]
      refine wpAnyH_ready (rs := [9]) (by kernel_rfl) (by simp) ?_
      refine AllReadyH.cons rfl (fun K hK => ?_) AllReadyH.nil
      go_simp
      refine (bit_g rev _).mono ?_
      rintro e W4 ⟨b4, g4, rfl, hg4⟩
      refine hK.out _ _ ?_ (fun hHeld => ?_)
      · exact ⟨(TD.later b4).cm hno, (TD.later b4).cm hre⟩
      clear hK K
      replace TD := TD.later b4
      clear b4
      try simp only [List.getElem_toArray, List.getElem_cons_succ, List.getElem_cons_zero, Act.put, List.setIfInBounds_toArray, List.set_cons_zero, List.set_cons_succ]
      refine wpAnyH_ready (rs := [11]) (by kernel_rfl) (by simp) ?_
      refine AllReadyH.cons rfl (fun K hK => ?_) AllReadyH.nil
      go_simp
      refine (bit1_g g4 rev k q _ HQ.out hg4).mono ?_
      rintro e W5 ⟨rfl, b5⟩
      refine hK.out _ _ ?_ (fun hHeld => ?_)
      · exact ⟨(TD.later b5).cm hno, (TD.later b5).cm hre⟩
      clear hK K
      replace TD := TD.later b5
      clear b5 hg4
      try simp only [List.getElem_toArray, List.getElem_cons_succ, List.getElem_cons_zero, Act.put, List.setIfInBounds_toArray, List.set_cons_zero, List.set_cons_succ]
      refine wpAnyH_take (i := 12) (v := ?_) rfl (by kernel_rfl) (by kernel_rfl) (by kernel_rfl) (fun _ _ _ h => h) (Or.inl ⟨by rfl, ?_⟩) (by assumption) ?_
      rotate_left
      · intro w hSw
        try dsimp only at hSw
        go_simp
        try with_reducible rfl
      simp only [List.getElem_toArray, List.getElem_cons_succ, List.getElem_cons_zero, Act.put, List.setIfInBounds_toArray, List.set_cons_zero, List.set_cons_succ]
      refine wpAnyH_take (i := 13) (v := ?_) rfl (by kernel_rfl) (by kernel_rfl) (by kernel_rfl) (fun _ _ _ h => h) (Or.inl ⟨by rfl, ?_⟩) (by assumption) ?_
      rotate_left
      · intro w hSw
        try dsimp only at hSw
        go_simp
        try with_reducible rfl
      simp only [List.getElem_toArray, List.getElem_cons_succ, List.getElem_cons_zero, Act.put, List.setIfInBounds_toArray, List.set_cons_zero, List.set_cons_succ]
      refine wpAnyH_done (by kernel_rfl) ?_ _
      cases p <;> cases q
      all_goals
        go_wp2
        go_ret
        exact ⟨by rw [← HR.out]; rfl, TD.below⟩
    · go_wp2
      go_ret
      exact ⟨by rw [← HR.out]; rfl, T.below⟩
  · rw [Bool.true_or, if_pos rfl]
    go_enter Tryd.func15, Tryd.ntmps15
    go_wp2
    go_ret
    exact ⟨rfl, T.below⟩
end Go.Proofs.YtlcahkkpbikccaaDoor
