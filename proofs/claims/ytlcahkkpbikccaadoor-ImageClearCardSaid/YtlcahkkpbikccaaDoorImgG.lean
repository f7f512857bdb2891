/- Images: the contract of rows. Nothing that was there is turned. -/
import Derived.Test.YtlcahkkpbikccaaDoorImgF
namespace Go.Proofs.YtlcahkkpbikccaaDoor
open Go.RowKit Rf Mem
attribute [local go_sem ↓] run_max2 run_min2
theorem withFree_lo {M : List Value} {f : List Int} (hl : M.length = 29) : (withFree M f)[0]? = M[0]? := by
  unfold withFree; rw [List.getElem?_append_left (by simp; omega), List.getElem?_take]; simp
theorem withFree_mid {M : List Value} {f : List Int} (hl : M.length = 29) {k : Nat} {z : Int} (hk : f[k]? = some z) : (withFree M f)[1 + k]? = some (.int .i64 z) := by
  have hlt := (List.getElem?_eq_some_iff.1 hk).1
  unfold withFree
  rw [List.getElem?_append_right (by simp; omega), List.length_take, hl, show 1 + k - min 1 29 = k by omega, List.getElem?_append_left (by simpa [ints] using hlt)]
  simp [ints, hk]
theorem withFree_hi {M : List Value} {f : List Int} (hl : M.length = 29) (hf : f.length = 24) (j : Nat) : (withFree M f)[25 + j]? = M[25 + j]? := by
  unfold withFree
  rw [List.getElem?_append_right (by simp; omega), List.length_take, hl, List.getElem?_append_right (by simp [ints]; omega), List.getElem?_drop]
  congr 1
  simp [ints, hf]
  try omega
theorem ImgF.with_ {M : List Value} {age : Int} {free f : List Int} {occ nor rev lam : BitVec 32} (h : ImgF M age free occ nor rev lam) (hf : f.length = 24) : ImgF (withFree M f) age f occ nor rev lam :=
  ⟨by simp [withFree, ints, h.len, hf], hf, (withFree_lo h.len).trans h.age, fun k z hk => withFree_mid h.len hk, (withFree_hi h.len hf 0).trans h.occ, (withFree_hi h.len hf 1).trans h.nor, (withFree_hi h.len hf 2).trans h.rev, (withFree_hi h.len hf 3).trans h.lam⟩
theorem ImgF.id_ {M : List Value} {age : Int} {free : List Int} {occ nor rev lam : BitVec 32} (h : ImgF M age free occ nor rev lam) : withFree M free = M := by
  apply List.ext_getElem?
  intro i
  rcases Nat.lt_or_ge i 25 with hi | hi
  · rcases Nat.eq_zero_or_pos i with rfl | h0
    · exact withFree_lo h.len
    · obtain ⟨k, rfl⟩ : ∃ k, i = 1 + k := ⟨i - 1, by omega⟩
      obtain ⟨z, hk⟩ : ∃ z, free[k]? = some z := ⟨_, List.getElem?_eq_getElem (by rw [h.fl]; omega)⟩
      rw [withFree_mid h.len hk, h.free k _ hk]
  · obtain ⟨j, rfl⟩ : ∃ j, i = 25 + j := ⟨i - 25, by omega⟩
    exact withFree_hi h.len h.fl j
theorem ImgF.one {M : List Value} {age : Int} {free : List Int} {occ nor rev lam : BitVec 32} (h : ImgF M age free occ nor rev lam) : ∀ v ∈ M, v.oneCell' = true := by
  intro v hv
  obtain ⟨i, hi⟩ := List.getElem?_of_mem hv
  have hlt := (List.getElem?_eq_some_iff.1 hi).1
  rw [h.len] at hlt
  rcases Nat.lt_or_ge i 25 with h25 | h25
  · rcases Nat.eq_zero_or_pos i with rfl | h0
    · rw [h.age] at hi; obtain rfl := Option.some.inj hi; rfl
    · obtain ⟨k, rfl⟩ : ∃ k, i = 1 + k := ⟨i - 1, by omega⟩
      obtain ⟨z, hk⟩ : ∃ z, free[k]? = some z := ⟨_, List.getElem?_eq_getElem (by rw [h.fl]; omega)⟩
      rw [h.free k _ hk] at hi; obtain rfl := Option.some.inj hi; rfl
  · obtain ⟨j, rfl⟩ : ∃ j, i = 25 + j := ⟨i - 25, by omega⟩
    have hj : j < 4 := by omega
    match j, hj, hi with
    | 0, _, hi => rw [h.occ] at hi; obtain rfl := Option.some.inj hi; rfl
    | 1, _, hi => rw [h.nor] at hi; obtain rfl := Option.some.inj hi; rfl
    | 2, _, hi => rw [h.rev] at hi; obtain rfl := Option.some.inj hi; rfl
    | 3, _, hi => rw [h.lam] at hi; obtain rfl := Option.some.inj hi; rfl
theorem res_img {fn : Func} {t : Tmp} (hf : fn.results = #[.cell t 39]) {tmps : Array Value} {W : World} {g : Nat} {M : List Value} {f : Nat × Nat} (hs : tmps.getD t undef = .pointer (some ⟨g, 0, none⟩)) (hg : W.heap[g]? = some (.cells M.toArray 39 f)) (hl : M.length = 29) :
    (results fn tmps).run Tryd.prog W = .ok (.agg M.toArray) W := by
  have hs' : tmps[t]?.getD undef = .pointer (some ⟨g, 0, none⟩) := by simpa using hs
  have h := run_loadVar_mid (P := Tryd.prog) W g 0 39 M _ (range_of hg) Tryd.underlying39 rfl (img_size hl)
  simp [results, hf, hs', asAddr, h]
theorem setCells_far {g k : Nat} {ob : Obj} (hne : k ≠ g) : ∀ (vs : List Value) (o : Nat) {w : World}, w.heap[k]? = some ob → (w.setCells g o vs).heap[k]? = some ob
  | [], _, _, h => h
  | v :: r, o, w, h => by rw [World.setCells]; exact setCells_far hne r (o + 1) (set_far h hne v)
set_option maxHeartbeats 4000000 in
set_option maxRecDepth 100000 in
theorem rows_c (L M : List Value) (ns nsig : Nat) (clr st age : Int) (A A1 : Option Addr) (c c1 : Nat) (free : List Int) (occ nor rev lam : BitVec 32) (w : World) (hT : Tops w) (hL : LayF L ns nsig clr st A c A1 c1) (hM : ImgF M age free occ nor rev lam) :
    Calls Tryd.prog 19 #[.agg L.toArray, .agg M.toArray] w fun e w' => Below w.heap.size w w' ∧ e = .returned (.agg (withFree M (rowL occ (decide (st < age)) free 24)).toArray) := by
  have T := Two.new w L M
  have bz := below_new ((w.alloc (.cells L.toArray 29)).alloc (.cells M.toArray 39)) (.cells #[.int .i64 0, .int .i64 0, .int .i64 0, .int .i64 0, .int .i64 0, .int .i64 0, .int .i64 0, .int .i64 0, .int .i64 0, .int .i64 0, .int .i64 0, .int .i64 0, .int .i64 0, .int .i64 0, .int .i64 0, .int .i64 0, .int .i64 0, .int .i64 0, .int .i64 0, .int .i64 0, .int .i64 0, .int .i64 0, .int .i64 0, .int .i64 0, .int .i64 0, .int .u32 0, .int .u32 0, .int .u32 0, .int .u32 0] 39)
  have T := T.later bz
  have G4 : (((w.alloc (.cells L.toArray 29)).alloc (.cells M.toArray 39)).alloc (.cells #[.int .i64 0, .int .i64 0, .int .i64 0, .int .i64 0, .int .i64 0, .int .i64 0, .int .i64 0, .int .i64 0, .int .i64 0, .int .i64 0, .int .i64 0, .int .i64 0, .int .i64 0, .int .i64 0, .int .i64 0, .int .i64 0, .int .i64 0, .int .i64 0, .int .i64 0, .int .i64 0, .int .i64 0, .int .i64 0, .int .i64 0, .int .i64 0, .int .i64 0, .int .u32 0, .int .u32 0, .int .u32 0, .int .u32 0] 39)).heap[w.heap.size + 1 + 1]? = some (.cells #[.int .i64 0, .int .i64 0, .int .i64 0, .int .i64 0, .int .i64 0, .int .i64 0, .int .i64 0, .int .i64 0, .int .i64 0, .int .i64 0, .int .i64 0, .int .i64 0, .int .i64 0, .int .i64 0, .int .i64 0, .int .i64 0, .int .i64 0, .int .i64 0, .int .i64 0, .int .i64 0, .int .i64 0, .int .i64 0, .int .i64 0, .int .i64 0, .int .i64 0, .int .u32 0, .int .u32 0, .int .u32 0, .int .u32 0] 39 (0, 0)) := new_at (by simp) _
  have szL := lay_size hL.len
  have szM := img_size hM.len
  obtain ⟨s, hs⟩ : ∃ s, decide (st < age) = s := ⟨_, rfl⟩
  rw [hs]
  have HST := Lib.hid hs.symm
  clear hs
  have RL := T.rl
  have RM := T.rm
  have hT0 := hT.below T.below
  clear bz
  go_enter Tryd.func19, Tryd.ntmps19
  go_wp2_with (first
      | refine wpList_load_g (by rfl) 29 (.tmp 2) (by rfl) w.heap.size 0 (by rfl) L _ RL Tryd.underlying29 rfl szL ?_
      | refine wpList_load_g (by rfl) 39 (.tmp 3) (by rfl) (w.heap.size + 1) 0 (by rfl) M _ RM Tryd.underlying39 rfl szM ?_)
  generalize ((w.alloc (.cells L.toArray 29)).alloc (.cells M.toArray 39)).alloc (.cells #[.int .i64 0, .int .i64 0, .int .i64 0, .int .i64 0, .int .i64 0, .int .i64 0, .int .i64 0, .int .i64 0, .int .i64 0, .int .i64 0, .int .i64 0, .int .i64 0, .int .i64 0, .int .i64 0, .int .i64 0, .int .i64 0, .int .i64 0, .int .i64 0, .int .i64 0, .int .i64 0, .int .i64 0, .int .i64 0, .int .i64 0, .int .i64 0, .int .i64 0, .int .u32 0, .int .u32 0, .int .u32 0, .int .u32 0] 39) = W0 at *
  refine (clear_c L M age st occ s _ HST.out hL.st hM.age hM.occ hL.len hM.len).mono ?_
  rintro e W1 ⟨b1, g7, g8, gb, rfl, hC⟩
  replace T := T.later b1
  have G4 := below_at b1 G4 (Array.getElem?_eq_some_iff.1 G4).1
  clear RL RM b1 hT0
  go_wp2_with fail
  have hsz1 : w.heap.size + 3 ≤ W1.heap.size := by have := (Array.getElem?_eq_some_iff.1 G4).1; omega
  have bf := below_new W1 (.cells #[.int .i64 0, .int .i64 0, .int .i64 0, .int .i64 0, .int .i64 0, .int .i64 0, .int .i64 0, .int .i64 0, .int .i64 0, .int .i64 0, .int .i64 0, .int .i64 0, .int .i64 0, .int .i64 0, .int .i64 0, .int .i64 0, .int .i64 0, .int .i64 0, .int .i64 0, .int .i64 0, .int .i64 0, .int .i64 0, .int .i64 0, .int .i64 0] 34)
  have F0 : Fr24 (W1.alloc (.cells #[.int .i64 0, .int .i64 0, .int .i64 0, .int .i64 0, .int .i64 0, .int .i64 0, .int .i64 0, .int .i64 0, .int .i64 0, .int .i64 0, .int .i64 0, .int .i64 0, .int .i64 0, .int .i64 0, .int .i64 0, .int .i64 0, .int .i64 0, .int .i64 0, .int .i64 0, .int .i64 0, .int .i64 0, .int .i64 0, .int .i64 0, .int .i64 0] 34)) W1.heap.size [] := ⟨_, new_at rfl _, rfl, rfl⟩
  have G4' := old_at G4 (.cells #[.int .i64 0, .int .i64 0, .int .i64 0, .int .i64 0, .int .i64 0, .int .i64 0, .int .i64 0, .int .i64 0, .int .i64 0, .int .i64 0, .int .i64 0, .int .i64 0, .int .i64 0, .int .i64 0, .int .i64 0, .int .i64 0, .int .i64 0, .int .i64 0, .int .i64 0, .int .i64 0, .int .i64 0, .int .i64 0, .int .i64 0, .int .i64 0] 34)
  have T' := T.later bf
  have hC' := hC.later bf
  generalize W1.alloc (.cells #[.int .i64 0, .int .i64 0, .int .i64 0, .int .i64 0, .int .i64 0, .int .i64 0, .int .i64 0, .int .i64 0, .int .i64 0, .int .i64 0, .int .i64 0, .int .i64 0, .int .i64 0, .int .i64 0, .int .i64 0, .int .i64 0, .int .i64 0, .int .i64 0, .int .i64 0, .int .i64 0, .int .i64 0, .int .i64 0, .int .i64 0, .int .i64 0] 34) = W2 at *
  clear T hC G4 bf
  go_loopw [11] (fun i wr => ∃ k : Nat, k ≤ 24 ∧ i = .int .i64 k ∧ Two w wr L M ∧ wr.heap[w.heap.size + 1 + 1]? = some (.cells #[.int .i64 0, .int .i64 0, .int .i64 0, .int .i64 0, .int .i64 0, .int .i64 0, .int .i64 0, .int .i64 0, .int .i64 0, .int .i64 0, .int .i64 0, .int .i64 0, .int .i64 0, .int .i64 0, .int .i64 0, .int .i64 0, .int .i64 0, .int .i64 0, .int .i64 0, .int .i64 0, .int .i64 0, .int .i64 0, .int .i64 0, .int .i64 0, .int .i64 0, .int .u32 0, .int .u32 0, .int .u32 0, .int .u32 0] 39 (0, 0)) ∧ Clo wr g7 g8 gb s occ ∧ Fr24 wr W1.heap.size (rowL occ s free k)) (fun i _ => 24 - (intOf i).toNat)
  case atStart => exact ⟨0, Nat.zero_le _, rfl, T', G4', hC', F0⟩
  case round =>
    obtain ⟨k, hk, rfl, T, G4, hC, F⟩ := hrel
    clear T' G4' hC' F0
    by_cases hlt : k < 24
    · obtain ⟨z, hz⟩ : ∃ z, free[k]? = some z := ⟨_, List.getElem?_eq_getElem (by rw [hM.fl]; exact hlt)⟩
      have hfz := hM.free k z hz
      have hgd : free.getD k 0 = z := by simp [List.getD, hz]
      have HR := Lib.hid (rowL_succ occ s free k)
      rw [hgd] at HR
      have hln := rowL_len occ s free k
      obtain ⟨b, hb⟩ : ∃ b, (!s && !bitV occ k) = b := ⟨_, rfl⟩
      rw [hb] at HR
      have HB := Lib.hid hb.symm
      have HLN := Lib.hid hln
      have i1 : (k : Int) < 24 := by omega
      have TD := T.drew
      clear hb hgd hz hln
      go_wp2_with fail
      refine wp_region_held_drew (S := (fun w' => w'.cell? ⟨w.heap.size + 1, 1 + k, none⟩ = some (.int .i64 z))) (by kernel_rfl) ?_ (fun hHeld => ?_)
      · exact TD.cm hfz
      refine wpAnyH_take (i := 0) (v := ?_) rfl (by kernel_rfl) (by kernel_rfl) (by kernel_rfl) (fun _ _ _ h => h) (Or.inl ⟨by rfl, ?_⟩) (by assumption) ?_
      rotate_left
      · intro w hSw
        try dsimp only at hSw
        go_simp
        try with_reducible rfl
      simp only [List.getElem_toArray, List.getElem_cons_succ, List.getElem_cons_zero, Act.put, List.setIfInBounds_toArray, List.set_cons_zero, List.set_cons_succ]
      refine wpAnyH_take (i := 1) (v := ?_) rfl (by kernel_rfl) (by kernel_rfl) (by kernel_rfl) (fun _ _ _ h => h) (Or.inl ⟨by rfl, ?_⟩) (by assumption) ?_
      rotate_left
      · intro w hSw
        try dsimp only at hSw
        go_simp
        try with_reducible rfl
      simp only [List.getElem_toArray, List.getElem_cons_succ, List.getElem_cons_zero, Act.put, List.setIfInBounds_toArray, List.set_cons_zero, List.set_cons_succ]
      refine wpAnyH_take (i := 2) (v := ?_) rfl (by kernel_rfl) (by kernel_rfl) (by kernel_rfl) (fun _ _ _ h => h) (Or.inl ⟨by rfl, ?_⟩) (by assumption) ?_
      rotate_left
      · intro w hSw
        try dsimp only at hSw
        go_simp
        try with_reducible rfl
      simp only [List.getElem_toArray, List.getElem_cons_succ, List.getElem_cons_zero, Act.put, List.setIfInBounds_toArray, List.set_cons_zero, List.set_cons_succ]
      refine wpAnyH_take (i := 4) (v := ?_) rfl (by kernel_rfl) (by kernel_rfl) (by kernel_rfl) (fun _ _ _ h => h) (Or.inl ⟨by rfl, ?_⟩) (by assumption) ?_
      rotate_left
      · intro w hSw
        try dsimp only at hSw
        go_simp
        try with_reducible rfl
      simp only [List.getElem_toArray, List.getElem_cons_succ, List.getElem_cons_zero, Act.put, List.setIfInBounds_toArray, List.set_cons_zero, List.set_cons_succ]
      refine wpAnyH_take (i := 5) (v := ?_) rfl (by kernel_rfl) (by kernel_rfl) (by kernel_rfl) (fun _ _ _ h => h) (Or.inl ⟨by rfl, ?_⟩) (by assumption) ?_
      rotate_left
      · intro w hSw
        try dsimp only at hSw
        go_simp
        try with_reducible rfl
      simp only [List.getElem_toArray, List.getElem_cons_succ, List.getElem_cons_zero, Act.put, List.setIfInBounds_toArray, List.set_cons_zero, List.set_cons_succ]
      refine wpAnyH_take (i := 6) (v := ?_) rfl (by kernel_rfl) (by kernel_rfl) (by kernel_rfl) (fun _ _ _ h => h) (Or.inl ⟨by rfl, ?_⟩) (by assumption) ?_
      rotate_left
      · intro w hSw
        try dsimp only at hSw
        go_simp
        try with_reducible rfl
      simp only [List.getElem_toArray, List.getElem_cons_succ, List.getElem_cons_zero, Act.put, List.setIfInBounds_toArray, List.set_cons_zero, List.set_cons_succ]
      refine wpAnyH_take (i := 7) (v := ?_) rfl (by kernel_rfl) (by kernel_rfl) (by kernel_rfl) (fun _ _ _ h => h) (Or.inl ⟨by rfl, ?_⟩) (by assumption) ?_
      rotate_left
      · intro w hSw
        try dsimp only at hSw
        go_simp
        try with_reducible rfl
      simp only [List.getElem_toArray, List.getElem_cons_succ, List.getElem_cons_zero, Act.put, List.setIfInBounds_toArray, List.set_cons_zero, List.set_cons_succ]
      have FD := F.later (Below.refl _ wr).drew
      have GD : wr.drew.heap[w.heap.size + 1 + 1]? = _ := G4
      have CD := hC.later (Below.refl _ wr).drew
      refine wpAnyH_ready (rs := [3]) (by kernel_rfl) (by simp) ?_
      refine AllReadyH.cons rfl (fun K hK => ?_) AllReadyH.nil
      go_simp
      refine (clear1_g g7 g8 gb s b occ k _ HB.out CD).mono ?_
      rintro e W3 ⟨rfl, b3⟩
      refine hK.out _ _ ?_ (fun hHeld => ?_)
      · exact (TD.later b3).cm hfz
      clear hK K
      replace TD := TD.later b3
      replace FD := FD.later b3
      replace CD := CD.later b3
      have GD := below_at b3 GD (Array.getElem?_eq_some_iff.1 GD).1
      clear b3
      try simp only [List.getElem_toArray, List.getElem_cons_succ, List.getElem_cons_zero, Act.put, List.setIfInBounds_toArray, List.set_cons_zero, List.set_cons_succ]
      have hTW := hT.below TD.below
      refine wpAnyH_ready (rs := [8]) (by kernel_rfl) (by simp) ?_
      refine AllReadyH.cons rfl (fun K hK => ?_) AllReadyH.nil
      go_simp
      refine (Row_c b z _ hTW).mono ?_
      rintro e W4 ⟨rfl, b4⟩
      refine hK.out _ _ ?_ (fun hHeld => ?_)
      · exact (TD.later b4).cm hfz
      clear hK K
      replace TD := TD.later b4
      replace FD := FD.later b4
      replace CD := CD.later b4
      have GD := below_at b4 GD (Array.getElem?_eq_some_iff.1 GD).1
      clear b4 hTW
      try simp only [List.getElem_toArray, List.getElem_cons_succ, List.getElem_cons_zero, Act.put, List.setIfInBounds_toArray, List.set_cons_zero, List.set_cons_succ]
      refine wpAnyH_take (i := 9) (v := ?_) rfl (by kernel_rfl) (by kernel_rfl) (by kernel_rfl) (fun _ _ _ h => h) (Or.inl ⟨by rfl, ?_⟩) (by assumption) ?_
      rotate_left
      · intro w hSw
        try dsimp only at hSw
        go_simp
        try with_reducible rfl
      simp only [List.getElem_toArray, List.getElem_cons_succ, List.getElem_cons_zero, Act.put, List.setIfInBounds_toArray, List.set_cons_zero, List.set_cons_succ]
      obtain ⟨v5, c5, f5⟩ := FD.cell k hlt
      have F5 := FD.next (by rw [HLN.out]; exact hlt) (rowV b z)
      rw [HLN.out, ← HR.out] at F5
      have gfl : w.heap.size + 2 ≤ W1.heap.size := by omega
      have T5 := TD.set gfl k (.int .i64 (rowV b z))
      obtain ⟨cur5, hcur5, _, _⟩ := FD.ex
      have C5 := CD.set hcur5 k (.int .i64 (rowV b z))
      have G5 := set_far (p := ⟨W1.heap.size, k, none⟩) GD (ne_type GD hcur5 (by decide)) (.int .i64 (rowV b z))
      refine wpAnyH_ready (rs := [10]) (by kernel_rfl) (by simp) ?_
      refine AllReadyH.cons rfl (fun K hK => ?_) AllReadyH.nil
      go_simp
      refine hK.out _ _ (T5.cm hfz) (fun _ => ?_)
      clear hK K
      try simp only [List.getElem_toArray, List.getElem_cons_succ, List.getElem_cons_zero, Act.put, List.setIfInBounds_toArray, List.set_cons_zero, List.set_cons_succ]
      refine wpAnyH_done (by kernel_rfl) ?_ _
      clear c5 f5 hcur5 TD FD CD GD T G4 hC F
      go_wp2
      go_roundw
      case rel => exact ⟨k + 1, by omega, by go_num, T5, G5, C5, F5⟩
      case measure => simp [intOf]; omega
    · obtain rfl : k = 24 := by omega
      obtain ⟨cur, hcur, hcs, hct⟩ := F.ex
      have hln := rowL_len occ s free 24
      obtain ⟨ys, hys⟩ : ∃ ys, rowL occ s free 24 = ys := ⟨_, rfl⟩
      rw [hys] at hct hln
      have hcl : cur = (ints .i64 ys).toArray := by
        rw [← hct, List.take_of_length_le (by simp; omega)]
      subst hcl
      have R6 := range_of hcur
      have RF : wr.rangeAt (w.heap.size + 1) 1 (ints .i64 free) := fun j v hv => by
        simp only [ints, List.getElem?_map] at hv
        obtain ⟨z, hz, rfl⟩ := Option.map_eq_some_iff.1 hv
        exact T.cm (hM.free j z hz)
      have sz1 : (Tryd.prog.info? 34).map (·.size) = some (ints .i64 ys).length := by rw [show (ints .i64 ys).length = 24 by simp [ints, hln]]; kernel_rfl
      have sz2 : (Tryd.prog.info? 34).map (·.size) = some (ints .i64 free).length := by rw [show (ints .i64 free).length = 24 by simp [ints, hM.fl]]; kernel_rfl
      have hYL : ys.length = 24 := hln
      have HYS := Lib.hid hys
      have hM' := hM.with_ hYL
      obtain ⟨M', hMM⟩ : ∃ M', withFree M ys = M' := ⟨_, rfl⟩
      rw [hMM] at hM'
      have HMM := Lib.hid hMM
      have sz3 : (Tryd.prog.info? 39).map (·.size) = some M'.length := by rw [hM'.len]; kernel_rfl
      have one6 : (ints .i64 ys).toArray.all (·.oneCell') = true := all_oneCell_toArray (fun v hv => by simp [ints] at hv; obtain ⟨z, _, rfl⟩ := hv; rfl)
      have oneM : M'.toArray.all (·.oneCell') = true := all_oneCell_toArray hM'.one
      have szs : (Tryd.prog.info? 34).map (·.size) = some (ints .i64 ys).toArray.size := by simpa using sz1
      have szm : (Tryd.prog.info? 39).map (·.size) = some M'.toArray.size := by simpa using sz3
      have th1 : wr.there (w.heap.size + 1) 1 (ints .i64 ys).toArray.size := there_of T.m 1 _ (by simp [ints, hYL, hM.len])
      have BW := T.below
      -- the world behind the comparison
      have key : ∀ W : World, W.heap[w.heap.size + 1]? = some (.cells M'.toArray 39 (0, 0)) → W.heap[w.heap.size + 1 + 1]? = some (.cells #[.int .i64 0, .int .i64 0, .int .i64 0, .int .i64 0, .int .i64 0, .int .i64 0, .int .i64 0, .int .i64 0, .int .i64 0, .int .i64 0, .int .i64 0, .int .i64 0, .int .i64 0, .int .i64 0, .int .i64 0, .int .i64 0, .int .i64 0, .int .i64 0, .int .i64 0, .int .i64 0, .int .i64 0, .int .i64 0, .int .i64 0, .int .i64 0, .int .i64 0, .int .u32 0, .int .u32 0, .int .u32 0, .int .u32 0] 39 (0, 0)) → Below w.heap.size w W →
          W.rangeAt (w.heap.size + 1) 0 M' ∧ W.there (w.heap.size + 1 + 1) 0 M'.toArray.size ∧ (W.setCells (w.heap.size + 1 + 1) 0 M').heap[w.heap.size + 1 + 1]? = some (.cells M'.toArray 39 (0, 0)) ∧ Below w.heap.size w (W.setCells (w.heap.size + 1 + 1) 0 M') := fun W h1 h2 h3 =>
        ⟨range_of h1, there_of h2 0 _ (by simp [hM'.len]), by rw [setCells_at _ _ h2, setL_all (by rw [hM'.len]; rfl)], below_setCells (by omega) _ _ h3⟩
      by_cases hyf : ys = free
      · have heq : (Op.equalIn 10000 34 (.agg (ints .i64 ys).toArray) (.agg (ints .i64 free).toArray)).run Tryd.prog wr = .ok true wr := by rw [eq24 ys free wr hYL hM.fl, decide_eq_true hyf]
        have hm1 : wr.heap[w.heap.size + 1]? = some (.cells M'.toArray 39 (0, 0)) := by rw [← hMM, hyf, hM.id_]; exact T.m
        obtain ⟨k1, k2, k3, k4⟩ := key wr hm1 G4 BW
        have K34 := Lib.hid (And.intro k3 k4)
        have HYF := Lib.hid hyf
        clear k3 k4 key hm1 hyf hMM hys T G4 hC F hcur hct hln
        go_wp2_with (first
          | refine wpList_load_g (by rfl) 34 (.tmp 6) (by rfl) W1.heap.size 0 (by rfl) (ints .i64 ys) _ R6 Tryd.underlying34 rfl sz1 ?_
          | refine wpList_load_g (by rfl) 34 (.tmp 26) (by rfl) (w.heap.size + 1) 1 (by rfl) (ints .i64 free) _ RF Tryd.underlying34 rfl sz2 ?_
          | refine wpList_load_g (by rfl) 39 (.tmp 3) (by rfl) (w.heap.size + 1) 0 (by rfl) M' _ k1 Tryd.underlying39 rfl sz3 ?_
          | (refine wpList_store_mid rfl 39 (.tmp 4) (.tmp 31) (by rfl) (w.heap.size + 1 + 1) 0 M'.toArray (by rfl) (by rfl) k2 szm oneM ?_; generalize hWs : wr.setCells (w.heap.size + 1 + 1) 0 M'.toArray.toList = Ws at *))
        have e3 : Ws.heap[w.heap.size + 1 + 1]? = some (.cells M'.toArray 39 (0, 0)) := by first | exact K34.out.1 | (rw [← hWs]; exact K34.out.1)
        have e4 : Below w.heap.size w Ws := by first | exact K34.out.2 | (rw [← hWs]; exact K34.out.2)
        refine bodyPost_ret (res_img (t := 4) rfl rfl e3 hM'.len) rfl ⟨e4, ?_⟩
        rw [← HMM.out, ← HYS.out]
      · have heq : (Op.equalIn 10000 34 (.agg (ints .i64 ys).toArray) (.agg (ints .i64 free).toArray)).run Tryd.prog wr = .ok false wr := by rw [eq24 ys free wr hYL hM.fl, decide_eq_false hyf]
        have hm1 : (wr.setCells (w.heap.size + 1) 1 (ints .i64 ys)).heap[w.heap.size + 1]? = some (.cells M'.toArray 39 (0, 0)) := by
          have e : setL M.toArray 1 (ints .i64 ys) = M'.toArray := by
            apply Array.ext'
            rw [setL_list _ _ _ (by simp [ints, hYL, hM.len]), ← hMM]
            simp [withFree, ints, hYL]
          rw [setCells_at _ _ T.m, e]
        have hm2 := setCells_far (show w.heap.size + 1 + 1 ≠ w.heap.size + 1 by omega) (ints .i64 ys) 1 G4
        have hm3 := below_setCells (show w.heap.size ≤ w.heap.size + 1 by omega) (ints .i64 ys) 1 BW
        obtain ⟨k1, k2, k3, k4⟩ := key _ hm1 hm2 hm3
        have K34 := Lib.hid (And.intro k3 k4)
        have K12 := Lib.hid (And.intro k1 k2)
        clear k1 k2 k3 k4 key hm1 hm2 hm3 hyf hMM hys T G4 hC F hcur hct hln
        go_wp2_with (first
          | refine wpList_load_g (by rfl) 34 (.tmp 6) (by rfl) W1.heap.size 0 (by rfl) (ints .i64 ys) _ R6 Tryd.underlying34 rfl sz1 ?_
          | refine wpList_load_g (by rfl) 34 (.tmp 26) (by rfl) (w.heap.size + 1) 1 (by rfl) (ints .i64 free) _ RF Tryd.underlying34 rfl sz2 ?_
          | (refine wpList_store_mid rfl 34 (.tmp 30) (.tmp 29) (by rfl) (w.heap.size + 1) 1 (ints .i64 ys).toArray (by rfl) (by rfl) th1 szs one6 ?_; generalize hWr : wr.setCells (w.heap.size + 1) 1 (ints .i64 ys).toArray.toList = Wr at *; have k1 : Wr.rangeAt (w.heap.size + 1) 0 M' := (by first | exact K12.out.1 | (rw [← hWr]; exact K12.out.1)); have k2 : Wr.there (w.heap.size + 1 + 1) 0 M'.toArray.size := (by first | exact K12.out.2 | (rw [← hWr]; exact K12.out.2)))
          | refine wpList_load_g (by rfl) 39 (.tmp 3) (by rfl) (w.heap.size + 1) 0 (by rfl) M' _ k1 Tryd.underlying39 rfl sz3 ?_
          | (refine wpList_store_mid rfl 39 (.tmp 4) (.tmp 31) (by rfl) (w.heap.size + 1 + 1) 0 M'.toArray (by rfl) (by rfl) k2 szm oneM ?_; generalize hWs : Wr.setCells (w.heap.size + 1 + 1) 0 M'.toArray.toList = Ws at *))
        have e3 : Ws.heap[w.heap.size + 1 + 1]? = some (.cells M'.toArray 39 (0, 0)) := K34.out.1
        have e4 : Below w.heap.size w Ws := K34.out.2
        refine bodyPost_ret (res_img (t := 4) rfl rfl e3 hM'.len) rfl ⟨e4, ?_⟩
        rw [← HMM.out, ← HYS.out]
end Go.Proofs.YtlcahkkpbikccaaDoor
