/- Presses: the iterator. Nothing that was there is turned but by yield. -/
import Derived.Test.YtioggdiicgfoaaaKeyF
namespace Go.Proofs.Ytioggdiicgfoaaa
open Go.RowKit Rf Mem KM
attribute [local go_sem ↓] run_max2 run_min2
attribute [local go_sem] Oper.semAt_some
set_option maxHeartbeats 4000000 in
set_option maxRecDepth 100000 in
theorem presses1 (g : Nat) (x y b : Btn) (ns ne nc : Nat) (hns : ns ≤ 12) (hne : ne ≤ 12) (hnc : nc ≤ 24) (hx : x.keys.length = 24) (hy : y.keys.length = 24) (hb : b.keys.length = 24) :
    Iter Try.prog 44 #[.pointer (some ⟨g + 1, 0, none⟩), .pointer (some ⟨g + 1 + 1, 0, none⟩), .pointer (some ⟨g, 0, none⟩)] (fun _ => False) (fun q => q = g ∨ q = g + 1 ∨ q = g + 1 + 1) ((pressL b x y ns ne nc).map fun p => #[prV p]) (fun W => PPre W g x y b ns ne nc) := by
  intro l J O0 W0 hP hO hJ hY h0
  have szB := btn_size hb
  have szX := btn_size hx
  have szY := btn_size hy
  have g0 : g < W0.heap.size := (Array.getElem?_eq_some_iff.1 hP.c).1
  have g1 : g + 1 < W0.heap.size := (Array.getElem?_eq_some_iff.1 hP.m).1
  have g2 : g + 1 + 1 < W0.heap.size := (Array.getElem?_eq_some_iff.1 hP.b).1
  have HO := Lib.hid hO
  have HJ := Lib.hid hJ
  have HY := Lib.hid hY
  have H0 := Lib.hid h0
  clear hO hJ hY h0
  refine callsIn_of_wp Try.func44 rfl trivial ?_ rfl
  simp only [Try.ntmps44, List.size_toArray, List.length_cons, List.length_nil, Nat.reduceAdd, Nat.reduceSub, Array.replicate_succ, Array.replicate_zero, List.push_toArray, List.append_toArray, List.nil_append, List.cons_append]
  have e0 : W0.heap.size = W0.heap.size := rfl
  have KB : Below W0.heap.size W0 (W0.alloc (.cells #[.func (.yield l) #[] #[]] 90)) := kbelow_new _ _
  have M0 := var_later hP.m KB
  have Y0 : (W0.alloc (.cells #[.func (.yield l) #[] #[]] 90)).heap[W0.heap.size]? = some (.cells #[.func (.yield l) #[] #[]] 90 (0, 0)) := new_at rfl _
  have sz0 : (W0.alloc (.cells #[.func (.yield l) #[] #[]] 90)).heap.size = W0.heap.size + 1 := by simp
  have HSZ := Lib.hid sz0
  have HP0 := Lib.hid hP
  clear e0 sz0 hP
  gi_wp2
  generalize W0.alloc (.cells #[.func (.yield l) #[] #[]] 90) = V at *
  refine wpIn_mono (Q := nq (fun a W => ∃ gx gy : Nat, a = { tmps := (([.func (.yield l) #[] #[], .pointer (some ⟨g + 1, 0, none⟩), .pointer (some ⟨g + 1 + 1, 0, none⟩), .pointer (some ⟨g, 0, none⟩), .pointer (some ⟨W0.heap.size, 0, none⟩), .func (.func 45) #[] #[.pointer (some ⟨W0.heap.size, 0, none⟩)], .func (.func 46) #[] #[.pointer (some ⟨W0.heap.size, 0, none⟩)], .pointer (some ⟨gx, 0, none⟩), .pointer (some ⟨gy, 0, none⟩), undef, undef, .func (.func 45) #[] #[.pointer (some ⟨W0.heap.size, 0, none⟩)], .func (.func 46) #[] #[.pointer (some ⟨W0.heap.size, 0, none⟩)], .pointer (some ⟨g + 1, 0, none⟩), .agg (btnV x).toArray, .pointer (some ⟨g + 1, 29, none⟩), .agg (btnV y).toArray] ++ ([undef, undef, undef, undef, undef, undef, undef, undef, undef, undef, undef, undef, undef, undef, undef, undef, undef, undef, undef, undef, undef, undef, undef, undef, undef, undef, undef, undef, undef, undef, undef, undef, undef, undef, undef, undef, undef, undef, undef, undef, undef, undef, undef, undef, undef, undef, undef, undef, undef, undef, undef, undef, undef, undef, undef, undef, undef, undef, undef, undef] ++ [undef, undef, undef, undef, undef, undef, undef, undef, undef, undef, undef, undef, undef, undef, undef, undef, undef, undef, undef, undef, undef, undef, undef, undef, undef, undef, undef, undef, undef, undef, undef, undef, undef, undef, undef, undef, undef, undef, undef, undef, undef, undef, undef, undef, undef, undef, undef, undef, undef, undef, undef, undef, undef, undef, undef, undef, undef, undef, undef, undef, undef])) : List Value).toArray, defers := [] } ∧
      Below V.heap.size V W ∧ V.heap.size ≤ gx ∧ V.heap.size ≤ gy ∧ W.heap[gx]? = some (.cells (btnV x).toArray 33 (0, 0)) ∧ W.heap[gy]? = some (.cells (btnV y).toArray 33 (0, 0)))) ?_ (fun e a W hR => ?_)
  · have RX := mem_x M0
    have RY := mem_y hx M0
    refine wpIn_wide.2 (wp_region_held_drew (S := (fun w' => w'.rangeAt (g + 1) 0 (btnV x) ∧ w'.rangeAt (g + 1) 29 (btnV y))) (by kernel_rfl) ?_ (fun hHeld => ?_))
    · exact ⟨RX, RY⟩
    have B0 : Below V.heap.size V V.drew := (Below.refl _ V).drew
    have RX' : V.drew.rangeAt (g + 1) 0 (btnV x) := RX
    have RY' : V.drew.rangeAt (g + 1) 29 (btnV y) := RY
    have s0 : V.heap.size ≤ V.drew.heap.size := Nat.le_refl _
    have Mh := Lib.hid M0
    clear RX RY M0
    refine wpAnyH_take (i := 0) (v := ?_) rfl (by kernel_rfl) (by kernel_rfl) (by kernel_rfl) (fun _ _ _ h => h) (Or.inl ⟨by rfl, ?_⟩) (by assumption) ?_
    rotate_left
    · intro w hSw
      try dsimp only at hSw
      go_simp
      try with_reducible rfl
    simp only [List.getElem_toArray, List.getElem_cons_succ, List.getElem_cons_zero, Act.put, List.setIfInBounds_toArray, List.set_cons_zero, List.set_cons_succ]
    refine wpAnyH_take (i := 1) (v := .agg ((btnV x) : List Value).toArray) rfl (by kernel_rfl) (by kernel_rfl) (by kernel_rfl) (fun _ _ _ h => h) (yieldsIf_load_mid rfl 33 (.tmp 13) rfl (g + 1) 0 rfl (btnV x) _ (fun w' h => h.1) (by first | exact Try.underlying33) rfl (by first | assumption | (simp only [*]; kernel_rfl))) (by assumption) ?_
    simp only [List.getElem_toArray, List.getElem_cons_succ, List.getElem_cons_zero, Act.put, List.setIfInBounds_toArray, List.set_cons_zero, List.set_cons_succ]
    refine wpAnyH_take (i := 2) (v := ?_) rfl (by kernel_rfl) (by kernel_rfl) (by kernel_rfl) (fun _ _ _ h => h) (Or.inl ⟨by rfl, ?_⟩) (by assumption) ?_
    rotate_left
    · intro w hSw
      try dsimp only at hSw
      go_simp
      try with_reducible rfl
    simp only [List.getElem_toArray, List.getElem_cons_succ, List.getElem_cons_zero, Act.put, List.setIfInBounds_toArray, List.set_cons_zero, List.set_cons_succ]
    refine wpAnyH_take (i := 3) (v := .agg ((btnV y) : List Value).toArray) rfl (by kernel_rfl) (by kernel_rfl) (by kernel_rfl) (fun _ _ _ h => h) (yieldsIf_load_mid rfl 33 (.tmp 15) rfl (g + 1) (29) rfl (btnV y) _ (fun w' h => h.2) (by first | exact Try.underlying33) rfl (by first | assumption | (simp only [*]; kernel_rfl) | kernel_rfl)) (by assumption) ?_
    simp only [List.getElem_toArray, List.getElem_cons_succ, List.getElem_cons_zero, Act.put, List.setIfInBounds_toArray, List.set_cons_zero, List.set_cons_succ]
    clear RX' RY'
    generalize V.drew = V0 at *
    refine wpAnyH_ready (rs := [4, 5]) (by kernel_rfl) (by simp) ?_
    refine AllReadyH.cons rfl ?_ (AllReadyH.cons rfl ?_ AllReadyH.nil)
    · intro K hK
      go_simp
      have Gx := new_at (w := V0) rfl (.cells zB 33)
      have BA := kbelow_new V0 (.cells zB 33)
      have hsx : V0.heap.size < (V0.alloc (.cells zB 33)).heap.size := by simp
      replace B0 := below_step B0 BA
      clear BA
      generalize V0.alloc (.cells zB 33) = V1 at *
      generalize V0.heap.size = gx at *
      have hX0 : V.heap.size ≤ gx := s0
      have MM := var_later Mh.out B0
      refine hK.out _ _ ⟨mem_x MM, mem_y hx MM⟩ (fun _ => ?_)
      clear hK K
      try simp only [List.getElem_toArray, List.getElem_cons_succ, List.getElem_cons_zero, Act.put, List.setIfInBounds_toArray, List.set_cons_zero, List.set_cons_succ]
      clear MM
      refine wpAnyH_ready (rs := [5]) (by kernel_rfl) (by simp) ?_
      refine AllReadyH.cons rfl (fun K hK => ?_) AllReadyH.nil
      have s1 : gx < V1.heap.size := (Array.getElem?_eq_some_iff.1 Gx).1
      go_simp
      have Gy := new_at (w := V1) rfl (.cells zB 33)
      have BA := kbelow_new V1 (.cells zB 33)
      have hsy : V1.heap.size < (V1.alloc (.cells zB 33)).heap.size := by simp
      replace B0 := below_step B0 BA
      replace Gx := var_later Gx BA
      have hne : gx ≠ V1.heap.size := by omega
      clear BA
      generalize V1.alloc (.cells zB 33) = V2 at *
      generalize V1.heap.size = gy at *
      have hY0 : V.heap.size ≤ gy := by omega
      have MM := var_later Mh.out B0
      refine hK.out _ _ ⟨mem_x MM, mem_y hx MM⟩ (fun _ => ?_)
      clear hK K
      try simp only [List.getElem_toArray, List.getElem_cons_succ, List.getElem_cons_zero, Act.put, List.setIfInBounds_toArray, List.set_cons_zero, List.set_cons_succ]
      clear MM
      refine wpAnyH_ready (rs := [6]) (by kernel_rfl) (by simp) ?_
      refine AllReadyH.cons rfl (fun K hK => ?_) AllReadyH.nil
      obtain ⟨V3, hW, Fx, B6, far, ths⟩ := fill_new (btnV x) Gx (by rw [btnV_len hx]; rfl) B0 hX0
      have G2y := (far _ hne.symm).trans Gy
      refine wp_store_mid 33 (.tmp 7) (.tmp 14) (by rfl) gx 0 (btnV x).toArray (by rfl) (by rfl) ths (by simpa using szX) (all_one (btnV_one x)) ?_
      rw [hW]
      have MM := var_later Mh.out B6
      clear B0 far ths hW
      have B0 := B6
      refine hK.out _ _ ⟨mem_x MM, mem_y hx MM⟩ (fun _ => ?_)
      clear hK K
      try simp only [List.getElem_toArray, List.getElem_cons_succ, List.getElem_cons_zero, Act.put, List.setIfInBounds_toArray, List.set_cons_zero, List.set_cons_succ]
      clear MM Gy
      have Gy := G2y
      refine wpAnyH_ready (rs := [7]) (by kernel_rfl) (by simp) ?_
      refine AllReadyH.cons rfl (fun K hK => ?_) AllReadyH.nil
      obtain ⟨V4, hW, Fy, B7, far, ths⟩ := fill_new (btnV y) Gy (by rw [btnV_len hy]; rfl) B0 hY0
      have F2x := (far _ hne).trans Fx
      refine wp_store_mid 33 (.tmp 8) (.tmp 16) (by rfl) gy 0 (btnV y).toArray (by rfl) (by rfl) ths (by simpa using szY) (all_one (btnV_one y)) ?_
      rw [hW]
      have MM := var_later Mh.out B7
      clear B0 far ths hW
      have B0 := B7
      refine hK.out _ _ ⟨mem_x MM, mem_y hx MM⟩ (fun _ => ?_)
      clear hK K
      try simp only [List.getElem_toArray, List.getElem_cons_succ, List.getElem_cons_zero, Act.put, List.setIfInBounds_toArray, List.set_cons_zero, List.set_cons_succ]
      refine wpAnyH_done (by kernel_rfl) ?_ _
      exact ⟨gx, gy, rfl, B0, hX0, hY0, F2x, Fy⟩
    · intro K hK
      go_simp
      have Gy := new_at (w := V0) rfl (.cells zB 33)
      have BA := kbelow_new V0 (.cells zB 33)
      have hsy : V0.heap.size < (V0.alloc (.cells zB 33)).heap.size := by simp
      replace B0 := below_step B0 BA
      clear BA
      generalize V0.alloc (.cells zB 33) = V1 at *
      generalize V0.heap.size = gy at *
      have hY0 : V.heap.size ≤ gy := s0
      have MM := var_later Mh.out B0
      refine hK.out _ _ ⟨mem_x MM, mem_y hx MM⟩ (fun _ => ?_)
      clear hK K
      try simp only [List.getElem_toArray, List.getElem_cons_succ, List.getElem_cons_zero, Act.put, List.setIfInBounds_toArray, List.set_cons_zero, List.set_cons_succ]
      clear MM
      refine wpAnyH_ready (rs := [4]) (by kernel_rfl) (by simp) ?_
      refine AllReadyH.cons rfl (fun K hK => ?_) AllReadyH.nil
      have s1 : gy < V1.heap.size := (Array.getElem?_eq_some_iff.1 Gy).1
      go_simp
      have Gx := new_at (w := V1) rfl (.cells zB 33)
      have BA := kbelow_new V1 (.cells zB 33)
      have hsx : V1.heap.size < (V1.alloc (.cells zB 33)).heap.size := by simp
      replace B0 := below_step B0 BA
      replace Gy := var_later Gy BA
      have hne : gy ≠ V1.heap.size := by omega
      clear BA
      generalize V1.alloc (.cells zB 33) = V2 at *
      generalize V1.heap.size = gx at *
      have hX0 : V.heap.size ≤ gx := by omega
      have MM := var_later Mh.out B0
      refine hK.out _ _ ⟨mem_x MM, mem_y hx MM⟩ (fun _ => ?_)
      clear hK K
      try simp only [List.getElem_toArray, List.getElem_cons_succ, List.getElem_cons_zero, Act.put, List.setIfInBounds_toArray, List.set_cons_zero, List.set_cons_succ]
      clear MM
      refine wpAnyH_ready (rs := [6]) (by kernel_rfl) (by simp) ?_
      refine AllReadyH.cons rfl (fun K hK => ?_) AllReadyH.nil
      obtain ⟨V3, hW, Fx, B6, far, ths⟩ := fill_new (btnV x) Gx (by rw [btnV_len hx]; rfl) B0 hX0
      have G2y := (far _ hne).trans Gy
      refine wp_store_mid 33 (.tmp 7) (.tmp 14) (by rfl) gx 0 (btnV x).toArray (by rfl) (by rfl) ths (by simpa using szX) (all_one (btnV_one x)) ?_
      rw [hW]
      have MM := var_later Mh.out B6
      clear B0 far ths hW
      have B0 := B6
      refine hK.out _ _ ⟨mem_x MM, mem_y hx MM⟩ (fun _ => ?_)
      clear hK K
      try simp only [List.getElem_toArray, List.getElem_cons_succ, List.getElem_cons_zero, Act.put, List.setIfInBounds_toArray, List.set_cons_zero, List.set_cons_succ]
      clear MM Gy
      have Gy := G2y
      refine wpAnyH_ready (rs := [7]) (by kernel_rfl) (by simp) ?_
      refine AllReadyH.cons rfl (fun K hK => ?_) AllReadyH.nil
      obtain ⟨V4, hW, Fy, B7, far, ths⟩ := fill_new (btnV y) Gy (by rw [btnV_len hy]; rfl) B0 hY0
      have F2x := (far _ hne.symm).trans Fx
      refine wp_store_mid 33 (.tmp 8) (.tmp 16) (by rfl) gy 0 (btnV y).toArray (by rfl) (by rfl) ths (by simpa using szY) (all_one (btnV_one y)) ?_
      rw [hW]
      have MM := var_later Mh.out B7
      clear B0 far ths hW
      have B0 := B7
      refine hK.out _ _ ⟨mem_x MM, mem_y hx MM⟩ (fun _ => ?_)
      clear hK K
      try simp only [List.getElem_toArray, List.getElem_cons_succ, List.getElem_cons_zero, Act.put, List.setIfInBounds_toArray, List.set_cons_zero, List.set_cons_succ]
      refine wpAnyH_done (by kernel_rfl) ?_ _
      exact ⟨gx, gy, rfl, B0, hX0, hY0, F2x, Fy⟩
  cases e <;> try exact hR.elim
  obtain ⟨gx, gy, rfl, BW, hX0, hY0, FX, FY⟩ := hR
  simp only [List.cons_append, List.nil_append]
  have sV := HSZ.out
  have BA : Below W0.heap.size W0 W := below_step KB BW
  have P0 : PF W g W0.heap.size gx gy l x y b ns ne nc := ⟨var_later HP0.out.c BA, var_later HP0.out.b BA, (cell_at (var_later Y0 BW) 0).trans rfl, FX, FY⟩
  obtain ⟨S, hS⟩ : ∃ S : Nat → World → Prop, S = fun i W' => ∃ O, J i O W' ∧ Past O0 W O W' := ⟨_, rfl⟩
  have HI : ISt l (pressL b x y ns ne nc) (fun W => PF W g W0.heap.size gx gy l x y b ns ne nc) S := by
    subst hS
    constructor
    · rintro i W' ⟨O, hj, hp⟩
      have no : ∀ k, (k = g ∨ k = g + 1 + 1 ∨ W0.heap.size ≤ k) → ¬ O0 k := by
        intro k hk h
        have h1 := HO.out k h
        rcases hk with hk | hk | hk
        · exact h1.2.2 (.inl hk)
        · exact h1.2.2 (.inr (.inr hk))
        · omega
      exact ⟨hp.keep.at_ P0.c (no _ (.inl rfl)), hp.keep.at_ P0.b (no _ (.inr (.inl rfl))), hp.cell P0.yb (no _ (.inr (.inr (Nat.le_refl _)))), hp.keep.at_ P0.x (no _ (.inr (.inr (by omega)))), hp.keep.at_ P0.y (no _ (.inr (.inr (by omega))))⟩
    · rintro i p W' hip ⟨O, hj, hp⟩
      have hsz : W0.heap.size ≤ W'.heap.size := Nat.le_trans BA.size hp.keep.size
      obtain ⟨fn, tmps, assign, body, hy, hR⟩ := HY.out i #[prV p] O W' (by rw [List.getElem?_map, hip]; rfl) hj hsz
      refine ⟨fn, tmps, assign, body, hy, hR.mono fun e W2 h => ⟨h.1, ?_⟩⟩
      obtain ⟨_, O', h1, h2, h3⟩ := h
      exact ⟨O', h1, hp.next h2 h3⟩
  have S0 : S 0 W := by
    subst hS
    exact ⟨O0, HJ.out 0 O0 W0 W H0.out (Keep.of_below BA fun k hk _ => hk), Past.refl _ _⟩
  have HE : ∀ W', S (pressL b x y ns ne nc).length W' → ∃ O, J (List.map (fun p => #[prV p]) (pressL b x y ns ne nc)).length O W' := by
    subst hS
    rintro W' ⟨O, h, _⟩
    exact ⟨O, by rw [List.length_map]; exact h⟩
  have HEND := Lib.hid HE
  clear HE hS FX FY BW BA HO HJ HY H0 HP0 KB Y0 HSZ sV M0
  clear hX0 hY0 g0 g1 g2
  generalize W0.heap.size = yb at *
  have HF : ∀ W, PF W g yb gx gy l x y b ns ne nc → W.cell? ⟨yb, 0, none⟩ = some (.func (.yield l) #[] #[]) := fun W h => h.yb
  have HC1 : Hid (∀ (is : Bool) (W : World), (b.can && (x.can && !y.can)) = is → S (0) W → CallsIn Fence.wide 0 Try.prog 45 #[.int .u8 1, .bool is, .pointer (some ⟨yb, 0, none⟩)] W fun e W' => e = .returned (.bool true) ∧ S (n1 b x y) W') := by
    refine Lib.hid fun is W h hS => one_s HI HF 1 is (0) _ W (fun p hp => at1 (by rw [h]; exact hp)) ?_ hS
    first | (unfold n1; rw [h]; omega) | (unfold n2; rw [h])
  have HC2 : Hid (∀ (is : Bool) (W : World), (b.aut && (x.aut && !y.aut)) = is → S (n1 b x y) W → CallsIn Fence.wide 0 Try.prog 45 #[.int .u8 2, .bool is, .pointer (some ⟨yb, 0, none⟩)] W fun e W' => e = .returned (.bool true) ∧ S (n2 b x y) W') := by
    refine Lib.hid fun is W h hS => one_s HI HF 2 is (n1 b x y) _ W (fun p hp => at2 (by rw [h]; exact hp)) ?_ hS
    first | (unfold n1; rw [h]; omega) | (unfold n2; rw [h])
  have HC3 : Hid (∀ (W : World), S (n2 b x y) W → CallsIn Fence.wide 0 Try.prog 46 #[.int .u8 3, .int .u32 ((front b.ent x.ent y.ent).toNat : Int), .int .i64 ns, .pointer (some ⟨yb, 0, none⟩)] W fun e W' => e = .returned (.bool true) ∧ S (n3 b x y ns) W') :=
    Lib.hid fun W hS => row_s HI HF 3 (front b.ent x.ent y.ent) ns (n2 b x y) _ W (by omega) (fun i p hp => at3 hp) rfl hS
  have fr3 : bits .andNot .u32 (bits .and .u32 (b.ent.toNat : Int) x.ent.toNat) y.ent.toNat = ((front b.ent x.ent y.ent).toNat : Int) := by
    have h1 : bits .and .u32 (b.ent.toNat : Int) x.ent.toNat = ((b.ent &&& x.ent).toNat : Int) := Bv.bits_and .u32 rfl b.ent x.ent
    rw [h1]; exact Bv.bits_andNot .u32 rfl (b.ent &&& x.ent) y.ent
  have HC4 : Hid (∀ (W : World), S (n3 b x y ns) W → CallsIn Fence.wide 0 Try.prog 46 #[.int .u8 4, .int .u32 ((front b.via x.via y.via).toNat : Int), .int .i64 nc, .pointer (some ⟨yb, 0, none⟩)] W fun e W' => e = .returned (.bool true) ∧ S (n4 b x y ns nc) W') :=
    Lib.hid fun W hS => row_s HI HF 4 (front b.via x.via y.via) nc (n3 b x y ns) _ W (by omega) (fun i p hp => at4 hp) rfl hS
  have fr4 : bits .andNot .u32 (bits .and .u32 (b.via.toNat : Int) x.via.toNat) y.via.toNat = ((front b.via x.via y.via).toNat : Int) := by
    have h1 : bits .and .u32 (b.via.toNat : Int) x.via.toNat = ((b.via &&& x.via).toNat : Int) := Bv.bits_and .u32 rfl b.via x.via
    rw [h1]; exact Bv.bits_andNot .u32 rfl (b.via &&& x.via) y.via
  have HC5 : Hid (∀ (W : World), S (n4 b x y ns nc) W → CallsIn Fence.wide 0 Try.prog 46 #[.int .u8 5, .int .u32 ((front b.exi x.exi y.exi).toNat : Int), .int .i64 ne, .pointer (some ⟨yb, 0, none⟩)] W fun e W' => e = .returned (.bool true) ∧ S (n5 b x y ns ne nc) W') :=
    Lib.hid fun W hS => row_s HI HF 5 (front b.exi x.exi y.exi) ne (n4 b x y ns nc) _ W (by omega) (fun i p hp => at5 hp) rfl hS
  have fr5 : bits .andNot .u32 (bits .and .u32 (b.exi.toNat : Int) x.exi.toNat) y.exi.toNat = ((front b.exi x.exi y.exi).toNat : Int) := by
    have h1 : bits .and .u32 (b.exi.toNat : Int) x.exi.toNat = ((b.exi &&& x.exi).toNat : Int) := Bv.bits_and .u32 rfl b.exi x.exi
    rw [h1]; exact Bv.bits_andNot .u32 rfl (b.exi &&& x.exi) y.exi
  have HI' := Lib.hid HI
  have HP := Lib.hid P0
  have HS := Lib.hid S0
  have Hx := Lib.hid hx
  have Hy := Lib.hid hy
  have Hb := Lib.hid hb
  clear HI HF P0 S0 hx hy hb szB szX szY
  simp only [Exit.then]
  rename_i hk4
  refine hk4 _ _ ?_
  refine wpIn_seq_k fun K4 hK4 => ?_
  refine wpIn_seq_k fun K5 hK5 => ?_
  clear hk4
  refine wpIn_mono (Q := nq (fun a W => ∃ v17 v18 v19 v20 v21 v22 v23 v24 v25 v26 v27 v28 v29 v30 v31 v32 v33 v34 v35 v36 v37 v38 v39 v40 v41 v42 v43 v44 v45 : Value, a = { tmps := (([.func (.yield l) #[] #[], .pointer (some ⟨g + 1, 0, none⟩), .pointer (some ⟨g + 1 + 1, 0, none⟩), .pointer (some ⟨g, 0, none⟩), .pointer (some ⟨yb, 0, none⟩), .func (.func 45) #[] #[.pointer (some ⟨yb, 0, none⟩)], .func (.func 46) #[] #[.pointer (some ⟨yb, 0, none⟩)], .pointer (some ⟨gx, 0, none⟩), .pointer (some ⟨gy, 0, none⟩), undef, undef, .func (.func 45) #[] #[.pointer (some ⟨yb, 0, none⟩)], .func (.func 46) #[] #[.pointer (some ⟨yb, 0, none⟩)], .pointer (some ⟨g + 1, 0, none⟩), .agg (btnV x).toArray, .pointer (some ⟨g + 1, 29, none⟩), .agg (btnV y).toArray] ++ ([v17, v18, v19, v20, v21, v22, v23, v24, v25, v26, v27, v28, v29, v30, v31, v32, v33, v34, v35, v36, v37, v38, v39, v40, v41, v42, v43, v44, v45, .bool false] ++ ([undef, undef, undef, undef, undef, undef, undef, undef, undef, undef, undef, undef, undef, undef, undef, undef, undef, undef, undef, undef, undef, undef, undef, undef, undef, undef, undef, undef, undef, undef, undef] ++ [undef, undef, undef, undef, undef, undef, undef, undef, undef, undef, undef, undef, undef, undef, undef, undef, undef, undef, undef, undef, undef, undef, undef, undef, undef, undef, undef, undef, undef, undef, undef, undef, undef, undef, undef, undef, undef, undef, undef, undef, undef, undef, undef, undef, undef, undef, undef, undef, undef, undef, undef, undef, undef, undef, undef, undef, undef, undef, undef, undef]))) : List Value).toArray, defers := [] } ∧ Hid (S (n2 b x y) W))) ?_ (fun e a W1 hR => ?_)
  · obtain ⟨c1, c2, c3⟩ := HP.out.can
    cases hcanb : b.can
    · rw [hcanb] at c1
      have Hcanb := Lib.hid hcanb
      clear hcanb
      gi_wp2
      refine ⟨trivial, rfl, (HC1.out false _ (by rw [Hcanb.out]; rfl) HS.out).mono ?_⟩
      rintro e W1 ⟨rfl, hS1⟩
      clear c1 c2 c3
      obtain ⟨c1, c2, c3⟩ := (HI'.out.pf _ _ hS1).aut
      have HS1 := Lib.hid hS1
      clear hS1
      cases hautb : b.aut
      · rw [hautb] at c1
        have Hautb := Lib.hid hautb
        clear hautb
        gi_wp2
        refine ⟨trivial, rfl, (HC2.out false _ (by rw [Hautb.out]; rfl) HS1.out).mono ?_⟩
        rintro e W2 ⟨rfl, hS2⟩
        have HS2 := Lib.hid hS2
        clear hS2 c1 c2 c3
        gi_wp2
        first | exact ⟨⟨_, _, _, _, _, _, _, _, _, _, _, _, _, _, _, _, _, _, _, _, _, _, _, _, _, _, _, _, _, rfl⟩, HS2⟩ | exact ⟨_, _, _, _, _, _, _, _, _, _, _, _, _, _, _, _, _, _, _, _, _, _, _, _, _, _, _, _, _, rfl, HS2⟩
      · rw [hautb] at c1
        have Hautb := Lib.hid hautb
        clear hautb
        cases hautx : x.aut
        · rw [hautx] at c2
          have Hautx := Lib.hid hautx
          clear hautx
          gi_wp2
          refine ⟨trivial, rfl, (HC2.out false _ (by rw [Hautb.out, Hautx.out]; rfl) HS1.out).mono ?_⟩
          rintro e W2 ⟨rfl, hS2⟩
          have HS2 := Lib.hid hS2
          clear hS2 c1 c2 c3
          gi_wp2
          first | exact ⟨⟨_, _, _, _, _, _, _, _, _, _, _, _, _, _, _, _, _, _, _, _, _, _, _, _, _, _, _, _, _, rfl⟩, HS2⟩ | exact ⟨_, _, _, _, _, _, _, _, _, _, _, _, _, _, _, _, _, _, _, _, _, _, _, _, _, _, _, _, _, rfl, HS2⟩
        · rw [hautx] at c2
          have Hautx := Lib.hid hautx
          clear hautx
          cases hauty : y.aut
          · rw [hauty] at c3
            have Hauty := Lib.hid hauty
            clear hauty
            gi_wp2
            refine ⟨trivial, rfl, (HC2.out true _ (by rw [Hautb.out, Hautx.out, Hauty.out]; rfl) HS1.out).mono ?_⟩
            rintro e W2 ⟨rfl, hS2⟩
            have HS2 := Lib.hid hS2
            clear hS2 c1 c2 c3
            gi_wp2
            first | exact ⟨⟨_, _, _, _, _, _, _, _, _, _, _, _, _, _, _, _, _, _, _, _, _, _, _, _, _, _, _, _, _, rfl⟩, HS2⟩ | exact ⟨_, _, _, _, _, _, _, _, _, _, _, _, _, _, _, _, _, _, _, _, _, _, _, _, _, _, _, _, _, rfl, HS2⟩
          · rw [hauty] at c3
            have Hauty := Lib.hid hauty
            clear hauty
            gi_wp2
            refine ⟨trivial, rfl, (HC2.out false _ (by rw [Hautb.out, Hautx.out, Hauty.out]; rfl) HS1.out).mono ?_⟩
            rintro e W2 ⟨rfl, hS2⟩
            have HS2 := Lib.hid hS2
            clear hS2 c1 c2 c3
            gi_wp2
            first | exact ⟨⟨_, _, _, _, _, _, _, _, _, _, _, _, _, _, _, _, _, _, _, _, _, _, _, _, _, _, _, _, _, rfl⟩, HS2⟩ | exact ⟨_, _, _, _, _, _, _, _, _, _, _, _, _, _, _, _, _, _, _, _, _, _, _, _, _, _, _, _, _, rfl, HS2⟩
    · rw [hcanb] at c1
      have Hcanb := Lib.hid hcanb
      clear hcanb
      cases hcanx : x.can
      · rw [hcanx] at c2
        have Hcanx := Lib.hid hcanx
        clear hcanx
        gi_wp2
        refine ⟨trivial, rfl, (HC1.out false _ (by rw [Hcanb.out, Hcanx.out]; rfl) HS.out).mono ?_⟩
        rintro e W1 ⟨rfl, hS1⟩
        clear c1 c2 c3
        obtain ⟨c1, c2, c3⟩ := (HI'.out.pf _ _ hS1).aut
        have HS1 := Lib.hid hS1
        clear hS1
        cases hautb : b.aut
        · rw [hautb] at c1
          have Hautb := Lib.hid hautb
          clear hautb
          gi_wp2
          refine ⟨trivial, rfl, (HC2.out false _ (by rw [Hautb.out]; rfl) HS1.out).mono ?_⟩
          rintro e W2 ⟨rfl, hS2⟩
          have HS2 := Lib.hid hS2
          clear hS2 c1 c2 c3
          gi_wp2
          first | exact ⟨⟨_, _, _, _, _, _, _, _, _, _, _, _, _, _, _, _, _, _, _, _, _, _, _, _, _, _, _, _, _, rfl⟩, HS2⟩ | exact ⟨_, _, _, _, _, _, _, _, _, _, _, _, _, _, _, _, _, _, _, _, _, _, _, _, _, _, _, _, _, rfl, HS2⟩
        · rw [hautb] at c1
          have Hautb := Lib.hid hautb
          clear hautb
          cases hautx : x.aut
          · rw [hautx] at c2
            have Hautx := Lib.hid hautx
            clear hautx
            gi_wp2
            refine ⟨trivial, rfl, (HC2.out false _ (by rw [Hautb.out, Hautx.out]; rfl) HS1.out).mono ?_⟩
            rintro e W2 ⟨rfl, hS2⟩
            have HS2 := Lib.hid hS2
            clear hS2 c1 c2 c3
            gi_wp2
            first | exact ⟨⟨_, _, _, _, _, _, _, _, _, _, _, _, _, _, _, _, _, _, _, _, _, _, _, _, _, _, _, _, _, rfl⟩, HS2⟩ | exact ⟨_, _, _, _, _, _, _, _, _, _, _, _, _, _, _, _, _, _, _, _, _, _, _, _, _, _, _, _, _, rfl, HS2⟩
          · rw [hautx] at c2
            have Hautx := Lib.hid hautx
            clear hautx
            cases hauty : y.aut
            · rw [hauty] at c3
              have Hauty := Lib.hid hauty
              clear hauty
              gi_wp2
              refine ⟨trivial, rfl, (HC2.out true _ (by rw [Hautb.out, Hautx.out, Hauty.out]; rfl) HS1.out).mono ?_⟩
              rintro e W2 ⟨rfl, hS2⟩
              have HS2 := Lib.hid hS2
              clear hS2 c1 c2 c3
              gi_wp2
              first | exact ⟨⟨_, _, _, _, _, _, _, _, _, _, _, _, _, _, _, _, _, _, _, _, _, _, _, _, _, _, _, _, _, rfl⟩, HS2⟩ | exact ⟨_, _, _, _, _, _, _, _, _, _, _, _, _, _, _, _, _, _, _, _, _, _, _, _, _, _, _, _, _, rfl, HS2⟩
            · rw [hauty] at c3
              have Hauty := Lib.hid hauty
              clear hauty
              gi_wp2
              refine ⟨trivial, rfl, (HC2.out false _ (by rw [Hautb.out, Hautx.out, Hauty.out]; rfl) HS1.out).mono ?_⟩
              rintro e W2 ⟨rfl, hS2⟩
              have HS2 := Lib.hid hS2
              clear hS2 c1 c2 c3
              gi_wp2
              first | exact ⟨⟨_, _, _, _, _, _, _, _, _, _, _, _, _, _, _, _, _, _, _, _, _, _, _, _, _, _, _, _, _, rfl⟩, HS2⟩ | exact ⟨_, _, _, _, _, _, _, _, _, _, _, _, _, _, _, _, _, _, _, _, _, _, _, _, _, _, _, _, _, rfl, HS2⟩
      · rw [hcanx] at c2
        have Hcanx := Lib.hid hcanx
        clear hcanx
        cases hcany : y.can
        · rw [hcany] at c3
          have Hcany := Lib.hid hcany
          clear hcany
          gi_wp2
          refine ⟨trivial, rfl, (HC1.out true _ (by rw [Hcanb.out, Hcanx.out, Hcany.out]; rfl) HS.out).mono ?_⟩
          rintro e W1 ⟨rfl, hS1⟩
          clear c1 c2 c3
          obtain ⟨c1, c2, c3⟩ := (HI'.out.pf _ _ hS1).aut
          have HS1 := Lib.hid hS1
          clear hS1
          cases hautb : b.aut
          · rw [hautb] at c1
            have Hautb := Lib.hid hautb
            clear hautb
            gi_wp2
            refine ⟨trivial, rfl, (HC2.out false _ (by rw [Hautb.out]; rfl) HS1.out).mono ?_⟩
            rintro e W2 ⟨rfl, hS2⟩
            have HS2 := Lib.hid hS2
            clear hS2 c1 c2 c3
            gi_wp2
            first | exact ⟨⟨_, _, _, _, _, _, _, _, _, _, _, _, _, _, _, _, _, _, _, _, _, _, _, _, _, _, _, _, _, rfl⟩, HS2⟩ | exact ⟨_, _, _, _, _, _, _, _, _, _, _, _, _, _, _, _, _, _, _, _, _, _, _, _, _, _, _, _, _, rfl, HS2⟩
          · rw [hautb] at c1
            have Hautb := Lib.hid hautb
            clear hautb
            cases hautx : x.aut
            · rw [hautx] at c2
              have Hautx := Lib.hid hautx
              clear hautx
              gi_wp2
              refine ⟨trivial, rfl, (HC2.out false _ (by rw [Hautb.out, Hautx.out]; rfl) HS1.out).mono ?_⟩
              rintro e W2 ⟨rfl, hS2⟩
              have HS2 := Lib.hid hS2
              clear hS2 c1 c2 c3
              gi_wp2
              first | exact ⟨⟨_, _, _, _, _, _, _, _, _, _, _, _, _, _, _, _, _, _, _, _, _, _, _, _, _, _, _, _, _, rfl⟩, HS2⟩ | exact ⟨_, _, _, _, _, _, _, _, _, _, _, _, _, _, _, _, _, _, _, _, _, _, _, _, _, _, _, _, _, rfl, HS2⟩
            · rw [hautx] at c2
              have Hautx := Lib.hid hautx
              clear hautx
              cases hauty : y.aut
              · rw [hauty] at c3
                have Hauty := Lib.hid hauty
                clear hauty
                gi_wp2
                refine ⟨trivial, rfl, (HC2.out true _ (by rw [Hautb.out, Hautx.out, Hauty.out]; rfl) HS1.out).mono ?_⟩
                rintro e W2 ⟨rfl, hS2⟩
                have HS2 := Lib.hid hS2
                clear hS2 c1 c2 c3
                gi_wp2
                first | exact ⟨⟨_, _, _, _, _, _, _, _, _, _, _, _, _, _, _, _, _, _, _, _, _, _, _, _, _, _, _, _, _, rfl⟩, HS2⟩ | exact ⟨_, _, _, _, _, _, _, _, _, _, _, _, _, _, _, _, _, _, _, _, _, _, _, _, _, _, _, _, _, rfl, HS2⟩
              · rw [hauty] at c3
                have Hauty := Lib.hid hauty
                clear hauty
                gi_wp2
                refine ⟨trivial, rfl, (HC2.out false _ (by rw [Hautb.out, Hautx.out, Hauty.out]; rfl) HS1.out).mono ?_⟩
                rintro e W2 ⟨rfl, hS2⟩
                have HS2 := Lib.hid hS2
                clear hS2 c1 c2 c3
                gi_wp2
                first | exact ⟨⟨_, _, _, _, _, _, _, _, _, _, _, _, _, _, _, _, _, _, _, _, _, _, _, _, _, _, _, _, _, rfl⟩, HS2⟩ | exact ⟨_, _, _, _, _, _, _, _, _, _, _, _, _, _, _, _, _, _, _, _, _, _, _, _, _, _, _, _, _, rfl, HS2⟩
        · rw [hcany] at c3
          have Hcany := Lib.hid hcany
          clear hcany
          gi_wp2
          refine ⟨trivial, rfl, (HC1.out false _ (by rw [Hcanb.out, Hcanx.out, Hcany.out]; rfl) HS.out).mono ?_⟩
          rintro e W1 ⟨rfl, hS1⟩
          clear c1 c2 c3
          obtain ⟨c1, c2, c3⟩ := (HI'.out.pf _ _ hS1).aut
          have HS1 := Lib.hid hS1
          clear hS1
          cases hautb : b.aut
          · rw [hautb] at c1
            have Hautb := Lib.hid hautb
            clear hautb
            gi_wp2
            refine ⟨trivial, rfl, (HC2.out false _ (by rw [Hautb.out]; rfl) HS1.out).mono ?_⟩
            rintro e W2 ⟨rfl, hS2⟩
            have HS2 := Lib.hid hS2
            clear hS2 c1 c2 c3
            gi_wp2
            first | exact ⟨⟨_, _, _, _, _, _, _, _, _, _, _, _, _, _, _, _, _, _, _, _, _, _, _, _, _, _, _, _, _, rfl⟩, HS2⟩ | exact ⟨_, _, _, _, _, _, _, _, _, _, _, _, _, _, _, _, _, _, _, _, _, _, _, _, _, _, _, _, _, rfl, HS2⟩
          · rw [hautb] at c1
            have Hautb := Lib.hid hautb
            clear hautb
            cases hautx : x.aut
            · rw [hautx] at c2
              have Hautx := Lib.hid hautx
              clear hautx
              gi_wp2
              refine ⟨trivial, rfl, (HC2.out false _ (by rw [Hautb.out, Hautx.out]; rfl) HS1.out).mono ?_⟩
              rintro e W2 ⟨rfl, hS2⟩
              have HS2 := Lib.hid hS2
              clear hS2 c1 c2 c3
              gi_wp2
              first | exact ⟨⟨_, _, _, _, _, _, _, _, _, _, _, _, _, _, _, _, _, _, _, _, _, _, _, _, _, _, _, _, _, rfl⟩, HS2⟩ | exact ⟨_, _, _, _, _, _, _, _, _, _, _, _, _, _, _, _, _, _, _, _, _, _, _, _, _, _, _, _, _, rfl, HS2⟩
            · rw [hautx] at c2
              have Hautx := Lib.hid hautx
              clear hautx
              cases hauty : y.aut
              · rw [hauty] at c3
                have Hauty := Lib.hid hauty
                clear hauty
                gi_wp2
                refine ⟨trivial, rfl, (HC2.out true _ (by rw [Hautb.out, Hautx.out, Hauty.out]; rfl) HS1.out).mono ?_⟩
                rintro e W2 ⟨rfl, hS2⟩
                have HS2 := Lib.hid hS2
                clear hS2 c1 c2 c3
                gi_wp2
                first | exact ⟨⟨_, _, _, _, _, _, _, _, _, _, _, _, _, _, _, _, _, _, _, _, _, _, _, _, _, _, _, _, _, rfl⟩, HS2⟩ | exact ⟨_, _, _, _, _, _, _, _, _, _, _, _, _, _, _, _, _, _, _, _, _, _, _, _, _, _, _, _, _, rfl, HS2⟩
              · rw [hauty] at c3
                have Hauty := Lib.hid hauty
                clear hauty
                gi_wp2
                refine ⟨trivial, rfl, (HC2.out false _ (by rw [Hautb.out, Hautx.out, Hauty.out]; rfl) HS1.out).mono ?_⟩
                rintro e W2 ⟨rfl, hS2⟩
                have HS2 := Lib.hid hS2
                clear hS2 c1 c2 c3
                gi_wp2
                first | exact ⟨⟨_, _, _, _, _, _, _, _, _, _, _, _, _, _, _, _, _, _, _, _, _, _, _, _, _, _, _, _, _, rfl⟩, HS2⟩ | exact ⟨_, _, _, _, _, _, _, _, _, _, _, _, _, _, _, _, _, _, _, _, _, _, _, _, _, _, _, _, _, rfl, HS2⟩
  cases e <;> try exact hR.elim
  obtain ⟨v17, v18, v19, v20, v21, v22, v23, v24, v25, v26, v27, v28, v29, v30, v31, v32, v33, v34, v35, v36, v37, v38, v39, v40, v41, v42, v43, v44, v45, rfl, HS2⟩ := hR
  simp only [List.cons_append, List.nil_append]
  clear HS HP HC1 HC2
  obtain ⟨c1, c2, c3, c4⟩ := (HI'.out.pf _ _ HS2.out).ent
  gi_wp2
  refine ⟨trivial, rfl, (HC3.out _ HS2.out).mono ?_⟩
  rintro e W2 ⟨rfl, hS3⟩
  have HS3 := Lib.hid hS3
  clear hS3 HS2 c1 c2 c3 c4
  obtain ⟨c1, c2, c3, c4⟩ := (HI'.out.pf _ _ HS3.out).via
  gi_wp2
  refine ⟨trivial, rfl, (HC4.out _ HS3.out).mono ?_⟩
  rintro e W3 ⟨rfl, hS4⟩
  have HS4 := Lib.hid hS4
  clear hS4 HS3 c1 c2 c3 c4
  obtain ⟨c1, c2, c3, c4⟩ := (HI'.out.pf _ _ HS4.out).exi
  gi_wp2
  refine ⟨trivial, rfl, (HC5.out _ HS4.out).mono ?_⟩
  rintro e W4 ⟨rfl, hS5⟩
  have HS5 := Lib.hid hS5
  clear hS5 HS4 c1 c2 c3 c4
  obtain ⟨_, _, _, c4⟩ := (HI'.out.pf _ _ HS5.out).via
  have i1 : (nc : Int) ≤ 24 := by omega
  gi_wp2
  gi_loopw [95] (fun i wr => ∃ k : Nat, k ≤ nc ∧ i = .int .i64 k ∧ Hid (S (n5 b x y ns ne nc + (keyP b x y k).length) wr)) (fun i _ => nc - (intOf i).toNat)
  case atStart => exact ⟨0, Nat.zero_le _, rfl, Lib.hid (by simpa [keyP] using HS5.out)⟩
  case round =>
    obtain ⟨k, hk, rfl, HS⟩ := hrel
    clear HS5 c4 HC3 HC4 HC5 fr3 fr4 fr5 i1
    by_cases hlt : k < nc
    · have i1 : (k : Int) < (nc : Int) := by omega
      have i2 : (k : Int) < 24 := by omega
      have pf := HI'.out.pf _ _ HS.out
      have hyb := pf.yb
      obtain ⟨kb, kx, ky⟩ := pf.key (i := k) (by rw [Hb.out]; omega) (by rw [Hx.out]; omega) (by rw [Hy.out]; omega)
      have HYES : Hid (onI (b.keys.getD k 0#8).toNat (x.keys.getD k 0#8).toNat (y.keys.getD k 0#8).toNat = true → YieldAt Fence.wide 0 Try.prog l #[prV (6, (k : Int), ((b.keys.getD k 0#8).toNat : Int) - 1)] wr fun e W' => e = .returned (.bool true) ∧ S (n5 b x y ns ne nc + (keyP b x y (k + 1)).length) W') :=
        Lib.hid fun h => by rw [on_eq] at h; rw [keyP_yes h]; exact HI'.out.step _ _ _ (at6 (keyP_at h hlt)) HS.out
      have HNO : Hid (onI (b.keys.getD k 0#8).toNat (x.keys.getD k 0#8).toNat (y.keys.getD k 0#8).toNat = false → S (n5 b x y ns ne nc + (keyP b x y (k + 1)).length) wr) :=
        Lib.hid fun h => by rw [on_eq] at h; rw [keyP_no h]; exact HS.out
      generalize ((b.keys.getD k 0#8).toNat : Int) = ib at *
      generalize ((x.keys.getD k 0#8).toNat : Int) = ix at *
      generalize ((y.keys.getD k 0#8).toNat : Int) = iy at *
      clear pf
      by_cases b1 : ib = 1
      · subst b1
        by_cases bx : (ix == 1) = true
        · have bx2 : (ix != 1) = false := by simp [bne, bx]
          by_cases by_ : (iy == 1) = true
          · skip
            have HS' := Lib.hid (HNO.out (by clear HYES HNO; simp only [beq_iff_eq, bne_iff_ne, beq_eq_false_iff_ne, ne_eq] at *; simp [onI]; try omega))
            clear HYES HNO
            gi_wp2
            go_roundw
            case rel => exact ⟨k + 1, by omega, by go_num, HS'⟩
            case measure => simp [intOf]; omega
          · have by2 : (iy == 1) = false := by simpa using by_
            clear by_
            by_cases b3 : (iy == 3) = true
            · skip
              have HS' := Lib.hid (HNO.out (by clear HYES HNO; simp only [beq_iff_eq, bne_iff_ne, beq_eq_false_iff_ne, ne_eq] at *; simp [onI]; try omega))
              clear HYES HNO
              gi_wp2
              go_roundw
              case rel => exact ⟨k + 1, by omega, by go_num, HS'⟩
              case measure => simp [intOf]; omega
            · have b32 : (iy == 3) = false := by simpa using b3
              clear b3
              have hyl : YieldAt Fence.wide 0 Try.prog l #[.agg #[.int .u8 6, .int .i64 k, .int .i64 0]] wr fun e W' => e = .returned (.bool true) ∧ S (n5 b x y ns ne nc + (keyP b x y (k + 1)).length) W' := HYES.out (by clear HYES HNO; simp only [beq_iff_eq, bne_iff_ne, beq_eq_false_iff_ne, ne_eq] at *; simp [onI]; try omega)
              obtain ⟨fn, tmps, assign, body, hy, hR⟩ := hyl
              clear HYES HNO
              gi_wp2
              refine ⟨rfl, hR.mono ?_⟩
              rintro e W' ⟨rfl, hQ⟩
              have HQ := Lib.hid hQ
              clear hy hR hQ
              gi_wp2
              go_roundw
              case rel => exact ⟨k + 1, by omega, by go_num, HQ⟩
              case measure => simp [intOf]; omega
        · have bx2 : (ix == 1) = false := by simpa using bx
          have bx3 : (ix != 1) = true := by simp [bne, bx2]
          clear bx
          have HS' := Lib.hid (HNO.out (by clear HYES HNO; simp only [beq_iff_eq, bne_iff_ne, beq_eq_false_iff_ne, ne_eq] at *; simp [onI]; try omega))
          clear HYES HNO
          gi_wp2
          go_roundw
          case rel => exact ⟨k + 1, by omega, by go_num, HS'⟩
          case measure => simp [intOf]; omega
      · by_cases b2 : ib = 2
        · subst b2
          clear b1
          by_cases bx : (ix == 2) = true
          · have bx2 : (ix != 2) = false := by simp [bne, bx]
            by_cases by_ : (iy == 2) = true
            · skip
              have HS' := Lib.hid (HNO.out (by clear HYES HNO; simp only [beq_iff_eq, bne_iff_ne, beq_eq_false_iff_ne, ne_eq] at *; simp [onI]; try omega))
              clear HYES HNO
              gi_wp2
              go_roundw
              case rel => exact ⟨k + 1, by omega, by go_num, HS'⟩
              case measure => simp [intOf]; omega
            · have by2 : (iy == 2) = false := by simpa using by_
              clear by_
              by_cases b3 : (iy == 3) = true
              · skip
                have HS' := Lib.hid (HNO.out (by clear HYES HNO; simp only [beq_iff_eq, bne_iff_ne, beq_eq_false_iff_ne, ne_eq] at *; simp [onI]; try omega))
                clear HYES HNO
                gi_wp2
                go_roundw
                case rel => exact ⟨k + 1, by omega, by go_num, HS'⟩
                case measure => simp [intOf]; omega
              · have b32 : (iy == 3) = false := by simpa using b3
                clear b3
                have hyl : YieldAt Fence.wide 0 Try.prog l #[.agg #[.int .u8 6, .int .i64 k, .int .i64 1]] wr fun e W' => e = .returned (.bool true) ∧ S (n5 b x y ns ne nc + (keyP b x y (k + 1)).length) W' := HYES.out (by clear HYES HNO; simp only [beq_iff_eq, bne_iff_ne, beq_eq_false_iff_ne, ne_eq] at *; simp [onI]; try omega)
                obtain ⟨fn, tmps, assign, body, hy, hR⟩ := hyl
                clear HYES HNO
                gi_wp2
                refine ⟨rfl, hR.mono ?_⟩
                rintro e W' ⟨rfl, hQ⟩
                have HQ := Lib.hid hQ
                clear hy hR hQ
                gi_wp2
                go_roundw
                case rel => exact ⟨k + 1, by omega, by go_num, HQ⟩
                case measure => simp [intOf]; omega
          · have bx2 : (ix == 2) = false := by simpa using bx
            have bx3 : (ix != 2) = true := by simp [bne, bx2]
            clear bx
            have HS' := Lib.hid (HNO.out (by clear HYES HNO; simp only [beq_iff_eq, bne_iff_ne, beq_eq_false_iff_ne, ne_eq] at *; simp [onI]; try omega))
            clear HYES HNO
            gi_wp2
            go_roundw
            case rel => exact ⟨k + 1, by omega, by go_num, HS'⟩
            case measure => simp [intOf]; omega
        · have t1 : (ib == 1) = false := by simpa using b1
          have t2 : (ib == 2) = false := by simpa using b2
          have t3 : (ib != 1) = true := by simpa using b1
          have t4 : (ib != 2) = true := by simpa using b2
          have HS' := Lib.hid (HNO.out (by clear HYES HNO; simp only [beq_iff_eq, bne_iff_ne, beq_eq_false_iff_ne, ne_eq] at *; simp [onI]; try omega))
          clear HYES HNO
          gi_wp2
          go_roundw
          case rel => exact ⟨k + 1, by omega, by go_num, HS'⟩
          case measure => simp [intOf]; omega
    · obtain rfl : k = nc := by omega
      gi_wp2
      go_end0
      exact ⟨⟨_, rfl⟩, HEND.out _ (by rw [n6]; exact HS.out)⟩
end Go.Proofs.Ytioggdiicgfoaaa
