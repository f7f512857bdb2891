/- The contract of Show, over a kernel of one route that is clear. Nothing that was there is turned. -/
import Derived.Test.YtkmioplegjeopaaAspQ
namespace Go.Proofs.Ytkmioplegjeopaa
open Go.RowKit Rf Mem Bv AM
attribute [local go_sem ↓] run_max2 run_min2
attribute [local go_sem] Oper.semAt_some
/-- what the iterator over one route reads -/
structure K1 (w : World) (gk gl gm g c : Nat) (I : IM) (K L M cs : List Value) (q : HeldM) : Prop where
  k : w.heap[gk]? = some (.cells K.toArray 41 (0, 0))
  h : K[1]? = some (.slice (some ⟨g, 0, none⟩) 1 c)
  v : V2 w gl gm L M
  a : IMA I L M w
  b : Blk w g cs
  q : HeldAt w cs q
theorem K1.later {w w' : World} {gk gl gm g c : Nat} {I : IM} {K L M cs : List Value} {q : HeldM} (h : K1 w gk gl gm g c I K L M cs q) (b : Below w.heap.size w w') : K1 w' gk gl gm g c I K L M cs q :=
  ⟨var_later h.k b, h.h, h.v.later b, h.a.later b, h.b.later b, h.q.later b⟩
set_option maxHeartbeats 2000000 in
set_option maxRecDepth 100000 in
theorem clear1s (w : World) (I : IM) (K L M cs : List Value) (q : HeldM) (gk gl gm g c : Nat) (h0 : K1 w gk gl gm g c I K L M cs q) (hcl : true = clearB I.stand I.occB I.litB q) (s1 : q.needs.length ≤ 5864062014700) (s2 : q.steps.length ≤ 5864062014700) (s3 : q.over.length ≤ 5864062014700) :
    Iter Try.prog 40 #[.pointer (some ⟨gk, 0, none⟩), .pointer (some ⟨gl, 0, none⟩), .pointer (some ⟨gm, 0, none⟩)] (fun _ => False) (fun _ => False) [#[.int .i64 0, .agg cs.toArray]] (fun W => Below w.heap.size w W) := by
  intro lp J O0 W0 hPre hO hJ hY hj0
  have szL := lay_size h0.a.f.l.len
  have szM := img_size h0.a.f.m.len
  have HY := Lib.hid hY
  have HJK := Lib.hid hJ
  have H0 := Lib.hid h0
  have F0 := h0.later hPre
  have x0 := cell_list F0.k F0.h
  have HCL := Lib.hid hcl
  clear hY hO hJ h0 hcl
  refine callsIn_of_wp Try.func40 rfl trivial ?_ rfl
  simp only [Try.ntmps40, List.size_toArray, List.length_cons, List.length_nil, Nat.reduceAdd, Nat.reduceSub, Array.replicate_succ, Array.replicate_zero, List.push_toArray, List.append_toArray, List.nil_append, List.cons_append]
  gi_wp2
  gi_loopw [10] (fun i wr => ∃ (k : Nat) (O : Nat → Prop), k ≤ 1 ∧ i = .int .i64 k ∧ Hid (J k O wr) ∧ (k = 0 → Below w.heap.size w wr) ∧ W0.heap.size ≤ wr.heap.size) (fun i _ => 1 - (intOf i).toNat)
  case atStart => exact ⟨0, O0, by omega, rfl, Lib.hid hj0, fun _ => hPre, Nat.le_refl _⟩
  case round =>
    obtain ⟨k, O, hk, rfl, HJ, hB, hsz⟩ := hrel
    clear x0 hPre F0
    by_cases hlt : k < 1
    · have hk0 : k = 0 := by omega
      have F := H0.out.later (hB hk0)
      have hr := F.b.rng
      have szS := held_size F.q.len
      obtain ⟨Ws, hWs, k3, k4, k2⟩ := newv (V := wr) cs zHeld 52 (by rw [F.q.len]; rfl)
      have szm : (Try.prog.info? 52).map (·.size) = some cs.toArray.size := by simpa using szS
      have oneS : cs.toArray.all (·.oneCell') = true := all_one F.q.one
      have F2 := F.later k4
      have hk1 : Keep (fun q => q < wr.heap.size) wr Ws := Keep.of_below k4 (fun _ h _ => h)
      have hsz2 : W0.heap.size ≤ Ws.heap.size := Nat.le_trans hsz k4.size
      have HJ2 := Lib.hid (HJK.out _ _ _ _ HJ.out (hk1.mono (fun q hq _ => hq)))
      have i1 : (k : Int) < 1 := by omega
      have RS := range_of k3
      have RL := range_of F2.v.l
      have RM := range_of F2.v.m
      have HWS := Lib.hid hWs
      have HB := Lib.hid hB
      clear hWs k4 hB
      gi_wp2_with (first
        | refine wpListIn_load_g rfl 52 (.tmp 13) (by rfl) g 0 (by rfl) cs _ hr Try.underlying52 rfl szS ?_
        | (refine wpListIn_store_g rfl 52 (.tmp 6) (.tmp 14) (by rfl) wr.heap.size 0 cs.toArray (by rfl) (by rfl) k2 szm oneS ?_; rw [HWS.out])
        | refine wpListIn_load_g rfl 29 (.tmp 2) (by rfl) gl 0 (by rfl) L _ RL Try.underlying29 rfl szL ?_
        | refine wpListIn_load_g rfl 35 (.tmp 3) (by rfl) gm 0 (by rfl) M _ RM Try.underlying35 rfl szM ?_
        | refine wpListIn_load_g rfl 52 (.tmp 6) (by rfl) wr.heap.size 0 (by rfl) cs _ RS Try.underlying52 rfl szS ?_)
      refine ⟨trivial, rfl, (callsIn_wide.2 (Clear_c I L M cs q true _ HCL.out F2.a F2.q s1 s2 s3)).mono ?_⟩
      rintro e W3 ⟨rfl, b3⟩
      have hk3 : Keep (fun q => q < Ws.heap.size) Ws W3 := Keep.of_below b3 (fun _ h _ => h)
      have hsz3 : W0.heap.size ≤ W3.heap.size := Nat.le_trans hsz2 b3.size
      have hJ3 := HJK.out _ _ _ _ HJ2.out (hk3.mono (fun q hq _ => hq))
      have RS3 := range_of (var_later k3 b3)
      have hyl := HY.out 0 _ O W3 rfl (hk0 ▸ hJ3) hsz3
      have HK0 := Lib.hid hk0
      clear RS RL RM hr k2 szm oneS k3 b3 hJ3 F F2
      obtain ⟨fn, tmps, assign, body, hy, hR⟩ := hyl
      gi_wp2_with (first
        | refine wpListIn_load_w (by rfl) 52 (.tmp 6) (by rfl) wr.heap.size 0 (by rfl) cs _ RS3 Try.underlying52 rfl szS ?_)
      refine ⟨rfl, hR.mono ?_⟩
      rintro e W' ⟨rfl, O', hJ', ho', hk'⟩
      have hs' := hk'.size
      clear hy hR RS3
      gi_wp2
      go_roundw
      case rel => exact ⟨1, O', by omega, by simp, Lib.hid hJ', fun h => by omega, by omega⟩
      case measure => simp [intOf]; omega
    · obtain rfl : k = 1 := by omega
      gi_wp2
      go_end0
      exact ⟨⟨_, rfl⟩, O, HJ.out⟩
theorem bodyPostM_mid {T : TypeId} {d : TypeDesc} (hu : Try.prog.underlying T = some d) (hd : d.isRow = true) {fn : Func} {R : Ending → World → Prop} {t : Tmp} (hf : fn.results = #[.cell t T]) {tmps : Array Value} {D g : Nat} {W : World} {M : List Value} {u : TypeId} {f : Nat × Nat} (hi : (Try.prog.info? T).map (·.size) = some M.length)
    (hD : W.heap[D]? = some (.deferred (some []))) (hs : tmps.getD t undef = .pointer (some ⟨g, 0, none⟩)) (hg : W.heap[g]? = some (.cells M.toArray u f)) (h : R (.returned (.agg M.toArray)) (W.putObj D (.deferred none))) :
    bodyPostM Fence.wide 0 Try.prog fn R .ret { tmps := tmps, defers := [{ target := .collected D, args := #[] }] } W := by
  have n1 : g ≠ D := by rintro rfl; rw [hD] at hg; cases hg
  refine ⟨by simp, .inl ⟨_, _, rfl, run_takeDeferred hD, ?_⟩⟩
  exact ⟨_, res_mid hu hd hf hi hs ((World.putObj_heap_other n1).trans hg), h⟩
/-- what Show's loop holds -/
structure SH (w W : World) (K' : List Value) (zk : Array Value) (g i : Nat) : Prop where
  bel : Below w.heap.size w W
  k : W.heap[w.heap.size + 1 + 1]? = some (.cells K'.toArray 41 (0, 0))
  z : W.heap[w.heap.size + 1 + 1 + 1]? = some (.cells zk 41 (0, 0))
  b : ∃ cur, W.heap[g]? = some (.cells cur 52 (0, 0)) ∧ 23 ≤ cur.size
  t : i = 1 → W.cell? ⟨g, 22, none⟩ = some (.bool true)
theorem SH.keep {w W W' : World} {K' : List Value} {zk : Array Value} {g i : Nat} {S : Nat → Prop} (h : SH w W K' zk g i) (hk : Keep S W W') (hS : ∀ q, q < w.heap.size + 4 ∨ q = g → S q) : SH w W' K' zk g i := by
  obtain ⟨cur, hc, hz⟩ := h.b
  exact ⟨below_keep h.bel hk (Nat.le_refl _) (fun q hq => hS q (.inl (by omega))), hk.at_ h.k (hS _ (.inl (by omega))), hk.at_ h.z (hS _ (.inl (by omega))), ⟨cur, hk.at_ hc (hS _ (.inr rfl)), hz⟩,
    fun hi => (World.cell?_of_block (a := ⟨g, 22, none⟩) (hk.block g (lt_at hc) (hS _ (.inr rfl)))).trans (h.t hi)⟩
set_option maxHeartbeats 4000000 in
set_option maxRecDepth 100000 in
theorem Show_c (I : IM) (L M : List Value) (nx : Int) (R : List Value) (b0 o0 c0 : Nat) (v3 v5 : Value) (l3 l5 : List T3) (w : World) (hA : IMA I L M w) (hR : R.length = 72) (hR1 : ∀ u ∈ R, u.oneCell' = true) (hs : SliceAt w 23 (.slice (some ⟨b0, o0, none⟩) 1 c0) 1 (hcL 2 v3 (.slice none 0 0) v5 false)) (h3 : TAt w v3 l3) (h5 : TAt w v5 l5) (hl3 : l3.length ≤ 100000) (hl5 : l5.length ≤ 100000)
    (hcl : true = clearB I.stand I.occB I.litB ⟨1, 0, 0, l3, [], l5, 2, 0, List.replicate 12 false, false, 0, false⟩) :
    Calls Try.prog 21 #[.agg L.toArray, .agg M.toArray, .agg (kcL nx (.slice (some ⟨b0, o0, none⟩) 1 c0) R).toArray] w fun e w' => Below w.heap.size w w' ∧ ∃ (g c : Nat), e = .returned (.agg (kcL nx (.slice (some ⟨g, 0, none⟩) 1 c) R).toArray) ∧ w'.cell? ⟨g, 22, none⟩ = some (.bool true) := by
  obtain ⟨zv, hzi, hzs⟩ := ker_zero
  obtain ⟨zk, hzk⟩ : ∃ zk, zv.cells = zk := ⟨_, rfl⟩
  rw [hzk] at hzs
  obtain ⟨K, hK⟩ : ∃ K, kcL nx (.slice (some ⟨b0, o0, none⟩) 1 c0) R = K := ⟨_, rfl⟩
  have hKl : K.length = 74 := by rw [← hK]; simp [hR]
  have szK := ker_size hKl
  obtain ⟨W0, hW0⟩ : ∃ W0, (((w.alloc (.cells L.toArray 29)).alloc (.cells M.toArray 35)).alloc (.cells K.toArray 41)).alloc (.cells zk 41) = W0 := ⟨_, rfl⟩
  have B0 : Below w.heap.size w W0 := by rw [← hW0]; exact below_step (below_step (below_step (below_new _ _) (below_new _ _)) (below_new _ _)) (below_new _ _)
  have VL : W0.heap[w.heap.size]? = some (.cells L.toArray 29 (0, 0)) := by rw [← hW0]; exact old_at (old_at (old_at (new_at rfl _) _) _) _
  have VM : W0.heap[w.heap.size + 1]? = some (.cells M.toArray 35 (0, 0)) := by rw [← hW0]; exact old_at (old_at (new_at (by simp) _) _) _
  have VK : W0.heap[w.heap.size + 1 + 1]? = some (.cells K.toArray 41 (0, 0)) := by rw [← hW0]; exact old_at (new_at (by simp) _) _
  have VZ : W0.heap[w.heap.size + 1 + 1 + 1]? = some (.cells zk 41 (0, 0)) := by rw [← hW0]; exact new_at (by simp) _
  have szL := lay_size hA.f.l.len
  have szM := img_size hA.f.m.len
  have RK := range_of VK
  have s4 : W0.heap.size = w.heap.size + 4 := by rw [← hW0]; simp
  have hA0 := hA.later B0
  have hs0 := hs.later B0
  have t3 := h3.later B0
  have t5 := h5.later B0
  have HCL := Lib.hid hcl
  have HKK := Lib.hid hK
  rw [hK]
  have HA := Lib.hid hA
  clear hA hs h3 h5 hcl hK
  refine (callsIn_wide (n := 0)).1 (callsIn_of_wp_marks Try.func21 rfl trivial ?_ rfl)
  refine wpIn_wide.2 ?_
  simp only [Try.ntmps21, List.size_toArray, List.length_cons, List.length_nil, Nat.reduceAdd, Nat.reduceSub, Array.replicate_succ, Array.replicate_zero, List.push_toArray, List.append_toArray, List.nil_append, List.cons_append]
  go_upto_region 1 with (refine wpList_new (by rfl) 41 zv zk hzi hzk (by rfl) ?_)
  generalize (((w.alloc (.cells L.toArray 29)).alloc (.cells M.toArray 35)).alloc (.cells K.toArray 41)).alloc (.cells zk 41) = W0' at *
  subst hW0
  go_wp2_with (first
    | refine wpList_load_g (by rfl) 41 (.tmp 5) (by rfl) (w.heap.size + 1 + 1) 0 (by rfl) K _ RK Try.underlying41 rfl szK ?_
    | fail)
  rw [← HKK.out]
  refine (fOwn_c nx R b0 o0 c0 v3 v5 l3 l5 _ hR hR1 hs0 t3 t5 hl3 hl5).mono ?_
  rintro e W1 ⟨g, c, v3', v5', rfl, bF, hg, hc1, hc2, BK, t3', t5', d3, d5⟩
  rw [s4] at d3 d5
  rw [s4] at hg
  rw [HKK.out]
  obtain ⟨K', hK'⟩ : ∃ K', kcL nx (.slice (some ⟨g, 0, none⟩) 1 c) R = K' := ⟨_, rfl⟩
  have hKl' : K'.length = 74 := by rw [← hK']; simp [hR]
  have hK1' : K'[1]? = some (.slice (some ⟨g, 0, none⟩) 1 c) := by rw [← hK']; rfl
  have oneK : K'.toArray.all (·.oneCell') = true := all_one (fun u hu => by
    rw [← hK'] at hu
    simp only [List.mem_cons] at hu
    rcases hu with rfl | rfl | hu
    · rfl
    · rfl
    · exact hR1 u hu)
  have szK' := ker_size hKl'
  rw [hK']
  have HK' := Lib.hid hK'
  have B1 := below_step B0 bF
  replace VL := var_later VL bF
  replace VM := var_later VM bF
  replace VK := var_later VK bF
  replace VZ := var_later VZ bF
  obtain ⟨W2, hW2, VK2, B2, far, ths⟩ := fill_new K' VK (by simp [hKl', hKl]) B1 (by omega)
  have A1 := hA0.later bF
  have HW2 := Lib.hid hW2
  have A2 : IMA I L M W2 := HA.out.later B2
  have k2 : Keep (fun q => q ≠ w.heap.size + 1 + 1) W1 W2 := by rw [← hW2]; exact keep_cells _ _
  have q2 := hc_held (st := 2) (sh := false) (slice_keep t3' k2 (fun q hq => by have := d3 q hq; omega)) (slice_keep t5' k2 (fun q hq => by have := d5 q hq; omega))
  have BK2 := BK.keep (far g (by omega))
  have VL2 := (far _ (by omega)).trans VL
  have VM2 := (far _ (by omega)).trans VM
  have VZ2 := (far _ (by omega)).trans VZ
  clear hW2 hA0 hs0 t3 t5 bF BK t3' t5' d3 d5 hK' VL VM VK VZ far A1 B0 B1 RK
  have RL := range_of VL2
  have RM := range_of VM2
  have RK := range_of VK2
  go_wp2_with (first
    | (refine wpList_store_mid rfl 41 (.tmp 5) (.tmp 9) (by rfl) (w.heap.size + 1 + 1) 0 K'.toArray (by rfl) (by rfl) ths (by simpa using szK') oneK ?_; rw [HW2.out])
    | refine wpList_load_g (by rfl) 29 (.tmp 3) (by rfl) w.heap.size 0 (by rfl) L _ RL Try.underlying29 rfl szL ?_
    | refine wpList_load_g (by rfl) 35 (.tmp 4) (by rfl) (w.heap.size + 1) 0 (by rfl) M _ RM Try.underlying35 rfl szM ?_
    | refine wpList_load_g (by rfl) 41 (.tmp 5) (by rfl) (w.heap.size + 1 + 1) 0 (by rfl) K' _ RK Try.underlying41 rfl szK' ?_
    | fail)
  refine (aclear_c L M K' _).mono ?_
  rintro e W3 ⟨rfl, hW3⟩
  have b3 : Below W2.heap.size W2 W3 := by rw [← hW3]; exact below_step (below_step (below_new _ _) (below_new _ _)) (below_new _ _)
  have s5 : W3.heap.size = W2.heap.size + 3 := by rw [← hW3]; simp
  have lg := BK2.lt
  have lz := lt_at VZ2
  have PP : K1 W3 (W2.heap.size + 2) W2.heap.size (W2.heap.size + 1) g c I K' L M _ _ :=
    ⟨by rw [← hW3]; exact new_at (by simp) _, hK1', ⟨by rw [← hW3]; exact old_at (old_at (new_at rfl _) _) _, by rw [← hW3]; exact old_at (new_at (by simp) _) _⟩, A2.later b3, BK2.later b3, q2.later b3⟩
  have SH0 : SH w W3 K' zk g 0 := ⟨below_step B2 b3, var_later VK2 b3, var_later VZ2 b3, by obtain ⟨cur, h1, h2, _⟩ := (BK2.later b3).h; exact ⟨cur, h1, h2⟩, fun h => by cases h⟩
  have PH := Lib.hid PP
  clear PP hW3 b3 RL RM RK VL2 VM2 VK2 VZ2 A2 q2 BK2 B2 k2 ths
  generalize W2.heap.size = g0 at *
  go_wp2_with fail
  refine wp_iter (xs := [#[.int .i64 0, .agg (hcL 2 v3' (.slice none 0 0) v5' false).toArray]]) (Fp := fun _ => False) (Rd := fun _ => False) (gf := 40) (lb := #[.pointer (some ⟨g0 + 2, 0, none⟩), .pointer (some ⟨g0, 0, none⟩), .pointer (some ⟨g0 + 1, 0, none⟩)]) rfl (enters Try.func40 (by kernel_rfl) rfl)
    (clear1s W3 I K' L M _ _ _ _ _ g c PH.out HCL.out (by simp; omega) (by simp; omega) (by simp)) ?hps
    (fun i O W => SH w W K' zk g i ∧ ∀ q, O q ↔ q = g) (fun q => q = g) ?hpre ?hO ?hFp ?hI ?h0
    (fun x => { tmps := #[.agg L.toArray, .agg M.toArray, .agg K.toArray, .pointer (some ⟨w.heap.size, 0, none⟩), .pointer (some ⟨w.heap.size + 1, 0, none⟩), .pointer (some ⟨w.heap.size + 1 + 1, 0, none⟩), .pointer (some ⟨w.heap.size + 1 + 1 + 1, 0, none⟩), .int .i64 0, .agg K.toArray, .agg K'.toArray, .agg L.toArray, .agg M.toArray, .agg K'.toArray, .func (.func 40) #[] #[.pointer (some ⟨g0 + 2, 0, none⟩), .pointer (some ⟨g0, 0, none⟩), .pointer (some ⟨g0 + 1, 0, none⟩)], .int .i64 0, .agg (hcL 2 v3' (.slice none 0 0) v5' false).toArray, undef, undef, undef, undef, undef, undef], defers := [] }) ?assign ?body ?done
  case hps => intro x hx; simp only [List.mem_singleton] at hx; subst hx; rfl
  case hpre => exact fun W hW => hW
  case hO => rintro q rfl; exact ⟨by omega, id, id⟩
  case hFp => rintro q ⟨⟩
  case hI =>
    rintro i O W W' ⟨h1, h2⟩ hk
    exact ⟨h1.keep hk (fun q hq => by
      rcases hq with hq | hq
      · exact .inr ⟨by omega, id⟩
      · exact .inl ((h2 q).2 hq)), h2⟩
  case h0 => exact ⟨SH0, fun _ => Iff.rfl⟩
  case assign =>
    intro l' x W K0 hx hK0
    simp only [List.mem_singleton] at hx
    subst hx
    gi_wp2
    exact hK0
  case body =>
    rintro l' i x O W hx ⟨h1, h2⟩ hsz'
    obtain rfl : i = 0 := by
      have h : i < 1 := (List.getElem?_eq_some_iff.1 hx).1
      omega
    obtain ⟨cur, hc, hcz⟩ := h1.b
    have xk := cell_list h1.k hK1'
    have x22 := cell_at hc 22
    rw [Array.getElem?_eq_getElem (by omega : 22 < cur.size)] at x22
    have f22 := free_at hc 22
    have hgk : w.heap.size + 1 + 1 ≠ g := by omega
    have hgz : w.heap.size + 1 + 1 + 1 ≠ g := by omega
    have S1 : SH w (W.setCell ⟨g, 22, none⟩ (.bool true)) K' zk g 1 := ⟨below_set h1.bel (by omega) _ _, set_far h1.k (by exact hgk) _, set_far h1.z (by exact hgz) _, ⟨_, set_at hc 22 _, by simpa using hcz⟩,
      fun _ => (cell_at (set_at hc 22 (.bool true)) 22).trans (by rw [Array.getElem?_setIfInBounds_self, if_pos (by omega)])⟩
    have HK := Lib.hid ((Keep.refl (fun k => ¬ O k) W).setCell (p := ⟨g, 22, none⟩) (fun _ h => h ((h2 _).2 rfl)) (.bool true))
    gi_wp2
    exact ⟨O, ⟨S1, h2⟩, fun k hk => .inl hk, HK.out⟩
  case done =>
    rintro D O W ⟨h1, h2⟩ hD1 hD2
    have RK := range_of h1.k
    obtain ⟨W4, hW4, X, BF, far4, ths4⟩ := fill_new K' h1.z (by simp [hKl', hzs]) h1.bel (by omega)
    have HW4 := Lib.hid hW4
    have hD4 := (far4 D (by omega)).trans hD2
    have ht := h1.t rfl
    have ht4 : W4.cell? ⟨g, 22, none⟩ = some (.bool true) := (World.cell?_of_block (a := ⟨g, 22, none⟩) (far4 g (by omega))).trans ht
    have hgD : g ≠ D := by
      obtain ⟨cur, hc, _⟩ := h1.b
      rintro rfl
      rw [hD2] at hc; cases hc
    clear hW4
    go_wp2_with (first
      | refine wpList_load_g (by rfl) 41 (.tmp 5) (by rfl) (w.heap.size + 1 + 1) 0 (by rfl) K' _ RK Try.underlying41 rfl szK' ?_
      | (refine wpList_store_mid rfl 41 (.tmp 6) (.tmp 21) (by rfl) (w.heap.size + 1 + 1 + 1) 0 K'.toArray (by rfl) (by rfl) ths4 (by simpa using szK') oneK ?_; rw [HW4.out]))
    refine bodyPostM_mid (t := 6) (M := K') Try.underlying41 rfl rfl szK' hD4 rfl X ⟨below_putObj BF (by omega) _, g, ⟨c, by rw [HK'.out]⟩, ?_⟩
    exact (World.cell?_of_block (a := ⟨g, 22, none⟩) (World.putObj_heap_other hgD)).trans ht4
end Go.Proofs.Ytkmioplegjeopaa
