/- Keys: the document's Presses. Nothing that was there is turned. -/
import Derived.Test.YtioggdiicgfoaaaKeyY
import Derived.Deep.RegionHeld3
import Derived.Deep.DrawnRows
import Derived.Deep.CutRange
namespace Go.Proofs.Ytioggdiicgfoaaa
open Go.RowKit Rf Mem KM Bits Bv Str
attribute [local go_sem ↓] run_max2 run_min2
/-- the variables of the document's Presses -/
structure PzF (w V : World) (L : List Value) (x y b : Btn) (g8 g9 : Nat) : Prop where
  bel : Below w.heap.size w V
  l : V.heap[w.heap.size]? = some (.cells L.toArray 29 (0, 0))
  b : V.heap[w.heap.size + 1 + 1]? = some (.cells (btnV b).toArray 33 (0, 0))
  z : V.heap[w.heap.size + 1 + 1 + 1]? = some (.cells zMem 35 (0, 0))
  x : V.heap[g8]? = some (.cells (btnV x).toArray 33 (0, 0))
  y : V.heap[g9]? = some (.cells (btnV y).toArray 33 (0, 0))
theorem PzF.later {w V V' : World} {L : List Value} {x y b : Btn} {g8 g9 : Nat} (h : PzF w V L x y b g8 g9) (hb : Below V.heap.size V V') : PzF w V' L x y b g8 g9 :=
  ⟨below_step h.bel hb, var_later h.l hb, var_later h.b hb, var_later h.z hb, var_later h.x hb, var_later h.y hb⟩
/-- the row of presses -/
structure PZ (V0 W : World) (v : Value) (l : List Pr) : Prop where
  bel : Below V0.heap.size V0 W
  o : W.ownsRow V0.heap.size 57 3 v l.length (prs l)
theorem PZ.later {V0 W W' : World} {v : Value} {l : List Pr} (h : PZ V0 W v l) (b : Below W.heap.size W W') : PZ V0 W' v l := ⟨below_step h.bel b, own_bel h.o b⟩
theorem PZ.push {V0 W W1 w1 : World} {v v1 : Value} {l m : List Pr} {k : Nat} {news : List Value} (h : PZ V0 W v l) (b : Below W.heap.size W W1) (ho : w1.ownsRow V0.heap.size 57 3 v1 (l.length + k) (prs l ++ news)) (hg : W1.grownBy w1 v.ownBlock) (hk : k = m.length) (hn : news = prs m) : PZ V0 w1 v1 (l ++ m) := by
  subst hk hn
  have e : prs (l ++ m) = prs l ++ prs m := by simp [prs]
  refine ⟨below_own (below_step h.bel b) hg (by have := h.bel.size; have := b.size; omega) (fun g hg => (own_base h.o hg).1), ?_⟩
  rw [List.length_append, e]; exact ho
theorem res_mid3 {T : TypeId} {d : TypeDesc} (hu : Try.prog.underlying T = some d) (hd : d.isRow = true) {fn : Func} {t u : Tmp} (hf : fn.results = #[.tmp u, .cell t T]) {tmps : Array Value} {W : World} {g : Nat} {M : List Value} {ty : TypeId} {f : Nat × Nat} (hi : (Try.prog.info? T).map (·.size) = some M.length)
    (hs : tmps.getD t undef = .pointer (some ⟨g, 0, none⟩)) (hg : W.heap[g]? = some (.cells M.toArray ty f)) : (results fn tmps).run Try.prog W = .ok (.tuple #[tmps.getD u undef, .agg M.toArray]) W := by
  have hs' : tmps[t]?.getD undef = .pointer (some ⟨g, 0, none⟩) := by simpa using hs
  have h := run_loadVar_mid (P := Try.prog) W g 0 T M _ (range_of hg) hu hd hi
  simp [results, hf, hs', asAddr, h]
theorem range_below {W W' : World} {g o : Nat} {cs : List Value} (h : W.rangeAt g o cs) (b : Below W.heap.size W W') (hg : g < W.heap.size) : W'.rangeAt g o cs := fun j v hv => (World.cell?_of_block (a := ⟨g, o + j, none⟩) (b.block g hg)).trans (h j v hv)
theorem wp_build2 {w : World} {o : Oper} {a : Act} {K : Act → World → Prop} {Q : Exit → Act → World → Prop} (T : TypeId) (x y : Operand) (ho : o.op = .build T #[(0, x), (1, y)]) (l m cs : Value) (hx : a.eval x = l) (hy : a.eval y = m)
    (hr : (Instr.build T #[(0, l), (1, m)]).run Try.prog w = .ok cs w) (h : K (a.put o.dst cs) w) : o.wp Try.prog a w K Q := by
  unfold Oper.wp execOp
  simp [ho, hx, hy, hr]
  exact h
theorem prs_one (l : List Pr) : ∀ u ∈ prs l, u.oneCell' = true := fun u hu => by
  simp only [prs, List.mem_flatMap, prC] at hu
  obtain ⟨p, _, h⟩ := hu
  simp at h
  rcases h with rfl | rfl | rfl <;> rfl
theorem oneP_le (k : Int) (is : Bool) : (oneP k is).length ≤ 1 := by unfold oneP; cases is <;> simp
theorem front_n (a b c : BitVec 32) : front a b c = a &&& b &&& ~~~c := rfl
set_option maxHeartbeats 8000000 in
set_option maxRecDepth 100000 in
theorem refPresses_c (L : List Value) (nsec : Nat) (lens : List Nat) (nsig nfl : Nat) (A : Option Addr) (c : Nat) (A1 : Option Addr) (c1 : Nat) (A3 : Option Addr) (c3 : Nat) (ve : Value) (ns ne nc : Nat) (x y b : Btn) (w : World) (hns : min nsig 12 = ns) (hne : min lens.length 12 = ne) (hnc : min nsec 24 = nc)
    (hx : x.keys.length = 24) (hy : y.keys.length = 24) (hb : b.keys.length = 24) (hL : LayN w L nsec lens nsig nfl A c A1 c1 A3 c3 ve) :
    Calls Try.prog 9 #[.agg L.toArray, .agg (memV x y).toArray, .agg (btnV b).toArray] w fun e w' => Below w.heap.size w w' ∧ ∃ v', e = .returned (.tuple #[v', .agg (memV b x).toArray]) ∧
      w'.ownsRow w.heap.size 57 3 v' (pressL b x y ns ne nc).length (prs (pressL b x y ns ne nc)) := by
  obtain ⟨Ae, ce, rfl, _⟩ := hL.ea
  obtain ⟨i0, hi, hz0, hz1, hz2⟩ := info_parts info_press
  have szL := lay_size hL.len
  have szB := btn_size hb
  have szX := btn_size hx
  have szY := btn_size hy
  have l1 : ns ≤ 12 := by omega
  have l2 : ne ≤ 12 := by omega
  have l3 : nc ≤ 24 := by omega
  have q1 : Hid ((ns : Int) = min (nsig : Int) 12) := Lib.hid (m12 hns).symm
  have q2 : Hid ((ne : Int) = min (lens.length : Int) 12) := Lib.hid (m12 hne).symm
  have q3 : Hid ((nc : Int) = min (nsec : Int) 24) := Lib.hid (m24 hnc).symm
  have hsec := Lib.hid hL.sec
  have hsig := Lib.hid hL.sig
  have hex := Lib.hid hL.ex
  have HL1 := Lib.hid l1
  have HL2 := Lib.hid l2
  have HL3 := Lib.hid l3
  have Hx := Lib.hid hx
  have Hy := Lib.hid hy
  have Hb := Lib.hid hb
  obtain ⟨W0, hW0⟩ : ∃ W0, (((w.alloc (.cells L.toArray 29)).alloc (.cells (memV x y).toArray 35)).alloc (.cells (btnV b).toArray 33)).alloc (.cells zMem 35) = W0 := ⟨_, rfl⟩
  have B0 : Below w.heap.size w W0 := by rw [← hW0]; exact below_step (below_step (below_step (kbelow_new _ _) (kbelow_new _ _)) (kbelow_new _ _)) (kbelow_new _ _)
  have VL : W0.heap[w.heap.size]? = some (.cells L.toArray 29 (0, 0)) := by rw [← hW0]; exact old_at (old_at (old_at (new_at rfl _) _) _) _
  have VM : W0.heap[w.heap.size + 1]? = some (.cells (memV x y).toArray 35 (0, 0)) := by rw [← hW0]; exact old_at (old_at (new_at (by simp) _) _) _
  have VB : W0.heap[w.heap.size + 1 + 1]? = some (.cells (btnV b).toArray 33 (0, 0)) := by rw [← hW0]; exact old_at (new_at (by simp) _) _
  have VZ : W0.heap[w.heap.size + 1 + 1 + 1]? = some (.cells zMem 35 (0, 0)) := by rw [← hW0]; exact new_at (by simp) _
  clear hns hne hnc hL hx hy hb l1 l2 l3
  go_enter Try.func9, Try.ntmps9
  go_upto_region 1 with (fail)
  clear hW0
  go_cut [8, 9] from 13 to 138 (fun v8 v9 wx => ∃ g8 g9 : Nat, v8 = .pointer (some ⟨g8, 0, none⟩) ∧ v9 = .pointer (some ⟨g9, 0, none⟩) ∧ PzF w wx L x y b g8 g9)
  case first =>
    refine wp_region_held_drew (S := (fun w' => w'.rangeAt (w.heap.size + 1) 0 (btnV x) ∧ w'.rangeAt (w.heap.size + 1) 29 (btnV y))) (by kernel_rfl) ?_ (fun hHeld => ?_)
    · exact ⟨mem_x VM, mem_y Hx.out VM⟩
    have Bb : Below W0.heap.size W0 W0.drew := (Below.refl _ W0).drew
    have R0 := mem_x (var_later VM Bb)
    have R1 := mem_y Hx.out (var_later VM Bb)
    have hMs := (Array.getElem?_eq_some_iff.1 (var_later VM Bb)).1
    replace VL := var_later VL Bb
    replace VB := var_later VB Bb
    replace VZ := var_later VZ Bb
    replace B0 := below_step B0 Bb
    have hzs := (Array.getElem?_eq_some_iff.1 VZ).1
    clear VM Bb
    generalize W0.drew = V at *
    refine wpAnyH_take (i := 0) (v := ?_) rfl (by kernel_rfl) (by kernel_rfl) (by kernel_rfl) (fun _ _ _ h => h) (Or.inl ⟨by rfl, ?_⟩) (by assumption) ?_
    rotate_left
    · intro w hSw
      try dsimp only at hSw
      go_simp
      try with_reducible rfl
    simp only [List.getElem_toArray, List.getElem_cons_succ, List.getElem_cons_zero, Act.put, List.setIfInBounds_toArray, List.set_cons_zero, List.set_cons_succ]
    refine wpAnyH_take (i := 1) (v := .agg ((btnV x) : List Value).toArray) rfl (by kernel_rfl) (by kernel_rfl) (by kernel_rfl) (fun _ _ _ h => h) (yieldsIf_load_mid rfl 33 (.tmp 13) rfl (w.heap.size + 1) (0) rfl (btnV x) _ (fun w' h => h.1) (by first | exact Try.underlying33) rfl (by first | assumption | (simp only [*]; kernel_rfl) | kernel_rfl)) (by assumption) ?_
    simp only [List.getElem_toArray, List.getElem_cons_succ, List.getElem_cons_zero, Act.put, List.setIfInBounds_toArray, List.set_cons_zero, List.set_cons_succ]
    refine wpAnyH_take (i := 2) (v := ?_) rfl (by kernel_rfl) (by kernel_rfl) (by kernel_rfl) (fun _ _ _ h => h) (Or.inl ⟨by rfl, ?_⟩) (by assumption) ?_
    rotate_left
    · intro w hSw
      try dsimp only at hSw
      go_simp
      try with_reducible rfl
    simp only [List.getElem_toArray, List.getElem_cons_succ, List.getElem_cons_zero, Act.put, List.setIfInBounds_toArray, List.set_cons_zero, List.set_cons_succ]
    refine wpAnyH_take (i := 3) (v := .agg ((btnV y) : List Value).toArray) rfl (by kernel_rfl) (by kernel_rfl) (by kernel_rfl) (fun _ _ _ h => h) (yieldsIf_load_mid rfl 33 (.tmp 15) rfl (w.heap.size + 1) (29) rfl (btnV y) _ (fun w' h => h.2) (by first | exact Try.underlying33) rfl (by first | assumption | (simp only [*]; kernel_rfl) | kernel_rfl)) (by assumption) ?_
    simp only [List.getElem_toArray, List.getElem_cons_succ, List.getElem_cons_zero, Act.put, List.setIfInBounds_toArray, List.set_cons_zero, List.set_cons_succ]
    clear hHeld
    obtain ⟨V0, hV0⟩ : ∃ V0, V = V0 := ⟨_, rfl⟩
    have Bb : Below V0.heap.size V0 V := by rw [hV0]; exact Below.refl _ _
    rw [hV0] at VL VB VZ B0 R0 R1 hMs hzs
    clear hV0
    refine wpAnyH_ready (rs := [4, 5]) (by kernel_rfl) (by simp) ?_
    refine AllReadyH.cons rfl (fun K hK => ?_) (AllReadyH.cons rfl (fun K hK => ?_) AllReadyH.nil)
    · skip
      have GA := new_at (w := V) rfl (.cells zB 33)
      have bF := kbelow_new V (.cells zB 33)
      have hga : V0.heap.size ≤ V.heap.size := Bb.size
      try have nab : V.heap.size ≠ gb := by have h := (Array.getElem?_eq_some_iff.1 GB).1; omega
      refine Node.wp_new 33 (.agg zB) zB (by kernel_rfl) rfl (by rfl) ?_
      replace Bb := below_step Bb bF
      try replace GB := var_later GB bF
      clear bF
      generalize V.heap.size = ga at *
      generalize V.alloc (.cells zB 33) = V at *
      refine hK.out _ _ ⟨range_below R0 Bb hMs, range_below R1 Bb hMs⟩ (fun _ => ?_)
      clear hK K
      try simp only [List.getElem_toArray, List.getElem_cons_succ, List.getElem_cons_zero, Act.put, List.setIfInBounds_toArray, List.set_cons_zero, List.set_cons_succ]
      refine wpAnyH_ready (rs := [5]) (by kernel_rfl) (by simp) ?_
      refine AllReadyH.cons rfl (fun K hK => ?_) AllReadyH.nil
      have GB := new_at (w := V) rfl (.cells zB 33)
      have bF := kbelow_new V (.cells zB 33)
      have hgb : V0.heap.size ≤ V.heap.size := Bb.size
      try have nab : ga ≠ V.heap.size := by have h := (Array.getElem?_eq_some_iff.1 GA).1; omega
      refine Node.wp_new 33 (.agg zB) zB (by kernel_rfl) rfl (by rfl) ?_
      replace Bb := below_step Bb bF
      try replace GA := var_later GA bF
      clear bF
      generalize V.heap.size = gb at *
      generalize V.alloc (.cells zB 33) = V at *
      refine hK.out _ _ ⟨range_below R0 Bb hMs, range_below R1 Bb hMs⟩ (fun _ => ?_)
      clear hK K
      try simp only [List.getElem_toArray, List.getElem_cons_succ, List.getElem_cons_zero, Act.put, List.setIfInBounds_toArray, List.set_cons_zero, List.set_cons_succ]
      refine wpAnyH_ready (rs := [6]) (by kernel_rfl) (by simp) ?_
      refine AllReadyH.cons rfl (fun K hK => ?_) AllReadyH.nil
      obtain ⟨V', hW, FA, bF, far, ths⟩ := fill_new (btnV x) GA (by rw [btnV_len Hx.out]; rfl) Bb hga
      refine wp_store_mid 33 (.tmp 8) (.tmp 14) (by rfl) ga 0 (btnV x).toArray (by rfl) (by rfl) ths (by simpa using szX) (all_one (btnV_one _)) ?_
      rw [hW]
      replace GB := (far gb nab.symm).trans GB
      replace GA := FA
      clear hW ths far FA Bb
      have Bb := bF
      clear bF
      generalize V' = V at *
      refine hK.out _ _ ⟨range_below R0 Bb hMs, range_below R1 Bb hMs⟩ (fun _ => ?_)
      clear hK K
      try simp only [List.getElem_toArray, List.getElem_cons_succ, List.getElem_cons_zero, Act.put, List.setIfInBounds_toArray, List.set_cons_zero, List.set_cons_succ]
      refine wpAnyH_ready (rs := [7]) (by kernel_rfl) (by simp) ?_
      refine AllReadyH.cons rfl (fun K hK => ?_) AllReadyH.nil
      obtain ⟨V', hW, FB, bF, far, ths⟩ := fill_new (btnV y) GB (by rw [btnV_len Hy.out]; rfl) Bb hgb
      refine wp_store_mid 33 (.tmp 9) (.tmp 16) (by rfl) gb 0 (btnV y).toArray (by rfl) (by rfl) ths (by simpa using szY) (all_one (btnV_one _)) ?_
      rw [hW]
      replace GA := (far ga nab).trans GA
      replace GB := FB
      clear hW ths far FB Bb
      have Bb := bF
      clear bF
      generalize V' = V at *
      refine hK.out _ _ ⟨range_below R0 Bb hMs, range_below R1 Bb hMs⟩ (fun _ => ?_)
      clear hK K
      try simp only [List.getElem_toArray, List.getElem_cons_succ, List.getElem_cons_zero, Act.put, List.setIfInBounds_toArray, List.set_cons_zero, List.set_cons_succ]
      refine wpAnyH_done (by kernel_rfl) ?_ _
      go_wp2_with fail
      go_meet
      exact ⟨_, _, rfl, rfl, ⟨below_step B0 Bb, var_later VL Bb, var_later VB Bb, var_later VZ Bb, GA, GB⟩⟩
    · skip
      have GB := new_at (w := V) rfl (.cells zB 33)
      have bF := kbelow_new V (.cells zB 33)
      have hgb : V0.heap.size ≤ V.heap.size := Bb.size
      try have nab : ga ≠ V.heap.size := by have h := (Array.getElem?_eq_some_iff.1 GA).1; omega
      refine Node.wp_new 33 (.agg zB) zB (by kernel_rfl) rfl (by rfl) ?_
      replace Bb := below_step Bb bF
      try replace GA := var_later GA bF
      clear bF
      generalize V.heap.size = gb at *
      generalize V.alloc (.cells zB 33) = V at *
      refine hK.out _ _ ⟨range_below R0 Bb hMs, range_below R1 Bb hMs⟩ (fun _ => ?_)
      clear hK K
      try simp only [List.getElem_toArray, List.getElem_cons_succ, List.getElem_cons_zero, Act.put, List.setIfInBounds_toArray, List.set_cons_zero, List.set_cons_succ]
      refine wpAnyH_ready (rs := [4]) (by kernel_rfl) (by simp) ?_
      refine AllReadyH.cons rfl (fun K hK => ?_) AllReadyH.nil
      have GA := new_at (w := V) rfl (.cells zB 33)
      have bF := kbelow_new V (.cells zB 33)
      have hga : V0.heap.size ≤ V.heap.size := Bb.size
      try have nab : V.heap.size ≠ gb := by have h := (Array.getElem?_eq_some_iff.1 GB).1; omega
      refine Node.wp_new 33 (.agg zB) zB (by kernel_rfl) rfl (by rfl) ?_
      replace Bb := below_step Bb bF
      try replace GB := var_later GB bF
      clear bF
      generalize V.heap.size = ga at *
      generalize V.alloc (.cells zB 33) = V at *
      refine hK.out _ _ ⟨range_below R0 Bb hMs, range_below R1 Bb hMs⟩ (fun _ => ?_)
      clear hK K
      try simp only [List.getElem_toArray, List.getElem_cons_succ, List.getElem_cons_zero, Act.put, List.setIfInBounds_toArray, List.set_cons_zero, List.set_cons_succ]
      refine wpAnyH_ready (rs := [6]) (by kernel_rfl) (by simp) ?_
      refine AllReadyH.cons rfl (fun K hK => ?_) AllReadyH.nil
      obtain ⟨V', hW, FA, bF, far, ths⟩ := fill_new (btnV x) GA (by rw [btnV_len Hx.out]; rfl) Bb hga
      refine wp_store_mid 33 (.tmp 8) (.tmp 14) (by rfl) ga 0 (btnV x).toArray (by rfl) (by rfl) ths (by simpa using szX) (all_one (btnV_one _)) ?_
      rw [hW]
      replace GB := (far gb nab.symm).trans GB
      replace GA := FA
      clear hW ths far FA Bb
      have Bb := bF
      clear bF
      generalize V' = V at *
      refine hK.out _ _ ⟨range_below R0 Bb hMs, range_below R1 Bb hMs⟩ (fun _ => ?_)
      clear hK K
      try simp only [List.getElem_toArray, List.getElem_cons_succ, List.getElem_cons_zero, Act.put, List.setIfInBounds_toArray, List.set_cons_zero, List.set_cons_succ]
      refine wpAnyH_ready (rs := [7]) (by kernel_rfl) (by simp) ?_
      refine AllReadyH.cons rfl (fun K hK => ?_) AllReadyH.nil
      obtain ⟨V', hW, FB, bF, far, ths⟩ := fill_new (btnV y) GB (by rw [btnV_len Hy.out]; rfl) Bb hgb
      refine wp_store_mid 33 (.tmp 9) (.tmp 16) (by rfl) gb 0 (btnV y).toArray (by rfl) (by rfl) ths (by simpa using szY) (all_one (btnV_one _)) ?_
      rw [hW]
      replace GA := (far ga nab).trans GA
      replace GB := FB
      clear hW ths far FB Bb
      have Bb := bF
      clear bF
      generalize V' = V at *
      refine hK.out _ _ ⟨range_below R0 Bb hMs, range_below R1 Bb hMs⟩ (fun _ => ?_)
      clear hK K
      try simp only [List.getElem_toArray, List.getElem_cons_succ, List.getElem_cons_zero, Act.put, List.setIfInBounds_toArray, List.set_cons_zero, List.set_cons_succ]
      refine wpAnyH_done (by kernel_rfl) ?_ _
      go_wp2_with fail
      go_meet
      exact ⟨_, _, rfl, rfl, ⟨below_step B0 Bb, var_later VL Bb, var_later VB Bb, var_later VZ Bb, GA, GB⟩⟩
  case rest =>
    clear B0 VL VM VB VZ
    obtain ⟨g8, g9, rfl, rfl, F0⟩ := hcut
    obtain ⟨V0, hV0⟩ : ∃ V0, wc = V0 := ⟨_, rfl⟩
    have Z0 : PZ V0 wc (.slice none 0 0) [] := ⟨by rw [hV0]; exact Below.refl _ _, own_nil _ _ _ _⟩
    rw [hV0] at F0
    have HF0 := Lib.hid F0
    clear hV0 F0
    generalize wc = V at *
    go_upto_region 3 with (fail)
    generalize Value.slice none 0 0 = vn at *
    obtain ⟨m0, hm0⟩ : ∃ m0 : List Pr, [] = m0 := ⟨_, rfl⟩
    have hle0 : m0.length ≤ 0 := by rw [← hm0]; exact Nat.le_refl _
    rw [hm0] at Z0
    have HM0 := Lib.hid hm0
    clear hm0
    obtain ⟨d1, hd1⟩ : ∃ d, (b.can && (x.can && !y.can)) = d := ⟨_, rfl⟩
    obtain ⟨d2, hd2⟩ : ∃ d, (b.aut && (x.aut && !y.aut)) = d := ⟨_, rfl⟩
    have HD1 := Lib.hid hd1
    have HD2 := Lib.hid hd2
    clear hd1 hd2
    go_cut [27] from 13 to 138 (fun v wx => v = .bool d1 ∧ wx = V)
    case first =>
      have F := HF0.out.later Z0.bel
      have x0 := (btn_at F.b).2.2.2.1
      have x1 := (btn_at F.x).2.2.2.1
      have x2 := (btn_at F.y).2.2.2.1
      have hd := HD1.out
      clear F Z0
      obtain ⟨p, hp⟩ : ∃ p, b.can = p := ⟨_, rfl⟩
      obtain ⟨q, hq⟩ : ∃ q, x.can = q := ⟨_, rfl⟩
      obtain ⟨r, hr⟩ : ∃ r, y.can = r := ⟨_, rfl⟩
      rw [hp] at x0 hd
      rw [hq] at x1 hd
      rw [hr] at x2 hd
      have HD := Lib.hid hd
      clear hp hq hr hd
      cases p <;> cases q <;> cases r
      all_goals
        go_wp2
        go_meet
        exact ⟨by rw [← HD.out]; rfl, rfl⟩
    case rest =>
      obtain ⟨rfl, rfl⟩ := hcut
      go_upto_if 27 with fail
      go_cut [10] from 13 to 138 (fun v wx => PZ V0 wx v (oneP 1 d1))
      case first =>
        cases d1
        · go_wp2
          go_meet
          rw [← HM0.out] at Z0
          exact Z0
        · skip
          have hown := (Z0.later (kbelow_new wc (.cells #[.int .u8 1, .int .i64 0, .int .i64 0] 57))).o
          have hsrc := sliceAt_blk3 (w := wc.alloc (.cells #[.int .u8 1, .int .i64 0, .int .i64 0] 57)) (cs := [.int .u8 1, .int .i64 0, .int .i64 0]) (new_at rfl _) rfl
          have hbs : V0.heap.size ≤ wc.heap.size := Z0.bel.size
          go_wp2_with (at_builtin; go_loud (refine wpList_append_src (by rfl) (.tmp 28) (.tmp 30) _ (by rfl) V0.heap.size 57 i0 _ 3 24 Try.underlying42 hi hz0 hz1 hz2 rfl (by omega) vn m0.length (prs m0) (by rfl) hown (.slice (some ⟨wc.heap.size, 0, none⟩) 1 1) 1 [.int .u8 1, .int .i64 0, .int .i64 0] (by rfl) hsrc (by simp [Value.oneCell']) (by simp only [maxLen]; omega) (by omega) (by simp; omega) ?_; intro v1 w1 ho1 hg1 hw1))
          go_meet
          have Z9 := Z0.push (m := [(1, 0, 0)]) (kbelow_new _ _) ho1 hg1 rfl rfl
          rw [← HM0.out] at Z9
          exact Z9
      case rest =>
        clear Z0
        obtain ⟨m1, hm1⟩ : ∃ m, oneP 1 d1 = m := ⟨_, rfl⟩
        have hle := oneP_le 1 d1
        rw [hm1] at hcut hle
        have HM1 := Lib.hid hm1
        clear hm1
        have Z1 := hcut
        clear hcut
        generalize wc = V at *
        generalize u10 = va at *
        go_upto_region 5 with (fail)
        go_cut [42] from 13 to 138 (fun v wx => v = .bool d2 ∧ wx = V)
        case first =>
          have F := HF0.out.later Z1.bel
          have x0 := (btn_at F.b).2.2.2.2
          have x1 := (btn_at F.x).2.2.2.2
          have x2 := (btn_at F.y).2.2.2.2
          have hd := HD2.out
          clear F Z1
          obtain ⟨p, hp⟩ : ∃ p, b.aut = p := ⟨_, rfl⟩
          obtain ⟨q, hq⟩ : ∃ q, x.aut = q := ⟨_, rfl⟩
          obtain ⟨r, hr⟩ : ∃ r, y.aut = r := ⟨_, rfl⟩
          rw [hp] at x0 hd
          rw [hq] at x1 hd
          rw [hr] at x2 hd
          have HD := Lib.hid hd
          clear hp hq hr hd
          cases p <;> cases q <;> cases r
          all_goals
            go_wp2
            go_meet
            exact ⟨by rw [← HD.out]; rfl, rfl⟩
        case rest =>
          obtain ⟨rfl, rfl⟩ := hcut
          go_upto_if 42 with fail
          go_cut [10] from 13 to 138 (fun v wx => PZ V0 wx v (m1 ++ oneP 2 d2))
          case first =>
            cases d2
            · go_wp2
              go_meet
              simpa [oneP] using Z1
            · skip
              have hown := (Z1.later (kbelow_new wc (.cells #[.int .u8 2, .int .i64 0, .int .i64 0] 57))).o
              have hsrc := sliceAt_blk3 (w := wc.alloc (.cells #[.int .u8 2, .int .i64 0, .int .i64 0] 57)) (cs := [.int .u8 2, .int .i64 0, .int .i64 0]) (new_at rfl _) rfl
              have hbs : V0.heap.size ≤ wc.heap.size := Z1.bel.size
              go_wp2_with (at_builtin; go_loud (refine wpList_append_src (by rfl) (.tmp 43) (.tmp 45) _ (by rfl) V0.heap.size 57 i0 _ 3 24 Try.underlying42 hi hz0 hz1 hz2 rfl (by omega) va m1.length (prs m1) (by rfl) hown (.slice (some ⟨wc.heap.size, 0, none⟩) 1 1) 1 [.int .u8 2, .int .i64 0, .int .i64 0] (by rfl) hsrc (by simp [Value.oneCell']) (by simp only [maxLen]; omega) (by omega) (by simp; omega) ?_; intro v1 w1 ho1 hg1 hw1))
              go_meet
              exact Z1.push (m := [(2, 0, 0)]) (kbelow_new _ _) ho1 hg1 rfl rfl
          case rest =>
            clear Z1
            obtain ⟨m2, hm2⟩ : ∃ m, m1 ++ oneP 2 d2 = m := ⟨_, rfl⟩
            have hle2 : m2.length ≤ 2 := by have := oneP_le 2 d2; rw [← hm2, List.length_append]; omega
            rw [hm2] at hcut
            have HM2 := Lib.hid hm2
            clear hm2 hle
            have Z := hcut
            clear hcut
            generalize wc = V at *
            generalize u10 = vb at *
            go_upto_region 7 with (fail)
            have F := HF0.out.later Z.bel
            refine wp_region_held_drew (S := (fun w' => w'.cell? ⟨w.heap.size + 1 + 1, 0, none⟩ = some (.int .u32 b.ent.toNat) ∧ w'.cell? ⟨g8, 0, none⟩ = some (.int .u32 x.ent.toNat) ∧ w'.cell? ⟨g9, 0, none⟩ = some (.int .u32 y.ent.toNat) ∧ w'.cell? ⟨w.heap.size, 1, none⟩ = some (.slice A1 nsig c1))) (by kernel_rfl) ?_ (fun hHeld => ?_)
            · exact ⟨cell_list F.b rfl, cell_list F.x rfl, cell_list F.y rfl, cell_list F.l hsig.out⟩
            have bd : Below V.heap.size V V.drew := (Below.refl _ V).drew
            replace F := F.later bd
            replace Z := Z.later bd
            clear bd
            generalize V.drew = V at *
            refine wpAnyH_take (i := 0) (v := ?_) rfl (by kernel_rfl) (by kernel_rfl) (by kernel_rfl) (fun _ _ _ h => h) (Or.inl ⟨by rfl, ?_⟩) (by assumption) ?_
            rotate_left
            · intro w hSw
              try dsimp only at hSw
              go_simp
              try with_reducible rfl
            simp only [List.getElem_toArray, List.getElem_cons_succ, List.getElem_cons_zero, Act.put, List.setIfInBounds_toArray, List.set_cons_zero, List.set_cons_succ]
            refine wpAnyH_take (i := 1) (v := ?_) rfl (by kernel_rfl) (by kernel_rfl) (by kernel_rfl) (fun _ _ _ h => h) (Or.inl ⟨by rfl, ?_⟩) (by assumption) ?_
            rotate_left
            · intro w hSw
              try dsimp only at hSw
              go_simp
              try with_reducible rfl
            simp only [List.getElem_toArray, List.getElem_cons_succ, List.getElem_cons_zero, Act.put, List.setIfInBounds_toArray, List.set_cons_zero, List.set_cons_succ]
            refine wpAnyH_take (i := 2) (v := ?_) rfl (by kernel_rfl) (by kernel_rfl) (by kernel_rfl) (fun _ _ _ h => h) (Or.inl ⟨by rfl, ?_⟩) (by assumption) ?_
            rotate_left
            · intro w hSw
              try dsimp only at hSw
              go_simp
              try with_reducible rfl
            simp only [List.getElem_toArray, List.getElem_cons_succ, List.getElem_cons_zero, Act.put, List.setIfInBounds_toArray, List.set_cons_zero, List.set_cons_succ]
            refine wpAnyH_take (i := 3) (v := ?_) rfl (by kernel_rfl) (by kernel_rfl) (by kernel_rfl) (fun _ _ _ h => h) (Or.inl ⟨by rfl, ?_⟩) (by assumption) ?_
            rotate_left
            · intro w hSw
              try dsimp only at hSw
              go_simp
              try with_reducible rfl
            simp only [List.getElem_toArray, List.getElem_cons_succ, List.getElem_cons_zero, Act.put, List.setIfInBounds_toArray, List.set_cons_zero, List.set_cons_succ]
            refine wpAnyH_take (i := 4) (v := ?_) rfl (by kernel_rfl) (by kernel_rfl) (by kernel_rfl) (fun _ _ _ h => h) (Or.inl ⟨by rfl, ?_⟩) (by assumption) ?_
            rotate_left
            · intro w hSw
              try dsimp only at hSw
              go_simp
              try with_reducible rfl
            simp only [List.getElem_toArray, List.getElem_cons_succ, List.getElem_cons_zero, Act.put, List.setIfInBounds_toArray, List.set_cons_zero, List.set_cons_succ]
            refine wpAnyH_take (i := 5) (v := ?_) rfl (by kernel_rfl) (by kernel_rfl) (by kernel_rfl) (fun _ _ _ h => h) (Or.inl ⟨by rfl, ?_⟩) (by assumption) ?_
            rotate_left
            · intro w hSw
              try dsimp only at hSw
              go_simp
              try with_reducible rfl
            simp only [List.getElem_toArray, List.getElem_cons_succ, List.getElem_cons_zero, Act.put, List.setIfInBounds_toArray, List.set_cons_zero, List.set_cons_succ]
            refine wpAnyH_take (i := 6) (v := ?_) rfl (by kernel_rfl) (by kernel_rfl) (by kernel_rfl) (fun _ _ _ h => h) (Or.inl ⟨by rfl, ?_⟩) (by assumption) ?_
            rotate_left
            · intro w hSw
              try dsimp only at hSw
              go_simp
              try with_reducible rfl
            simp only [List.getElem_toArray, List.getElem_cons_succ, List.getElem_cons_zero, Act.put, List.setIfInBounds_toArray, List.set_cons_zero, List.set_cons_succ]
            refine wpAnyH_take (i := 7) (v := ?_) rfl (by kernel_rfl) (by kernel_rfl) (by kernel_rfl) (fun _ _ _ h => h) (Or.inl ⟨by rfl, ?_⟩) (by assumption) ?_
            rotate_left
            · intro w hSw
              try dsimp only at hSw
              go_simp
              try with_reducible rfl
            simp only [List.getElem_toArray, List.getElem_cons_succ, List.getElem_cons_zero, Act.put, List.setIfInBounds_toArray, List.set_cons_zero, List.set_cons_succ]
            refine wpAnyH_take (i := 8) (v := ?_) rfl (by kernel_rfl) (by kernel_rfl) (by kernel_rfl) (fun _ _ _ h => h) (Or.inl ⟨by rfl, ?_⟩) (by assumption) ?_
            rotate_left
            · intro w hSw
              try dsimp only at hSw
              go_simp
              try with_reducible rfl
            simp only [List.getElem_toArray, List.getElem_cons_succ, List.getElem_cons_zero, Act.put, List.setIfInBounds_toArray, List.set_cons_zero, List.set_cons_succ]
            refine wpAnyH_take (i := 9) (v := ?_) rfl (by kernel_rfl) (by kernel_rfl) (by kernel_rfl) (fun _ _ _ h => h) (Or.inl ⟨by rfl, ?_⟩) (by assumption) ?_
            rotate_left
            · intro w hSw
              try dsimp only at hSw
              go_simp
              try with_reducible rfl
            simp only [List.getElem_toArray, List.getElem_cons_succ, List.getElem_cons_zero, Act.put, List.setIfInBounds_toArray, List.set_cons_zero, List.set_cons_succ]
            clear hHeld
            refine wpAnyH_ready (rs := [10]) (by kernel_rfl) (by simp) ?_
            refine AllReadyH.cons rfl (fun K hK => ?_) AllReadyH.nil
            refine Node.wp_fn 25 [.tmp 56, .const (.int .i64 12)] _ [.int .i64 nsig, .int .i64 12] (by rfl) (by rfl) (enters Try.func25 (by kernel_rfl) rfl) (few_c _ _ _ _ q1.out) ?_
            rintro e V' ⟨rfl, rfl⟩
            refine ⟨_, rfl, ?_⟩
            try generalize V' = V at *
            refine hK.out _ _ ⟨cell_list F.b rfl, cell_list F.x rfl, cell_list F.y rfl, cell_list F.l hsig.out⟩ (fun _ => ?_)
            clear hK K
            try simp only [List.getElem_toArray, List.getElem_cons_succ, List.getElem_cons_zero, Act.put, List.setIfInBounds_toArray, List.set_cons_zero, List.set_cons_succ]
            refine wpAnyH_ready (rs := [11]) (by kernel_rfl) (by simp) ?_
            refine AllReadyH.cons rfl (fun K hK => ?_) AllReadyH.nil
            refine Node.wp_fn 30 [.const (.int .u8 3), .tmp 49, .tmp 51, .tmp 53, .tmp 57] _ [.int .u8 3, .int .u32 b.ent.toNat, .int .u32 x.ent.toNat, .int .u32 y.ent.toNat, .int .i64 ns] (by rfl) (by rfl) (enters Try.func30 (by kernel_rfl) rfl) (refrows_c 3 b.ent x.ent y.ent ns V (by have := HL1.out; have := HL2.out; have := HL3.out; omega)) ?_
            rintro e V' ⟨bF, v', rfl, o'⟩
            refine ⟨_, rfl, ?_⟩
            replace F := F.later bF
            replace Z := Z.later bF
            have hrl := rowP_le 3 (front b.ent x.ent y.ent) ns
            obtain ⟨r1, hr1⟩ : ∃ r1, rowP 3 (front b.ent x.ent y.ent) ns = r1 := ⟨_, rfl⟩
            rw [hr1] at o' hrl
            have HR7 := Lib.hid hr1
            clear hr1 bF
            try generalize V' = V at *
            refine hK.out _ _ ⟨cell_list F.b rfl, cell_list F.x rfl, cell_list F.y rfl, cell_list F.l hsig.out⟩ (fun _ => ?_)
            clear hK K
            try simp only [List.getElem_toArray, List.getElem_cons_succ, List.getElem_cons_zero, Act.put, List.setIfInBounds_toArray, List.set_cons_zero, List.set_cons_succ]
            refine wpAnyH_ready (rs := [12]) (by kernel_rfl) (by simp) ?_
            refine AllReadyH.cons rfl (fun K hK => ?_) AllReadyH.nil
            refine wp_app (.tmp 47) (.tmp 58) _ (by rfl) V0.heap.size 57 i0 _ 3 24 Try.underlying42 hi hz0 hz1 hz2 rfl (by omega) vb m2.length (prs m2) (by rfl) Z.o v' r1.length (prs r1) (by rfl) (sliceAt_of_own o') (prs_one r1) (by simp only [maxLen]; have := HL1.out; have := HL2.out; have := HL3.out; omega) (by have := HL1.out; have := HL2.out; have := HL3.out; omega) Z.bel.size ?_
            intro vd w1 ho1 hg1 hw1
            have Z2 := Z.push (m := r1) (Below.refl _ _) ho1 hg1 rfl rfl
            replace F := HF0.out.later Z2.bel
            clear Z ho1 hg1 hw1 o'
            have Z := Z2
            clear Z2
            generalize w1 = V at *
            refine hK.out _ _ ⟨cell_list F.b rfl, cell_list F.x rfl, cell_list F.y rfl, cell_list F.l hsig.out⟩ (fun _ => ?_)
            clear hK K
            try simp only [List.getElem_toArray, List.getElem_cons_succ, List.getElem_cons_zero, Act.put, List.setIfInBounds_toArray, List.set_cons_zero, List.set_cons_succ]
            refine wpAnyH_ready (rs := [13]) (by kernel_rfl) (by simp) ?_
            refine AllReadyH.cons rfl (fun K hK => ?_) AllReadyH.nil
            refine Node.wp_set vd (.tmp 59) (.inr rfl) (by rfl) ?_
            refine hK.out _ _ ⟨cell_list F.b rfl, cell_list F.x rfl, cell_list F.y rfl, cell_list F.l hsig.out⟩ (fun _ => ?_)
            clear hK K
            try simp only [List.getElem_toArray, List.getElem_cons_succ, List.getElem_cons_zero, Act.put, List.setIfInBounds_toArray, List.set_cons_zero, List.set_cons_succ]
            refine wpAnyH_done (by kernel_rfl) ?_ _
            clear F
            obtain ⟨m3, hm3⟩ : ∃ m, m2 ++ r1 = m := ⟨_, rfl⟩
            rw [hm3] at Z
            have hle7 : m3.length ≤ 14 := by have := HL1.out; have := HL2.out; have := HL3.out; rw [← hm3, List.length_append]; omega
            have Hm3 := Lib.hid hm3
            clear hm3 hrl hle2
            go_upto_region 8 with (fail)
            have F := HF0.out.later Z.bel
            refine wp_region_held_drew (S := (fun w' => w'.cell? ⟨w.heap.size + 1 + 1, 2, none⟩ = some (.int .u32 b.via.toNat) ∧ w'.cell? ⟨g8, 2, none⟩ = some (.int .u32 x.via.toNat) ∧ w'.cell? ⟨g9, 2, none⟩ = some (.int .u32 y.via.toNat) ∧ w'.cell? ⟨w.heap.size, 0, none⟩ = some (.slice A nsec c))) (by kernel_rfl) ?_ (fun hHeld => ?_)
            · exact ⟨cell_list F.b rfl, cell_list F.x rfl, cell_list F.y rfl, cell_list F.l hsec.out⟩
            have bd : Below V.heap.size V V.drew := (Below.refl _ V).drew
            replace F := F.later bd
            replace Z := Z.later bd
            clear bd
            generalize V.drew = V at *
            refine wpAnyH_take (i := 0) (v := ?_) rfl (by kernel_rfl) (by kernel_rfl) (by kernel_rfl) (fun _ _ _ h => h) (Or.inl ⟨by rfl, ?_⟩) (by assumption) ?_
            rotate_left
            · intro w hSw
              try dsimp only at hSw
              go_simp
              try with_reducible rfl
            simp only [List.getElem_toArray, List.getElem_cons_succ, List.getElem_cons_zero, Act.put, List.setIfInBounds_toArray, List.set_cons_zero, List.set_cons_succ]
            refine wpAnyH_take (i := 1) (v := ?_) rfl (by kernel_rfl) (by kernel_rfl) (by kernel_rfl) (fun _ _ _ h => h) (Or.inl ⟨by rfl, ?_⟩) (by assumption) ?_
            rotate_left
            · intro w hSw
              try dsimp only at hSw
              go_simp
              try with_reducible rfl
            simp only [List.getElem_toArray, List.getElem_cons_succ, List.getElem_cons_zero, Act.put, List.setIfInBounds_toArray, List.set_cons_zero, List.set_cons_succ]
            refine wpAnyH_take (i := 2) (v := ?_) rfl (by kernel_rfl) (by kernel_rfl) (by kernel_rfl) (fun _ _ _ h => h) (Or.inl ⟨by rfl, ?_⟩) (by assumption) ?_
            rotate_left
            · intro w hSw
              try dsimp only at hSw
              go_simp
              try with_reducible rfl
            simp only [List.getElem_toArray, List.getElem_cons_succ, List.getElem_cons_zero, Act.put, List.setIfInBounds_toArray, List.set_cons_zero, List.set_cons_succ]
            refine wpAnyH_take (i := 3) (v := ?_) rfl (by kernel_rfl) (by kernel_rfl) (by kernel_rfl) (fun _ _ _ h => h) (Or.inl ⟨by rfl, ?_⟩) (by assumption) ?_
            rotate_left
            · intro w hSw
              try dsimp only at hSw
              go_simp
              try with_reducible rfl
            simp only [List.getElem_toArray, List.getElem_cons_succ, List.getElem_cons_zero, Act.put, List.setIfInBounds_toArray, List.set_cons_zero, List.set_cons_succ]
            refine wpAnyH_take (i := 4) (v := ?_) rfl (by kernel_rfl) (by kernel_rfl) (by kernel_rfl) (fun _ _ _ h => h) (Or.inl ⟨by rfl, ?_⟩) (by assumption) ?_
            rotate_left
            · intro w hSw
              try dsimp only at hSw
              go_simp
              try with_reducible rfl
            simp only [List.getElem_toArray, List.getElem_cons_succ, List.getElem_cons_zero, Act.put, List.setIfInBounds_toArray, List.set_cons_zero, List.set_cons_succ]
            refine wpAnyH_take (i := 5) (v := ?_) rfl (by kernel_rfl) (by kernel_rfl) (by kernel_rfl) (fun _ _ _ h => h) (Or.inl ⟨by rfl, ?_⟩) (by assumption) ?_
            rotate_left
            · intro w hSw
              try dsimp only at hSw
              go_simp
              try with_reducible rfl
            simp only [List.getElem_toArray, List.getElem_cons_succ, List.getElem_cons_zero, Act.put, List.setIfInBounds_toArray, List.set_cons_zero, List.set_cons_succ]
            refine wpAnyH_take (i := 6) (v := ?_) rfl (by kernel_rfl) (by kernel_rfl) (by kernel_rfl) (fun _ _ _ h => h) (Or.inl ⟨by rfl, ?_⟩) (by assumption) ?_
            rotate_left
            · intro w hSw
              try dsimp only at hSw
              go_simp
              try with_reducible rfl
            simp only [List.getElem_toArray, List.getElem_cons_succ, List.getElem_cons_zero, Act.put, List.setIfInBounds_toArray, List.set_cons_zero, List.set_cons_succ]
            refine wpAnyH_take (i := 7) (v := ?_) rfl (by kernel_rfl) (by kernel_rfl) (by kernel_rfl) (fun _ _ _ h => h) (Or.inl ⟨by rfl, ?_⟩) (by assumption) ?_
            rotate_left
            · intro w hSw
              try dsimp only at hSw
              go_simp
              try with_reducible rfl
            simp only [List.getElem_toArray, List.getElem_cons_succ, List.getElem_cons_zero, Act.put, List.setIfInBounds_toArray, List.set_cons_zero, List.set_cons_succ]
            refine wpAnyH_take (i := 8) (v := ?_) rfl (by kernel_rfl) (by kernel_rfl) (by kernel_rfl) (fun _ _ _ h => h) (Or.inl ⟨by rfl, ?_⟩) (by assumption) ?_
            rotate_left
            · intro w hSw
              try dsimp only at hSw
              go_simp
              try with_reducible rfl
            simp only [List.getElem_toArray, List.getElem_cons_succ, List.getElem_cons_zero, Act.put, List.setIfInBounds_toArray, List.set_cons_zero, List.set_cons_succ]
            refine wpAnyH_take (i := 9) (v := ?_) rfl (by kernel_rfl) (by kernel_rfl) (by kernel_rfl) (fun _ _ _ h => h) (Or.inl ⟨by rfl, ?_⟩) (by assumption) ?_
            rotate_left
            · intro w hSw
              try dsimp only at hSw
              go_simp
              try with_reducible rfl
            simp only [List.getElem_toArray, List.getElem_cons_succ, List.getElem_cons_zero, Act.put, List.setIfInBounds_toArray, List.set_cons_zero, List.set_cons_succ]
            clear hHeld
            refine wpAnyH_ready (rs := [10]) (by kernel_rfl) (by simp) ?_
            refine AllReadyH.cons rfl (fun K hK => ?_) AllReadyH.nil
            refine Node.wp_fn 25 [.tmp 69, .const (.int .i64 24)] _ [.int .i64 nsec, .int .i64 24] (by rfl) (by rfl) (enters Try.func25 (by kernel_rfl) rfl) (few_c _ _ _ _ q3.out) ?_
            rintro e V' ⟨rfl, rfl⟩
            refine ⟨_, rfl, ?_⟩
            try generalize V' = V at *
            refine hK.out _ _ ⟨cell_list F.b rfl, cell_list F.x rfl, cell_list F.y rfl, cell_list F.l hsec.out⟩ (fun _ => ?_)
            clear hK K
            try simp only [List.getElem_toArray, List.getElem_cons_succ, List.getElem_cons_zero, Act.put, List.setIfInBounds_toArray, List.set_cons_zero, List.set_cons_succ]
            refine wpAnyH_ready (rs := [11]) (by kernel_rfl) (by simp) ?_
            refine AllReadyH.cons rfl (fun K hK => ?_) AllReadyH.nil
            refine Node.wp_fn 30 [.const (.int .u8 4), .tmp 62, .tmp 64, .tmp 66, .tmp 70] _ [.int .u8 4, .int .u32 b.via.toNat, .int .u32 x.via.toNat, .int .u32 y.via.toNat, .int .i64 nc] (by rfl) (by rfl) (enters Try.func30 (by kernel_rfl) rfl) (refrows_c 4 b.via x.via y.via nc V (by have := HL1.out; have := HL2.out; have := HL3.out; omega)) ?_
            rintro e V' ⟨bF, v', rfl, o'⟩
            refine ⟨_, rfl, ?_⟩
            replace F := F.later bF
            replace Z := Z.later bF
            have hrl := rowP_le 4 (front b.via x.via y.via) nc
            obtain ⟨r1, hr1⟩ : ∃ r1, rowP 4 (front b.via x.via y.via) nc = r1 := ⟨_, rfl⟩
            rw [hr1] at o' hrl
            have HR8 := Lib.hid hr1
            clear hr1 bF
            try generalize V' = V at *
            refine hK.out _ _ ⟨cell_list F.b rfl, cell_list F.x rfl, cell_list F.y rfl, cell_list F.l hsec.out⟩ (fun _ => ?_)
            clear hK K
            try simp only [List.getElem_toArray, List.getElem_cons_succ, List.getElem_cons_zero, Act.put, List.setIfInBounds_toArray, List.set_cons_zero, List.set_cons_succ]
            refine wpAnyH_ready (rs := [12]) (by kernel_rfl) (by simp) ?_
            refine AllReadyH.cons rfl (fun K hK => ?_) AllReadyH.nil
            refine wp_app (.tmp 60) (.tmp 71) _ (by rfl) V0.heap.size 57 i0 _ 3 24 Try.underlying42 hi hz0 hz1 hz2 rfl (by omega) vd m3.length (prs m3) (by rfl) Z.o v' r1.length (prs r1) (by rfl) (sliceAt_of_own o') (prs_one r1) (by simp only [maxLen]; have := HL1.out; have := HL2.out; have := HL3.out; omega) (by have := HL1.out; have := HL2.out; have := HL3.out; omega) Z.bel.size ?_
            intro ve1 w1 ho1 hg1 hw1
            have Z2 := Z.push (m := r1) (Below.refl _ _) ho1 hg1 rfl rfl
            replace F := HF0.out.later Z2.bel
            clear Z ho1 hg1 hw1 o'
            have Z := Z2
            clear Z2
            generalize w1 = V at *
            refine hK.out _ _ ⟨cell_list F.b rfl, cell_list F.x rfl, cell_list F.y rfl, cell_list F.l hsec.out⟩ (fun _ => ?_)
            clear hK K
            try simp only [List.getElem_toArray, List.getElem_cons_succ, List.getElem_cons_zero, Act.put, List.setIfInBounds_toArray, List.set_cons_zero, List.set_cons_succ]
            refine wpAnyH_ready (rs := [13]) (by kernel_rfl) (by simp) ?_
            refine AllReadyH.cons rfl (fun K hK => ?_) AllReadyH.nil
            refine Node.wp_set ve1 (.tmp 72) (.inr rfl) (by rfl) ?_
            refine hK.out _ _ ⟨cell_list F.b rfl, cell_list F.x rfl, cell_list F.y rfl, cell_list F.l hsec.out⟩ (fun _ => ?_)
            clear hK K
            try simp only [List.getElem_toArray, List.getElem_cons_succ, List.getElem_cons_zero, Act.put, List.setIfInBounds_toArray, List.set_cons_zero, List.set_cons_succ]
            refine wpAnyH_done (by kernel_rfl) ?_ _
            clear F
            obtain ⟨m4, hm4⟩ : ∃ m, m3 ++ r1 = m := ⟨_, rfl⟩
            rw [hm4] at Z
            have hle8 : m4.length ≤ 38 := by have := HL1.out; have := HL2.out; have := HL3.out; rw [← hm4, List.length_append]; omega
            have Hm4 := Lib.hid hm4
            clear hm4 hrl hle7
            go_upto_region 9 with (fail)
            have F := HF0.out.later Z.bel
            refine wp_region_held_drew (S := (fun w' => w'.cell? ⟨w.heap.size + 1 + 1, 1, none⟩ = some (.int .u32 b.exi.toNat) ∧ w'.cell? ⟨g8, 1, none⟩ = some (.int .u32 x.exi.toNat) ∧ w'.cell? ⟨g9, 1, none⟩ = some (.int .u32 y.exi.toNat) ∧ w'.cell? ⟨w.heap.size, 2, none⟩ = some (.slice Ae lens.length ce))) (by kernel_rfl) ?_ (fun hHeld => ?_)
            · exact ⟨cell_list F.b rfl, cell_list F.x rfl, cell_list F.y rfl, cell_list F.l hex.out⟩
            have bd : Below V.heap.size V V.drew := (Below.refl _ V).drew
            replace F := F.later bd
            replace Z := Z.later bd
            clear bd
            generalize V.drew = V at *
            refine wpAnyH_take (i := 0) (v := ?_) rfl (by kernel_rfl) (by kernel_rfl) (by kernel_rfl) (fun _ _ _ h => h) (Or.inl ⟨by rfl, ?_⟩) (by assumption) ?_
            rotate_left
            · intro w hSw
              try dsimp only at hSw
              go_simp
              try with_reducible rfl
            simp only [List.getElem_toArray, List.getElem_cons_succ, List.getElem_cons_zero, Act.put, List.setIfInBounds_toArray, List.set_cons_zero, List.set_cons_succ]
            refine wpAnyH_take (i := 1) (v := ?_) rfl (by kernel_rfl) (by kernel_rfl) (by kernel_rfl) (fun _ _ _ h => h) (Or.inl ⟨by rfl, ?_⟩) (by assumption) ?_
            rotate_left
            · intro w hSw
              try dsimp only at hSw
              go_simp
              try with_reducible rfl
            simp only [List.getElem_toArray, List.getElem_cons_succ, List.getElem_cons_zero, Act.put, List.setIfInBounds_toArray, List.set_cons_zero, List.set_cons_succ]
            refine wpAnyH_take (i := 2) (v := ?_) rfl (by kernel_rfl) (by kernel_rfl) (by kernel_rfl) (fun _ _ _ h => h) (Or.inl ⟨by rfl, ?_⟩) (by assumption) ?_
            rotate_left
            · intro w hSw
              try dsimp only at hSw
              go_simp
              try with_reducible rfl
            simp only [List.getElem_toArray, List.getElem_cons_succ, List.getElem_cons_zero, Act.put, List.setIfInBounds_toArray, List.set_cons_zero, List.set_cons_succ]
            refine wpAnyH_take (i := 3) (v := ?_) rfl (by kernel_rfl) (by kernel_rfl) (by kernel_rfl) (fun _ _ _ h => h) (Or.inl ⟨by rfl, ?_⟩) (by assumption) ?_
            rotate_left
            · intro w hSw
              try dsimp only at hSw
              go_simp
              try with_reducible rfl
            simp only [List.getElem_toArray, List.getElem_cons_succ, List.getElem_cons_zero, Act.put, List.setIfInBounds_toArray, List.set_cons_zero, List.set_cons_succ]
            refine wpAnyH_take (i := 4) (v := ?_) rfl (by kernel_rfl) (by kernel_rfl) (by kernel_rfl) (fun _ _ _ h => h) (Or.inl ⟨by rfl, ?_⟩) (by assumption) ?_
            rotate_left
            · intro w hSw
              try dsimp only at hSw
              go_simp
              try with_reducible rfl
            simp only [List.getElem_toArray, List.getElem_cons_succ, List.getElem_cons_zero, Act.put, List.setIfInBounds_toArray, List.set_cons_zero, List.set_cons_succ]
            refine wpAnyH_take (i := 5) (v := ?_) rfl (by kernel_rfl) (by kernel_rfl) (by kernel_rfl) (fun _ _ _ h => h) (Or.inl ⟨by rfl, ?_⟩) (by assumption) ?_
            rotate_left
            · intro w hSw
              try dsimp only at hSw
              go_simp
              try with_reducible rfl
            simp only [List.getElem_toArray, List.getElem_cons_succ, List.getElem_cons_zero, Act.put, List.setIfInBounds_toArray, List.set_cons_zero, List.set_cons_succ]
            refine wpAnyH_take (i := 6) (v := ?_) rfl (by kernel_rfl) (by kernel_rfl) (by kernel_rfl) (fun _ _ _ h => h) (Or.inl ⟨by rfl, ?_⟩) (by assumption) ?_
            rotate_left
            · intro w hSw
              try dsimp only at hSw
              go_simp
              try with_reducible rfl
            simp only [List.getElem_toArray, List.getElem_cons_succ, List.getElem_cons_zero, Act.put, List.setIfInBounds_toArray, List.set_cons_zero, List.set_cons_succ]
            refine wpAnyH_take (i := 7) (v := ?_) rfl (by kernel_rfl) (by kernel_rfl) (by kernel_rfl) (fun _ _ _ h => h) (Or.inl ⟨by rfl, ?_⟩) (by assumption) ?_
            rotate_left
            · intro w hSw
              try dsimp only at hSw
              go_simp
              try with_reducible rfl
            simp only [List.getElem_toArray, List.getElem_cons_succ, List.getElem_cons_zero, Act.put, List.setIfInBounds_toArray, List.set_cons_zero, List.set_cons_succ]
            refine wpAnyH_take (i := 8) (v := ?_) rfl (by kernel_rfl) (by kernel_rfl) (by kernel_rfl) (fun _ _ _ h => h) (Or.inl ⟨by rfl, ?_⟩) (by assumption) ?_
            rotate_left
            · intro w hSw
              try dsimp only at hSw
              go_simp
              try with_reducible rfl
            simp only [List.getElem_toArray, List.getElem_cons_succ, List.getElem_cons_zero, Act.put, List.setIfInBounds_toArray, List.set_cons_zero, List.set_cons_succ]
            refine wpAnyH_take (i := 9) (v := ?_) rfl (by kernel_rfl) (by kernel_rfl) (by kernel_rfl) (fun _ _ _ h => h) (Or.inl ⟨by rfl, ?_⟩) (by assumption) ?_
            rotate_left
            · intro w hSw
              try dsimp only at hSw
              go_simp
              try with_reducible rfl
            simp only [List.getElem_toArray, List.getElem_cons_succ, List.getElem_cons_zero, Act.put, List.setIfInBounds_toArray, List.set_cons_zero, List.set_cons_succ]
            clear hHeld
            refine wpAnyH_ready (rs := [10]) (by kernel_rfl) (by simp) ?_
            refine AllReadyH.cons rfl (fun K hK => ?_) AllReadyH.nil
            refine Node.wp_fn 25 [.tmp 82, .const (.int .i64 12)] _ [.int .i64 lens.length, .int .i64 12] (by rfl) (by rfl) (enters Try.func25 (by kernel_rfl) rfl) (few_c _ _ _ _ q2.out) ?_
            rintro e V' ⟨rfl, rfl⟩
            refine ⟨_, rfl, ?_⟩
            try generalize V' = V at *
            refine hK.out _ _ ⟨cell_list F.b rfl, cell_list F.x rfl, cell_list F.y rfl, cell_list F.l hex.out⟩ (fun _ => ?_)
            clear hK K
            try simp only [List.getElem_toArray, List.getElem_cons_succ, List.getElem_cons_zero, Act.put, List.setIfInBounds_toArray, List.set_cons_zero, List.set_cons_succ]
            refine wpAnyH_ready (rs := [11]) (by kernel_rfl) (by simp) ?_
            refine AllReadyH.cons rfl (fun K hK => ?_) AllReadyH.nil
            refine Node.wp_fn 30 [.const (.int .u8 5), .tmp 75, .tmp 77, .tmp 79, .tmp 83] _ [.int .u8 5, .int .u32 b.exi.toNat, .int .u32 x.exi.toNat, .int .u32 y.exi.toNat, .int .i64 ne] (by rfl) (by rfl) (enters Try.func30 (by kernel_rfl) rfl) (refrows_c 5 b.exi x.exi y.exi ne V (by have := HL1.out; have := HL2.out; have := HL3.out; omega)) ?_
            rintro e V' ⟨bF, v', rfl, o'⟩
            refine ⟨_, rfl, ?_⟩
            replace F := F.later bF
            replace Z := Z.later bF
            have hrl := rowP_le 5 (front b.exi x.exi y.exi) ne
            obtain ⟨r1, hr1⟩ : ∃ r1, rowP 5 (front b.exi x.exi y.exi) ne = r1 := ⟨_, rfl⟩
            rw [hr1] at o' hrl
            have HR9 := Lib.hid hr1
            clear hr1 bF
            try generalize V' = V at *
            refine hK.out _ _ ⟨cell_list F.b rfl, cell_list F.x rfl, cell_list F.y rfl, cell_list F.l hex.out⟩ (fun _ => ?_)
            clear hK K
            try simp only [List.getElem_toArray, List.getElem_cons_succ, List.getElem_cons_zero, Act.put, List.setIfInBounds_toArray, List.set_cons_zero, List.set_cons_succ]
            refine wpAnyH_ready (rs := [12]) (by kernel_rfl) (by simp) ?_
            refine AllReadyH.cons rfl (fun K hK => ?_) AllReadyH.nil
            refine wp_app (.tmp 73) (.tmp 84) _ (by rfl) V0.heap.size 57 i0 _ 3 24 Try.underlying42 hi hz0 hz1 hz2 rfl (by omega) ve1 m4.length (prs m4) (by rfl) Z.o v' r1.length (prs r1) (by rfl) (sliceAt_of_own o') (prs_one r1) (by simp only [maxLen]; have := HL1.out; have := HL2.out; have := HL3.out; omega) (by have := HL1.out; have := HL2.out; have := HL3.out; omega) Z.bel.size ?_
            intro vf w1 ho1 hg1 hw1
            have Z2 := Z.push (m := r1) (Below.refl _ _) ho1 hg1 rfl rfl
            replace F := HF0.out.later Z2.bel
            clear Z ho1 hg1 hw1 o'
            have Z := Z2
            clear Z2
            generalize w1 = V at *
            refine hK.out _ _ ⟨cell_list F.b rfl, cell_list F.x rfl, cell_list F.y rfl, cell_list F.l hex.out⟩ (fun _ => ?_)
            clear hK K
            try simp only [List.getElem_toArray, List.getElem_cons_succ, List.getElem_cons_zero, Act.put, List.setIfInBounds_toArray, List.set_cons_zero, List.set_cons_succ]
            refine wpAnyH_ready (rs := [13]) (by kernel_rfl) (by simp) ?_
            refine AllReadyH.cons rfl (fun K hK => ?_) AllReadyH.nil
            refine Node.wp_set vf (.tmp 85) (.inr rfl) (by rfl) ?_
            refine hK.out _ _ ⟨cell_list F.b rfl, cell_list F.x rfl, cell_list F.y rfl, cell_list F.l hex.out⟩ (fun _ => ?_)
            clear hK K
            try simp only [List.getElem_toArray, List.getElem_cons_succ, List.getElem_cons_zero, Act.put, List.setIfInBounds_toArray, List.set_cons_zero, List.set_cons_succ]
            refine wpAnyH_done (by kernel_rfl) ?_ _
            clear F
            obtain ⟨m5, hm5⟩ : ∃ m, m4 ++ r1 = m := ⟨_, rfl⟩
            rw [hm5] at Z
            have hle9 : m5.length ≤ 50 := by have := HL1.out; have := HL2.out; have := HL3.out; rw [← hm5, List.length_append]; omega
            have Hm5 := Lib.hid hm5
            clear hm5 hrl hle8
            go_wp2_with fail
            go_loopw [10, 11] (fun out i wr => ∃ j : Nat, j ≤ nc ∧ i = .int .i64 j ∧ PZ V0 wr out (m5 ++ keyP b x y j)) (fun _ i _ => nc - (intOf i).toNat)
            case atStart => exact ⟨0, Nat.zero_le _, rfl, by simpa [keyP] using Z⟩
            case round =>
              clear Z
              obtain ⟨j, hj, rfl, Z⟩ := hrel
              have F := HF0.out.later Z.bel
              have x0 := cell_list F.l hsec.out
              obtain ⟨m6, hm6⟩ : ∃ m, m5 ++ keyP b x y j = m := ⟨_, rfl⟩
              rw [hm6] at Z
              have hle10 : m6.length ≤ 80 := by have := keyP_le b x y j; have := HL3.out; rw [← hm6, List.length_append]; omega
              have HM6 := Lib.hid hm6
              clear hm6
              by_cases hlt : j < nc
              · have i1 : (j : Int) < (nc : Int) := by omega
                have i2 : (j : Int) < 24 := by have := HL3.out; omega
                have hj24 : j < 24 := by have := HL3.out; omega
                have kc := cell_list F.b (btnV_key (b := b) (i := j) (by rw [Hb.out]; exact hj24))
                have kb := cell_list F.x (btnV_key (b := x) (i := j) (by rw [Hx.out]; exact hj24))
                have ka := cell_list F.y (btnV_key (b := y) (i := j) (by rw [Hy.out]; exact hj24))
                have hs := keyP_succ b x y j
                have hon := on_eq (b.keys.getD j 0#8) (x.keys.getD j 0#8) (y.keys.getD j 0#8)
                obtain ⟨d, hd⟩ : ∃ d, keyOn (b.keys.getD j 0#8) (x.keys.getD j 0#8) (y.keys.getD j 0#8) = d := ⟨_, rfl⟩
                rw [hd] at hs hon
                have hbc : 0 ≤ ((b.keys.getD j 0#8).toNat : Int) ∧ ((b.keys.getD j 0#8).toNat : Int) ≤ 255 := by have := (b.keys.getD j 0#8).isLt; omega
                generalize ((b.keys.getD j 0#8).toNat : Int) = ic at *
                generalize ((x.keys.getD j 0#8).toNat : Int) = ib at *
                generalize ((y.keys.getD j 0#8).toNat : Int) = ia at *
                have HON := Lib.hid hon
                have HS := Lib.hid hs
                clear hon hs hd F
                generalize u10 = vg at *
                go_wp2_with fail
                refine (few_c _ _ _ _ q3.out).mono ?_
                rintro e V9 ⟨rfl, rfl⟩
                generalize V9 = V at *
                go_upto_region 14 with (fail)
                clear x0 kc
                go_cut [126] from 86 to 134 (fun v wx => v = .bool d ∧ wx = V)
                case first =>
                  clear Z
                  by_cases b1 : ic = 1
                  · subst b1
                    by_cases bx : ib = 1
                    · subst bx
                      by_cases bz : ia = 1
                      · subst bz
                        go_wp2
                        go_meet
                        exact ⟨by rw [← HON.out]; rfl, rfl⟩
                      · have g1 : (ia == 1) = false := by simpa using bz
                        have g2 : (ia != 1) = true := by simp [bne, g1]
                        clear bz
                        by_cases b3 : ia = 3
                        · subst b3
                          go_wp2
                          go_meet
                          exact ⟨by rw [← HON.out]; rfl, rfl⟩
                        · have g3 : (ia == 3) = false := by simpa using b3
                          have g4 : (ia != 3) = true := by simp [bne, g3]
                          clear b3
                          go_wp2
                          go_meet
                          exact ⟨by rw [← HON.out]; simp [onI, g2, g4], rfl⟩
                    · have g1 : (ib == 1) = false := by simpa using bx
                      clear bx
                      go_wp2
                      go_meet
                      exact ⟨by rw [← HON.out]; simp [onI, g1], rfl⟩
                  · have g5 : (ic == 1) = false := by simpa using b1
                    by_cases b2 : ic = 2
                    · subst b2
                      clear b1
                      by_cases bx : ib = 2
                      · subst bx
                        by_cases bz : ia = 2
                        · subst bz
                          go_wp2
                          go_meet
                          exact ⟨by rw [← HON.out]; rfl, rfl⟩
                        · have g1 : (ia == 2) = false := by simpa using bz
                          have g2 : (ia != 2) = true := by simp [bne, g1]
                          clear bz
                          by_cases b3 : ia = 3
                          · subst b3
                            go_wp2
                            go_meet
                            exact ⟨by rw [← HON.out]; rfl, rfl⟩
                          · have g3 : (ia == 3) = false := by simpa using b3
                            have g4 : (ia != 3) = true := by simp [bne, g3]
                            clear b3
                            go_wp2
                            go_meet
                            exact ⟨by rw [← HON.out]; simp [onI, g2, g4], rfl⟩
                      · have g1 : (ib == 2) = false := by simpa using bx
                        clear bx
                        go_wp2
                        go_meet
                        exact ⟨by rw [← HON.out]; simp [onI, g1], rfl⟩
                    · have g6 : (ic == 2) = false := by simpa using b2
                      clear b1 b2
                      go_wp2
                      go_meet
                      exact ⟨by rw [← HON.out]; simp [onI, g5, g6], rfl⟩
                case rest =>
                  obtain ⟨rfl, rfl⟩ := hcut
                  clear ka kb
                  cases d
                  · go_wp2_with fail
                    go_roundw
                    case rel => exact ⟨j + 1, hlt, by go_num, by rw [HS.out]; simpa [HM6.out] using Z⟩
                    case measure => simp [intOf]; omega
                  · skip
                    have hown := (Z.later (kbelow_new wc (.cells #[.int .u8 6, .int .i64 j, .int .i64 (ic - 1)] 57))).o
                    have hsrc := sliceAt_blk3 (w := wc.alloc (.cells #[.int .u8 6, .int .i64 j, .int .i64 (ic - 1)] 57)) (cs := [.int .u8 6, .int .i64 j, .int .i64 (ic - 1)]) (new_at rfl _) rfl
                    have hbs : V0.heap.size ≤ wc.heap.size := Z.bel.size
                    go_wp2_with (at_builtin; go_loud (refine wpList_append_src (by rfl) (.tmp 127) (.tmp 133) _ (by rfl) V0.heap.size 57 i0 _ 3 24 Try.underlying42 hi hz0 hz1 hz2 rfl (by omega) vg m6.length (prs m6) (by rfl) hown (.slice (some ⟨wc.heap.size, 0, none⟩) 1 1) 1 [.int .u8 6, .int .i64 j, .int .i64 (ic - 1)] (by rfl) hsrc (by simp [Value.oneCell']) (by simp only [maxLen]; omega) (by omega) (by simp; omega) ?_; intro v1 w1 ho1 hg1 hw1))
                    have Z2 := Z.push (m := [(6, (j : Int), ic - 1)]) (kbelow_new _ _) ho1 hg1 rfl rfl
                    clear hown hsrc hbs ho1 hg1 hw1
                    go_roundw
                    case rel => exact ⟨j + 1, hlt, by go_num, by rw [HS.out, ← List.append_assoc, HM6.out]; exact Z2⟩
                    case measure => simp [intOf]; omega
              · skip
                obtain rfl : j = nc := by omega
                generalize u10 = vg at *
                go_wp2_with fail
                refine (few_c _ _ _ _ q3.out).mono ?_
                rintro e V9 ⟨rfl, rfl⟩
                clear x0
                have HLast : Hid (m6 = pressL b x y ns ne j) := Lib.hid (by rw [← HM6.out, ← Hm5.out, ← Hm4.out, ← Hm3.out, ← HM2.out, ← HM1.out, ← HR7.out, ← HR8.out, ← HR9.out, ← HD1.out, ← HD2.out]; simp only [pressL, List.append_assoc])
                have hz3 := (Array.getElem?_eq_some_iff.1 HF0.out.z).1
                have szZ : (Try.prog.info? 35).map (·.size) = some (memV b x).length := by rw [memV_len Hb.out Hx.out]; kernel_rfl
                go_upto_region 16 with (fail)
                refine wp_region_held_drew (S := (fun w' => w'.rangeAt (w.heap.size + 1 + 1) 0 (btnV b) ∧ w'.rangeAt g8 0 (btnV x))) (by kernel_rfl) ?_ (fun hHeld => ?_)
                · exact ⟨range_of F.b, range_of F.x⟩
                have bd : Below V9.heap.size V9 V9.drew := (Below.refl _ V9).drew
                replace F := F.later bd
                replace Z := Z.later bd
                clear bd
                generalize V9.drew = V at *
                refine wpAnyH_take (i := 0) (v := ?_) rfl (by kernel_rfl) (by kernel_rfl) (by kernel_rfl) (fun _ _ _ h => h) (Or.inl ⟨by rfl, ?_⟩) (by assumption) ?_
                rotate_left
                · intro w hSw
                  try dsimp only at hSw
                  go_simp
                  try with_reducible rfl
                simp only [List.getElem_toArray, List.getElem_cons_succ, List.getElem_cons_zero, Act.put, List.setIfInBounds_toArray, List.set_cons_zero, List.set_cons_succ]
                refine wpAnyH_take (i := 1) (v := .agg ((btnV b) : List Value).toArray) rfl (by kernel_rfl) (by kernel_rfl) (by kernel_rfl) (fun _ _ _ h => h) (yieldsIf_load_mid rfl 33 (.tmp 5) rfl (w.heap.size + 1 + 1) 0 rfl (btnV b) _ (fun w' h => h.1) (by first | exact Try.underlying33) rfl (by first | assumption | (simp only [*]; kernel_rfl))) (by assumption) ?_
                simp only [List.getElem_toArray, List.getElem_cons_succ, List.getElem_cons_zero, Act.put, List.setIfInBounds_toArray, List.set_cons_zero, List.set_cons_succ]
                refine wpAnyH_take (i := 2) (v := .agg ((btnV x) : List Value).toArray) rfl (by kernel_rfl) (by kernel_rfl) (by kernel_rfl) (fun _ _ _ h => h) (yieldsIf_load_mid rfl 33 (.tmp 8) rfl (g8) 0 rfl (btnV x) _ (fun w' h => h.2) (by first | exact Try.underlying33) rfl (by first | assumption | (simp only [*]; kernel_rfl))) (by assumption) ?_
                simp only [List.getElem_toArray, List.getElem_cons_succ, List.getElem_cons_zero, Act.put, List.setIfInBounds_toArray, List.set_cons_zero, List.set_cons_succ]
                clear hHeld
                refine wpAnyH_ready (rs := [3, 4]) (by kernel_rfl) (by simp) ?_
                refine AllReadyH.cons rfl (fun K hK => ?_) (AllReadyH.cons rfl (fun K hK => ?_) AllReadyH.nil)
                · skip
                  refine wp_build2 35 (.tmp 136) (.tmp 137) (by rfl) _ _ (.agg (memV b x).toArray) (by rfl) (by rfl) (build_mem (btnV b) (btnV x) (btnV_len Hb.out) (btnV_len Hx.out) V) ?_
                  refine hK.out _ _ ⟨range_of F.b, range_of F.x⟩ (fun _ => ?_)
                  clear hK K
                  try simp only [List.getElem_toArray, List.getElem_cons_succ, List.getElem_cons_zero, Act.put, List.setIfInBounds_toArray, List.set_cons_zero, List.set_cons_succ]
                  refine wpAnyH_ready (rs := [4]) (by kernel_rfl) (by simp) ?_
                  refine AllReadyH.cons rfl (fun K hK => ?_) AllReadyH.nil
                  refine Node.wp_set vg (.tmp 135) (.inr rfl) (by rfl) ?_
                  refine hK.out _ _ ⟨range_of F.b, range_of F.x⟩ (fun _ => ?_)
                  clear hK K
                  try simp only [List.getElem_toArray, List.getElem_cons_succ, List.getElem_cons_zero, Act.put, List.setIfInBounds_toArray, List.set_cons_zero, List.set_cons_succ]
                  refine wpAnyH_ready (rs := [5]) (by kernel_rfl) (by simp) ?_
                  refine AllReadyH.cons rfl (fun K hK => ?_) AllReadyH.nil
                  obtain ⟨V', hW, FZ, bF, far, ths⟩ := fill_new (memV b x) F.z (by rw [memV_len Hb.out Hx.out]; rfl) F.bel (by omega)
                  refine wp_store_mid 35 (.tmp 7) (.tmp 138) (by rfl) (w.heap.size + 1 + 1 + 1) 0 (memV b x).toArray (by rfl) (by rfl) ths (by simpa using szZ) (all_one (memV_one _ _)) ?_
                  rw [hW]
                  refine hK.out _ _ ⟨fun j v hv => (World.cell?_of_block (a := ⟨w.heap.size + 1 + 1, 0 + j, none⟩) (far _ (by simp only; omega))).trans (range_of F.b j v hv), fun j v hv => (World.cell?_of_block (a := ⟨g8, 0 + j, none⟩) (far _ (by simp only; intro e; have h1 := F.x; rw [e, F.z] at h1; exact absurd (Obj.cells.inj (Option.some.inj h1)).2.1 (by decide)))).trans (range_of F.x j v hv)⟩ (fun _ => ?_)
                  clear hK K
                  have o9 := own_mono (own_later (w' := V') Z.o (fun k hk => far k (by have := (own_base Z.o hk).1; omega))) (base' := w.heap.size) (by omega)
                  clear hW ths far Z F
                  refine wpAnyH_done (by kernel_rfl) ?_ _
                  go_wp2_with fail
                  refine bodyPost_ret (res_mid3 (t := 7) (u := 6) (M := memV b x) Try.underlying35 rfl rfl szZ rfl FZ) rfl ⟨bF, vg, rfl, by rw [← HLast.out]; exact o9⟩
                · skip
                  refine Node.wp_set vg (.tmp 135) (.inr rfl) (by rfl) ?_
                  refine hK.out _ _ ⟨range_of F.b, range_of F.x⟩ (fun _ => ?_)
                  clear hK K
                  try simp only [List.getElem_toArray, List.getElem_cons_succ, List.getElem_cons_zero, Act.put, List.setIfInBounds_toArray, List.set_cons_zero, List.set_cons_succ]
                  refine wpAnyH_ready (rs := [3]) (by kernel_rfl) (by simp) ?_
                  refine AllReadyH.cons rfl (fun K hK => ?_) AllReadyH.nil
                  refine wp_build2 35 (.tmp 136) (.tmp 137) (by rfl) _ _ (.agg (memV b x).toArray) (by rfl) (by rfl) (build_mem (btnV b) (btnV x) (btnV_len Hb.out) (btnV_len Hx.out) V) ?_
                  refine hK.out _ _ ⟨range_of F.b, range_of F.x⟩ (fun _ => ?_)
                  clear hK K
                  try simp only [List.getElem_toArray, List.getElem_cons_succ, List.getElem_cons_zero, Act.put, List.setIfInBounds_toArray, List.set_cons_zero, List.set_cons_succ]
                  refine wpAnyH_ready (rs := [5]) (by kernel_rfl) (by simp) ?_
                  refine AllReadyH.cons rfl (fun K hK => ?_) AllReadyH.nil
                  obtain ⟨V', hW, FZ, bF, far, ths⟩ := fill_new (memV b x) F.z (by rw [memV_len Hb.out Hx.out]; rfl) F.bel (by omega)
                  refine wp_store_mid 35 (.tmp 7) (.tmp 138) (by rfl) (w.heap.size + 1 + 1 + 1) 0 (memV b x).toArray (by rfl) (by rfl) ths (by simpa using szZ) (all_one (memV_one _ _)) ?_
                  rw [hW]
                  refine hK.out _ _ ⟨fun j v hv => (World.cell?_of_block (a := ⟨w.heap.size + 1 + 1, 0 + j, none⟩) (far _ (by simp only; omega))).trans (range_of F.b j v hv), fun j v hv => (World.cell?_of_block (a := ⟨g8, 0 + j, none⟩) (far _ (by simp only; intro e; have h1 := F.x; rw [e, F.z] at h1; exact absurd (Obj.cells.inj (Option.some.inj h1)).2.1 (by decide)))).trans (range_of F.x j v hv)⟩ (fun _ => ?_)
                  clear hK K
                  have o9 := own_mono (own_later (w' := V') Z.o (fun k hk => far k (by have := (own_base Z.o hk).1; omega))) (base' := w.heap.size) (by omega)
                  clear hW ths far Z F
                  refine wpAnyH_done (by kernel_rfl) ?_ _
                  go_wp2_with fail
                  refine bodyPost_ret (res_mid3 (t := 7) (u := 6) (M := memV b x) Try.underlying35 rfl rfl szZ rfl FZ) rfl ⟨bF, vg, rfl, by rw [← HLast.out]; exact o9⟩
end Go.Proofs.Ytioggdiicgfoaaa
