/- Keys: the contract of Presses. Nothing that was there is turned. -/
import Derived.Test.YtioggdiicgfoaaaKeyF
import Derived.Test.YtioggdiicgfoaaaRfA
namespace Go.Proofs.Ytioggdiicgfoaaa
open Go.RowKit Rf Mem KM
attribute [local go_sem ↓] run_max2 run_min2
attribute [local go_sem] Oper.semAt_some
theorem info_press : (Try.prog.info? 57).map (fun i => (i.zero, i.size, i.bytes)) = some (some (.agg #[.int .u8 0, .int .i64 0, .int .i64 0]), 3, 24) := by kernel_rfl
/-- presses as cells -/
def prC (p : Pr) : List Value := [.int .u8 p.1, .int .i64 p.2.1, .int .i64 p.2.2]
def prs (l : List Pr) : List Value := l.flatMap prC
theorem prs_succ (l : List Pr) (p : Pr) : prs (l ++ [p]) = prs l ++ prC p := by simp [prs]
theorem rowP_le (k : Int) (z : BitVec 32) : ∀ n : Nat, (rowP k z n).length ≤ n
  | 0 => by simp [rowP]
  | n + 1 => by have := rowP_le k z n; rw [rowP_succ]; split <;> simp <;> omega
theorem keyP_le (b x y : Btn) : ∀ n : Nat, (keyP b x y n).length ≤ n
  | 0 => by simp [keyP]
  | n + 1 => by have := keyP_le b x y n; rw [keyP_succ]; split <;> simp <;> omega
theorem pressL_le (b x y : Btn) (ns ne nc : Nat) : (pressL b x y ns ne nc).length ≤ 2 + ns + nc + ne + nc := by
  have h1 : ∀ k is, (oneP k is).length ≤ 1 := by intro k is; unfold oneP; cases is <;> simp
  have a1 := h1 1 (b.can && (x.can && !y.can))
  have a2 := h1 2 (b.aut && (x.aut && !y.aut))
  have a3 := rowP_le 3 (front b.ent x.ent y.ent) ns
  have a4 := rowP_le 4 (front b.via x.via y.via) nc
  have a5 := rowP_le 5 (front b.exi x.exi y.exi) ne
  have a6 := keyP_le b x y nc
  simp only [pressL, List.length_append]
  omega
theorem sliceAt_blk3 {w : World} {g : Nat} {e : TypeId} {f : Nat × Nat} {cs : List Value} (h : w.heap[g]? = some (.cells cs.toArray e f)) (hn : cs.length = 3) : SliceAt w 3 (.slice (some ⟨g, 0, none⟩) 1 1) 1 cs :=
  ⟨some ⟨g, 0, none⟩, 1, rfl, Nat.le_refl _, by simp [maxLen], by simp [hn], .inr ⟨g, 0, rfl, (Array.getElem?_eq_some_iff.1 h).1, fun i u hu => by rw [Nat.zero_add]; exact cell_list h hu⟩⟩
theorem own_mono {W : World} {base base' e sz n : Nat} {v : Value} {xs : List Value} (h : W.ownsRow base e sz v n xs) (hb : base' ≤ base) : W.ownsRow base' e sz v n xs := by
  obtain ⟨hl, h⟩ := h
  refine ⟨hl, ?_⟩
  rcases h with h | ⟨g, cap, cur, rfl, hb', r⟩
  · exact .inl h
  · exact .inr ⟨g, cap, cur, rfl, by omega, r⟩
theorem own_type {W : World} {base e sz n g : Nat} {v : Value} {xs : List Value} (h : W.ownsRow base e sz v n xs) (hg : v.ownBlock = some g) : ∃ cur, W.heap[g]? = some (.cells cur e (0, 0)) := by
  obtain ⟨_, h⟩ := h
  rcases h with ⟨rfl, _⟩ | ⟨g', cap, cur, rfl, _, hg', _⟩
  · cases hg
  · cases hg; exact ⟨cur, hg'⟩
theorem own_def {W : World} {base e sz n D : Nat} {v : Value} {xs : List Value} {d : Option (List Deferred)} (h : W.ownsRow base e sz v n xs) (hD : W.heap[D]? = some (.deferred d)) : v.ownBlock ≠ some D := fun hg => by
  obtain ⟨cur, hc⟩ := own_type h hg
  rw [hD] at hc; cases hc
theorem ne_own {v : Value} {k g : Nat} (h : v.ownBlock = some k) (hn : v.ownBlock ≠ some g) : k ≠ g := fun e => hn (by rw [← e]; exact h)
/-- block g holds a row of presses that the call owns; O: these blocks -/
def PAcc (base g : Nat) (O : Nat → Prop) (w : World) (l : List Pr) : Prop :=
  ∃ v, w.heap[g]? = some (.cells #[v] 42 (0, 0)) ∧ w.ownsRow base 57 3 v l.length (prs l) ∧ v.ownBlock ≠ some g ∧ ∀ k, O k ↔ (k = g ∨ v.ownBlock = some k)
theorem pacc_keep {base g : Nat} {O S : Nat → Prop} {W W' : World} {l : List Pr} (h : PAcc base g O W l) (hk : Keep S W W') (hS : ∀ k, O k → S k) : PAcc base g O W' l := by
  obtain ⟨v, hg, ho, hne, hO⟩ := h
  exact ⟨v, hk.at_ hg (hS g ((hO g).2 (.inl rfl))), own_later ho (fun k hk' => hk.block k (own_base ho hk').2 (hS k ((hO k).2 (.inr hk')))), hne, hO⟩
/-- what Presses carries over its rounds -/
structure PInv (w W : World) (base : Nat) (x y b : Btn) (O : Nat → Prop) (l : List Pr) : Prop where
  bel : Below w.heap.size w W
  m : W.heap[w.heap.size + 1]? = some (.cells (memV x y).toArray 35 (0, 0))
  b : W.heap[w.heap.size + 1 + 1]? = some (.cells (btnV b).toArray 33 (0, 0))
  z : W.heap[w.heap.size + 1 + 1 + 1 + 1]? = some (.cells zMem 35 (0, 0))
  acc : PAcc base (w.heap.size + 1 + 1 + 1) O W l
theorem PInv.keep {w W0 W W' : World} {x y b : Btn} {O : Nat → Prop} {l : List Pr} (h : PInv w W W0.heap.size x y b O l) (hB : w.heap.size + 1 + 1 + 1 + 1 < W0.heap.size) (hk : Keep (fun k => O k ∨ (k < W0.heap.size ∧ ¬ False)) W W') : PInv w W' W0.heap.size x y b O l :=
  ⟨below_keep h.bel hk (Nat.le_refl _) (fun k hk => .inr ⟨by omega, id⟩), hk.at_ h.m (.inr ⟨by omega, id⟩), hk.at_ h.b (.inr ⟨by omega, id⟩), hk.at_ h.z (.inr ⟨by omega, id⟩), pacc_keep h.acc hk (fun k h => .inl h)⟩
theorem load_prow (W : World) (g : Nat) (x : Value) (h : W.cell? ⟨g, 0, none⟩ = some x) : (loadVar 42 ⟨g, 0, none⟩).run Try.prog W = .ok x W := by simp [go_sem, h]
theorem res_presses {fn : Func} {t u : Tmp} (hf : fn.results = #[.cell t 42, .cell u 35]) {tmps : Array Value} {W : World} {g k : Nat} {v : Value} {M : List Value} (hM : M.length = 58)
    (hs : tmps.getD t undef = .pointer (some ⟨g, 0, none⟩)) (hg : W.heap[g]? = some (.cells #[v] 42 (0, 0))) (hs2 : tmps.getD u undef = .pointer (some ⟨k, 0, none⟩)) (hg2 : W.heap[k]? = some (.cells M.toArray 35 (0, 0))) :
    (results fn tmps).run Try.prog W = .ok (.tuple #[v, .agg M.toArray]) W := by
  have hs' : tmps[t]?.getD undef = .pointer (some ⟨g, 0, none⟩) := by simpa using hs
  have hs2' : tmps[u]?.getD undef = .pointer (some ⟨k, 0, none⟩) := by simpa using hs2
  have c0 := cell_at hg 0
  simp only [List.getElem?_toArray, List.getElem?_cons_zero] at c0
  have h1 := load_prow W g v c0
  have h2 := run_loadVar_mid (P := Try.prog) W k 0 35 M _ (range_of hg2) Try.underlying35 rfl (by rw [hM]; kernel_rfl)
  simp [results, hf, hs', hs2', asAddr, h1, h2]
theorem bodyPostM_presses {fn : Func} {R : Ending → World → Prop} {t u : Tmp} (hf : fn.results = #[.cell t 42, .cell u 35]) {tmps : Array Value} {D g k : Nat} {W : World} {v : Value} {M : List Value} (hM : M.length = 58)
    (hD : W.heap[D]? = some (.deferred (some []))) (hs : tmps.getD t undef = .pointer (some ⟨g, 0, none⟩)) (hg : W.heap[g]? = some (.cells #[v] 42 (0, 0))) (hs2 : tmps.getD u undef = .pointer (some ⟨k, 0, none⟩)) (hg2 : W.heap[k]? = some (.cells M.toArray 35 (0, 0)))
    (h : R (.returned (.tuple #[v, .agg M.toArray])) (W.putObj D (.deferred none))) :
    bodyPostM Fence.wide 0 Try.prog fn R .ret { tmps := tmps, defers := [{ target := .collected D, args := #[] }] } W := by
  have n1 : g ≠ D := by rintro rfl; rw [hD] at hg; cases hg
  have n2 : k ≠ D := by rintro rfl; rw [hD] at hg2; cases hg2
  refine ⟨by simp, .inl ⟨_, _, rfl, run_takeDeferred hD, ?_⟩⟩
  exact ⟨_, res_presses hf hM hs ((World.putObj_heap_other n1).trans hg) hs2 ((World.putObj_heap_other n2).trans hg2), h⟩
theorem setCells_far {g k : Nat} : ∀ (vs : List Value) (o : Nat) {w : World}, k ≠ g → (w.setCells g o vs).heap[k]? = w.heap[k]?
  | [], _, _, _ => rfl
  | v :: r, o, w, h => by rw [World.setCells, setCells_far r (o + 1) h]; exact Below.heap_setCell w ⟨g, o, none⟩ v k h
set_option maxHeartbeats 4000000 in
set_option maxRecDepth 100000 in
theorem Presses_of (L : List Value) (nsec : Nat) (lens : List Nat) (nsig nfl : Nat) (A : Option Addr) (c : Nat) (A1 : Option Addr) (c1 : Nat) (A3 : Option Addr) (c3 : Nat) (ve : Value) (ns ne nc : Nat) (x y b : Btn) (w : World) (hns : min nsig 12 = ns) (hne : min lens.length 12 = ne) (hnc : min nsec 24 = nc)
    (hx : x.keys.length = 24) (hy : y.keys.length = 24) (hb : b.keys.length = 24) (hL : LayN w L nsec lens nsig nfl A c A1 c1 A3 c3 ve)
    (hit : ∀ g, Iter Try.prog 44 #[.pointer (some ⟨g + 1, 0, none⟩), .pointer (some ⟨g + 1 + 1, 0, none⟩), .pointer (some ⟨g, 0, none⟩)] (fun _ => False) (fun q => q = g ∨ q = g + 1 ∨ q = g + 1 + 1) ((pressL b x y ns ne nc).map fun p => #[prV p]) (fun W => PPre W g x y b ns ne nc)) :
    Calls Try.prog 8 #[.agg L.toArray, .agg (memV x y).toArray, .agg (btnV b).toArray] w fun e w' => Below w.heap.size w w' ∧ ∃ v', e = .returned (.tuple #[v', .agg (memV b x).toArray]) ∧
      w'.ownsRow w.heap.size 57 3 v' (pressL b x y ns ne nc).length (prs (pressL b x y ns ne nc)) := by
  obtain ⟨i0, hi, hz0, hz1, hz2⟩ := info_parts info_press
  have szL := lay_size hL.len
  have szB := btn_size hb
  have szM := mem_size hx hy
  obtain ⟨W0, hW0⟩ : ∃ W0, ((((w.alloc (.cells L.toArray 29)).alloc (.cells (memV x y).toArray 35)).alloc (.cells (btnV b).toArray 33)).alloc (.cells #[.slice none 0 0] 42)).alloc (.cells zMem 35) = W0 := ⟨_, rfl⟩
  have B0 : Below w.heap.size w W0 := by rw [← hW0]; exact below_step (below_step (below_step (below_step (kbelow_new _ _) (kbelow_new _ _)) (kbelow_new _ _)) (kbelow_new _ _)) (kbelow_new _ _)
  have VL : W0.heap[w.heap.size]? = some (.cells L.toArray 29 (0, 0)) := by rw [← hW0]; exact old_at (old_at (old_at (old_at (new_at rfl _) _) _) _) _
  have VM : W0.heap[w.heap.size + 1]? = some (.cells (memV x y).toArray 35 (0, 0)) := by rw [← hW0]; exact old_at (old_at (old_at (new_at (by simp) _) _) _) _
  have VB : W0.heap[w.heap.size + 1 + 1]? = some (.cells (btnV b).toArray 33 (0, 0)) := by rw [← hW0]; exact old_at (old_at (new_at (by simp) _) _) _
  have VR : W0.heap[w.heap.size + 1 + 1 + 1]? = some (.cells #[.slice none 0 0] 42 (0, 0)) := by rw [← hW0]; exact old_at (new_at (by simp) _) _
  have VZ : W0.heap[w.heap.size + 1 + 1 + 1 + 1]? = some (.cells zMem 35 (0, 0)) := by rw [← hW0]; exact new_at (by simp) _
  have hl5 := pressL_le b x y ns ne nc
  have l1 : ns ≤ 12 := by omega
  have l2 : ne ≤ 12 := by omega
  have l3 : nc ≤ 24 := by omega
  have hL0 := hL.later B0
  have HNS := Lib.hid hns
  have HNE := Lib.hid hne
  have HNC := Lib.hid hnc
  have HL0 := Lib.hid hL0
  have Hx := Lib.hid hx
  have Hy := Lib.hid hy
  have Hb := Lib.hid hb
  have HIT := Lib.hid hit
  clear hit hns hne hnc hL hL0 hx hy hb
  refine (callsIn_wide (n := 0)).1 (callsIn_of_wp_marks Try.func8 rfl trivial ?_ rfl)
  refine wpIn_wide.2 ?_
  simp only [Try.ntmps8, List.size_toArray, List.length_cons, List.length_nil, Nat.reduceAdd, Nat.reduceSub, Array.replicate_succ, Array.replicate_zero, List.push_toArray, List.append_toArray, List.nil_append, List.cons_append]
  go_wp2_with fail
  clear hW0
  refine Code.wp_mono (Q := nq (fun a W => ∃ gc : Nat, a = { tmps := #[.agg L.toArray, .agg (memV x y).toArray, .agg (btnV b).toArray, .pointer (some ⟨w.heap.size, 0, none⟩), .pointer (some ⟨w.heap.size + 1, 0, none⟩), .pointer (some ⟨w.heap.size + 1 + 1, 0, none⟩), .pointer (some ⟨w.heap.size + 1 + 1 + 1, 0, none⟩), .pointer (some ⟨w.heap.size + 1 + 1 + 1 + 1, 0, none⟩), undef, .agg L.toArray, .agg #[.int .i64 ns, .int .i64 ne, .int .i64 nc], .agg (memV x y).toArray, .agg (btnV b).toArray,
      .func (.func 44) #[] #[.pointer (some ⟨gc + 1, 0, none⟩), .pointer (some ⟨gc + 1 + 1, 0, none⟩), .pointer (some ⟨gc, 0, none⟩)], undef, undef, undef, undef, undef, undef, undef, undef, undef], defers := [] } ∧
      Below w.heap.size w W ∧ W.heap[w.heap.size + 1]? = some (.cells (memV x y).toArray 35 (0, 0)) ∧ W.heap[w.heap.size + 1 + 1]? = some (.cells (btnV b).toArray 33 (0, 0)) ∧ W.heap[w.heap.size + 1 + 1 + 1]? = some (.cells #[.slice none 0 0] 42 (0, 0)) ∧ W.heap[w.heap.size + 1 + 1 + 1 + 1]? = some (.cells zMem 35 (0, 0)) ∧
      PPre W gc x y b ns ne nc ∧ w.heap.size + 1 + 1 + 1 + 1 < gc ∧ gc + 3 = W.heap.size)) (fun e a W3 hR => ?_) ?_
  rotate_left
  · skip
    refine wp_region_held_drew (S := (fun w' => w'.rangeAt w.heap.size 0 L ∧ w'.rangeAt (w.heap.size + 1) 0 (memV x y) ∧ w'.rangeAt (w.heap.size + 1 + 1) 0 (btnV b))) (by kernel_rfl) ?_ (fun hHeld => ?_)
    · exact ⟨range_of VL, range_of VM, range_of VB⟩
    refine wpAnyH_take (i := 0) (v := .agg (L : List Value).toArray) rfl (by kernel_rfl) (by kernel_rfl) (by kernel_rfl) (fun _ _ _ h => h) (yieldsIf_load_mid rfl 29 (.tmp 3) rfl (w.heap.size) 0 rfl L _ (fun w' h => h.1) (by first | exact Try.underlying29) rfl (by first | assumption | (simp only [*]; kernel_rfl))) (by assumption) ?_
    simp only [List.getElem_toArray, List.getElem_cons_succ, List.getElem_cons_zero, Act.put, List.setIfInBounds_toArray, List.set_cons_zero, List.set_cons_succ]
    refine wpAnyH_take (i := 2) (v := .agg ((memV x y) : List Value).toArray) rfl (by kernel_rfl) (by kernel_rfl) (by kernel_rfl) (fun _ _ _ h => h) (yieldsIf_load_mid rfl 35 (.tmp 4) rfl (w.heap.size + 1) 0 rfl (memV x y) _ (fun w' h => h.2.1) (by first | exact Try.underlying35) rfl (by first | assumption | (simp only [*]; kernel_rfl))) (by assumption) ?_
    simp only [List.getElem_toArray, List.getElem_cons_succ, List.getElem_cons_zero, Act.put, List.setIfInBounds_toArray, List.set_cons_zero, List.set_cons_succ]
    refine wpAnyH_take (i := 3) (v := .agg ((btnV b) : List Value).toArray) rfl (by kernel_rfl) (by kernel_rfl) (by kernel_rfl) (fun _ _ _ h => h) (yieldsIf_load_mid rfl 33 (.tmp 5) rfl (w.heap.size + 1 + 1) 0 rfl (btnV b) _ (fun w' h => h.2.2) (by first | exact Try.underlying33) rfl (by first | assumption | (simp only [*]; kernel_rfl))) (by assumption) ?_
    simp only [List.getElem_toArray, List.getElem_cons_succ, List.getElem_cons_zero, Act.put, List.setIfInBounds_toArray, List.set_cons_zero, List.set_cons_succ]
    clear hHeld
    have B1 := B0.drew
    have hLd : LayN W0.drew L nsec lens nsig nfl A c A1 c1 A3 c3 ve := HL0.out.later (Below.refl _ _).drew
    have b1 : Below W0.heap.size W0 W0.drew := (Below.refl _ W0).drew
    replace VL := var_later VL b1
    replace VM := var_later VM b1
    replace VB := var_later VB b1
    replace VR := var_later VR b1
    replace VZ := var_later VZ b1
    clear b1 B0
    generalize W0.drew = W1 at *
    refine wpAnyH_ready (rs := [1]) (by kernel_rfl) (by simp) ?_
    refine AllReadyH.cons rfl (fun K hK => ?_) AllReadyH.nil
    go_simp
    refine (of_c L nsec lens nsig nfl A c A1 c1 A3 c3 ve ns ne nc _ HNS.out HNE.out HNC.out hLd).mono ?_
    rintro e W2 ⟨rfl, b2⟩
    replace VL := var_later VL b2
    replace VM := var_later VM b2
    replace VB := var_later VB b2
    replace VR := var_later VR b2
    replace VZ := var_later VZ b2
    have B2 := below_step B1 b2
    clear b2 B1 hLd
    refine hK.out _ _ ⟨range_of VL, range_of VM, range_of VB⟩ (fun _ => ?_)
    clear hK K
    try simp only [List.getElem_toArray, List.getElem_cons_succ, List.getElem_cons_zero, Act.put, List.setIfInBounds_toArray, List.set_cons_zero, List.set_cons_succ]
    refine wpAnyH_ready (rs := [4]) (by kernel_rfl) (by simp) ?_
    refine AllReadyH.cons rfl (fun K hK => ?_) AllReadyH.nil
    go_simp
    refine (presses_c ns ne nc x y b _).mono ?_
    rintro e W3 ⟨rfl, hW3⟩
    have b3 : Below W2.heap.size W2 W3 := by rw [← hW3]; exact below_step (below_step (kbelow_new _ _) (kbelow_new _ _)) (kbelow_new _ _)
    have PP : PPre W3 W2.heap.size x y b ns ne nc := by
      rw [← hW3]
      exact ⟨old_at (old_at (new_at rfl _) _) _, old_at (new_at (by simp) _) _, new_at (by simp) _⟩
    have s3 : W2.heap.size + 3 = W3.heap.size := by rw [← hW3]; simp
    clear hW3
    have s2 := (Array.getElem?_eq_some_iff.1 VZ).1
    replace VL := var_later VL b3
    replace VM := var_later VM b3
    replace VB := var_later VB b3
    replace VR := var_later VR b3
    replace VZ := var_later VZ b3
    have B3 := below_step B2 b3
    clear b3 B2
    refine hK.out _ _ ⟨range_of VL, range_of VM, range_of VB⟩ (fun _ => ?_)
    clear hK K
    try simp only [List.getElem_toArray, List.getElem_cons_succ, List.getElem_cons_zero, Act.put, List.setIfInBounds_toArray, List.set_cons_zero, List.set_cons_succ]
    refine wpAnyH_done (by kernel_rfl) ?_ _
    exact ⟨W2.heap.size, rfl, B3, VM, VB, VR, VZ, PP, s2, s3⟩
  cases e <;> try exact hR.elim
  obtain ⟨gc, rfl, B3, VM, VB, VR, VZ, PP, s2, s3⟩ := hR
  have HS3 := Lib.hid s3
  clear s3 VL szL B0
  go_wp2_with fail
  refine wp_iterA (xs := (pressL b x y ns ne nc).map fun p => #[prV p]) (Fp := fun _ => False) (Rd := fun q => q = gc ∨ q = gc + 1 ∨ q = gc + 1 + 1) (gf := 44) (lb := #[.pointer (some ⟨gc + 1, 0, none⟩), .pointer (some ⟨gc + 1 + 1, 0, none⟩), .pointer (some ⟨gc, 0, none⟩)]) rfl (enters Try.func44 (by kernel_rfl) rfl)
    (HIT.out gc) ?hps
    (fun q O W => PInv w W W3.heap.size x y b O ((pressL b x y ns ne nc).take q)) (fun q => q = w.heap.size + 1 + 1 + 1)
    (fun z a W => ∃ (gp : Nat) (p : Pr), z = #[prV p] ∧ a = { tmps := #[.agg L.toArray, .agg (memV x y).toArray, .agg (btnV b).toArray, .pointer (some ⟨w.heap.size, 0, none⟩), .pointer (some ⟨w.heap.size + 1, 0, none⟩), .pointer (some ⟨w.heap.size + 1 + 1, 0, none⟩), .pointer (some ⟨w.heap.size + 1 + 1 + 1, 0, none⟩), .pointer (some ⟨w.heap.size + 1 + 1 + 1 + 1, 0, none⟩), .pointer (some ⟨gp, 0, none⟩), .agg L.toArray, .agg #[.int .i64 ns, .int .i64 ne, .int .i64 nc], .agg (memV x y).toArray, .agg (btnV b).toArray,
      .func (.func 44) #[] #[.pointer (some ⟨gc + 1, 0, none⟩), .pointer (some ⟨gc + 1 + 1, 0, none⟩), .pointer (some ⟨gc, 0, none⟩)], prV p, undef, undef, undef, undef, undef, undef, undef, undef], defers := [] } ∧ W.heap[gp]? = some (.cells (prC p).toArray 57 (0, 0)))
    ?hpre ?hO ?hFp ?hI ?h0 ?hR ?assign ?body ?done
  case hps => intro z hz; simp only [List.mem_map] at hz; obtain ⟨p, _, rfl⟩ := hz; rfl
  case hpre => exact fun W hW => ⟨var_later PP.c hW, var_later PP.m hW, var_later PP.b hW⟩
  case hO =>
    rintro q rfl
    have := HS3.out
    exact ⟨by omega, id, fun h => by omega⟩
  case hFp => rintro q ⟨⟩
  case hI => exact fun i O W W' h hk => h.keep (by have := HS3.out; omega) hk
  case h0 =>
    refine ⟨B3, VM, VB, VZ, .slice none 0 0, VR, by simpa [prs] using own_nil _ _ _ _, ?_, fun q => ⟨.inl, ?_⟩⟩
    · intro e; cases e
    · rintro (h | h)
      · exact h
      · cases h
  case hR =>
    rintro z a W l o o' hl ⟨gp, p, h1, h2, h3⟩
    refine ⟨gp, p, h1, h2, (World.putObj_heap_other ?_).trans h3⟩
    rintro rfl
    rw [hl] at h3; cases h3
  case assign =>
    intro l' z W K hz hK
    simp only [List.mem_map] at hz
    obtain ⟨p, _, rfl⟩ := hz
    have HK := Lib.hid hK
    clear hK
    obtain ⟨k, n, m⟩ := p
    simp only [prV]
    gi_wp2
    exact HK.out _ _ (kbelow_new _ _) ⟨_, (k, n, m), rfl, rfl, new_at rfl _⟩
  case body =>
    rintro l' q z O W a' hz hI ⟨gp, p, rfl, rfl, hgp⟩ hsz'
    have hq : (pressL b x y ns ne nc)[q]? = some p := by
      rw [List.getElem?_map] at hz
      obtain ⟨p', h1, h2⟩ := Option.map_eq_some_iff.1 hz
      have h3 : prV p' = prV p := by simpa using h2
      rw [h1]
      obtain ⟨k, n, m⟩ := p
      obtain ⟨k', n', m'⟩ := p'
      simp only [prV, Value.agg.injEq, Array.mk.injEq, List.cons.injEq, Value.int.injEq, true_and, and_true] at h3
      obtain ⟨rfl, rfl, rfl⟩ := h3
      rfl
    have HT : Hid ((pressL b x y ns ne nc).take (q + 1) = (pressL b x y ns ne nc).take q ++ [p]) := Lib.hid (by rw [List.take_add_one, hq]; rfl)
    have hlt : ((pressL b x y ns ne nc).take q).length ≤ 100 := by rw [List.length_take]; omega
    clear hz hq
    generalize (pressL b x y ns ne nc).take q = l0 at *
    obtain ⟨bel, M1, M2, M3, v, hg, ho, hne, hO2⟩ := hI
    obtain ⟨A0, c0, rfl, _⟩ := (sliceAt_of_own ho).form
    obtain ⟨k, n, m⟩ := p
    have x0 := cell_list hgp (i := 0) (v := .int .u8 k) rfl
    have x1 := cell_list hgp (i := 1) (v := .int .i64 n) rfl
    have x2 := cell_list hgp (i := 2) (v := .int .i64 m) rfl
    have e0 := cell_at hg 0
    have f0 := free_at hg 0
    have hgs : w.heap.size + 1 + 1 + 1 < W.heap.size := (Array.getElem?_eq_some_iff.1 hg).1
    have hown := own_later (w' := W.alloc (.cells #[.int .u8 k, .int .i64 n, .int .i64 m] 57)) ho (fun q hq => Below.heap_alloc _ _ _ (own_base ho hq).2)
    have hgA := old_at hg (.cells #[.int .u8 k, .int .i64 n, .int .i64 m] 57)
    clear hgp
    simp only [prV]
    gi_wp2_with (gi_at_builtin; refine wpListIn_append_src (by rfl) (.tmp 15) (.tmp 17) _ (by rfl) W3.heap.size 57 i0 _ 3 24 Try.underlying42 hi hz0 hz1 hz2 rfl (by omega) (.slice A0 l0.length c0) l0.length (prs l0) (by rfl) hown (.slice (some ⟨W.heap.size, 0, none⟩) 1 1) 1 [.int .u8 k, .int .i64 n, .int .i64 m] (by rfl) (sliceAt_blk3 (new_at rfl _) rfl) (by simp [Value.oneCell']) (by simp only [maxLen]; omega) (by omega) (by simp; omega) ?_; intro v1 w2 ho1 hg1 hw1; obtain ⟨A1, k1, rfl, _, _⟩ := (sliceAt_of_own ho1).form; have hgB := (hg1.block _ (by simp; omega) (fun e => hne e.symm)).trans hgA; have e1 := cell_at hgB 0; have f1 := free_at hgB 0)
    have hnew : (W.alloc (.cells #[.int .u8 k, .int .i64 n, .int .i64 m] 57)).heap.size = W.heap.size + 1 := by simp
    have hne1 : (Value.slice A1 (l0.length + 1) k1).ownBlock ≠ some (w.heap.size + 1 + 1 + 1) := by
      rcases hw1 with h | h
      · rw [h]; exact hne
      · rw [h, hnew]; intro e; have := Option.some.inj e; omega
    have hK : Keep (fun q => ¬ O q) W (w2.setCell ⟨w.heap.size + 1 + 1 + 1, 0, none⟩ (.slice A1 (l0.length + 1) k1)) :=
      (((Keep.refl _ W).alloc _).grown hg1 (fun q hq _ h => h ((hO2 q).2 (.inr hq)))).setCell (fun _ h => h ((hO2 _).2 (.inl rfl))) _
    have el : (l0 ++ [(k, n, m)]).length = l0.length + 1 := by simp
    have eu : prs (l0 ++ [(k, n, m)]) = prs l0 ++ [.int .u8 k, .int .i64 n, .int .i64 m] := prs_succ l0 (k, n, m)
    have hno : ∀ q, q < W3.heap.size → q ≠ w.heap.size + 1 + 1 + 1 → ¬ O q := fun q hq hq2 hOq => by
      rcases (hO2 q).1 hOq with h | h
      · exact hq2 h
      · have := (own_base ho h).1; omega
    have hs3 := HS3.out
    refine ⟨fun q => q = w.heap.size + 1 + 1 + 1 ∨ (Value.slice A1 (l0.length + 1) k1).ownBlock = some q, ?_, fun q hq => ?_, hK⟩
    · dsimp only
      rw [HT.out]
      refine ⟨below_keep bel hK (Nat.le_refl _) (fun q hq => hno q (by omega) (by omega)), hK.at_ M1 (hno _ (by omega) (by omega)), hK.at_ M2 (hno _ (by omega) (by omega)), hK.at_ M3 (hno _ (by omega) (by omega)), _, ?_, ?_, hne1, fun q => Iff.rfl⟩
      · rw [set_at hgB 0]; rfl
      · rw [el, eu]
        exact own_set ho1 (by have := HS3.out; simp only; omega) _
    · rcases hq with h | h
      · exact .inl ((hO2 q).2 (.inl h))
      · rcases hw1 with h' | h'
        · rw [h'] at h; exact .inl ((hO2 q).2 (.inr h))
        · rw [h', hnew] at h; have := Option.some.inj h; exact .inr (by omega)
  case done =>
    rintro D O W hI hD1 hD2
    rw [List.length_map, List.take_length] at hI
    obtain ⟨bel, M1, M2, M3, v, hg, ho, hne, hO2⟩ := hI
    have HLL := Lib.hid (Eq.refl (pressL b x y ns ne nc))
    generalize hll : pressL b x y ns ne nc = l0 at HLL hg ho hl5
    replace HLL := Lib.hid hll
    clear hll
    obtain ⟨A0, c0, rfl, _⟩ := (sliceAt_of_own ho).form
    have szZ : (Try.prog.info? 35).map (·.size) = some (memV b x).length := by rw [memV_len Hb.out Hx.out]; kernel_rfl
    have oneM : (memV b x).toArray.all (·.oneCell') = true := all_one fun v hv => by
      rcases List.mem_append.1 hv with h | h
      · exact btnV_one b v h
      · exact btnV_one x v h
    have n1 : D ≠ w.heap.size + 1 + 1 + 1 := by rintro rfl; rw [hD2] at hg; cases hg
    have n2 : D ≠ w.heap.size + 1 + 1 + 1 + 1 := by rintro rfl; rw [hD2] at M3; cases M3
    have nD := own_def ho hD2
    have hs3 := HS3.out
    go_wp2_with fail
    refine Code.wp_mono (Q := nq (fun a W => a = { tmps := #[.agg L.toArray, .agg (memV x y).toArray, .agg (btnV b).toArray, .pointer (some ⟨w.heap.size, 0, none⟩), .pointer (some ⟨w.heap.size + 1, 0, none⟩), .pointer (some ⟨w.heap.size + 1 + 1, 0, none⟩), .pointer (some ⟨w.heap.size + 1 + 1 + 1, 0, none⟩), .pointer (some ⟨w.heap.size + 1 + 1 + 1 + 1, 0, none⟩), undef, .agg L.toArray, .agg #[.int .i64 ns, .int .i64 ne, .int .i64 nc], .agg (memV x y).toArray, .agg (btnV b).toArray,
      .func (.func 44) #[] #[.pointer (some ⟨gc + 1, 0, none⟩), .pointer (some ⟨gc + 1 + 1, 0, none⟩), .pointer (some ⟨gc, 0, none⟩)], undef, undef, undef, undef, undef, .slice A0 l0.length c0, .agg (memV x y).toArray, .agg (btnV b).toArray, .agg (memV b x).toArray], defers := [{ target := .collected D, args := #[] }] } ∧
      Below w.heap.size w W ∧ W.heap[w.heap.size + 1 + 1 + 1]? = some (.cells #[.slice A0 l0.length c0] 42 (0, 0)) ∧ W.heap[w.heap.size + 1 + 1 + 1 + 1]? = some (.cells (memV b x).toArray 35 (0, 0)) ∧ W.heap[D]? = some (.deferred (some [])) ∧
      W.ownsRow w.heap.size 57 3 (.slice A0 l0.length c0) l0.length (prs l0))) (fun e a W4 hR => ?_) ?_
    rotate_left
    · have e0 := cell_at hg 0
      refine wp_region_held_drew (S := (fun w' => w'.cell? ⟨w.heap.size + 1 + 1 + 1, 0, none⟩ = some (.slice A0 l0.length c0) ∧ w'.rangeAt (w.heap.size + 1) 0 (memV x y) ∧ w'.rangeAt (w.heap.size + 1 + 1) 0 (btnV b))) (by kernel_rfl) ?_ (fun hHeld => ?_)
      · exact ⟨e0, range_of M1, range_of M2⟩
      clear e0
      refine wpAnyH_take (i := 0) (v := ?_) rfl (by kernel_rfl) (by kernel_rfl) (by kernel_rfl) (fun _ _ _ h => h) (Or.inl ⟨by rfl, ?_⟩) (by assumption) ?_
      rotate_left
      · intro w hSw
        try dsimp only at hSw
        go_simp
        try with_reducible rfl
      simp only [List.getElem_toArray, List.getElem_cons_succ, List.getElem_cons_zero, Act.put, List.setIfInBounds_toArray, List.set_cons_zero, List.set_cons_succ]
      refine wpAnyH_take (i := 1) (v := .agg ((memV x y) : List Value).toArray) rfl (by kernel_rfl) (by kernel_rfl) (by kernel_rfl) (fun _ _ _ h => h) (yieldsIf_load_mid rfl 35 (.tmp 4) rfl (w.heap.size + 1) 0 rfl (memV x y) _ (fun w' h => h.2.1) (by first | exact Try.underlying35) rfl (by first | assumption | (simp only [*]; kernel_rfl))) (by assumption) ?_
      simp only [List.getElem_toArray, List.getElem_cons_succ, List.getElem_cons_zero, Act.put, List.setIfInBounds_toArray, List.set_cons_zero, List.set_cons_succ]
      refine wpAnyH_take (i := 2) (v := .agg ((btnV b) : List Value).toArray) rfl (by kernel_rfl) (by kernel_rfl) (by kernel_rfl) (fun _ _ _ h => h) (yieldsIf_load_mid rfl 33 (.tmp 5) rfl (w.heap.size + 1 + 1) 0 rfl (btnV b) _ (fun w' h => h.2.2) (by first | exact Try.underlying33) rfl (by first | assumption | (simp only [*]; kernel_rfl))) (by assumption) ?_
      simp only [List.getElem_toArray, List.getElem_cons_succ, List.getElem_cons_zero, Act.put, List.setIfInBounds_toArray, List.set_cons_zero, List.set_cons_succ]
      clear hHeld
      have b1 : Below W.heap.size W W.drew := (Below.refl _ W).drew
      replace bel := below_step bel b1
      replace M1 := var_later M1 b1
      replace M2 := var_later M2 b1
      replace M3 := var_later M3 b1
      replace hg := var_later hg b1
      replace hD2 := var_later hD2 b1
      replace ho := own_later (w' := W.drew) ho (fun k hk => b1.block _ (own_base ho hk).2)
      clear b1
      generalize W.drew = W1 at *
      refine wpAnyH_ready (rs := [3]) (by kernel_rfl) (by simp) ?_
      refine AllReadyH.cons rfl (fun K hK => ?_) AllReadyH.nil
      go_simp
      refine (with_c x y b _ Hx.out Hy.out Hb.out).mono ?_
      rintro e W2 ⟨rfl, b1⟩
      replace bel := below_step bel b1
      replace M1 := var_later M1 b1
      replace M2 := var_later M2 b1
      replace M3 := var_later M3 b1
      replace hg := var_later hg b1
      replace hD2 := var_later hD2 b1
      replace ho := own_later (w' := W2) ho (fun k hk => b1.block _ (own_base ho hk).2)
      clear b1
      have e0 := cell_at hg 0
      have f0 := free_at hg 0
      refine hK.out _ _ ⟨e0, range_of M1, range_of M2⟩ (fun _ => ?_)
      clear hK K
      try simp only [List.getElem_toArray, List.getElem_cons_succ, List.getElem_cons_zero, Act.put, List.setIfInBounds_toArray, List.set_cons_zero, List.set_cons_succ]
      refine wpAnyH_ready (rs := [4]) (by kernel_rfl) (by simp) ?_
      refine AllReadyH.cons rfl (fun K hK => ?_) AllReadyH.nil
      go_simp
      have g0 : (W2.setCell ⟨w.heap.size + 1 + 1 + 1, 0, none⟩ (.slice A0 l0.length c0)).heap[w.heap.size + 1 + 1 + 1]? = some (.cells #[.slice A0 l0.length c0] 42 (0, 0)) := by rw [set_at hg 0]; rfl
      replace M1 := set_far M1 (p := ⟨w.heap.size + 1 + 1 + 1, 0, none⟩) (by simp only; omega) (.slice A0 l0.length c0)
      replace M2 := set_far M2 (p := ⟨w.heap.size + 1 + 1 + 1, 0, none⟩) (by simp only; omega) (.slice A0 l0.length c0)
      replace M3 := set_far M3 (p := ⟨w.heap.size + 1 + 1 + 1, 0, none⟩) (by simp only; omega) (.slice A0 l0.length c0)
      replace hD2 := set_far hD2 (p := ⟨w.heap.size + 1 + 1 + 1, 0, none⟩) (by simp only; omega) (.slice A0 l0.length c0)
      replace bel := bel.setCell (p := ⟨w.heap.size + 1 + 1 + 1, 0, none⟩) (by simp only; omega) (.slice A0 l0.length c0)
      replace ho := own_set ho (p := ⟨w.heap.size + 1 + 1 + 1, 0, none⟩) (by simp only; omega) (.slice A0 l0.length c0)
      clear hg e0 f0
      generalize W2.setCell ⟨w.heap.size + 1 + 1 + 1, 0, none⟩ (.slice A0 l0.length c0) = W5 at *
      refine hK.out _ _ ⟨cell_at g0 0, range_of M1, range_of M2⟩ (fun _ => ?_)
      clear hK K
      try simp only [List.getElem_toArray, List.getElem_cons_succ, List.getElem_cons_zero, Act.put, List.setIfInBounds_toArray, List.set_cons_zero, List.set_cons_succ]
      refine wpAnyH_ready (rs := [5]) (by kernel_rfl) (by simp) ?_
      refine AllReadyH.cons rfl (fun K hK => ?_) AllReadyH.nil
      refine wp_store_mid 35 (.tmp 7) (.tmp 22) (by rfl) (w.heap.size + 1 + 1 + 1 + 1) 0 (memV b x).toArray (by rfl) (by rfl) (there_of M3 0 _ (by rw [List.size_toArray, memV_len Hb.out Hx.out]; decide)) (by simpa using szZ) oneM ?_
      have k3 : (W5.setCells (w.heap.size + 1 + 1 + 1 + 1) 0 (memV b x).toArray.toList).heap[w.heap.size + 1 + 1 + 1 + 1]? = some (.cells (memV b x).toArray 35 (0, 0)) := by rw [setCells_at _ _ M3, setL_all (by rw [List.toList_toArray, memV_len Hb.out Hx.out]; rfl)]
      have kk : ∀ {g : Nat} {o : Obj}, W5.heap[g]? = some o → g ≠ w.heap.size + 1 + 1 + 1 + 1 → (W5.setCells (w.heap.size + 1 + 1 + 1 + 1) 0 (memV b x).toArray.toList).heap[g]? = some o := fun {g o} h hn => (setCells_far _ _ hn).trans h
      have k4 : Below w.heap.size w (W5.setCells (w.heap.size + 1 + 1 + 1 + 1) 0 (memV b x).toArray.toList) := below_setCells (by omega) _ _ bel
      have k1 := kk g0 (by omega)
      have k2 := kk M1 (by omega)
      have k5 := kk M2 (by omega)
      have k6 := kk hD2 n2
      have k7 := own_later (w' := W5.setCells (w.heap.size + 1 + 1 + 1 + 1) 0 (memV b x).toArray.toList) ho (fun q hq => setCells_far _ _ (by have := (own_base ho hq).1; omega))
      generalize W5.setCells (w.heap.size + 1 + 1 + 1 + 1) 0 (memV b x).toArray.toList = W6 at *
      refine hK.out _ _ ⟨cell_at k1 0, range_of k2, range_of k5⟩ (fun _ => ?_)
      clear hK K
      try simp only [List.getElem_toArray, List.getElem_cons_succ, List.getElem_cons_zero, Act.put, List.setIfInBounds_toArray, List.set_cons_zero, List.set_cons_succ]
      refine wpAnyH_done (by kernel_rfl) ?_ _
      exact ⟨rfl, k4, k1, k3, k6, own_mono k7 (by omega)⟩
    cases e <;> try exact hR.elim
    obtain ⟨rfl, b4, g4, m4, d4, o4⟩ := hR
    go_wp2_with fail
    refine bodyPostM_presses (t := 6) (u := 7) rfl (memV_len Hb.out Hx.out) d4 rfl g4 rfl m4 ?_
    refine ⟨below_putObj b4 (by omega) _, _, rfl, by rw [HLL.out]; exact own_later o4 (fun q hq => World.putObj_heap_other (ne_own hq (own_def o4 d4)))⟩
end Go.Proofs.Ytioggdiicgfoaaa
