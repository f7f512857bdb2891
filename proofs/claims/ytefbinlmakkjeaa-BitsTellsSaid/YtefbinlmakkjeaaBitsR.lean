/- Contracts of the document's bits: Own, Of, bit, with. -/
import Derived.Test.YtefbinlmakkjeaaBitsM
namespace Go.Proofs.Ytefbinlmakkjeaa
open Go.RowKit Rf Mem Bv Bits Str
attribute [local go_sem ↓] run_max2 run_min2
theorem wp_append_src {P : Program} {w : World} {o : Oper} {a : Act} {K : Act → World → Prop} {Q : Exit → Act → World → Prop} (s x : Operand) (t : TypeId)
    (ho : o.op = .call { callee := .builtin .append, args := #[s, x], argTypes := #[t, t] })
    (base : Nat) (e : TypeId) (i : TypeInfo) (z : Value) (size byt : Nat) (ht : P.underlying t = some (.slice e)) (hi : P.info? e = some i) (hz : i.zero = some z)
    (hsize : i.size = size) (hby : i.bytes = byt) (hzs : z.cells.size = size) (hsz : 0 < size)
    (v : Value) (n : Nat) (xs : List Value) (hs : a.eval s = v) (hown : w.ownsRow base e size v n xs) (src : Value) (m : Nat) (news : List Value) (hx : a.eval x = src) (hsrc : SliceAt w size src m news) (h1 : ∀ u ∈ news, u.oneCell' = true)
    (h63 : n + m ≤ maxLen) (hbytes : (n + m) * byt ≤ 140737488355328) (hbase : base ≤ w.heap.size)
    (h : ∀ v' w', w'.ownsRow base e size v' (n + m) (xs ++ news) → w.grownBy w' v.ownBlock → (v'.ownBlock = v.ownBlock ∨ v'.ownBlock = some w.heap.size) → K (a.put o.dst v') w') :
    o.wp P a w K Q := by
  obtain ⟨v', w', hr, h2, h3, h4⟩ := run_append_src (P := P) w base t o.type e i z size byt ht hi hz hsize hby hzs hsz v n xs hown src m news hsrc h1 h63 hbytes hbase
  unfold Oper.wp execOp
  simp only [ho, resolve, invoke, builtin, Sem.run_bind, Sem.run_pure, Result.andThen_ok, List.map_toArray, List.map_cons, List.map_nil, hs, hx, hr]
  exact h v' w' h2 h3 h4
set_option maxHeartbeats 1000000 in
set_option maxRecDepth 100000 in
theorem refOf_c (v : Value) (B : List (BitVec 8)) (N : Int) (w : World) (hN : N = (B.length : Int) * 8) (hs : SliceAt w 1 v B.length (u8s B)) (hl : B.length ≤ 1000000) :
    Calls Try.prog 19 #[v] w fun e w' => Below w.heap.size w w' ∧ ∃ A c, e = .returned (bv (.slice A B.length c) N) ∧ SliceAt w' 1 (.slice A B.length c) B.length (u8s B) := by
  obtain ⟨i0, hi, hz0, hz1, hz2⟩ := info_parts info_u8
  have hB : Below w.heap.size w ((w.alloc (.cells #[.slice none 0 0, .int .i64 0] 24)).alloc (.cells #[] 5)) := below_step (below_new w _) (below_new _ _)
  have hsrc := hs.later hB
  obtain ⟨A, c, rfl, _⟩ := hs.form
  have hown := own_empty (w.alloc (.cells #[.slice none 0 0, .int .i64 0] 24)) 5 1
  have g2 : ((w.alloc (.cells #[.slice none 0 0, .int .i64 0] 24)).alloc (.cells #[] 5)).heap[w.heap.size]? = some _ := old_at (new_at rfl _) _
  have HN := Lib.hid hN
  clear hs hN
  go_enter Try.func19, Try.ntmps19
  go_wp2_with (at_builtin; refine wpList_append_src (by rfl) (.tmp 3) (.tmp 4) _ (by rfl) (w.heap.size + 1) 5 i0 _ 1 1 Try.underlying22 hi hz0 hz1 hz2 rfl (by omega) (.slice (some ⟨w.heap.size + 1, 0, none⟩) 0 0) 0 [] (by rfl) (by rw [World.size_alloc] at hown; exact hown) (.slice A B.length c) B.length (u8s B) (by rfl) hsrc (u8s_one B) (by simp only [maxLen]; omega) (by omega) (by simp) ?_; intro v1 w1 ho1 hg1 _; obtain ⟨A1, c1, rfl, _, _⟩ := (sliceAt_of_own ho1).form; have g3 := (hg1.block w.heap.size (by simp; omega) (fun e => by have := Option.some.inj e; simp at this)).trans g2; have d0 := cell_at g3 0; have d1 := cell_at g3 1; have f0 := free_at g3 0; have f1 := free_at g3 1)
  refine bodyPost_ret (res_bits rfl rfl (set_at (set_at g3 0 _) 1 _)) rfl ?_
  have hw : Below w.heap.size w w1 := by
    have h1 := hB
    exact below_own h1 hg1 (by simp; omega) (by intro g hg; have := Option.some.inj hg; simp at this; omega)
  refine ⟨(hw.setCell (by simp) _).setCell (by simp) _, A1, c1, ?_, ?_⟩
  · rw [HN.out, Int.mul_comm]
  · simp only [Nat.zero_add, List.nil_append] at ho1 ⊢
    exact sliceAt_of_own (own_set (own_set ho1 (by simp) _) (by simp) _)
theorem cell_far {W : World} {g i : Nat} {u : Value} (h : W.cell? ⟨g, i, none⟩ = some u) {p : Addr} (hp : g ≠ p.block) (x : Value) : (W.setCell p x).cell? ⟨g, i, none⟩ = some u :=
  (World.cell?_of_block (a := ⟨g, i, none⟩) (Below.heap_setCell W p x g hp)).trans h
theorem below_newd' (W : World) (o : Obj) : Below W.heap.size W (W.drew.alloc o) := (Below.refl _ W).drew.alloc (Nat.le_refl _) _
set_option maxHeartbeats 1000000 in
set_option maxRecDepth 100000 in
theorem refOwn_c (v : Value) (B : List (BitVec 8)) (N : Int) (w : World) (hs : SliceAt w 1 v B.length (u8s B)) (hl : B.length ≤ 1000000) :
    Calls Try.prog 23 #[bv v N] w fun e w' => Below w.heap.size w w' ∧ ∃ A c, e = .returned (bv (.slice A B.length c) N) ∧ w'.ownsRow w.heap.size 5 1 (.slice A B.length c) B.length (u8s B) := by
  obtain ⟨i0, hi, hz0, hz1, hz2⟩ := info_parts info_u8
  have hB : Below w.heap.size w ((w.alloc (.cells #[v, .int .i64 N] 24)).alloc (.cells #[.slice none 0 0, .int .i64 0] 24)) := below_step (below_new w _) (below_new _ _)
  have V := (Var.new (N := N) hs).later (below_new (w.alloc (.cells #[v, .int .i64 N] 24)) (.cells #[.slice none 0 0, .int .i64 0] 24))
  obtain ⟨A, c, rfl, _⟩ := hs.form
  have g2 : ((w.alloc (.cells #[.slice A B.length c, .int .i64 N] 24)).alloc (.cells #[.slice none 0 0, .int .i64 0] 24)).heap[w.heap.size + 1]? = some _ := new_at (by simp) _
  have hz : ((w.alloc (.cells #[.slice A B.length c, .int .i64 N] 24)).alloc (.cells #[.slice none 0 0, .int .i64 0] 24)).heap.size = w.heap.size + 2 := by simp
  have HZ := Lib.hid hz
  clear hs hz
  go_enter Try.func23, Try.ntmps23
  go_wp2_with fail
  generalize (w.alloc (.cells #[.slice A B.length c, .int .i64 N] 24)).alloc (.cells #[.slice none 0 0, .int .i64 0] 24) = W0 at *
  have VD := V.later (Below.refl _ W0).drew
  have x0 := V.c0
  have x1 := V.c1
  refine wp_region_held_drew (S := (fun w' => w'.cell? ⟨w.heap.size, 0, none⟩ = some (.slice A B.length c) ∧ w'.cell? ⟨w.heap.size, 1, none⟩ = some (.int .i64 N))) (by kernel_rfl) ?_ (fun hHeld => ?_)
  · exact ⟨x0, x1⟩
  refine wpAnyH_take (i := 1) (v := ?_) rfl (by kernel_rfl) (by kernel_rfl) (by kernel_rfl) (fun _ _ _ h => h) (Or.inl ⟨by rfl, ?_⟩) (by assumption) ?_
  rotate_left
  · intro w hSw
    try dsimp only at hSw
    go_simp
    try with_reducible rfl
  simp only [List.getElem_toArray, List.getElem_cons_succ, List.getElem_cons_zero, Act.put, List.setIfInBounds_toArray, List.set_cons_zero, List.set_cons_succ]
  refine wpAnyH_take (i := 2) (v := ?_) rfl (by kernel_rfl) (by kernel_rfl) (by kernel_rfl) (fun _ _ _ h => h) (Or.inl ⟨by rfl, ?_⟩) (by assumption) ?_
  rotate_left
  · intro w hSw
    try dsimp only at hSw
    go_simp
    try with_reducible rfl
  simp only [List.getElem_toArray, List.getElem_cons_succ, List.getElem_cons_zero, Act.put, List.setIfInBounds_toArray, List.set_cons_zero, List.set_cons_succ]
  refine wpAnyH_take (i := 4) (v := ?_) rfl (by kernel_rfl) (by kernel_rfl) (by kernel_rfl) (fun _ _ _ h => h) (Or.inl ⟨by rfl, ?_⟩) (by assumption) ?_
  rotate_left
  · intro w hSw
    try dsimp only at hSw
    go_simp
    try with_reducible rfl
  simp only [List.getElem_toArray, List.getElem_cons_succ, List.getElem_cons_zero, Act.put, List.setIfInBounds_toArray, List.set_cons_zero, List.set_cons_succ]
  refine wpAnyH_take (i := 5) (v := ?_) rfl (by kernel_rfl) (by kernel_rfl) (by kernel_rfl) (fun _ _ _ h => h) (Or.inl ⟨by rfl, ?_⟩) (by assumption) ?_
  rotate_left
  · intro w hSw
    try dsimp only at hSw
    go_simp
    try with_reducible rfl
  simp only [List.getElem_toArray, List.getElem_cons_succ, List.getElem_cons_zero, Act.put, List.setIfInBounds_toArray, List.set_cons_zero, List.set_cons_succ]
  have hbn := below_newd' W0 (.cells #[] 5)
  have hown := own_empty W0.drew 5 1
  refine wpAnyH_ready (rs := [0]) (by kernel_rfl) (by simp) ?_
  refine AllReadyH.cons rfl (fun K hK => ?_) AllReadyH.nil
  go_simp
  refine hK.out _ _ ?_ (fun hHeld => ?_)
  · exact ⟨(VD.later (below_new _ _)).c0, (VD.later (below_new _ _)).c1⟩
  clear hK K
  refine wpAnyH_ready (rs := [3]) (by kernel_rfl) (by simp) ?_
  refine AllReadyH.cons rfl (fun K hK => ?_) AllReadyH.nil
  rw [if_pos (by rfl)]
  refine wp_append_src (.tmp 3) (.tmp 5) _ (by rfl) W0.heap.size 5 i0 _ 1 1 Try.underlying22 hi hz0 hz1 hz2 rfl (by omega) (.slice (some ⟨W0.heap.size, 0, none⟩) 0 0) 0 [] (by rfl) hown (.slice A B.length c) B.length (u8s B) (by rfl) (VD.later (below_new _ _)).sl (u8s_one B) (by simp only [maxLen]; omega) (by omega) (by simp) ?_
  intro v1 w1 ho1 hg1 _
  have hsW : W0.heap.size = w.heap.size + 2 := HZ.out
  obtain ⟨A1, k1, rfl, _, _⟩ := (sliceAt_of_own ho1).form
  have gx := (hg1.block w.heap.size (by simp; omega) (fun e => by have := Option.some.inj e; simp at this; omega)).trans (old_at V.at_ (.cells #[] 5))
  have gr := (hg1.block (w.heap.size + 1) (by simp; omega) (fun e => by have := Option.some.inj e; simp at this; omega)).trans (old_at g2 (.cells #[] 5))
  clear hsW
  have d0 := cell_at gr 0
  have d1 := cell_at gr 1
  have e0 := free_at gr 0
  have e1 := free_at gr 1
  have z0 : w1.cell? ⟨w.heap.size, 0, none⟩ = some (.slice A B.length c) := by rw [cell_at gx]; rfl
  have z1 : w1.cell? ⟨w.heap.size, 1, none⟩ = some (.int .i64 N) := by rw [cell_at gx]; rfl
  refine hK.out _ _ ⟨z0, z1⟩ (fun hHeld => ?_)
  clear hK K
  simp only [List.getElem_toArray, List.getElem_cons_succ, List.getElem_cons_zero, Act.put, List.setIfInBounds_toArray, List.set_cons_zero, List.set_cons_succ]
  refine wpAnyH_take (i := 6) (v := ?_) rfl (by kernel_rfl) (by kernel_rfl) (by kernel_rfl) (fun _ _ _ h => h) (Or.inl ⟨by rfl, ?_⟩) (by assumption) ?_
  rotate_left
  · intro w hSw
    try dsimp only at hSw
    go_simp
    try with_reducible rfl
  simp only [List.getElem_toArray, List.getElem_cons_succ, List.getElem_cons_zero, Act.put, List.setIfInBounds_toArray, List.set_cons_zero, List.set_cons_succ]
  refine wpAnyH_ready (rs := [7]) (by kernel_rfl) (by simp) ?_
  refine AllReadyH.cons rfl (fun K hK => ?_) AllReadyH.nil
  go_simp
  refine hK.out _ _ ?_ (fun hHeld => ?_)
  · exact ⟨cell_far (cell_far z0 (by simp) _) (by simp) _, cell_far (cell_far z1 (by simp) _) (by simp) _⟩
  refine wpAnyH_done (by kernel_rfl) ?_ _
  go_wp2
  refine bodyPost_ret (res_bits rfl rfl (set_at (set_at gr 0 _) 1 _)) rfl ?_
  have hsW : W0.heap.size = w.heap.size + 2 := HZ.out
  have hw : Below w.heap.size w w1 := hB.trans ((below_own hbn hg1 (by simp) (by intro g hg; cases hg; exact Nat.le_refl _)).mono hB.size)
  refine ⟨(hw.setCell (by simp) _).setCell (by simp) _, A1, k1, rfl, ?_⟩
  · simp only [Nat.zero_add, List.nil_append] at ho1 ⊢
    exact own_base_le (own_set (own_set ho1 (by simp; omega) _) (by simp; omega) _) (by omega)
/-- one bit more, behind bits in a row that the call owns -/
theorem bit_at {B : List (BitVec 8)} {l : List Bool} (h : Holds B l) {k : Nat} {b : Bool} (hk : l[k]? = some b) {y : BitVec 8} (hy : B[k / 8]? = some y) : y.toNat / 2 ^ (7 - k % 8) % 2 = b.toNat := by
  have hlt := (List.getElem?_eq_some_iff.1 hk).1
  have h1 := bitsOf_get B (k / 8) (k % 8) (by omega)
  rw [hy, Option.map_some, show 8 * (k / 8) + k % 8 = k by omega, holds_get h hlt, hk] at h1
  have h2 := Option.some.inj h1
  rw [h2, BitVec.getLsbD, Nat.testBit_eq_decide_div_mod_eq]
  rcases Nat.mod_two_eq_zero_or_one (y.toNat / 2 ^ (7 - k % 8)) with e | e <;> rw [e] <;> rfl
set_option maxHeartbeats 1000000 in
set_option maxRecDepth 100000 in
theorem bit_c (v : Value) (B : List (BitVec 8)) (l : List Bool) (N at' : Int) (k : Nat) (b : Bool) (w : World) (ha : at' = k) (hs : SliceAt w 1 v B.length (u8s B)) (hH : Holds B l) (hl : l.length ≤ 1000000) (hk : l[k]? = some b) :
    Calls Try.prog 25 #[bv v N, .int .i64 at'] w fun e w' => e = .returned (.int .i64 b.toNat) ∧ Below w.heap.size w w' := by
  subst ha
  have hlt := (List.getElem?_eq_some_iff.1 hk).1
  have hqB : k / 8 < B.length := by have := hH.1; omega
  have hy : B[k / 8]? = some B[k / 8] := List.getElem?_eq_getElem hqB
  have hbit := bit_at hH hk hy
  have hB := below_new w (.cells #[v, .int .i64 N] 24)
  have V := Var.new (N := N) hs
  obtain ⟨bk, off, cc, rfl, _, _, hbl, hcell⟩ := hs.pos (by omega)
  have cy := (hB.cell (p := ⟨bk, off + k / 8, none⟩) hbl).trans (hcell (k / 8) (.int .u8 (B[k / 8].toNat : Int)) (by simp [u8s, hy]))
  generalize B[k / 8] = y at *
  obtain ⟨q, hq⟩ : ∃ q, k / 8 = q := ⟨_, rfl⟩
  have hq8 : (k : Int) / 8 = (q : Int) := by omega
  obtain ⟨s, hs7⟩ : ∃ s, 7 - k % 8 = s := ⟨_, rfl⟩
  have hsi : (7 : Int) - (k : Int) % 8 = (s : Int) := by omega
  have hs64 : (s : Int) < 64 := by omega
  rw [hq] at cy hqB
  rw [hs7] at hbit
  have i2 : (q : Int) < (B.length : Int) := by omega
  have i3 : (k : Int) ≤ 1000000 := by omega
  have hwb : wrap64 ((y.toNat : Int) / 2 ^ s) = ((y.toNat / 2 ^ s : Nat) : Int) := by
    rw [show ((y.toNat : Int) / 2 ^ s) = ((y.toNat / 2 ^ s : Nat) : Int) by norm_cast]
    exact wrap64_nat (Nat.lt_of_le_of_lt (Nat.div_le_self _ _) (Nat.lt_trans y.isLt (by decide)))
  have i4 : (y.toNat : Int) < 256 := by have := y.isLt; omega
  have hm1 : Go.bits .and .i64 ((y.toNat : Int) / 2 ^ s) 1 = (b.toNat : Int) := by
    rw [show ((y.toNat : Int) / 2 ^ s) = ((y.toNat / 2 ^ s : Nat) : Int) by norm_cast, mask1, ← hbit]; exact (Int.natCast_emod _ 2).symm
  clear hbit hy hq hs7 hs hcell hwb hH hk
  go_enter Try.func25, Try.ntmps25
  go_wp2
  go_ret
  exact ⟨rfl, hB⟩
end Go.Proofs.Ytefbinlmakkjeaa
