/- Contracts of functions and words for memory. Nothing that was there is turned. -/
import Derived.Test.YtlanlkpamnoekaaDoorZT02
import Derived.Test.YtlanlkpamnoekaaDoorZT00
import Derived.StillTailTactics
import Derived.Test.YtlanlkpamnoekaaDoorZT03
import Derived.OpenShut
set_option linter.unusedSimpArgs false
set_option linter.unusedVariables false
namespace Go.Proofs.YtlanlkpamnoekaaDoor.Bt
open List renaming getElem_toArray → zA, getElem_cons_succ → zS, getElem_cons_zero → zZ, setIfInBounds_toArray → zP, set_cons_zero → zQ, set_cons_succ → zR
open Go.RowKit Rf Mem Bv Bits Str
attribute [local go_sem ↓] run_max2 run_min2
theorem wp_append_src {P : Program} {w : World} {o : Oper} {a : Act} {K : Act → World → Prop} {Q : Exit → Act → World → Prop} (s x : Operand) (t : TypeId)
    (ho : o.op = .call { callee := .builtin .append, args := #[s, x], argTypes := #[t, t] })
    (base : Nat) (e : TypeId) (i : TypeInfo) (z : Value) (size byt : Nat) (ht : P.underlying t = some (.slice e)) (hi : P.info? e = some i) (hz : i.zero = some z)
    (hsize : i.size = size) (hby : i.bytes = byt) (hzs : z.cells.size = size) (hsz : 0 < size)
    (v : Value) (n : Nat) (xs : List Value) (hs : a.eval s = v) (hown : w.ownsRow base e size v n xs) (src : Value) (m : Nat) (news : List Value) (hx : a.eval x = src) (hsrc : SliceAt w size src m news) (h1 : ∀ u ∈ news, u.oneCell' = true)
    (h63 : n + m ≤ maxLen) (hbytes : (n + m) * byt ≤ 140737488355328) (hbase : base ≤ w.heap.size)
    (h : ∀ v' w', w'.ownsRow base e size v' (n + m) (xs ++ news) → w.grownBy w' v.ownBlock → (v'.ownBlock = v.ownBlock ∨ v'.ownBlock = some w.heap.size) → K (a.put o.dst v') w') :
    o.wp P a w K Q := by
  obtain ⟨v', w', hr, h2, h3, h4⟩ := run_append_src (P := P) w base t o.type e i z size byt ht hi hz hsize hby hzs hsz v n xs hown src m news hsrc h1 h63 hbytes hbase
  unfold Oper.wp execOp
  simp only [ho, resolve, invoke, builtin, Sem.run_bind, Sem.run_pure, Result.andThen_ok, List.map_toArray, List.map_cons, List.map_nil, hs, hx, hr]
  exact h v' w' h2 h3 h4
set_option maxHeartbeats 1000000 in
set_option maxRecDepth 100000 in
theorem refOf_c (v : Value) (B : List (BitVec 8)) (N : Int) (w : World) (hN : N = (B.length : Int) * 8) (hs : SliceAt w 1 v B.length (u8s B)) (hl : B.length ≤ 1000000) :
    Calls Tryd.prog 40 #[v] w fun e w' => Below w.heap.size w w' ∧ ∃ A c, e = .returned (bv (.slice A B.length c) N) ∧ SliceAt w' 1 (.slice A B.length c) B.length (u8s B) := by
  obtain ⟨i0, hi, hz0, hz1, hz2⟩ := info_parts info_u8
  have hB : Below w.heap.size w ((w.alloc (.cells #[.slice none 0 0, .int .i64 0] 75)).alloc (.cells #[] 5)) := below_step (below_new w _) (below_new _ _)
  have hsrc := hs.later hB
  obtain ⟨A, c, rfl, _⟩ := hs.form
  have hown := own_empty (w.alloc (.cells #[.slice none 0 0, .int .i64 0] 75)) 5 1
  have g2 : ((w.alloc (.cells #[.slice none 0 0, .int .i64 0] 75)).alloc (.cells #[] 5)).heap[w.heap.size]? = some _ := old_at (new_at rfl _) _
  have HN := Lib.hid hN
  clear hs hN
  go_enter Tryd.func40, Tryd.ntmps40
  go_wp2_with (at_builtin; refine wpList_append_src (by rfl) (.tmp 3) (.tmp 4) _ (by rfl) (w.heap.size + 1) 5 i0 _ 1 1 Tryd.underlying36 hi hz0 hz1 hz2 rfl (by omega) (.slice (some ⟨w.heap.size + 1, 0, none⟩) 0 0) 0 [] (by rfl) (by rw [World.size_alloc] at hown; exact hown) (.slice A B.length c) B.length (u8s B) (by rfl) hsrc (u8s_one B) (by simp only [maxLen]; omega) (by omega) (by simp) ?_; intro v1 w1 ho1 hg1 _; obtain ⟨A1, c1, rfl, _, _⟩ := (sliceAt_of_own ho1).form; have g3 := (hg1.block w.heap.size (by simp; omega) (fun e => by have := Option.some.inj e; simp at this)).trans g2; have d0 := cell_at g3 0; have d1 := cell_at g3 1; have f0 := free_at g3 0; have f1 := free_at g3 1)
  refine bodyPost_ret (res_bits rfl rfl (set_at (set_at g3 0 _) 1 _)) rfl ?_
  have hw : Below w.heap.size w w1 := by
    have h1 := hB
    exact below_own h1 hg1 (by simp; omega) (by intro g hg; have := Option.some.inj hg; simp at this; omega)
  refine ⟨(hw.setCell (by simp) _).setCell (by simp) _, A1, c1, ?_, ?_⟩
  · rw [HN.out, Int.mul_comm]
  · simp only [Nat.zero_add, List.nil_append] at ho1 ⊢
    exact sliceAt_of_own (own_set (own_set ho1 (by simp) _) (by simp) _)
theorem cell_far {W : World} {g i : Nat} {u : Value} (h : W.cell? ⟨g, i, none⟩ = some u) {p : Addr} (hp : g ≠ p.block) (x : Value) : (W.setCell p x).cell? ⟨g, i, none⟩ = some u :=
  (World.cell?_of_block (a := ⟨g, i, none⟩) (Below.heap_setCell W p x g hp)).trans h
theorem below_newd' (W : World) (o : Obj) : Below W.heap.size W (W.drew.alloc o) := (Below.refl _ W).drew.alloc (Nat.le_refl _) _
set_option maxHeartbeats 1000000 in
set_option maxRecDepth 100000 in
theorem refOwn_c (v : Value) (B : List (BitVec 8)) (N : Int) (w : World) (hs : SliceAt w 1 v B.length (u8s B)) (hl : B.length ≤ 1000000) :
    Calls Tryd.prog 63 #[bv v N] w fun e w' => Below w.heap.size w w' ∧ ∃ A c, e = .returned (bv (.slice A B.length c) N) ∧ w'.ownsRow w.heap.size 5 1 (.slice A B.length c) B.length (u8s B) := by
  obtain ⟨i0, hi, hz0, hz1, hz2⟩ := info_parts info_u8
  have hB : Below w.heap.size w ((w.alloc (.cells #[v, .int .i64 N] 75)).alloc (.cells #[.slice none 0 0, .int .i64 0] 75)) := below_step (below_new w _) (below_new _ _)
  have V := (Var.new (N := N) hs).later (below_new (w.alloc (.cells #[v, .int .i64 N] 75)) (.cells #[.slice none 0 0, .int .i64 0] 75))
  obtain ⟨A, c, rfl, _⟩ := hs.form
  have g2 : ((w.alloc (.cells #[.slice A B.length c, .int .i64 N] 75)).alloc (.cells #[.slice none 0 0, .int .i64 0] 75)).heap[w.heap.size + 1]? = some _ := new_at (by simp) _
  have hz : ((w.alloc (.cells #[.slice A B.length c, .int .i64 N] 75)).alloc (.cells #[.slice none 0 0, .int .i64 0] 75)).heap.size = w.heap.size + 2 := by simp
  have HZ := Lib.hid hz
  clear hs hz
  go_enter Tryd.func63, Tryd.ntmps63
  go_wp2_with fail
  generalize (w.alloc (.cells #[.slice A B.length c, .int .i64 N] 75)).alloc (.cells #[.slice none 0 0, .int .i64 0] 75) = W0 at *
  have VD := V.later (Below.refl _ W0).drew
  have x0 := V.c0
  have x1 := V.c1
  refine wp_region_held_drew (S := (fun w' => w'.cell? ⟨w.heap.size, 0, none⟩ = some (.slice A B.length c) ∧ w'.cell? ⟨w.heap.size, 1, none⟩ = some (.int .i64 N))) (by kernel_rfl) ?_ (fun hHeld => ?_)
  · exact ⟨x0, x1⟩
  refine Node.tk 1 ?_ rfl ?_ ?_
  rotate_left
  · intro w hSw; (try dsimp only at hSw); go_simp; try with_reducible rfl
  simp only [zA, zS, zZ, Act.put, zP, zQ, zR]
  refine Node.tk 2 ?_ rfl ?_ ?_
  rotate_left
  · intro w hSw; (try dsimp only at hSw); go_simp; try with_reducible rfl
  simp only [zA, zS, zZ, Act.put, zP, zQ, zR]
  refine Node.tk 4 ?_ rfl ?_ ?_
  rotate_left
  · intro w hSw; (try dsimp only at hSw); go_simp; try with_reducible rfl
  simp only [zA, zS, zZ, Act.put, zP, zQ, zR]
  refine Node.tk 5 ?_ rfl ?_ ?_
  rotate_left
  · intro w hSw; (try dsimp only at hSw); go_simp; try with_reducible rfl
  simp only [zA, zS, zZ, Act.put, zP, zQ, zR]
  have hbn := below_newd' W0 (.cells #[] 5)
  have hown := own_empty W0.drew 5 1
  refine Node.on 0 rfl (fun K hK => ?_)
  go_simp
  refine hK.out _ _ ?_ (fun hHeld => ?_)
  · exact ⟨(VD.later (below_new _ _)).c0, (VD.later (below_new _ _)).c1⟩
  clear hK K
  refine Node.on 3 rfl (fun K hK => ?_)
  rw [if_pos (by rfl)]
  refine wp_append_src (.tmp 3) (.tmp 5) _ (by rfl) W0.heap.size 5 i0 _ 1 1 Tryd.underlying36 hi hz0 hz1 hz2 rfl (by omega) (.slice (some ⟨W0.heap.size, 0, none⟩) 0 0) 0 [] (by rfl) hown (.slice A B.length c) B.length (u8s B) (by rfl) (VD.later (below_new _ _)).sl (u8s_one B) (by simp only [maxLen]; omega) (by omega) (by simp) ?_
  intro v1 w1 ho1 hg1 _
  have hsW : W0.heap.size = w.heap.size + 2 := HZ.out
  obtain ⟨A1, k1, rfl, _, _⟩ := (sliceAt_of_own ho1).form
  have gx := (hg1.block w.heap.size (by simp; omega) (fun e => by have := Option.some.inj e; simp at this; omega)).trans (old_at V.at_ (.cells #[] 5))
  have gr := (hg1.block (w.heap.size + 1) (by simp; omega) (fun e => by have := Option.some.inj e; simp at this; omega)).trans (old_at g2 (.cells #[] 5))
  clear hsW
  have d0 := cell_at gr 0
  have d1 := cell_at gr 1
  have e0 := free_at gr 0
  have e1 := free_at gr 1
  have z0 : w1.cell? ⟨w.heap.size, 0, none⟩ = some (.slice A B.length c) := by rw [cell_at gx]; rfl
  have z1 : w1.cell? ⟨w.heap.size, 1, none⟩ = some (.int .i64 N) := by rw [cell_at gx]; rfl
  refine hK.out _ _ ⟨z0, z1⟩ (fun hHeld => ?_)
  clear hK K
  simp only [zA, zS, zZ, Act.put, zP, zQ, zR]
  refine Node.tk 6 ?_ rfl ?_ ?_
  rotate_left
  · intro w hSw; (try dsimp only at hSw); go_simp; try with_reducible rfl
  simp only [zA, zS, zZ, Act.put, zP, zQ, zR]
  refine Node.on 7 rfl (fun K hK => ?_)
  go_simp
  refine hK.out _ _ ?_ (fun hHeld => ?_)
  · exact ⟨cell_far (cell_far z0 (by simp) _) (by simp) _, cell_far (cell_far z1 (by simp) _) (by simp) _⟩
  refine wpAnyH_done (by kernel_rfl) ?_ _
  go_wp2
  refine bodyPost_ret (res_bits rfl rfl (set_at (set_at gr 0 _) 1 _)) rfl ?_
  have hsW : W0.heap.size = w.heap.size + 2 := HZ.out
  have hw : Below w.heap.size w w1 := hB.trans ((below_own hbn hg1 (by simp) (by intro g hg; cases hg; exact Nat.le_refl _)).mono hB.size)
  refine ⟨(hw.setCell (by simp) _).setCell (by simp) _, A1, k1, rfl, ?_⟩
  · simp only [Nat.zero_add, List.nil_append] at ho1 ⊢
    exact own_base_le (own_set (own_set ho1 (by simp; omega) _) (by simp; omega) _) (by omega)
/-- one bit more, behind bits in a row that the call owns -/
theorem bit_at {B : List (BitVec 8)} {l : List Bool} (h : Holds B l) {k : Nat} {b : Bool} (hk : l[k]? = some b) {y : BitVec 8} (hy : B[k / 8]? = some y) : y.toNat / 2 ^ (7 - k % 8) % 2 = b.toNat := by
  have hlt := (List.getElem?_eq_some_iff.1 hk).1
  have h1 := bitsOf_get B (k / 8) (k % 8) (by omega)
  rw [hy, Option.map_some, show 8 * (k / 8) + k % 8 = k by omega, holds_get h hlt, hk] at h1
  have h2 := Option.some.inj h1
  rw [h2, BitVec.getLsbD, Nat.testBit_eq_decide_div_mod_eq]
  rcases Nat.mod_two_eq_zero_or_one (y.toNat / 2 ^ (7 - k % 8)) with e | e <;> rw [e] <;> rfl
set_option maxHeartbeats 1000000 in
set_option maxRecDepth 100000 in
theorem bit_c (v : Value) (B : List (BitVec 8)) (l : List Bool) (N at' : Int) (k : Nat) (b : Bool) (w : World) (ha : at' = k) (hs : SliceAt w 1 v B.length (u8s B)) (hH : Holds B l) (hl : l.length ≤ 1000000) (hk : l[k]? = some b) :
    Calls Tryd.prog 58 #[bv v N, .int .i64 at'] w fun e w' => e = .returned (.int .i64 b.toNat) ∧ Below w.heap.size w w' := by
  subst ha
  have hlt := (List.getElem?_eq_some_iff.1 hk).1
  have hqB : k / 8 < B.length := by have := hH.1; omega
  have hy : B[k / 8]? = some B[k / 8] := List.getElem?_eq_getElem hqB
  have hbit := bit_at hH hk hy
  have hB := below_new w (.cells #[v, .int .i64 N] 75)
  have V := Var.new (N := N) hs
  obtain ⟨bk, off, cc, rfl, _, _, hbl, hcell⟩ := hs.pos (by omega)
  have cy := (hB.cell (p := ⟨bk, off + k / 8, none⟩) hbl).trans (hcell (k / 8) (.int .u8 (B[k / 8].toNat : Int)) (by simp [u8s, hy]))
  generalize B[k / 8] = y at *
  obtain ⟨q, hq⟩ : ∃ q, k / 8 = q := ⟨_, rfl⟩
  have hq8 : (k : Int) / 8 = (q : Int) := by omega
  obtain ⟨s, hs7⟩ : ∃ s, 7 - k % 8 = s := ⟨_, rfl⟩
  have hsi : (7 : Int) - (k : Int) % 8 = (s : Int) := by omega
  have hs64 : (s : Int) < 64 := by omega
  rw [hq] at cy hqB
  rw [hs7] at hbit
  have i2 : (q : Int) < (B.length : Int) := by omega
  have i3 : (k : Int) ≤ 1000000 := by omega
  have hwb : wrap64 ((y.toNat : Int) / 2 ^ s) = ((y.toNat / 2 ^ s : Nat) : Int) := by
    rw [show ((y.toNat : Int) / 2 ^ s) = ((y.toNat / 2 ^ s : Nat) : Int) by norm_cast]
    exact wrap64_nat (Nat.lt_of_le_of_lt (Nat.div_le_self _ _) (Nat.lt_trans y.isLt (by decide)))
  have i4 : (y.toNat : Int) < 256 := by have := y.isLt; omega
  have hm1 : Go.bits .and .i64 ((y.toNat : Int) / 2 ^ s) 1 = (b.toNat : Int) := by
    rw [show ((y.toNat : Int) / 2 ^ s) = ((y.toNat / 2 ^ s : Nat) : Int) by norm_cast, mask1, ← hbit]; exact (Int.natCast_emod _ 2).symm
  clear hbit hy hq hs7 hs hcell hwb hH hk
  go_enter Tryd.func58, Tryd.ntmps58
  go_wp2
  go_ret
  exact ⟨rfl, hB⟩
end Go.Proofs.YtlanlkpamnoekaaDoor.Bt
namespace Go.Proofs.YtlanlkpamnoekaaDoor.Bt
open List renaming getElem_toArray → zA, getElem_cons_succ → zS, getElem_cons_zero → zZ, setIfInBounds_toArray → zP, set_cons_zero → zQ, set_cons_succ → zR
open Go.RowKit Rf Mem Bv Bits Str
attribute [local go_sem ↓] run_max2 run_min2
theorem own_set' {w : World} {base e sz n : Nat} {v : Value} {xs : List Value} (h : w.ownsRow base e sz v n xs) {p : Addr} (hp : v.ownBlock ≠ some p.block) (u : Value) : (w.setCell p u).ownsRow base e sz v n xs :=
  own_later h (fun k hk => Below.heap_setCell _ _ _ k (by rintro rfl; exact hp hk))
/-- what one bit more leaves: a row of the call's own, at the old block or at a new one -/
def WithPost (base : Nat) (v : Value) (l : List Bool) (b : Bool) (w : World) : Ending → World → Prop := fun e w' =>
  ∃ A c B', e = .returned (bv (.slice A B'.length c) ((l.length : Int) + 1)) ∧ w'.ownsRow base 5 1 (.slice A B'.length c) B'.length (u8s B') ∧ Holds B' (l ++ [b]) ∧ Keep (fun k => v.ownBlock ≠ some k) w w' ∧
    ∀ k, (Value.slice A B'.length c).ownBlock = some k → v.ownBlock = some k ∨ w.heap.size ≤ k
theorem with_end {base : Nat} {v v' : Value} {l : List Bool} {b : Bool} {w W : World} {B' : List (BitVec 8)} {m : Value}
    (hg : W.heap[w.heap.size]? = some (.cells #[v', .int .i64 (l.length : Int)] 75 (0, 0))) (ho : W.ownsRow base 5 1 v' B'.length (u8s B')) (hH : Holds B' (l ++ [b])) (hk : Keep (fun k => v.ownBlock ≠ some k) w W)
    (hb : ∀ k, v'.ownBlock = some k → v.ownBlock = some k ∨ w.heap.size + 2 ≤ k) (hvb : ∀ k, v.ownBlock = some k → k < w.heap.size) :
    WithPost base v l b w (.returned (bv v' ((l.length : Int) + 1))) (((W.setCell ⟨w.heap.size, 1, none⟩ (.int .i64 ((l.length : Int) + 1))).setCell ⟨w.heap.size + 1, 0, none⟩ v').setCell ⟨w.heap.size + 1, 1, none⟩ m) := by
  obtain ⟨A, c, rfl, _, _⟩ := (sliceAt_of_own ho).form
  have hne : ∀ k, (Value.slice A B'.length c).ownBlock = some k → k ≠ w.heap.size ∧ k ≠ w.heap.size + 1 := by
    intro k hk
    rcases hb k hk with h | h
    · have := hvb k h; omega
    · omega
  refine ⟨A, c, B', rfl, own_set' (own_set' (own_set' ho ?_ _) ?_ _) ?_ _, hH, ((hk.setCell (by simp) _).setCell (fun h => absurd h (by simp)) _).setCell (fun h => absurd h (by simp)) _, fun k hk => ?_⟩
  · intro h; exact (hne _ h).1 rfl
  · intro h; exact (hne _ h).2 rfl
  · intro h; exact (hne _ h).2 rfl
  · rcases hb k hk with h | h
    · exact .inl h
    · exact .inr (by omega)
set_option maxHeartbeats 1000000 in
set_option maxRecDepth 100000 in
theorem with_old (base : Nat) (v : Value) (B : List (BitVec 8)) (l : List Bool) (b : Bool) (w : World) (ho : w.ownsRow base 5 1 v B.length (u8s B)) (hH : Holds B l) (hl : l.length ≤ 1000000) (h8 : l.length % 8 ≠ 0) :
    Calls Tryd.prog 64 #[bv v (l.length : Int), .bool b] w (WithPost base v l b w) := by
  have hvb : ∀ k, v.ownBlock = some k → k < w.heap.size := fun k hk => (own_base ho hk).2
  have hadd := holds_add hH b
  have hBl := hH.1
  obtain ⟨A, c, rfl, hc1, hc2⟩ := (sliceAt_of_own ho).form
  obtain ⟨g1, rfl⟩ := own_some ho (by omega)
  have hg1 : g1 < w.heap.size := hvb g1 rfl
  have hB : Below w.heap.size w ((w.alloc (.cells #[.slice (some ⟨g1, 0, none⟩) B.length c, .int .i64 (l.length : Int)] 75)).alloc (.cells #[.slice none 0 0, .int .i64 0] 75)) := below_step (below_new w _) (below_new _ _)
  have hg : ((w.alloc (.cells #[.slice (some ⟨g1, 0, none⟩) B.length c, .int .i64 (l.length : Int)] 75)).alloc (.cells #[.slice none 0 0, .int .i64 0] 75)).heap[w.heap.size]? = some _ := old_at (new_at rfl _) _
  have hr : ((w.alloc (.cells #[.slice (some ⟨g1, 0, none⟩) B.length c, .int .i64 (l.length : Int)] 75)).alloc (.cells #[.slice none 0 0, .int .i64 0] 75)).heap[w.heap.size + 1]? = some _ := new_at (by simp) _
  have ho0 := own_later (w' := ((w.alloc (.cells #[.slice (some ⟨g1, 0, none⟩) B.length c, .int .i64 (l.length : Int)] 75)).alloc (.cells #[.slice none 0 0, .int .i64 0] 75))) ho (fun k hk => hB.block k (hvb k hk))
  have hK0 : Keep (fun k => (Value.slice (some ⟨g1, 0, none⟩) B.length c).ownBlock ≠ some k) w _ := Keep.of_below hB (fun k h _ => h)
  obtain ⟨r, hr', hr8, hr0⟩ : ∃ r, l.length % 8 = r ∧ r < 8 ∧ r ≠ 0 := ⟨_, rfl, by omega, h8⟩
  have hm : (l.length : Int) % 8 = (r : Int) := by omega
  have hz : ((r : Int) == 0) = false := by simp; omega
  cases b
  · have hBe : addB B l.length false = B := by unfold addB; simp [h8]
    rw [hBe] at hadd
    have HA := Lib.hid hadd
    have HVB := Lib.hid hvb
    have HO := Lib.hid ho
    clear hH hBl hBe h8 ho hadd hvb hr'
    go_enter Tryd.func64, Tryd.ntmps64
    go_wp2
    refine bodyPost_ret (res_bits rfl rfl (new_at (by simp) _)) rfl ?_
    have hB' : Below w.heap.size w ((w.alloc (.cells #[.slice (some ⟨g1, 0, none⟩) B.length c, .int .i64 ((l.length : Int) + 1)] 75)).alloc (.cells #[.slice (some ⟨g1, 0, none⟩) B.length c, .int .i64 ((l.length : Int) + 1)] 75)) := below_step (below_new w _) (below_new _ _)
    exact ⟨_, c, B, rfl, own_later HO.out (fun k hk => hB'.block k (HVB.out k hk)), HA.out, Keep.of_below hB' (fun k h _ => h), fun k hk => .inl hk⟩
  · obtain ⟨m, hBm, hml⟩ : ∃ m, B.length - 1 = m ∧ m < B.length := ⟨_, rfl, by omega⟩
    have hm8 : (l.length : Int) / 8 = (m : Int) := by omega
    have hy : B[m]? = some B[m] := List.getElem?_eq_getElem _
    have hBe : addB B l.length true = B.modify m (fun x => x ||| (128#8 >>> r)) := by unfold addB; simp [hr', hr0, hBm]
    have hset : (u8s B).set m (.int .u8 ((B[m] ||| (128#8 >>> r) : BitVec 8).toNat : Int)) = u8s (B.modify m (fun x => x ||| (128#8 >>> r))) := u8s_modify B m _ (fun x => x ||| (128#8 >>> r)) hy
    have cy : ((w.alloc (.cells #[.slice (some ⟨g1, 0, none⟩) B.length c, .int .i64 (l.length : Int)] 75)).alloc (.cells #[.slice none 0 0, .int .i64 0] 75)).cell? ⟨g1, m, none⟩ = some (.int .u8 (B[m].toNat : Int)) := by rw [ho0.cellAt _ (by omega)]; simp [u8s, hy]
    have fy := ho0.frozenAt m
    generalize B[m] = y at *
    have hor := or_high y r
    have hst := (ho0.stored m (.int .u8 ((y ||| (128#8 >>> r)).toNat : Int))).1
    rw [hset] at hst
    rw [hBe] at hadd
    have hmlen : (B.modify m (fun x => x ||| (128#8 >>> r))).length = B.length := by simp
    generalize hzz : y ||| (128#8 >>> r) = z at *
    replace hst : World.ownsRow (((w.alloc (.cells #[.slice (some ⟨g1, 0, none⟩) B.length c, .int .i64 (l.length : Int)] 75)).alloc (.cells #[.slice none 0 0, .int .i64 0] 75)).setCell ⟨g1, m, none⟩ (.int .u8 (z.toNat : Int))) base 5 1 (.slice (some ⟨g1, 0, none⟩) B.length c) (B.modify m (fun x => x ||| (128#8 >>> r))).length (u8s (B.modify m (fun x => x ||| (128#8 >>> r)))) := by rw [hmlen]; exact hst
    have HVB := Lib.hid hvb
    have HA := Lib.hid hadd
    have HS := Lib.hid hst
    have HL := Lib.hid hmlen
    have hwl : IntKind.i64.wrap (m : Int) = (m : Int) := IntWalk.i64_in _ (by omega)
    have i1 : (0 : Int) ≤ (m : Int) := by omega
    have i2 : (m : Int) < (B.length : Int) := by omega
    have i3 : m < c := by omega
    have i4 : (l.length : Int) ≤ 1000000 := by omega
    have hsh : min (IntKind.u64.wrap ((l.length : Int).tmod 8)).toNat 8 = r := by
      rw [Int.tmod_eq_emod_of_nonneg (by omega), hm, show IntKind.u64.wrap (r : Int) = (r : Int) from IntWalk.u64_in _ (by omega)]; omega
    have HSH := Lib.hid hsh
    clear hsh hH hBl hBe hr' h8 hset hst hadd hy hBm ho hvb hzz hmlen
    go_enter Tryd.func64, Tryd.ntmps64
    go_wp2_with fail
    generalize (w.alloc (.cells #[.slice (some ⟨g1, 0, none⟩) B.length c, .int .i64 (l.length : Int)] 75)).alloc (.cells #[.slice none 0 0, .int .i64 0] 75) = W0 at *
    have c0 := cell_at hg 0
    have c1 := cell_at hg 1
    have f0 := free_at hg 0
    have f1 := free_at hg 1
    have r0 := cell_at hr 0
    have r1 := cell_at hr 1
    have fr0 := free_at hr 0
    have fr1 := free_at hr 1
    go_still_tail 18, (by kernel_rfl)
    change wpList _ _ _ _ _ W0.drew
    simp only [HSH.out, hor]
    go_wp2
    refine bodyPost_ret (res_bits rfl rfl (set_at (set_at (g := w.heap.size + 1) ((Below.heap_setCell _ ⟨w.heap.size, 1, none⟩ _ _ (by simp)).trans ((Below.heap_setCell W0.drew ⟨g1, m, none⟩ _ _ (by simp; omega)).trans hr)) 0 _) 1 _)) rfl ?_
    have hG1 : (W0.drew.setCell ⟨g1, m, none⟩ (.int .u8 (z.toNat : Int))).heap[w.heap.size]? = _ := (Below.heap_setCell W0.drew ⟨g1, m, none⟩ _ _ (by simp; omega)).trans hg
    refine with_end (W := W0.drew.setCell ⟨g1, m, none⟩ (.int .u8 (z.toNat : Int))) hG1 HS.out HA.out ?_ (fun k hk => .inl hk) HVB.out
    exact Keep.setCell (p := ⟨g1, m, none⟩) (Keep.drew hK0) (fun _ h => h rfl) _
end Go.Proofs.YtlanlkpamnoekaaDoor.Bt
namespace Go.Proofs.YtlanlkpamnoekaaDoor.Bt
open List renaming getElem_toArray → zA, getElem_cons_succ → zS, getElem_cons_zero → zZ, setIfInBounds_toArray → zP, set_cons_zero → zQ, set_cons_succ → zR
open Go.RowKit Rf Mem Bv Bits Str
attribute [local go_sem ↓] run_max2 run_min2
set_option maxHeartbeats 1000000 in
set_option maxRecDepth 100000 in
theorem with_new (base : Nat) (v : Value) (B : List (BitVec 8)) (l : List Bool) (b : Bool) (w : World) (ho : w.ownsRow base 5 1 v B.length (u8s B)) (hH : Holds B l) (hl : l.length ≤ 1000000) (h8 : l.length % 8 = 0) (hbw : base ≤ w.heap.size) :
    Calls Tryd.prog 64 #[bv v (l.length : Int), .bool b] w (WithPost base v l b w) := by
  obtain ⟨i0, hi, hz0, hz1, hz2⟩ := info_parts info_u8
  have hvb : ∀ k, v.ownBlock = some k → k < w.heap.size := fun k hk => (own_base ho hk).2
  have hadd := holds_add hH b
  have hBl := hH.1
  obtain ⟨A, c, rfl, hc1, hc2⟩ := (sliceAt_of_own ho).form
  have hB : Below w.heap.size w ((w.alloc (.cells #[.slice A B.length c, .int .i64 (l.length : Int)] 75)).alloc (.cells #[.slice none 0 0, .int .i64 0] 75)) := below_step (below_new w _) (below_new _ _)
  have hg : ((w.alloc (.cells #[.slice A B.length c, .int .i64 (l.length : Int)] 75)).alloc (.cells #[.slice none 0 0, .int .i64 0] 75)).heap[w.heap.size]? = some _ := old_at (new_at rfl _) _
  have hr : ((w.alloc (.cells #[.slice A B.length c, .int .i64 (l.length : Int)] 75)).alloc (.cells #[.slice none 0 0, .int .i64 0] 75)).heap[w.heap.size + 1]? = some _ := new_at (by simp) _
  have hown := own_later (w' := (((w.alloc (.cells #[.slice A B.length c, .int .i64 (l.length : Int)] 75)).alloc (.cells #[.slice none 0 0, .int .i64 0] 75)).alloc (.cells #[.int .u8 0] 5))) ho (fun k hk => (Below.heap_alloc _ _ _ (by have := hvb k hk; simp; omega)).trans (hB.block k (hvb k hk)))
  have hne : (Value.slice A B.length c).ownBlock ≠ some w.heap.size := fun e => by have := hvb _ e; omega
  have hneR : (Value.slice A B.length c).ownBlock ≠ some (w.heap.size + 1) := fun e => by have := hvb _ e; omega
  have hm : (l.length : Int) % 8 = 0 := by omega
  have hm8 : (l.length : Int) / 8 = (B.length : Int) := by omega
  have hB0 : addB B l.length b = if b then (B ++ [0#8]).modify B.length (fun x => x ||| 128#8) else B ++ [0#8] := by unfold addB; simp [h8]
  rw [hB0] at hadd
  have hlenB : B.length ≤ 125001 := by omega
  have HADD := Lib.hid hadd
  have HVB := Lib.hid hvb
  have HK0 := Lib.hid ((Keep.of_below (S := fun k => (Value.slice A B.length c).ownBlock ≠ some k) hB (fun k h _ => h)).alloc (.cells #[.int .u8 0] 5))
  clear hH hBl hB0 hadd h8 ho hvb
  cases b
  · go_enter Tryd.func64, Tryd.ntmps64
    go_wp2_with (at_builtin; refine wpList_append_src (by rfl) (.tmp 10) (.tmp 11) _ (by rfl) base 5 i0 _ 1 1 Tryd.underlying36 hi hz0 hz1 hz2 rfl (by omega) (.slice A B.length c) B.length (u8s B) (by rfl) hown (.slice (some ⟨w.heap.size + 2, 0, none⟩) 1 1) 1 [.int .u8 0] (by rfl) (sliceAt_blk (new_at (by simp) _) rfl (by simp [maxLen])) (by simp [Value.oneCell']) (by simp only [maxLen]; omega) (by omega) (by simp; omega) ?_; intro v1 w1 ho1 hg1 hw1; obtain ⟨A1, k1, rfl, p1, p2⟩ := (sliceAt_of_own ho1).form; obtain ⟨g1, rfl⟩ := own_some ho1 (by omega); obtain ⟨hgne, hG1, hK1, hO1⟩ := add_facts hg hg1 hw1 hne (fun _ => Iff.rfl); obtain ⟨hgneR, hR1, _, _⟩ := add_facts hr hg1 hw1 hneR (fun _ => Iff.rfl); have HK1 := Lib.hid (HK0.out.grown hg1 (fun k hk _ h => h hk)); have hO2 : (Value.slice A B.length c).ownBlock = some g1 ∨ w.heap.size + 2 ≤ g1 := hO1.elim (fun h => h.elim (fun h => absurd h hgne) .inl) (fun h => .inr (by simpa using h)); have HO2 := Lib.hid hO2; clear hO1 hO2; have d0 := cell_at hG1 0; have d1 := cell_at hG1 1; have e0 := free_at hG1 0; have e1 := free_at hG1 1; have dr0 := cell_at hR1 0; have dr1 := cell_at hR1 1; have er0 := free_at hR1 0; have er1 := free_at hR1 1)
    refine bodyPost_ret (res_bits rfl rfl (set_at (set_at (g := w.heap.size + 1) (set_far (p := ⟨w.heap.size, 1, none⟩) (set_far (p := ⟨w.heap.size, 0, none⟩) hR1 (by simp) _) (by simp) _) 0 _) 1 _)) rfl ?_
    refine with_end (W := w1.setCell ⟨w.heap.size, 0, none⟩ (.slice (some ⟨g1, 0, none⟩) (B.length + 1) k1)) (set0 hG1) (own_set' (p := ⟨w.heap.size, 0, none⟩) (own_snoc ho1) (fun e => hgne (Option.some.inj e)) _) (by have h := HADD.out; rwa [if_neg (by simp)] at h) (HK1.out.setCell (by simp) _) (fun k hk => ?_) HVB.out
    cases hk
    exact HO2.out
  · have hor0 : Go.bits .or .u8 0 (128 / 2 ^ 0) = 128 := by decide
    go_enter Tryd.func64, Tryd.ntmps64
    go_wp2_with (at_builtin; refine wpList_append_src (by rfl) (.tmp 10) (.tmp 11) _ (by rfl) base 5 i0 _ 1 1 Tryd.underlying36 hi hz0 hz1 hz2 rfl (by omega) (.slice A B.length c) B.length (u8s B) (by rfl) hown (.slice (some ⟨w.heap.size + 2, 0, none⟩) 1 1) 1 [.int .u8 0] (by rfl) (sliceAt_blk (new_at (by simp) _) rfl (by simp [maxLen])) (by simp [Value.oneCell']) (by simp only [maxLen]; omega) (by omega) (by simp; omega) ?_; intro v1 w1 ho1 hg1 hw1; obtain ⟨A1, k1, rfl, p1, p2⟩ := (sliceAt_of_own ho1).form; obtain ⟨g1, rfl⟩ := own_some ho1 (by omega); obtain ⟨hgne, hG1, hK1, hO1⟩ := add_facts hg hg1 hw1 hne (fun _ => Iff.rfl); obtain ⟨hgneR, hR1, _, _⟩ := add_facts hr hg1 hw1 hneR (fun _ => Iff.rfl); have HK1 := Lib.hid (HK0.out.grown hg1 (fun k hk _ h => h hk)); have hO2 : (Value.slice A B.length c).ownBlock = some g1 ∨ w.heap.size + 2 ≤ g1 := hO1.elim (fun h => h.elim (fun h => absurd h hgne) .inl) (fun h => .inr (by simpa using h)); have HO2 := Lib.hid hO2; clear hO1 hO2; have d0 := cell_at hG1 0; have d1 := cell_at hG1 1; have e0 := free_at hG1 0; have e1 := free_at hG1 1; have dr0 := cell_at hR1 0; have dr1 := cell_at hR1 1; have er0 := free_at hR1 0; have er1 := free_at hR1 1)
    have hG2 := set0 (u := .slice (some ⟨g1, 0, none⟩) (B.length + 1) k1) hG1
    have ho2 := own_set' ho1 (p := ⟨w.heap.size, 0, none⟩) (fun e => hgne (Option.some.inj e)) (.slice (some ⟨g1, 0, none⟩) (B.length + 1) k1)
    have hR2 := set_far (p := ⟨w.heap.size, 0, none⟩) hR1 (by simp) (.slice (some ⟨g1, 0, none⟩) (B.length + 1) k1)
    have hK2 := HK1.out.setCell (p := ⟨w.heap.size, 0, none⟩) (by simp) (.slice (some ⟨g1, 0, none⟩) (B.length + 1) k1)
    clear d0 d1 e0 e1 dr0 dr1 er0 er1 ho1 hG1 hR1 hK1 HK1 hg1 hg hr hown HK0
    generalize w1.setCell ⟨w.heap.size, 0, none⟩ (.slice (some ⟨g1, 0, none⟩) (B.length + 1) k1) = w2 at *
    have d0 := cell_at hG2 0
    have d1 := cell_at hG2 1
    have e0 := free_at hG2 0
    have e1 := free_at hG2 1
    have dr0 := cell_at hR2 0
    have dr1 := cell_at hR2 1
    have er0 := free_at hR2 0
    have er1 := free_at hR2 1
    have cy := (ho2.cellAt B.length (by omega)).trans (last_zero B)
    have fy := ho2.frozenAt B.length
    have i1 : (0 : Int) ≤ (B.length : Int) := by omega
    have i2 : (B.length : Int) < (B.length : Int) + 1 := by omega
    have i3 : B.length < B.length + 1 := by omega
    have i4 : (l.length : Int) ≤ 1000000 := by omega
    have hwl : IntKind.i64.wrap (B.length : Int) = (B.length : Int) := IntWalk.i64_in _ (by omega)
    have HSH := Lib.hid (show min (IntKind.u64.wrap ((l.length : Int).tmod 8)).toNat 8 = 0 by rw [Int.tmod_eq_emod_of_nonneg (by omega), hm]; rfl)
    have HST := Lib.hid (ho2.stored B.length (.int .u8 128)).1
    go_still_tail 18, (by kernel_rfl)
    change wpList _ _ _ _ _ w2.drew
    simp only [HSH.out, hor0]
    go_wp2
    refine bodyPost_ret (res_bits rfl rfl (set_at (set_at (g := w.heap.size + 1) ((Below.heap_setCell _ ⟨w.heap.size, 1, none⟩ _ _ (by simp)).trans ((Below.heap_setCell w2.drew ⟨g1, B.length, none⟩ _ _ (by simp; omega)).trans hR2)) 0 _) 1 _)) rfl ?_
    have hadd := HADD.out
    simp only [if_true] at hadd
    have hD1 : ((B ++ [0#8]).modify B.length (fun x => x ||| 128#8)).length = B.length + 1 := by simp
    have hD2 : (u8s B ++ [Value.int .u8 0]).set B.length (.int .u8 128) = u8s ((B ++ [0#8]).modify B.length (fun x => x ||| 128#8)) := by
      have := u8s_modify (B ++ [0#8]) B.length 0#8 (fun x => x ||| 128#8) (by rw [List.getElem?_append_right (Nat.le_refl _), Nat.sub_self]; rfl)
      rw [← this]; simp [u8s]
    have hst := HST.out
    rw [hD2] at hst
    have hG3 : (w2.drew.setCell ⟨g1, B.length, none⟩ (.int .u8 128)).heap[w.heap.size]? = _ := (Below.heap_setCell w2.drew ⟨g1, B.length, none⟩ _ _ (by simp; omega)).trans hG2
    refine with_end (W := w2.drew.setCell ⟨g1, B.length, none⟩ (.int .u8 128)) hG3 (by rw [hD1]; exact hst) hadd (Keep.setCell (p := ⟨g1, B.length, none⟩) (Keep.drew hK2) (fun hlt h => ?_) _) (fun k hk => ?_) HVB.out
    · rcases HO2.out with h1 | h1
      · exact h h1
      · exact absurd hlt (by simp; omega)
    · cases hk
      exact HO2.out
theorem refWith_c (base : Nat) (v : Value) (B : List (BitVec 8)) (l : List Bool) (b : Bool) (w : World) (ho : w.ownsRow base 5 1 v B.length (u8s B)) (hH : Holds B l) (hl : l.length ≤ 1000000) (hbw : base ≤ w.heap.size) :
    Calls Tryd.prog 64 #[bv v (l.length : Int), .bool b] w (WithPost base v l b w) := by
  by_cases h8 : l.length % 8 = 0
  · exact with_new base v B l b w ho hH hl h8 hbw
  · exact with_old base v B l b w ho hH hl h8
end Go.Proofs.YtlanlkpamnoekaaDoor.Bt
namespace Go.Proofs.YtlanlkpamnoekaaDoor.Bt
open List renaming getElem_toArray → zA, getElem_cons_succ → zS, getElem_cons_zero → zZ, setIfInBounds_toArray → zP, set_cons_zero → zQ, set_cons_succ → zR
open Go.RowKit Rf Mem Bv Bits Str
attribute [local go_sem ↓] run_max2 run_min2
/-- the variables of one of the document's calls: x in block s, the result's in block s + 1 -/
structure RV (s : Nat) (w W : World) (v : Value) (B : List (BitVec 8)) (l : List Bool) : Prop where
  x : W.heap[s]? = some (.cells #[v, .int .i64 (l.length : Int)] 75 (0, 0))
  r : W.heap[s + 1]? = some (.cells #[.slice none 0 0, .int .i64 0] 75 (0, 0))
  own : W.ownsRow (s + 2) 5 1 v B.length (u8s B)
  h : Holds B l
  b : Below s w W
  sz : s + 2 ≤ W.heap.size
  le : s ≤ w.heap.size
theorem RV.step {s : Nat} {w W W1 : World} {v : Value} {B : List (BitVec 8)} {l : List Bool} {b : Bool} {e : Ending} (h : RV s w W v B l) (hp : WithPost (s + 2) v l b W e W1) :
    ∃ A c B', e = .returned (bv (.slice A B'.length c) ((l.length : Int) + 1)) ∧ W1.heap[s]? = some (.cells #[v, .int .i64 (l.length : Int)] 75 (0, 0)) ∧
      RV s w ((W1.setCell ⟨s, 0, none⟩ (.slice A B'.length c)).setCell ⟨s, 1, none⟩ (.int .i64 ((l.length : Int) + 1))) (.slice A B'.length c) B' (l ++ [b]) := by
  obtain ⟨A, c, B', rfl, ho, hH, hk, hb⟩ := hp
  have hv : ∀ k, v.ownBlock = some k → s + 2 ≤ k := fun k hk => (own_base h.own hk).1
  have hx := hk.at_ h.x (fun e => by have := hv _ e; omega)
  have hr := hk.at_ h.r (fun e => by have := hv _ e; omega)
  have hne : ∀ k, (Value.slice A B'.length c).ownBlock = some k → s + 2 ≤ k := fun k e => (own_base ho e).1
  refine ⟨A, c, B', rfl, hx, ?_, ?_, ?_, hH, ?_, ?_, h.le⟩
  · rw [set_at (set_at hx 0 _) 1]; simp
  · exact (Below.heap_setCell _ _ _ _ (by simp)).trans ((Below.heap_setCell _ _ _ _ (by simp)).trans hr)
  · exact own_set' (own_set' ho (fun e => by have := hne _ e; simp at this; omega) _) (fun e => by have := hne _ e; simp at this; omega) _
  · exact ((below_keep h.b hk h.le (fun k hlt e => by have := hv k e; omega)).setCell (by simp) _).setCell (by simp) _
  · have := hk.size; have := h.sz; simp; omega
/-- the start, behind Own -/
theorem RV.start {w W1 : World} {v : Value} {B : List (BitVec 8)} {l : List Bool} {A : Option Addr} {c : Nat} (o1 o2 : Value)
    (b1 : Below ((w.alloc (.cells #[v, .int .i64 (l.length : Int)] 75)).alloc (.cells #[.slice none 0 0, .int .i64 0] 75)).heap.size ((w.alloc (.cells #[v, .int .i64 (l.length : Int)] 75)).alloc (.cells #[.slice none 0 0, .int .i64 0] 75)) W1)
    (ho : W1.ownsRow ((w.alloc (.cells #[v, .int .i64 (l.length : Int)] 75)).alloc (.cells #[.slice none 0 0, .int .i64 0] 75)).heap.size 5 1 (.slice A B.length c) B.length (u8s B)) (hH : Holds B l) :
    W1.heap[w.heap.size]? = some (.cells #[v, .int .i64 (l.length : Int)] 75 (0, 0)) ∧
    RV w.heap.size w ((W1.setCell ⟨w.heap.size, 0, none⟩ (.slice A B.length c)).setCell ⟨w.heap.size, 1, none⟩ (.int .i64 (l.length : Int))) (.slice A B.length c) B l := by
  have hx := below_at b1 (k := w.heap.size) (o := .cells #[v, .int .i64 (l.length : Int)] 75) (old_at (new_at rfl _) _) (by simp; omega)
  have hr := below_at b1 (k := w.heap.size + 1) (o := .cells #[.slice none 0 0, .int .i64 0] 75) (new_at (by simp) _) (by simp)
  have hne : ∀ k, (Value.slice A B.length c).ownBlock = some k → w.heap.size + 2 ≤ k := fun k e => by have := (own_base ho e).1; simpa using this
  have ho' : W1.ownsRow (w.heap.size + 2) 5 1 (.slice A B.length c) B.length (u8s B) := by simpa using ho
  refine ⟨hx, ?_, ?_, ?_, hH, ?_, ?_, Nat.le_refl _⟩
  · rw [set_at (set_at hx 0 _) 1]; simp
  · exact (Below.heap_setCell _ _ _ _ (by simp)).trans ((Below.heap_setCell _ _ _ _ (by simp)).trans hr)
  · exact own_set' (own_set' ho' (fun e => by have := hne _ e; simp at this; omega) _) (fun e => by have := hne _ e; simp at this; omega) _
  · exact ((below_step (below_step (below_new w _) (below_new _ _)) b1).setCell (by simp) _).setCell (by simp) _
  · have := b1.size; simp at this ⊢; omega
/-- the end: the result stored -/
theorem RV.done {s : Nat} {w W : World} {v : Value} {B : List (BitVec 8)} {l : List Bool} (h : RV s w W v B l) (m : Value) :
    ∃ A c, v = .slice A B.length c ∧ Below s w ((W.setCell ⟨s + 1, 0, none⟩ v).setCell ⟨s + 1, 1, none⟩ m) ∧ SliceAt ((W.setCell ⟨s + 1, 0, none⟩ v).setCell ⟨s + 1, 1, none⟩ m) 1 v B.length (u8s B) := by
  have hne : ∀ k, v.ownBlock = some k → s + 2 ≤ k := fun k e => (own_base h.own e).1
  obtain ⟨A, c, e, _⟩ := (sliceAt_of_own h.own).form
  exact ⟨A, c, e, (h.b.setCell (by simp) _).setCell (by simp) _, sliceAt_of_own (own_set' (own_set' h.own (fun e => by have := hne _ e; simp at this) _) (fun e => by have := hne _ e; simp at this) _)⟩
end Go.Proofs.YtlanlkpamnoekaaDoor.Bt
namespace Go.Proofs.YtlanlkpamnoekaaDoor.Bt
open List renaming getElem_toArray → zA, getElem_cons_succ → zS, getElem_cons_zero → zZ, setIfInBounds_toArray → zP, set_cons_zero → zQ, set_cons_succ → zR
open Go.RowKit Rf Mem Bv Bits Str
attribute [local go_sem ↓] run_max2 run_min2
end Go.Proofs.YtlanlkpamnoekaaDoor.Bt
namespace Go.Proofs.YtlanlkpamnoekaaDoor.Bt
open List renaming getElem_toArray → zA, getElem_cons_succ → zS, getElem_cons_zero → zZ, setIfInBounds_toArray → zP, set_cons_zero → zQ, set_cons_succ → zR
open Go.RowKit Rf Mem Bv Bits Str
attribute [local go_sem ↓] run_max2 run_min2
theorem RV.drew {s : Nat} {w W : World} {v : Value} {B : List (BitVec 8)} {l : List Bool} (h : RV s w W v B l) : RV s w W.drew v B l :=
  ⟨h.x, h.r, own_later h.own (fun _ _ => rfl), h.h, h.b.drew, h.sz, h.le⟩
end Go.Proofs.YtlanlkpamnoekaaDoor.Bt
namespace Go.Proofs.YtlanlkpamnoekaaDoor.Bt
open List renaming getElem_toArray → zA, getElem_cons_succ → zS, getElem_cons_zero → zZ, setIfInBounds_toArray → zP, set_cons_zero → zQ, set_cons_succ → zR
open Go.RowKit Rf Mem Bv Bits Str
attribute [local go_sem ↓] run_max2 run_min2
set_option maxHeartbeats 1000000 in
set_option maxRecDepth 100000 in
theorem refPut_g (v : Value) (B : List (BitVec 8)) (l : List Bool) (n wd : Nat) (N N' n' wd' : Int) (w : World) (hN : N = l.length) (hN' : N' = ((l.length + wd : Nat) : Int)) (hn' : n' = n) (hwd' : wd' = wd) (hs : SliceAt w 1 v B.length (u8s B)) (hH : Holds B l) (hl : l.length ≤ 900000) (hw : wd ≤ 32) (hn : n < 2 ^ wd) :
    Calls Tryd.prog 46 #[bv v N, .int .i64 n', .int .i64 wd'] w fun e w' => Below w.heap.size w w' ∧
      ∃ A c B', e = .returned (.tuple #[bv (.slice A (B' : List (BitVec 8)).length c) N', .int .i64 0]) ∧ SliceAt w' 1 (.slice A B'.length c) B'.length (u8s B') ∧ Holds B' (l ++ numBits n wd) := by
  subst hN hN' hn' hwd'
  have h32 : (2 : Nat) ^ wd ≤ 4294967296 := (Nat.pow_le_pow_right (by omega) hw : (2 : Nat) ^ wd ≤ 2 ^ 32)
  have hpw : wrap64 ((2 : Int) ^ wd) = ((2 ^ wd : Nat) : Int) := by
    rw [show ((2 : Int) ^ wd) = ((2 ^ wd : Nat) : Int) by push_cast; rfl]; generalize 2 ^ wd = t at *; unfold wrap64; omega
  obtain ⟨P, hP⟩ : ∃ P : Nat, 2 ^ wd = P := ⟨_, rfl⟩
  rw [hP] at hpw h32 hn
  have hnP : (n : Int) < (P : Int) := by omega
  have hP32 : (P : Int) ≤ 4294967296 := by omega
  have hwi : (wd : Int) ≤ 32 := by omega
  clear hP
  have hr : true = right B (l.length : Int) := right_yes hH rfl
  have hBl := hH.1
  have HH := Lib.hid hH
  have hBs : B.length ≤ 125000 := by omega
  clear hBl hH
  have hB : Below w.heap.size w ((w.alloc (.cells #[v, .int .i64 (l.length : Int)] 75)).alloc (.cells #[.slice none 0 0, .int .i64 0] 75)) := ((Below.refl _ w).alloc (Nat.le_refl _) _).alloc (by simp) _
  have hs' := hs.later hB
  obtain ⟨A, c, rfl, _⟩ := hs.form
  have n1 : -9223372036854775808 ≤ (l.length : Int) := by omega
  have n2 : (l.length : Int) ≤ 9223372036854775807 := by omega
  clear hs
  go_enter Tryd.func46, Tryd.ntmps46
  go_wp2_with fail
  refine (refRight_g _ B _ _ _ hr hs' n1 n2).mono ?_
  rintro e w0 ⟨rfl, b0⟩
  have g1 := below_at b0 (k := w.heap.size) (o := .cells #[.slice A B.length c, .int .i64 (l.length : Int)] 75) (old_at (new_at rfl _) _) (by simp; omega)
  have c10 := cell_at g1 0
  have c11 := cell_at g1 1
  clear hr
  go_wp2_with fail
  refine (refOwn_c _ B _ _ (hs'.later b0) (by omega)).mono ?_
  rintro e w1 ⟨b1, A1, c1, rfl, ho1⟩
  obtain ⟨hx, R0⟩ := RV.start (A := A1) (c := c1) undef undef (below_step b0 b1) (own_base_le ho1 b0.size) HH.out
  have d0 := cell_at hx 0
  have d1 := cell_at hx 1
  have e0 := free_at hx 0
  have e1 := free_at hx 1
  clear g1 c10 c11 hs' b1 b0 ho1 hB
  go_wp2_with fail
  clear hx d0 d1 e0 e1
  generalize (w1.setCell ⟨w.heap.size, 0, none⟩ (.slice A1 B.length c1)).setCell ⟨w.heap.size, 1, none⟩ (.int .i64 (l.length : Int)) = W0 at *
  clear hnP hP32 hpw h32 hn
  go_loopw [8] (fun i wr => ∃ (k d : Nat) (j : Int) (v' : Value) (B' : List (BitVec 8)), k + d = wd ∧ j = (d : Int) - 1 ∧ i = .int .i64 j ∧ RV w.heap.size w wr v' B' (l ++ (numBits n wd).take k)) (fun i _ => (intOf i + 1).toNat)
  case atStart => exact ⟨0, wd, _, _, B, by omega, rfl, rfl, by rw [List.take_zero, List.append_nil]; exact R0⟩
  case round =>
    obtain ⟨k, d, j, v', B', hkd, hj, rfl, R⟩ := hrel
    obtain ⟨m, hm⟩ : ∃ m, l ++ (numBits n wd).take k = m := ⟨_, rfl⟩
    have hml : m.length = l.length + k := by rw [← hm, List.length_append, List.length_take, numBits_length]; omega
    rw [hm] at R
    have hm5 : m.length ≤ 1000000 := by omega
    have i4 : (m.length : Int) ≤ 1000000 := by omega
    have d0 := cell_at R.x 0
    have d1 := cell_at R.x 1
    have e0 := free_at R.x 0
    have e1 := free_at R.x 1
    have r0 := cell_at R.r 0
    have r1 := cell_at R.r 1
    have er0 := free_at R.r 0
    have er1 := free_at R.r 1
    by_cases hlt : 0 < d
    · obtain ⟨e, rfl⟩ : ∃ e, d = e + 1 := ⟨d - 1, by omega⟩
      have hje : j = (e : Int) := by omega
      subst hje
      have hget : (numBits n wd)[k]? = some (n.testBit e) := by
        have : k < wd := by omega
        simp [numBits, this]; congr 1; omega
      have hT : m ++ [n.testBit e] = l ++ (numBits n wd).take (k + 1) := by rw [← hm, List.take_add_one, hget, List.append_assoc]; rfl
      have HT := Lib.hid hT
      obtain ⟨b, hb⟩ : ∃ b, n.testBit e = b := ⟨_, rfl⟩
      have hbb : Go.bits .and .i64 ((n : Int) / 2 ^ e) 1 = (b.toNat : Int) := by
        rw [show ((n : Int) / 2 ^ e) = ((n / 2 ^ e : Nat) : Int) by norm_cast, mask1, ← hb, Nat.testBit_eq_decide_div_mod_eq]
        refine ((Int.natCast_emod _ 2).symm).trans ?_
        rcases Nat.mod_two_eq_zero_or_one (n / 2 ^ e) with h | h <;> rw [h] <;> rfl
      have hb1 : ((b.toNat : Int) == 1) = b := by cases b <;> rfl
      have hs64 : (e : Int) < 64 := by omega
      rw [hb] at HT
      have HKD := Lib.hid hkd
      clear hT hget hm hml hb hj hkd
      go_wp2_with fail
      refine (refWith_c (w.heap.size + 2) v' B' m b wr R.own R.h hm5 (by have := R.sz; omega)).mono ?_
      rintro e' W3 hW
      obtain ⟨A2, c2, B2, rfl, hx2, R2⟩ := R.step hW
      have d0 := cell_at hx2 0
      have d1 := cell_at hx2 1
      have e0 := free_at hx2 0
      have e1 := free_at hx2 1
      go_wp2
      go_roundw
      case rel => exact ⟨k + 1, e, _, _, B2, by have := HKD.out; omega, rfl, rfl, by rw [← HT.out]; exact R2⟩
      case measure => simp [intOf]
    · have hd : d = 0 := by omega
      subst hd
      have hj1 : j = -1 := by omega
      subst hj1
      rw [show k = wd by omega, List.take_of_length_le (by rw [numBits_length]; omega)] at hm
      have hfin : (m.length : Int) = ((l.length + wd : Nat) : Int) := by omega
      have HF := Lib.hid hfin
      have HM := Lib.hid hm
      clear hm hml hfin hlt hkd hj
      obtain ⟨A3, c3, rfl, hb3, hs3⟩ := R.done (.int .i64 (m.length : Int))
      go_wp2
      refine bodyPost_ret (res_bits2 (t := 6) (u := 7) rfl rfl (set_at (set_at R.r 0 _) 1 _)) rfl ?_
      exact ⟨hb3, A3, c3, B', by rw [← HF.out]; rfl, hs3, by rw [HM.out]; exact R.h⟩
end Go.Proofs.YtlanlkpamnoekaaDoor.Bt
namespace Go.Proofs.YtlanlkpamnoekaaDoor.Bt
open List renaming getElem_toArray → zA, getElem_cons_succ → zS, getElem_cons_zero → zZ, setIfInBounds_toArray → zP, set_cons_zero → zQ, set_cons_succ → zR
open Go.RowKit Rf Mem Bv Bits Str
attribute [local go_sem ↓] run_max2 run_min2
set_option maxHeartbeats 1000000 in
set_option maxRecDepth 100000 in
theorem refTake_g (v : Value) (B : List (BitVec 8)) (l : List Bool) (at_ wd : Nat) (N at' wd' r : Int) (w : World) (hN : N = l.length) (ha : at' = at_) (hwd : wd' = wd) (hr : r = num ((l.drop at_).take wd)) (hs : SliceAt w 1 v B.length (u8s B)) (hH : Holds B l) (hl : l.length ≤ 1000000) (h2 : wd ≤ 32) (h4 : at_ + wd ≤ l.length) :
    Calls Tryd.prog 41 #[bv v N, .int .i64 at', .int .i64 wd'] w fun e w' => Below w.heap.size w w' ∧ e = .returned (.tuple #[.int .i64 r, .int .i64 0]) := by
  subst hN ha hwd hr
  have hrt : true = right B (l.length : Int) := right_yes hH rfl
  have hBl := hH.1
  have HH := Lib.hid hH
  have hBs : B.length ≤ 125001 := by omega
  clear hBl hH
  have hB := below_new w (.cells #[v, .int .i64 (l.length : Int)] 75)
  have hs' := hs.later hB
  obtain ⟨A, c, rfl, _⟩ := hs.form
  have n1 : -9223372036854775808 ≤ (l.length : Int) := by omega
  have n2 : (l.length : Int) ≤ 9223372036854775807 := by omega
  have q1 : (wd : Int) ≤ 32 := by omega
  have q2 : (at_ : Int) ≤ (l.length : Int) := by omega
  have q3 : (wd : Int) ≤ (l.length : Int) - (at_ : Int) := by omega
  have q4 : (l.length : Int) ≤ 1000000 := by omega
  have q5 : decide (l.length < at_) = false := by simp; omega
  clear hs
  go_enter Tryd.func41, Tryd.ntmps41
  go_wp2_with fail
  refine (refRight_g _ B _ _ _ hrt hs' n1 n2).mono ?_
  rintro e w0 ⟨rfl, b0⟩
  have g1 := below_at b0 (k := w.heap.size) (o := .cells #[.slice A B.length c, .int .i64 (l.length : Int)] 75) (new_at rfl _) (by simp)
  have c10 := cell_at g1 0
  have c11 := cell_at g1 1
  have hs0 := hs'.later b0
  have hB0 := below_step hB b0
  clear hrt hB b0 hs'
  go_wp2_with fail
  clear c10 c11
  go_loopw [8, 9] (fun n i wr => ∃ k z : Nat, k ≤ wd ∧ z = num ((l.drop at_).take k) ∧ n = .int .i64 z ∧ i = .int .i64 k ∧ Below w0.heap.size w0 wr) (fun _ i _ => wd - (intOf i).toNat)
  case atStart => exact ⟨0, 0, by omega, rfl, rfl, rfl, Below.refl _ _⟩
  case round =>
    obtain ⟨k, z, hk, hz, rfl, rfl, hb⟩ := hrel
    have gr := below_at hb g1 (Array.getElem?_eq_some_iff.1 g1).1
    have c10 := cell_at gr 0
    have c11 := cell_at gr 1
    by_cases hlt : k < wd
    · have hget : l[at_ + k]? = some l[at_ + k] := List.getElem?_eq_getElem (by omega)
      have hT : (l.drop at_).take (k + 1) = (l.drop at_).take k ++ [l[at_ + k]] := by rw [List.take_add_one, List.getElem?_drop, hget]; rfl
      have hzb : z < 4294967296 := by
        have h1 := num_lt ((l.drop at_).take k)
        have h3 : ((l.drop at_).take k).length ≤ 32 := by rw [List.length_take]; omega
        have h5 : (2 : Nat) ^ ((l.drop at_).take k).length ≤ 2 ^ 32 := Nat.pow_le_pow_right (by omega) h3
        have h20 : (2 : Nat) ^ 32 = 4294967296 := by decide
        omega
      have hz1 : num ((l.drop at_).take (k + 1)) = 2 * z + l[at_ + k].toNat := by
        have h1 : ∀ b : Bool, num [b] = b.toNat := by intro b; cases b <;> rfl
        rw [hT, num_append, hz, h1]; simp only [List.length_cons, List.length_nil, Nat.zero_add, Nat.pow_one]; omega
      have hki : (k : Int) < (wd : Int) := by omega
      have hbl : (l[at_ + k].toNat : Int) ≤ 1 := by cases l[at_ + k] <;> decide
      have HZ := Lib.hid hz1
      have HG := Lib.hid hget
      clear hT hz1 hget hz
      generalize l[at_ + k] = b at *
      go_wp2_with fail
      refine (bit_c _ B l _ _ (at_ + k) b _ (by push_cast; rfl) (hs0.later hb) HH.out hl HG.out).mono ?_
      rintro e w1 ⟨rfl, b1⟩
      go_wp2
      go_roundw
      case rel => exact ⟨k + 1, 2 * z + b.toNat, by omega, HZ.out.symm, by push_cast; rfl, by go_num, below_step hb b1⟩
      case measure => simp [intOf]; omega
    · have e : k = wd := by omega
      subst e
      subst hz
      have e' : (k : Int) = (k : Int) := rfl
      go_wp2
      go_ret2
      exact ⟨below_step hB0 hb, rfl⟩
end Go.Proofs.YtlanlkpamnoekaaDoor.Bt
namespace Go.Proofs.YtlanlkpamnoekaaDoor.Bt
open List renaming getElem_toArray → zA, getElem_cons_succ → zS, getElem_cons_zero → zZ, setIfInBounds_toArray → zP, set_cons_zero → zQ, set_cons_succ → zR
open Go.RowKit Rf Mem Bv Bits Str
attribute [local go_sem ↓] run_max2 run_min2
end Go.Proofs.YtlanlkpamnoekaaDoor.Bt
namespace Go.Proofs.YtlanlkpamnoekaaDoor.Bt
open List renaming getElem_toArray → zA, getElem_cons_succ → zS, getElem_cons_zero → zZ, setIfInBounds_toArray → zP, set_cons_zero → zQ, set_cons_succ → zR
open Go.RowKit Rf Mem Bv Bits Str
attribute [local go_sem ↓] run_max2 run_min2
set_option maxHeartbeats 1000000 in
set_option maxRecDepth 100000 in
theorem refTake_short (v : Value) (B : List (BitVec 8)) (N at_ wd : Int) (w : World) (hs : SliceAt w 1 v B.length (u8s B)) (hN1 : -9223372036854775808 ≤ N) (hN2 : N ≤ 9223372036854775807)
    (hr : right B N = true) (h1 : 0 ≤ wd) (h2 : wd ≤ 32) (h3 : 0 ≤ at_) (h4 : N < at_ ∨ N - at_ < wd) :
    Calls Tryd.prog 41 #[bv v N, .int .i64 at_, .int .i64 wd] w fun e w' => Below w.heap.size w w' ∧ e = .returned (.tuple #[.int .i64 0, .int .i64 40]) := by
  have hB : Below w.heap.size w (w.alloc (.cells #[v, .int .i64 N] 75)) := (Below.refl _ w).alloc (Nat.le_refl _) _
  have hs' := hs.later hB
  obtain ⟨A, c, rfl, _⟩ := hs.form
  clear hs
  have hN0 : 0 ≤ N := by
    obtain ⟨l, rfl, _⟩ := (right_iff B N).1 hr; omega
  have q1 : decide (wd < 0) = false := decide_eq_false (by omega)
  have q2 : decide (32 < wd) = false := decide_eq_false (by omega)
  have q3 : decide (at_ < 0) = false := decide_eq_false (by omega)
  have hcase : (decide (N < at_) = true) ∨ (decide (N < at_) = false ∧ decide (N - at_ < wd) = true) := by
    by_cases h5 : N < at_
    · exact .inl (decide_eq_true h5)
    · exact .inr ⟨decide_eq_false h5, decide_eq_true (by omega)⟩
  clear h4
  rcases hcase with q4 | ⟨q4, q5⟩
  all_goals
    try have i1 : at_ ≤ N := by simpa using q4
    try have i2 : N - at_ ≤ 9223372036854775807 := by omega
    try have hwl : wrap64 (N - at_) = N - at_ := by unfold wrap64; omega
    go_enter Tryd.func41, Tryd.ntmps41
    go_wp2_with fail
    refine (refRight_c _ B N _ hs' hN1 hN2).mono ?_
    rintro e w1 ⟨rfl, b1⟩
    rw [hr]
    have g1 := below_at b1 (k := w.heap.size) (o := .cells #[.slice A B.length c, .int .i64 N] 75) (new_at rfl _) (by simp)
    have c11 := cell_at g1 1
    go_wp2
    go_ret2
    exact ⟨below_step hB b1, rfl⟩
end Go.Proofs.YtlanlkpamnoekaaDoor.Bt
namespace Go.Proofs.YtlanlkpamnoekaaDoor
open Go.RowKit Rf Mem Bv Go.ChangeShapes Go.WideShapes
set_option maxRecDepth 100000
section
variable {H : Type} {enc : TypeId × Value → H} {w : World}
/-- what comes in, as a value -/
theorem open_in {m : Nat} {cs : List Value} {x : DataW H × List MemPlace} (h : DataW.trod enc Tryd.prog w 0 (fun _ => true) true m 35 cs = some x) :
    ∃ o n r l : BitVec 32, cs = (inc o n r l).toList := by
  obtain ⟨ys, n, _, _, hl, hyl, hel⟩ := DataW.trod_struct Tryd.underlying35 h
  have hcl : Tryd.prog.cellsOf 35 = 4 := by kernel_rfl
  rw [hcl] at hl
  match cs, hl with
  | [a, b, c, d], _ =>
    have gy : ∀ i, i < 4 → ∃ y, ys[i]? = some y := fun i hi => ⟨_, List.getElem?_eq_getElem (by rw [hyl]; exact hi)⟩
    have hc : Tryd.prog.cellsOf 33 = 1 := by kernel_rfl
    have one : ∀ (i o : Nat) (u : Value) (m : Nat) (y : DataW H × List MemPlace), DataW.trod enc Tryd.prog w 0 (fun _ => true) true m 33 [u] = some y → ∃ s : BitVec 32, u = .int .u32 s.toNat := fun i o u m y h => by
      obtain ⟨z, hz, _, hw⟩ := DataW.trod_int Tryd.underlying33 h
      obtain ⟨s, rfl⟩ := of_u32 hw
      exact ⟨s, (List.cons.inj hz).1⟩
    obtain ⟨y0, e0⟩ := gy 0 (by omega)
    obtain ⟨y1, e1⟩ := gy 1 (by omega)
    obtain ⟨y2, e2⟩ := gy 2 (by omega)
    obtain ⟨y3, e3⟩ := gy 3 (by omega)
    have h0 := (show DataW.trod enc Tryd.prog w 0 (fun _ => true) true n 33 (([a, b, c, d].drop 0).take (Tryd.prog.cellsOf 33)) = some y0 from (hel 0 _ rfl).trans e0)
    have h1 := (show DataW.trod enc Tryd.prog w 0 (fun _ => true) true n 33 (([a, b, c, d].drop 1).take (Tryd.prog.cellsOf 33)) = some y1 from (hel 1 _ rfl).trans e1)
    have h2 := (show DataW.trod enc Tryd.prog w 0 (fun _ => true) true n 33 (([a, b, c, d].drop 2).take (Tryd.prog.cellsOf 33)) = some y2 from (hel 2 _ rfl).trans e2)
    have h3 := (show DataW.trod enc Tryd.prog w 0 (fun _ => true) true n 33 (([a, b, c, d].drop 3).take (Tryd.prog.cellsOf 33)) = some y3 from (hel 3 _ rfl).trans e3)
    rw [hc] at h0 h1 h2 h3
    obtain ⟨o, rfl⟩ := one 0 0 a n y0 h0
    obtain ⟨p, rfl⟩ := one 1 1 b n y1 h1
    obtain ⟨q, rfl⟩ := one 2 2 c n y2 h2
    obtain ⟨s, rfl⟩ := one 3 3 d n y3 h3
    exact ⟨o, p, q, s, rfl⟩
theorem open_inarg {base : Nat} {v : Value} {d : DataW H} {p : List MemPlace} (hv : Value.okWide Tryd.prog w .any base 35 v) (h : DataW.Trod enc Tryd.prog w 0 (fun _ => true) true 35 v d p) :
    ∃ o n r l : BitVec 32, v = inv o n r l := by
  obtain ⟨cs, rfl, hsz⟩ := okWide_struct Tryd.underlying35 hv
  obtain ⟨fuel, hf⟩ := h
  simp only [Value.cells] at hf
  obtain ⟨o, n, r, l, h1⟩ := open_in hf
  exact ⟨o, n, r, l, by have h2 := congrArg List.toArray h1; simp only [Array.toArray_toList] at h2; rw [h2]⟩

end
end Go.Proofs.YtlanlkpamnoekaaDoor
