/- Keys: the contract of Put. Nothing that was there is turned. -/
import Derived.Test.YtioggdiicgfoaaaIdx
namespace Go.Proofs.Ytioggdiicgfoaaa
open Go.RowKit Rf Mem KM Bits Bv
attribute [local go_sem ↓] run_max2 run_min2
def flK (b : Btn) (ns ne nc : Nat) : Nat → List Bool
  | 0 => flagsL b.ent ns
  | 1 => flagsL b.exi ne
  | 2 => flagsL b.via nc
  | _ => [b.can, b.aut]
def accK (b : Btn) (ns ne nc : Nat) : Nat → List Bool
  | 0 => []
  | k + 1 => accK b ns ne nc k ++ flK b ns ne nc k
theorem flK_len (b : Btn) (ns ne nc k : Nat) (h1 : ns ≤ 12) (h2 : ne ≤ 12) (h3 : nc ≤ 24) : (flK b ns ne nc k).length ≤ 24 := by
  unfold flK; split <;> simp [flagsL_length] <;> omega
theorem accK_len (b : Btn) (ns ne nc : Nat) (h1 : ns ≤ 12) (h2 : ne ≤ 12) (h3 : nc ≤ 24) : ∀ k, (accK b ns ne nc k).length ≤ 24 * k
  | 0 => by simp [accK]
  | k + 1 => by have := accK_len b ns ne nc h1 h2 h3 k; have := flK_len b ns ne nc k h1 h2 h3; simp only [accK, List.length_append]; omega
theorem accK_four (b : Btn) (ns ne nc : Nat) : accK b ns ne nc 4 ++ keyBits b.keys nc = payBits b ns ne nc := by
  simp [accK, flK, payBits]
theorem btn_at {W : World} {g : Nat} {b : Btn} {t : TypeId} {f : Nat × Nat} (h : W.heap[g]? = some (.cells (btnV b).toArray t f)) : W.cell? ⟨g, 0, none⟩ = some (.int .u32 b.ent.toNat) ∧ W.cell? ⟨g, 1, none⟩ = some (.int .u32 b.exi.toNat) ∧ W.cell? ⟨g, 2, none⟩ = some (.int .u32 b.via.toNat) ∧ W.cell? ⟨g, 3, none⟩ = some (.bool b.can) ∧ W.cell? ⟨g, 4, none⟩ = some (.bool b.aut) :=
  ⟨cell_list h rfl, cell_list h rfl, cell_list h rfl, cell_list h rfl, cell_list h rfl⟩
theorem cnt_at {W : World} {g : Nat} {a b c : Value} {t : TypeId} {f : Nat × Nat} (h : W.heap[g]? = some (.cells #[a, b, c] t f)) : W.cell? ⟨g, 0, none⟩ = some a ∧ W.cell? ⟨g, 1, none⟩ = some b ∧ W.cell? ⟨g, 2, none⟩ = some c :=
  ⟨by rw [cell_at h]; rfl, by rw [cell_at h]; rfl, by rw [cell_at h]; rfl⟩
theorem and3 (x : BitVec 8) : Go.bits .and .u8 (x.toNat : Int) 3 = ((x.toNat % 4 : Nat) : Int) := by
  have h : Go.bits .and .u8 (x.toNat : Int) ((3#8).toNat : Int) = ((x &&& 3#8).toNat : Int) := Bv.bits_and .u8 rfl x 3#8
  have e : (x &&& 3#8).toNat = x.toNat % 4 := by rw [BitVec.toNat_and]; exact Nat.and_two_pow_sub_one_eq_mod x.toNat 2
  rw [← e]; exact h
theorem Put_h (v : Value) (B : List (BitVec 8)) (l : List Bool) (n wd : Nat) (N n' wd' : Int) (w : World) (hN : N = ((l.length : Nat) : Int)) (hn' : n' = ((n : Nat) : Int)) (hwd' : wd' = ((wd : Nat) : Int)) (hs : SliceAt w 1 v B.length (u8s B)) (hH : Holds B l) (hl : l.length ≤ 999000) (hw : wd ≤ 32) (hn : n < 2 ^ wd) :
    Calls Try.prog 33 #[bv v N, .int .i64 n', .int .i64 wd'] w fun e w' => Below w.heap.size w w' ∧
      ∃ v' B', e = .returned (.tuple #[bv v' ((l.length + wd : Nat) : Int), .int .i64 0]) ∧ w'.ownsRow w.heap.size 5 1 v' B'.length (u8s B') ∧ Holds B' (l ++ numBits n wd) := by
  subst hN hn' hwd'
  exact Put_good v B l n wd w hs hH hl hw hn
theorem Pad_h (v : Value) (B : List (BitVec 8)) (l : List Bool) (N N' : Int) (w : World) (hN : N = ((l.length : Nat) : Int)) (hN' : N' = (B.length : Int) * 8) (hs : SliceAt w 1 v B.length (u8s B)) (hH : Holds B l) (hl : l.length ≤ 900000) :
    Calls Try.prog 34 #[bv v N] w fun e w' => Below w.heap.size w w' ∧ ∃ v', e = .returned (.tuple #[bv v' N', .int .i64 0]) ∧ w'.ownsRow w.heap.size 5 1 v' B.length (u8s B) := by
  subst hN hN'
  exact Pad_good v B l w hs hH hl
theorem own_flags {W : World} {base base' e n : Nat} {v : Value} {z : BitVec 32} (h : W.ownsRow base e 1 v n (bools (flagsL z n))) (hb : base' < base) : W.ownsRow (base' + 1) e 1 v (flagsL z n).length (bools (flagsL z n)) := by
  rw [flagsL_length]; exact own_mono h hb
theorem own_bel {W W' : World} {base e sz n : Nat} {v : Value} {xs : List Value} (h : W.ownsRow base e sz v n xs) (hb : Below W.heap.size W W') : W'.ownsRow base e sz v n xs := own_later h (fun q hq => hb.block _ (own_base h hq).2)
theorem own_blk {W : World} {g base e : Nat} {cs : Array Value} {n : Nat} (h : W.heap[g]? = some (.cells cs e (0, 0))) (hb : base ≤ g) (hn : cs.size = n) (hm : n ≤ maxLen) : W.ownsRow base e 1 (.slice (some ⟨g, 0, none⟩) n n) n cs.toList :=
  ⟨by simp [hn], .inr ⟨g, n, cs, rfl, hb, h, Nat.le_refl _, hm, by omega, by rw [List.take_of_length_le (by simp [hn])]⟩⟩
/-- what Put carries: the bits in variable gC + 1 -/
structure PutI (w : World) (gC : Nat) (b : Btn) (ns ne nc : Nat) (v0 v1 v2 v3 : Value) (wr : World) (v : Value) (B : List (BitVec 8)) (l : List Bool) : Prop where
  x : wr.heap[gC + 1]? = some (.cells #[v, .int .i64 ((l.length : Nat) : Int)] 62 (0, 0))
  sl : wr.ownsRow (gC + 1 + 1) 5 1 v B.length (u8s B)
  ho : Holds B l
  bel : Below w.heap.size w wr
  bb : wr.heap[w.heap.size + 1]? = some (.cells (btnV b).toArray 33 (0, 0))
  c : wr.heap[gC]? = some (.cells #[.int .i64 ns, .int .i64 ne, .int .i64 nc] 59 (0, 0))
  s0 : wr.ownsRow (gC + 1 + 1) 4 1 v0 (flK b ns ne nc 0).length (bools (flK b ns ne nc 0))
  s1 : wr.ownsRow (gC + 1 + 1) 4 1 v1 (flK b ns ne nc 1).length (bools (flK b ns ne nc 1))
  s2 : wr.ownsRow (gC + 1 + 1) 4 1 v2 (flK b ns ne nc 2).length (bools (flK b ns ne nc 2))
  s3 : wr.ownsRow (gC + 1 + 1) 4 1 v3 (flK b ns ne nc 3).length (bools (flK b ns ne nc 3))
theorem PutI.next {w : World} {gC : Nat} {b : Btn} {ns ne nc : Nat} {v0 v1 v2 v3 : Value} {W W' : World} {v v' : Value} {B B' : List (BitVec 8)} {l l' : List Bool} (h : PutI w gC b ns ne nc v0 v1 v2 v3 W v B l) (hg : w.heap.size + 1 < gC) (hb : Below W.heap.size W W')
    (hs : W'.ownsRow W.heap.size 5 1 v' B'.length (u8s B')) (hH : Holds B' l') : PutI w gC b ns ne nc v0 v1 v2 v3 ((W'.setCell ⟨gC + 1, 0, none⟩ v').setCell ⟨gC + 1, 1, none⟩ (.int .i64 ((l'.length : Nat) : Int))) v' B' l' := by
  have hx := var_later h.x hb
  have lt : gC + 1 < W.heap.size := (Array.getElem?_eq_some_iff.1 h.x).1
  have own : ∀ {e : Nat} {u : Value} {n : Nat} {xs : List Value}, W'.ownsRow (gC + 1 + 1) e 1 u n xs → ((W'.setCell ⟨gC + 1, 0, none⟩ v').setCell ⟨gC + 1, 1, none⟩ (.int .i64 ((l'.length : Nat) : Int))).ownsRow (gC + 1 + 1) e 1 u n xs := fun h => own_set (own_set h (Nat.lt_succ_self _) _) (Nat.lt_succ_self _) _
  exact ⟨by rw [set_at (set_at hx 0 _) 1 _]; rfl, own (own_mono hs lt), hH, ((below_step h.bel hb).setCell (p := ⟨gC + 1, 0, none⟩) (by simp only; omega) _).setCell (p := ⟨gC + 1, 1, none⟩) (by simp only; omega) _,
    set_far (set_far (var_later h.bb hb) (by simp only; omega) _) (by simp only; omega) _, set_far (set_far (var_later h.c hb) (by simp only; omega) _) (by simp only; omega) _,
    own (own_bel h.s0 hb), own (own_bel h.s1 hb), own (own_bel h.s2 hb), own (own_bel h.s3 hb)⟩
set_option maxHeartbeats 4000000 in
set_option maxRecDepth 100000 in
theorem Put_c (L : List Value) (nsec : Nat) (lens : List Nat) (nsig nfl : Nat) (A : Option Addr) (c : Nat) (B1 : Option Addr) (c1 : Nat) (B3 : Option Addr) (c3 : Nat) (ve : Value) (ns ne nc : Nat) (b : Btn) (w : World) (hns : min nsig 12 = ns) (hne : min lens.length 12 = ne) (hnc : min nsec 24 = nc)
    (hb : b.keys.length = 24) (hL : LayN w L nsec lens nsig nfl A c B1 c1 B3 c3 ve) :
    Calls Try.prog 10 #[.agg L.toArray, .agg (btnV b).toArray] w fun e w' => Below w.heap.size w w' ∧ ∃ A c B, e = .returned (.slice A (B : List (BitVec 8)).length c) ∧ w'.ownsRow w.heap.size 5 1 (.slice A B.length c) B.length (u8s B) ∧ Holds B (payBits b ns ne nc) ∧ B.length = sizeK ns ne nc := by
  have szL := lay_size hL.len
  have szB := btn_size hb
  obtain ⟨W0, hW0⟩ : ∃ W0, (w.alloc (.cells L.toArray 29)).alloc (.cells (btnV b).toArray 33) = W0 := ⟨_, rfl⟩
  have B0 : Below w.heap.size w W0 := by rw [← hW0]; exact below_step (kbelow_new _ _) (kbelow_new _ _)
  have VL : W0.heap[w.heap.size]? = some (.cells L.toArray 29 (0, 0)) := by rw [← hW0]; exact old_at (new_at rfl _) _
  have VB : W0.heap[w.heap.size + 1]? = some (.cells (btnV b).toArray 33 (0, 0)) := by rw [← hW0]; exact new_at (by simp) _
  have l1 : ns ≤ 12 := by omega
  have l2 : ne ≤ 12 := by omega
  have l3 : nc ≤ 24 := by omega
  have hL0 := hL.later B0
  have HNS := Lib.hid hns
  have HNE := Lib.hid hne
  have HNC := Lib.hid hnc
  have HL0 := Lib.hid hL0
  have Hb := Lib.hid hb
  clear hns hne hnc hL hL0 hb
  go_enter Try.func10, Try.ntmps10
  go_upto_region 1 with (fail)
  clear hW0
  have RL := range_of VL
  go_wp2_with (first
    | refine wpList_load_g (by rfl) 29 (.tmp 2) (by rfl) w.heap.size 0 (by rfl) L _ RL Try.underlying29 rfl szL ?_
    | fail)
  refine (of_c L nsec lens nsig nfl A c B1 c1 B3 c3 ve ns ne nc _ HNS.out HNE.out HNC.out HL0.out).mono ?_
  rintro e W1 ⟨rfl, b1⟩
  have B1 := below_step B0 b1
  replace VB := var_later VB b1
  have s1 := (Array.getElem?_eq_some_iff.1 VB).1
  clear RL VL b1 B0
  have VC : (W1.alloc (.cells #[.int .i64 ns, .int .i64 ne, .int .i64 nc] 59)).heap[W1.heap.size]? = some (.cells #[.int .i64 ns, .int .i64 ne, .int .i64 nc] 59 (0, 0)) := new_at rfl _
  replace VB := old_at VB (.cells #[.int .i64 ns, .int .i64 ne, .int .i64 nc] 59)
  replace B1 := below_step B1 (kbelow_new W1 (.cells #[.int .i64 ns, .int .i64 ne, .int .i64 nc] 59))
  have sC : (W1.alloc (.cells #[.int .i64 ns, .int .i64 ne, .int .i64 nc] 59)).heap.size = W1.heap.size + 1 := by simp
  have gC0 : w.heap.size + 1 < W1.heap.size := s1
  clear s1
  go_upto_region 3 with (fail)
  generalize W1.alloc (.cells #[.int .i64 ns, .int .i64 ne, .int .i64 nc] 59) = W2 at *
  generalize W1.heap.size = gC at *
  have VX := new_at sC (.cells #[.slice none 0 0, .int .i64 0] 62)
  replace VB := old_at VB (.cells #[.slice none 0 0, .int .i64 0] 62)
  replace VC := old_at VC (.cells #[.slice none 0 0, .int .i64 0] 62)
  replace B1 := below_step B1 (kbelow_new W2 (.cells #[.slice none 0 0, .int .i64 0] 62))
  generalize W2.alloc (.cells #[.slice none 0 0, .int .i64 0] 62) = V at *
  clear sC
  refine Code.wp_mono (Q := nq (fun a W => ∃ u13 u14 u15 u16 u17 u18 u19 u20 u21 u22 u23 u24 u25 u26 u27 u28 u29 u30 u31 u32 v0 v1 v2 v3 : Value, a = { tmps := (([.agg L.toArray, .agg (btnV b).toArray, .pointer (some ⟨w.heap.size, 0, none⟩), .pointer (some ⟨w.heap.size + 1, 0, none⟩), .slice none 0 0, .pointer (some ⟨gC, 0, none⟩), .pointer (some ⟨gC + 1, 0, none⟩), undef, undef, undef, undef, .agg L.toArray, .agg #[.int .i64 ns, .int .i64 ne, .int .i64 nc], u13, u14, u15, u16, u17, u18, u19, u20, u21, u22, u23, u24, u25, u26, u27, u28, u29, u30, u31, u32, .agg #[v0, v1, v2, v3], .int .i64 0, undef, undef, undef, undef, undef, undef, undef, undef, undef, undef, undef, undef, undef, undef, undef] ++ ([undef, undef, undef, undef, undef, undef, undef, undef, undef, undef, undef, undef, undef, undef, undef, undef, undef, undef, undef, undef]) : List Value)).toArray, defers := [] } ∧
      Below w.heap.size w W ∧ W.heap[gC + 1]? = some (.cells #[.slice none 0 0, .int .i64 0] 62 (0, 0)) ∧ W.heap[w.heap.size + 1]? = some (.cells (btnV b).toArray 33 (0, 0)) ∧ W.heap[gC]? = some (.cells #[.int .i64 ns, .int .i64 ne, .int .i64 nc] 59 (0, 0)) ∧
      W.ownsRow (gC + 1 + 1) 4 1 v0 (flK b ns ne nc 0).length (bools (flK b ns ne nc 0)) ∧ W.ownsRow (gC + 1 + 1) 4 1 v1 (flK b ns ne nc 1).length (bools (flK b ns ne nc 1)) ∧ W.ownsRow (gC + 1 + 1) 4 1 v2 (flK b ns ne nc 2).length (bools (flK b ns ne nc 2)) ∧ W.ownsRow (gC + 1 + 1) 4 1 v3 (flK b ns ne nc 3).length (bools (flK b ns ne nc 3)))) (fun e a W4 hR => ?_) ?_
  rotate_left
  · skip
    refine wp_region_held_drew (S := (fun w' => (w'.cell? ⟨w.heap.size + 1, 0, none⟩ = some (.int .u32 b.ent.toNat) ∧ w'.cell? ⟨w.heap.size + 1, 1, none⟩ = some (.int .u32 b.exi.toNat) ∧ w'.cell? ⟨w.heap.size + 1, 2, none⟩ = some (.int .u32 b.via.toNat) ∧ w'.cell? ⟨w.heap.size + 1, 3, none⟩ = some (.bool b.can) ∧ w'.cell? ⟨w.heap.size + 1, 4, none⟩ = some (.bool b.aut)) ∧ w'.cell? ⟨gC, 0, none⟩ = some (.int .i64 ns) ∧ w'.cell? ⟨gC, 1, none⟩ = some (.int .i64 ne) ∧ w'.cell? ⟨gC, 2, none⟩ = some (.int .i64 nc))) (by kernel_rfl) ?_ (fun hHeld => ?_)
    · exact ⟨btn_at VB, cnt_at VC⟩
    have b1 : Below V.heap.size V V.drew := (Below.refl _ V).drew
    replace B1 := B1.drew
    replace VB := var_later VB b1
    replace VC := var_later VC b1
    replace VX := var_later VX b1
    clear b1
    generalize V.drew = V at *
    refine wpAnyH_take (i := 0) (v := ?_) rfl (by kernel_rfl) (by kernel_rfl) (by kernel_rfl) (fun _ _ _ h => h) (Or.inl ⟨by rfl, ?_⟩) (by assumption) ?_
    rotate_left
    · intro w hSw
      try dsimp only at hSw
      go_simp
      try with_reducible rfl
    simp only [List.getElem_toArray, List.getElem_cons_succ, List.getElem_cons_zero, Act.put, List.setIfInBounds_toArray, List.set_cons_zero, List.set_cons_succ]
    refine wpAnyH_take (i := 1) (v := ?_) rfl (by kernel_rfl) (by kernel_rfl) (by kernel_rfl) (fun _ _ _ h => h) (Or.inl ⟨by rfl, ?_⟩) (by assumption) ?_
    rotate_left
    · intro w hSw
      try dsimp only at hSw
      go_simp
      try with_reducible rfl
    simp only [List.getElem_toArray, List.getElem_cons_succ, List.getElem_cons_zero, Act.put, List.setIfInBounds_toArray, List.set_cons_zero, List.set_cons_succ]
    refine wpAnyH_take (i := 2) (v := ?_) rfl (by kernel_rfl) (by kernel_rfl) (by kernel_rfl) (fun _ _ _ h => h) (Or.inl ⟨by rfl, ?_⟩) (by assumption) ?_
    rotate_left
    · intro w hSw
      try dsimp only at hSw
      go_simp
      try with_reducible rfl
    simp only [List.getElem_toArray, List.getElem_cons_succ, List.getElem_cons_zero, Act.put, List.setIfInBounds_toArray, List.set_cons_zero, List.set_cons_succ]
    refine wpAnyH_take (i := 3) (v := ?_) rfl (by kernel_rfl) (by kernel_rfl) (by kernel_rfl) (fun _ _ _ h => h) (Or.inl ⟨by rfl, ?_⟩) (by assumption) ?_
    rotate_left
    · intro w hSw
      try dsimp only at hSw
      go_simp
      try with_reducible rfl
    simp only [List.getElem_toArray, List.getElem_cons_succ, List.getElem_cons_zero, Act.put, List.setIfInBounds_toArray, List.set_cons_zero, List.set_cons_succ]
    refine wpAnyH_take (i := 5) (v := ?_) rfl (by kernel_rfl) (by kernel_rfl) (by kernel_rfl) (fun _ _ _ h => h) (Or.inl ⟨by rfl, ?_⟩) (by assumption) ?_
    rotate_left
    · intro w hSw
      try dsimp only at hSw
      go_simp
      try with_reducible rfl
    simp only [List.getElem_toArray, List.getElem_cons_succ, List.getElem_cons_zero, Act.put, List.setIfInBounds_toArray, List.set_cons_zero, List.set_cons_succ]
    refine wpAnyH_take (i := 6) (v := ?_) rfl (by kernel_rfl) (by kernel_rfl) (by kernel_rfl) (fun _ _ _ h => h) (Or.inl ⟨by rfl, ?_⟩) (by assumption) ?_
    rotate_left
    · intro w hSw
      try dsimp only at hSw
      go_simp
      try with_reducible rfl
    simp only [List.getElem_toArray, List.getElem_cons_succ, List.getElem_cons_zero, Act.put, List.setIfInBounds_toArray, List.set_cons_zero, List.set_cons_succ]
    refine wpAnyH_take (i := 7) (v := ?_) rfl (by kernel_rfl) (by kernel_rfl) (by kernel_rfl) (fun _ _ _ h => h) (Or.inl ⟨by rfl, ?_⟩) (by assumption) ?_
    rotate_left
    · intro w hSw
      try dsimp only at hSw
      go_simp
      try with_reducible rfl
    simp only [List.getElem_toArray, List.getElem_cons_succ, List.getElem_cons_zero, Act.put, List.setIfInBounds_toArray, List.set_cons_zero, List.set_cons_succ]
    refine wpAnyH_take (i := 8) (v := ?_) rfl (by kernel_rfl) (by kernel_rfl) (by kernel_rfl) (fun _ _ _ h => h) (Or.inl ⟨by rfl, ?_⟩) (by assumption) ?_
    rotate_left
    · intro w hSw
      try dsimp only at hSw
      go_simp
      try with_reducible rfl
    simp only [List.getElem_toArray, List.getElem_cons_succ, List.getElem_cons_zero, Act.put, List.setIfInBounds_toArray, List.set_cons_zero, List.set_cons_succ]
    refine wpAnyH_take (i := 10) (v := ?_) rfl (by kernel_rfl) (by kernel_rfl) (by kernel_rfl) (fun _ _ _ h => h) (Or.inl ⟨by rfl, ?_⟩) (by assumption) ?_
    rotate_left
    · intro w hSw
      try dsimp only at hSw
      go_simp
      try with_reducible rfl
    simp only [List.getElem_toArray, List.getElem_cons_succ, List.getElem_cons_zero, Act.put, List.setIfInBounds_toArray, List.set_cons_zero, List.set_cons_succ]
    refine wpAnyH_take (i := 11) (v := ?_) rfl (by kernel_rfl) (by kernel_rfl) (by kernel_rfl) (fun _ _ _ h => h) (Or.inl ⟨by rfl, ?_⟩) (by assumption) ?_
    rotate_left
    · intro w hSw
      try dsimp only at hSw
      go_simp
      try with_reducible rfl
    simp only [List.getElem_toArray, List.getElem_cons_succ, List.getElem_cons_zero, Act.put, List.setIfInBounds_toArray, List.set_cons_zero, List.set_cons_succ]
    refine wpAnyH_take (i := 12) (v := ?_) rfl (by kernel_rfl) (by kernel_rfl) (by kernel_rfl) (fun _ _ _ h => h) (Or.inl ⟨by rfl, ?_⟩) (by assumption) ?_
    rotate_left
    · intro w hSw
      try dsimp only at hSw
      go_simp
      try with_reducible rfl
    simp only [List.getElem_toArray, List.getElem_cons_succ, List.getElem_cons_zero, Act.put, List.setIfInBounds_toArray, List.set_cons_zero, List.set_cons_succ]
    refine wpAnyH_take (i := 13) (v := ?_) rfl (by kernel_rfl) (by kernel_rfl) (by kernel_rfl) (fun _ _ _ h => h) (Or.inl ⟨by rfl, ?_⟩) (by assumption) ?_
    rotate_left
    · intro w hSw
      try dsimp only at hSw
      go_simp
      try with_reducible rfl
    simp only [List.getElem_toArray, List.getElem_cons_succ, List.getElem_cons_zero, Act.put, List.setIfInBounds_toArray, List.set_cons_zero, List.set_cons_succ]
    refine wpAnyH_take (i := 15) (v := ?_) rfl (by kernel_rfl) (by kernel_rfl) (by kernel_rfl) (fun _ _ _ h => h) (Or.inl ⟨by rfl, ?_⟩) (by assumption) ?_
    rotate_left
    · intro w hSw
      try dsimp only at hSw
      go_simp
      try with_reducible rfl
    simp only [List.getElem_toArray, List.getElem_cons_succ, List.getElem_cons_zero, Act.put, List.setIfInBounds_toArray, List.set_cons_zero, List.set_cons_succ]
    refine wpAnyH_take (i := 16) (v := ?_) rfl (by kernel_rfl) (by kernel_rfl) (by kernel_rfl) (fun _ _ _ h => h) (Or.inl ⟨by rfl, ?_⟩) (by assumption) ?_
    rotate_left
    · intro w hSw
      try dsimp only at hSw
      go_simp
      try with_reducible rfl
    simp only [List.getElem_toArray, List.getElem_cons_succ, List.getElem_cons_zero, Act.put, List.setIfInBounds_toArray, List.set_cons_zero, List.set_cons_succ]
    refine wpAnyH_take (i := 17) (v := ?_) rfl (by kernel_rfl) (by kernel_rfl) (by kernel_rfl) (fun _ _ _ h => h) (Or.inl ⟨by rfl, ?_⟩) (by assumption) ?_
    rotate_left
    · intro w hSw
      try dsimp only at hSw
      go_simp
      try with_reducible rfl
    simp only [List.getElem_toArray, List.getElem_cons_succ, List.getElem_cons_zero, Act.put, List.setIfInBounds_toArray, List.set_cons_zero, List.set_cons_succ]
    refine wpAnyH_take (i := 18) (v := ?_) rfl (by kernel_rfl) (by kernel_rfl) (by kernel_rfl) (fun _ _ _ h => h) (Or.inl ⟨by rfl, ?_⟩) (by assumption) ?_
    rotate_left
    · intro w hSw
      try dsimp only at hSw
      go_simp
      try with_reducible rfl
    simp only [List.getElem_toArray, List.getElem_cons_succ, List.getElem_cons_zero, Act.put, List.setIfInBounds_toArray, List.set_cons_zero, List.set_cons_succ]
    refine wpAnyH_take (i := 21) (v := ?_) rfl (by kernel_rfl) (by kernel_rfl) (by kernel_rfl) (fun _ _ _ h => h) (Or.inl ⟨by rfl, ?_⟩) (by assumption) ?_
    rotate_left
    · intro w hSw
      try dsimp only at hSw
      go_simp
      try with_reducible rfl
    simp only [List.getElem_toArray, List.getElem_cons_succ, List.getElem_cons_zero, Act.put, List.setIfInBounds_toArray, List.set_cons_zero, List.set_cons_succ]
    clear hHeld
    refine wpAnyH_ready (rs := [4, 19]) (by kernel_rfl) (by simp) ?_
    refine AllReadyH.cons rfl (fun K hK => ?_) (AllReadyH.cons rfl (fun K hK => ?_) AllReadyH.nil)
    · skip
      go_simp
      have hbV := (Array.getElem?_eq_some_iff.1 VX).1
      refine (flags_c b.ent ns _ (by omega)).mono ?_
      rintro e V ⟨bF, v0, rfl, o0⟩
      replace B1 := below_step B1 bF
      replace VB := var_later VB bF
      replace VC := var_later VC bF
      replace VX := var_later VX bF
      have S0 : V.ownsRow (gC + 1 + 1) 4 1 v0 (flK b ns ne nc 0).length (bools (flK b ns ne nc 0)) := own_flags o0 hbV
      try replace S3 := own_bel S3 bF
      clear bF o0
      obtain ⟨A0, k0, rfl, _, _⟩ := (sliceAt_of_own S0).form
      refine hK.out _ _ ⟨btn_at VB, cnt_at VC⟩ (fun _ => ?_)
      clear hK K
      try simp only [List.getElem_toArray, List.getElem_cons_succ, List.getElem_cons_zero, Act.put, List.setIfInBounds_toArray, List.set_cons_zero, List.set_cons_succ]
      refine wpAnyH_ready (rs := [9, 19]) (by kernel_rfl) (by simp) ?_
      refine AllReadyH.cons rfl (fun K hK => ?_) (AllReadyH.cons rfl (fun K hK => ?_) AllReadyH.nil)
      · skip
        go_simp
        have hbV := (Array.getElem?_eq_some_iff.1 VX).1
        refine (flags_c b.exi ne _ (by omega)).mono ?_
        rintro e V ⟨bF, v1, rfl, o1⟩
        replace B1 := below_step B1 bF
        replace VB := var_later VB bF
        replace VC := var_later VC bF
        replace VX := var_later VX bF
        have S1 : V.ownsRow (gC + 1 + 1) 4 1 v1 (flK b ns ne nc 1).length (bools (flK b ns ne nc 1)) := own_flags o1 hbV
        replace S0 := own_bel S0 bF
        try replace S3 := own_bel S3 bF
        clear bF o1
        obtain ⟨A1, k1, rfl, _, _⟩ := (sliceAt_of_own S1).form
        refine hK.out _ _ ⟨btn_at VB, cnt_at VC⟩ (fun _ => ?_)
        clear hK K
        try simp only [List.getElem_toArray, List.getElem_cons_succ, List.getElem_cons_zero, Act.put, List.setIfInBounds_toArray, List.set_cons_zero, List.set_cons_succ]
        refine wpAnyH_ready (rs := [14, 19]) (by kernel_rfl) (by simp) ?_
        refine AllReadyH.cons rfl (fun K hK => ?_) (AllReadyH.cons rfl (fun K hK => ?_) AllReadyH.nil)
        · skip
          go_simp
          have hbV := (Array.getElem?_eq_some_iff.1 VX).1
          refine (flags_c b.via nc _ (by omega)).mono ?_
          rintro e V ⟨bF, v2, rfl, o2⟩
          replace B1 := below_step B1 bF
          replace VB := var_later VB bF
          replace VC := var_later VC bF
          replace VX := var_later VX bF
          have S2 : V.ownsRow (gC + 1 + 1) 4 1 v2 (flK b ns ne nc 2).length (bools (flK b ns ne nc 2)) := own_flags o2 hbV
          replace S0 := own_bel S0 bF
          replace S1 := own_bel S1 bF
          try replace S3 := own_bel S3 bF
          clear bF o2
          obtain ⟨A2, k2, rfl, _, _⟩ := (sliceAt_of_own S2).form
          refine hK.out _ _ ⟨btn_at VB, cnt_at VC⟩ (fun _ => ?_)
          clear hK K
          try simp only [List.getElem_toArray, List.getElem_cons_succ, List.getElem_cons_zero, Act.put, List.setIfInBounds_toArray, List.set_cons_zero, List.set_cons_succ]
          refine wpAnyH_ready (rs := [19]) (by kernel_rfl) (by simp) ?_
          refine AllReadyH.cons rfl (fun K hK => ?_) AllReadyH.nil
          go_simp
          have bF := kbelow_new V (.cells #[.bool b.can, .bool b.aut] 4)
          have hbV := (Array.getElem?_eq_some_iff.1 VX).1
          have S3 : (V.alloc (.cells #[.bool b.can, .bool b.aut] 4)).ownsRow (gC + 1 + 1) 4 1 (.slice (some ⟨V.heap.size, 0, none⟩) 2 2) (flK b ns ne nc 3).length (bools (flK b ns ne nc 3)) := own_blk (new_at rfl _) hbV rfl (by simp [maxLen])
          replace B1 := below_step B1 bF
          replace VB := var_later VB bF
          replace VC := var_later VC bF
          replace VX := var_later VX bF
          try replace S0 := own_bel S0 bF
          try replace S1 := own_bel S1 bF
          try replace S2 := own_bel S2 bF
          clear bF
          generalize V.alloc (.cells #[.bool b.can, .bool b.aut] 4) = V at *
          refine hK.out _ _ ⟨btn_at VB, cnt_at VC⟩ (fun _ => ?_)
          clear hK K
          try simp only [List.getElem_toArray, List.getElem_cons_succ, List.getElem_cons_zero, Act.put, List.setIfInBounds_toArray, List.set_cons_zero, List.set_cons_succ]
          refine wpAnyH_ready (rs := [20]) (by kernel_rfl) (by simp) ?_
          refine AllReadyH.cons rfl (fun K hK => ?_) AllReadyH.nil
          go_simp
          refine hK.out _ _ ⟨btn_at VB, cnt_at VC⟩ (fun _ => ?_)
          clear hK K
          try simp only [List.getElem_toArray, List.getElem_cons_succ, List.getElem_cons_zero, Act.put, List.setIfInBounds_toArray, List.set_cons_zero, List.set_cons_succ]
          refine wpAnyH_done (by kernel_rfl) ?_ _
          exact ⟨_, _, _, _, _, _, _, _, _, _, _, _, _, _, _, _, _, _, _, _, _, _, _, _, rfl, B1, VX, VB, VC, S0, S1, S2, S3⟩
        · skip
          go_simp
          have bF := kbelow_new V (.cells #[.bool b.can, .bool b.aut] 4)
          have hbV := (Array.getElem?_eq_some_iff.1 VX).1
          have S3 : (V.alloc (.cells #[.bool b.can, .bool b.aut] 4)).ownsRow (gC + 1 + 1) 4 1 (.slice (some ⟨V.heap.size, 0, none⟩) 2 2) (flK b ns ne nc 3).length (bools (flK b ns ne nc 3)) := own_blk (new_at rfl _) hbV rfl (by simp [maxLen])
          replace B1 := below_step B1 bF
          replace VB := var_later VB bF
          replace VC := var_later VC bF
          replace VX := var_later VX bF
          try replace S0 := own_bel S0 bF
          try replace S1 := own_bel S1 bF
          try replace S2 := own_bel S2 bF
          clear bF
          generalize V.alloc (.cells #[.bool b.can, .bool b.aut] 4) = V at *
          refine hK.out _ _ ⟨btn_at VB, cnt_at VC⟩ (fun _ => ?_)
          clear hK K
          try simp only [List.getElem_toArray, List.getElem_cons_succ, List.getElem_cons_zero, Act.put, List.setIfInBounds_toArray, List.set_cons_zero, List.set_cons_succ]
          refine wpAnyH_ready (rs := [14]) (by kernel_rfl) (by simp) ?_
          refine AllReadyH.cons rfl (fun K hK => ?_) AllReadyH.nil
          go_simp
          have hbV := (Array.getElem?_eq_some_iff.1 VX).1
          refine (flags_c b.via nc _ (by omega)).mono ?_
          rintro e V ⟨bF, v2, rfl, o2⟩
          replace B1 := below_step B1 bF
          replace VB := var_later VB bF
          replace VC := var_later VC bF
          replace VX := var_later VX bF
          have S2 : V.ownsRow (gC + 1 + 1) 4 1 v2 (flK b ns ne nc 2).length (bools (flK b ns ne nc 2)) := own_flags o2 hbV
          replace S0 := own_bel S0 bF
          replace S1 := own_bel S1 bF
          try replace S3 := own_bel S3 bF
          clear bF o2
          obtain ⟨A2, k2, rfl, _, _⟩ := (sliceAt_of_own S2).form
          refine hK.out _ _ ⟨btn_at VB, cnt_at VC⟩ (fun _ => ?_)
          clear hK K
          try simp only [List.getElem_toArray, List.getElem_cons_succ, List.getElem_cons_zero, Act.put, List.setIfInBounds_toArray, List.set_cons_zero, List.set_cons_succ]
          refine wpAnyH_ready (rs := [20]) (by kernel_rfl) (by simp) ?_
          refine AllReadyH.cons rfl (fun K hK => ?_) AllReadyH.nil
          go_simp
          refine hK.out _ _ ⟨btn_at VB, cnt_at VC⟩ (fun _ => ?_)
          clear hK K
          try simp only [List.getElem_toArray, List.getElem_cons_succ, List.getElem_cons_zero, Act.put, List.setIfInBounds_toArray, List.set_cons_zero, List.set_cons_succ]
          refine wpAnyH_done (by kernel_rfl) ?_ _
          exact ⟨_, _, _, _, _, _, _, _, _, _, _, _, _, _, _, _, _, _, _, _, _, _, _, _, rfl, B1, VX, VB, VC, S0, S1, S2, S3⟩
      · skip
        go_simp
        have bF := kbelow_new V (.cells #[.bool b.can, .bool b.aut] 4)
        have hbV := (Array.getElem?_eq_some_iff.1 VX).1
        have S3 : (V.alloc (.cells #[.bool b.can, .bool b.aut] 4)).ownsRow (gC + 1 + 1) 4 1 (.slice (some ⟨V.heap.size, 0, none⟩) 2 2) (flK b ns ne nc 3).length (bools (flK b ns ne nc 3)) := own_blk (new_at rfl _) hbV rfl (by simp [maxLen])
        replace B1 := below_step B1 bF
        replace VB := var_later VB bF
        replace VC := var_later VC bF
        replace VX := var_later VX bF
        try replace S0 := own_bel S0 bF
        try replace S1 := own_bel S1 bF
        try replace S2 := own_bel S2 bF
        clear bF
        generalize V.alloc (.cells #[.bool b.can, .bool b.aut] 4) = V at *
        refine hK.out _ _ ⟨btn_at VB, cnt_at VC⟩ (fun _ => ?_)
        clear hK K
        try simp only [List.getElem_toArray, List.getElem_cons_succ, List.getElem_cons_zero, Act.put, List.setIfInBounds_toArray, List.set_cons_zero, List.set_cons_succ]
        refine wpAnyH_ready (rs := [9]) (by kernel_rfl) (by simp) ?_
        refine AllReadyH.cons rfl (fun K hK => ?_) AllReadyH.nil
        go_simp
        have hbV := (Array.getElem?_eq_some_iff.1 VX).1
        refine (flags_c b.exi ne _ (by omega)).mono ?_
        rintro e V ⟨bF, v1, rfl, o1⟩
        replace B1 := below_step B1 bF
        replace VB := var_later VB bF
        replace VC := var_later VC bF
        replace VX := var_later VX bF
        have S1 : V.ownsRow (gC + 1 + 1) 4 1 v1 (flK b ns ne nc 1).length (bools (flK b ns ne nc 1)) := own_flags o1 hbV
        replace S0 := own_bel S0 bF
        try replace S3 := own_bel S3 bF
        clear bF o1
        obtain ⟨A1, k1, rfl, _, _⟩ := (sliceAt_of_own S1).form
        refine hK.out _ _ ⟨btn_at VB, cnt_at VC⟩ (fun _ => ?_)
        clear hK K
        try simp only [List.getElem_toArray, List.getElem_cons_succ, List.getElem_cons_zero, Act.put, List.setIfInBounds_toArray, List.set_cons_zero, List.set_cons_succ]
        refine wpAnyH_ready (rs := [14]) (by kernel_rfl) (by simp) ?_
        refine AllReadyH.cons rfl (fun K hK => ?_) AllReadyH.nil
        go_simp
        have hbV := (Array.getElem?_eq_some_iff.1 VX).1
        refine (flags_c b.via nc _ (by omega)).mono ?_
        rintro e V ⟨bF, v2, rfl, o2⟩
        replace B1 := below_step B1 bF
        replace VB := var_later VB bF
        replace VC := var_later VC bF
        replace VX := var_later VX bF
        have S2 : V.ownsRow (gC + 1 + 1) 4 1 v2 (flK b ns ne nc 2).length (bools (flK b ns ne nc 2)) := own_flags o2 hbV
        replace S0 := own_bel S0 bF
        replace S1 := own_bel S1 bF
        try replace S3 := own_bel S3 bF
        clear bF o2
        obtain ⟨A2, k2, rfl, _, _⟩ := (sliceAt_of_own S2).form
        refine hK.out _ _ ⟨btn_at VB, cnt_at VC⟩ (fun _ => ?_)
        clear hK K
        try simp only [List.getElem_toArray, List.getElem_cons_succ, List.getElem_cons_zero, Act.put, List.setIfInBounds_toArray, List.set_cons_zero, List.set_cons_succ]
        refine wpAnyH_ready (rs := [20]) (by kernel_rfl) (by simp) ?_
        refine AllReadyH.cons rfl (fun K hK => ?_) AllReadyH.nil
        go_simp
        refine hK.out _ _ ⟨btn_at VB, cnt_at VC⟩ (fun _ => ?_)
        clear hK K
        try simp only [List.getElem_toArray, List.getElem_cons_succ, List.getElem_cons_zero, Act.put, List.setIfInBounds_toArray, List.set_cons_zero, List.set_cons_succ]
        refine wpAnyH_done (by kernel_rfl) ?_ _
        exact ⟨_, _, _, _, _, _, _, _, _, _, _, _, _, _, _, _, _, _, _, _, _, _, _, _, rfl, B1, VX, VB, VC, S0, S1, S2, S3⟩
    · skip
      go_simp
      have bF := kbelow_new V (.cells #[.bool b.can, .bool b.aut] 4)
      have hbV := (Array.getElem?_eq_some_iff.1 VX).1
      have S3 : (V.alloc (.cells #[.bool b.can, .bool b.aut] 4)).ownsRow (gC + 1 + 1) 4 1 (.slice (some ⟨V.heap.size, 0, none⟩) 2 2) (flK b ns ne nc 3).length (bools (flK b ns ne nc 3)) := own_blk (new_at rfl _) hbV rfl (by simp [maxLen])
      replace B1 := below_step B1 bF
      replace VB := var_later VB bF
      replace VC := var_later VC bF
      replace VX := var_later VX bF
      try replace S0 := own_bel S0 bF
      try replace S1 := own_bel S1 bF
      try replace S2 := own_bel S2 bF
      clear bF
      generalize V.alloc (.cells #[.bool b.can, .bool b.aut] 4) = V at *
      refine hK.out _ _ ⟨btn_at VB, cnt_at VC⟩ (fun _ => ?_)
      clear hK K
      try simp only [List.getElem_toArray, List.getElem_cons_succ, List.getElem_cons_zero, Act.put, List.setIfInBounds_toArray, List.set_cons_zero, List.set_cons_succ]
      refine wpAnyH_ready (rs := [4]) (by kernel_rfl) (by simp) ?_
      refine AllReadyH.cons rfl (fun K hK => ?_) AllReadyH.nil
      go_simp
      have hbV := (Array.getElem?_eq_some_iff.1 VX).1
      refine (flags_c b.ent ns _ (by omega)).mono ?_
      rintro e V ⟨bF, v0, rfl, o0⟩
      replace B1 := below_step B1 bF
      replace VB := var_later VB bF
      replace VC := var_later VC bF
      replace VX := var_later VX bF
      have S0 : V.ownsRow (gC + 1 + 1) 4 1 v0 (flK b ns ne nc 0).length (bools (flK b ns ne nc 0)) := own_flags o0 hbV
      try replace S3 := own_bel S3 bF
      clear bF o0
      obtain ⟨A0, k0, rfl, _, _⟩ := (sliceAt_of_own S0).form
      refine hK.out _ _ ⟨btn_at VB, cnt_at VC⟩ (fun _ => ?_)
      clear hK K
      try simp only [List.getElem_toArray, List.getElem_cons_succ, List.getElem_cons_zero, Act.put, List.setIfInBounds_toArray, List.set_cons_zero, List.set_cons_succ]
      refine wpAnyH_ready (rs := [9]) (by kernel_rfl) (by simp) ?_
      refine AllReadyH.cons rfl (fun K hK => ?_) AllReadyH.nil
      go_simp
      have hbV := (Array.getElem?_eq_some_iff.1 VX).1
      refine (flags_c b.exi ne _ (by omega)).mono ?_
      rintro e V ⟨bF, v1, rfl, o1⟩
      replace B1 := below_step B1 bF
      replace VB := var_later VB bF
      replace VC := var_later VC bF
      replace VX := var_later VX bF
      have S1 : V.ownsRow (gC + 1 + 1) 4 1 v1 (flK b ns ne nc 1).length (bools (flK b ns ne nc 1)) := own_flags o1 hbV
      replace S0 := own_bel S0 bF
      try replace S3 := own_bel S3 bF
      clear bF o1
      obtain ⟨A1, k1, rfl, _, _⟩ := (sliceAt_of_own S1).form
      refine hK.out _ _ ⟨btn_at VB, cnt_at VC⟩ (fun _ => ?_)
      clear hK K
      try simp only [List.getElem_toArray, List.getElem_cons_succ, List.getElem_cons_zero, Act.put, List.setIfInBounds_toArray, List.set_cons_zero, List.set_cons_succ]
      refine wpAnyH_ready (rs := [14]) (by kernel_rfl) (by simp) ?_
      refine AllReadyH.cons rfl (fun K hK => ?_) AllReadyH.nil
      go_simp
      have hbV := (Array.getElem?_eq_some_iff.1 VX).1
      refine (flags_c b.via nc _ (by omega)).mono ?_
      rintro e V ⟨bF, v2, rfl, o2⟩
      replace B1 := below_step B1 bF
      replace VB := var_later VB bF
      replace VC := var_later VC bF
      replace VX := var_later VX bF
      have S2 : V.ownsRow (gC + 1 + 1) 4 1 v2 (flK b ns ne nc 2).length (bools (flK b ns ne nc 2)) := own_flags o2 hbV
      replace S0 := own_bel S0 bF
      replace S1 := own_bel S1 bF
      try replace S3 := own_bel S3 bF
      clear bF o2
      obtain ⟨A2, k2, rfl, _, _⟩ := (sliceAt_of_own S2).form
      refine hK.out _ _ ⟨btn_at VB, cnt_at VC⟩ (fun _ => ?_)
      clear hK K
      try simp only [List.getElem_toArray, List.getElem_cons_succ, List.getElem_cons_zero, Act.put, List.setIfInBounds_toArray, List.set_cons_zero, List.set_cons_succ]
      refine wpAnyH_ready (rs := [20]) (by kernel_rfl) (by simp) ?_
      refine AllReadyH.cons rfl (fun K hK => ?_) AllReadyH.nil
      go_simp
      refine hK.out _ _ ⟨btn_at VB, cnt_at VC⟩ (fun _ => ?_)
      clear hK K
      try simp only [List.getElem_toArray, List.getElem_cons_succ, List.getElem_cons_zero, Act.put, List.setIfInBounds_toArray, List.set_cons_zero, List.set_cons_succ]
      refine wpAnyH_done (by kernel_rfl) ?_ _
      exact ⟨_, _, _, _, _, _, _, _, _, _, _, _, _, _, _, _, _, _, _, _, _, _, _, _, rfl, B1, VX, VB, VC, S0, S1, S2, S3⟩
  cases e <;> try exact hR.elim
  obtain ⟨u13, u14, u15, u16, u17, u18, u19, u20, u21, u22, u23, u24, u25, u26, u27, u28, u29, u30, u31, u32, v0, v1, v2, v3, rfl, B4, X4, B41, C4, S0, S1, S2, S3⟩ := hR
  obtain ⟨A0, k0, rfl, _, _⟩ := (sliceAt_of_own S0).form
  obtain ⟨A1, k1, rfl, _, _⟩ := (sliceAt_of_own S1).form
  obtain ⟨A2, k2, rfl, _, _⟩ := (sliceAt_of_own S2).form
  obtain ⟨A3, k3, rfl, _, _⟩ := (sliceAt_of_own S3).form
  generalize hn0 : (flK b ns ne nc 0).length = n0 at *
  generalize hn1 : (flK b ns ne nc 1).length = n1 at *
  generalize hn2 : (flK b ns ne nc 2).length = n2 at *
  generalize hn3 : (flK b ns ne nc 3).length = n3 at *
  have HN0 := Lib.hid hn0.symm
  have HN1 := Lib.hid hn1.symm
  have HN2 := Lib.hid hn2.symm
  have HN3 := Lib.hid hn3.symm
  clear hn0 hn1 hn2 hn3
  have H4 : PutI w gC b ns ne nc (.slice A0 n0 k0) (.slice A1 n1 k1) (.slice A2 n2 k2) (.slice A3 n3 k3) W4 (.slice none 0 0) [] [] := ⟨X4, own_nil _ _ _ _, holds_nil, B4, B41, C4, by rw [← HN0.out]; exact S0, by rw [← HN1.out]; exact S1, by rw [← HN2.out]; exact S2, by rw [← HN3.out]; exact S3⟩
  clear VX VB VC B1 B4 X4 B41 C4 S0 S1 S2 S3
  simp only [List.cons_append, List.nil_append]
  have HGC := Lib.hid gC0
  have HL1 := Lib.hid l1
  have HL2 := Lib.hid l2
  have HL3 := Lib.hid l3
  go_wp2
  go_loopw [34] (fun i wr => ∃ (k : Nat) (v : Value) (B : List (BitVec 8)), k ≤ 4 ∧ i = .int .i64 k ∧ PutI w gC b ns ne nc (.slice A0 n0 k0) (.slice A1 n1 k1) (.slice A2 n2 k2) (.slice A3 n3 k3) wr v B (accK b ns ne nc k)) (fun i _ => 4 - (intOf i).toNat)
  case atStart => exact ⟨0, _, [], by omega, rfl, H4⟩
  case round =>
    obtain ⟨k, v, B, hk, rfl, HI⟩ := hrel
    by_cases hlt : k < 4
    · rcases (by omega : k = 0 ∨ k = 1 ∨ k = 2 ∨ k = 3) with rfl | rfl | rfl | rfl
      · have c0 := cell_at HI.x 0
        have c1 := cell_at HI.x 1
        have f0 := free_at HI.x 0
        have f1 := free_at HI.x 1
        have hal := accK_len b ns ne nc HL1.out HL2.out HL3.out 0
        have hfl := flK_len b ns ne nc 0 HL1.out HL2.out HL3.out
        have hix := run_index_row (P := Try.prog) wr 79 77 4 _ #[.slice A0 n0 k0, .slice A1 n1 k1, .slice A2 n2 k2, .slice A3 n3 k3] .i64 0 (.slice A0 n0 k0) Try.underlying79 Try.underlying77 rfl (by kernel_rfl) (by omega) rfl
        go_wp2_with (first | refine wpList_index rfl 79 (.tmp 33) (.tmp 34) (by rfl) _ _ _ (by rfl) (by rfl) hix ?_ | fail)
        refine (Flags_good v B (accK b ns ne nc 0) (.slice A0 n0 k0) (flK b ns ne nc 0) _ (sliceAt_of_own HI.sl) (sliceAt_of_own HI.s0) HI.ho (by omega) (by omega)).mono ?_
        rintro e W5 ⟨b5, v5, B5, rfl, o5, h5⟩
        have HI' := Lib.hid (HI.next HGC.out b5 o5 h5)
        rw [show (accK b ns ne nc 0).length + (flK b ns ne nc 0).length = (accK b ns ne nc (0 + 1)).length from List.length_append.symm]
        obtain ⟨A5, c5, rfl, _, _⟩ := (sliceAt_of_own o5).form
        have x5 := var_later HI.x b5
        clear c0 c1 f0 f1 hix hal hfl HI h5 o5
        have f0 := free_at x5 0
        have f1 := free_at x5 1
        have c0 := cell_at x5 0
        have c1 := cell_at x5 1
        go_wp2
        go_roundw
        case rel => exact ⟨0 + 1, _, B5, by omega, rfl, HI'.out⟩
        case measure => simp [intOf]
      · have c0 := cell_at HI.x 0
        have c1 := cell_at HI.x 1
        have f0 := free_at HI.x 0
        have f1 := free_at HI.x 1
        have hal := accK_len b ns ne nc HL1.out HL2.out HL3.out 1
        have hfl := flK_len b ns ne nc 1 HL1.out HL2.out HL3.out
        have hix := run_index_row (P := Try.prog) wr 79 77 4 _ #[.slice A0 n0 k0, .slice A1 n1 k1, .slice A2 n2 k2, .slice A3 n3 k3] .i64 1 (.slice A1 n1 k1) Try.underlying79 Try.underlying77 rfl (by kernel_rfl) (by omega) rfl
        go_wp2_with (first | refine wpList_index rfl 79 (.tmp 33) (.tmp 34) (by rfl) _ _ _ (by rfl) (by rfl) hix ?_ | fail)
        refine (Flags_good v B (accK b ns ne nc 1) (.slice A1 n1 k1) (flK b ns ne nc 1) _ (sliceAt_of_own HI.sl) (sliceAt_of_own HI.s1) HI.ho (by omega) (by omega)).mono ?_
        rintro e W5 ⟨b5, v5, B5, rfl, o5, h5⟩
        have HI' := Lib.hid (HI.next HGC.out b5 o5 h5)
        rw [show (accK b ns ne nc 1).length + (flK b ns ne nc 1).length = (accK b ns ne nc (1 + 1)).length from List.length_append.symm]
        obtain ⟨A5, c5, rfl, _, _⟩ := (sliceAt_of_own o5).form
        have x5 := var_later HI.x b5
        clear c0 c1 f0 f1 hix hal hfl HI h5 o5
        have f0 := free_at x5 0
        have f1 := free_at x5 1
        have c0 := cell_at x5 0
        have c1 := cell_at x5 1
        go_wp2
        go_roundw
        case rel => exact ⟨1 + 1, _, B5, by omega, rfl, HI'.out⟩
        case measure => simp [intOf]
      · have c0 := cell_at HI.x 0
        have c1 := cell_at HI.x 1
        have f0 := free_at HI.x 0
        have f1 := free_at HI.x 1
        have hal := accK_len b ns ne nc HL1.out HL2.out HL3.out 2
        have hfl := flK_len b ns ne nc 2 HL1.out HL2.out HL3.out
        have hix := run_index_row (P := Try.prog) wr 79 77 4 _ #[.slice A0 n0 k0, .slice A1 n1 k1, .slice A2 n2 k2, .slice A3 n3 k3] .i64 2 (.slice A2 n2 k2) Try.underlying79 Try.underlying77 rfl (by kernel_rfl) (by omega) rfl
        go_wp2_with (first | refine wpList_index rfl 79 (.tmp 33) (.tmp 34) (by rfl) _ _ _ (by rfl) (by rfl) hix ?_ | fail)
        refine (Flags_good v B (accK b ns ne nc 2) (.slice A2 n2 k2) (flK b ns ne nc 2) _ (sliceAt_of_own HI.sl) (sliceAt_of_own HI.s2) HI.ho (by omega) (by omega)).mono ?_
        rintro e W5 ⟨b5, v5, B5, rfl, o5, h5⟩
        have HI' := Lib.hid (HI.next HGC.out b5 o5 h5)
        rw [show (accK b ns ne nc 2).length + (flK b ns ne nc 2).length = (accK b ns ne nc (2 + 1)).length from List.length_append.symm]
        obtain ⟨A5, c5, rfl, _, _⟩ := (sliceAt_of_own o5).form
        have x5 := var_later HI.x b5
        clear c0 c1 f0 f1 hix hal hfl HI h5 o5
        have f0 := free_at x5 0
        have f1 := free_at x5 1
        have c0 := cell_at x5 0
        have c1 := cell_at x5 1
        go_wp2
        go_roundw
        case rel => exact ⟨2 + 1, _, B5, by omega, rfl, HI'.out⟩
        case measure => simp [intOf]
      · have c0 := cell_at HI.x 0
        have c1 := cell_at HI.x 1
        have f0 := free_at HI.x 0
        have f1 := free_at HI.x 1
        have hal := accK_len b ns ne nc HL1.out HL2.out HL3.out 3
        have hfl := flK_len b ns ne nc 3 HL1.out HL2.out HL3.out
        have hix := run_index_row (P := Try.prog) wr 79 77 4 _ #[.slice A0 n0 k0, .slice A1 n1 k1, .slice A2 n2 k2, .slice A3 n3 k3] .i64 3 (.slice A3 n3 k3) Try.underlying79 Try.underlying77 rfl (by kernel_rfl) (by omega) rfl
        go_wp2_with (first | refine wpList_index rfl 79 (.tmp 33) (.tmp 34) (by rfl) _ _ _ (by rfl) (by rfl) hix ?_ | fail)
        refine (Flags_good v B (accK b ns ne nc 3) (.slice A3 n3 k3) (flK b ns ne nc 3) _ (sliceAt_of_own HI.sl) (sliceAt_of_own HI.s3) HI.ho (by omega) (by omega)).mono ?_
        rintro e W5 ⟨b5, v5, B5, rfl, o5, h5⟩
        have HI' := Lib.hid (HI.next HGC.out b5 o5 h5)
        rw [show (accK b ns ne nc 3).length + (flK b ns ne nc 3).length = (accK b ns ne nc (3 + 1)).length from List.length_append.symm]
        obtain ⟨A5, c5, rfl, _, _⟩ := (sliceAt_of_own o5).form
        have x5 := var_later HI.x b5
        clear c0 c1 f0 f1 hix hal hfl HI h5 o5
        have f0 := free_at x5 0
        have f1 := free_at x5 1
        have c0 := cell_at x5 0
        have c1 := cell_at x5 1
        go_wp2
        go_roundw
        case rel => exact ⟨3 + 1, _, B5, by omega, rfl, HI'.out⟩
        case measure => simp [intOf]
    · rw [show ((k : Nat) : Int) = 4 from by omega]
      obtain rfl : k = 4 := by omega
      have e2 : W4 = W4 := rfl
      clear e2 H4
      have cC := (cnt_at HI.c).2.2
      have i1 : (nc : Int) ≤ 24 := by have := HL3.out; omega
      have H5 : PutI w gC b ns ne nc (.slice A0 n0 k0) (.slice A1 n1 k1) (.slice A2 n2 k2) (.slice A3 n3 k3) wr v B (accK b ns ne nc 4 ++ keyBits b.keys 0) := by rw [show keyBits b.keys 0 = [] from rfl, List.append_nil]; exact HI
      clear HI hlt hk
      go_wp2
      go_loopw [49] (fun i wr => ∃ (k : Nat) (v : Value) (B : List (BitVec 8)), k ≤ nc ∧ i = .int .i64 k ∧ PutI w gC b ns ne nc (.slice A0 n0 k0) (.slice A1 n1 k1) (.slice A2 n2 k2) (.slice A3 n3 k3) wr v B (accK b ns ne nc 4 ++ keyBits b.keys k)) (fun i _ => nc - (intOf i).toNat)
      case atStart => exact ⟨0, _, B, by omega, rfl, H5⟩
      case round =>
        clear H5 cC i1
        obtain ⟨k, v, B, hk, rfl, HI⟩ := hrel
        by_cases hlt : k < nc
        · have i1 : (k : Int) < (nc : Int) := by omega
          have hk24 : k < 24 := by have := HL3.out; omega
          have kx := cell_list HI.bb (btnV_key (b := b) (i := k) (by rw [Hb.out]; exact hk24))
          obtain ⟨m, hm⟩ : ∃ m : Int, m = (((b.keys.getD k 0#8).toNat % 4 : Nat) : Int) := ⟨_, rfl⟩
          have hand := and3 (b.keys.getD k 0#8)
          rw [← hm] at hand
          have hm1 : 0 ≤ m ∧ m < 4 := by omega
          have hmw : wrap64 m = m := by unfold wrap64; omega
          generalize ((b.keys.getD k 0#8).toNat : Int) = ix at kx hand
          have HM := Lib.hid hm
          clear hm
          have hx := HI.x
          obtain ⟨N, hN⟩ : ∃ N : Int, N = (((accK b ns ne nc 4 ++ keyBits b.keys k).length : Nat) : Int) := ⟨_, rfl⟩
          rw [← hN] at hx
          have HN := Lib.hid hN
          clear hN
          have c0 := cell_at hx 0
          have c1 := cell_at hx 1
          have f0 := free_at hx 0
          have f1 := free_at hx 1
          clear hx
          have HB : Hid ((accK b ns ne nc 4 ++ keyBits b.keys k).length ≤ 900000) := Lib.hid (by have := accK_len b ns ne nc HL1.out HL2.out HL3.out 4; rw [List.length_append, keyBits_length]; omega)
          have HK : Hid (accK b ns ne nc 4 ++ keyBits b.keys (k + 1) = (accK b ns ne nc 4 ++ keyBits b.keys k) ++ numBits ((b.keys.getD k 0#8).toNat % 4) 2) := Lib.hid (by rw [keyBits_succ, List.append_assoc])
          go_wp2_with fail
          refine (Put_h v B (accK b ns ne nc 4 ++ keyBits b.keys k) ((b.keys.getD k 0#8).toNat % 4) 2 N m 2 _ HN.out HM.out rfl (sliceAt_of_own HI.sl) HI.ho (by have := HB.out; omega) (by omega) (Nat.mod_lt _ (by omega))).mono ?_
          rintro e W5 ⟨b5, v5, B5, rfl, o5, h5⟩
          have h5' : Holds B5 (accK b ns ne nc 4 ++ keyBits b.keys (k + 1)) := by rw [HK.out]; exact h5
          have HI' := Lib.hid (HI.next HGC.out b5 o5 h5')
          obtain ⟨N', hN'⟩ : ∃ N' : Int, N' = (((accK b ns ne nc 4 ++ keyBits b.keys (k + 1)).length : Nat) : Int) := ⟨_, rfl⟩
          rw [show ((((accK b ns ne nc 4 ++ keyBits b.keys k).length + 2 : Nat)) : Int) = N' from by rw [hN', HK.out]; simp [numBits]; omega]
          rw [← hN'] at HI'
          obtain ⟨A5, c5, rfl, _, _⟩ := (sliceAt_of_own o5).form
          have x5 := var_later HI.x b5
          clear c0 c1 f0 f1 HI h5 h5' o5 hN' kx hand hmw
          have f0 := free_at x5 0
          have f1 := free_at x5 1
          have c0 := cell_at x5 0
          have c1 := cell_at x5 1
          go_wp2
          go_roundw
          case rel => exact ⟨k + 1, _, B5, by omega, by go_num, HI'.out⟩
          case measure => simp [intOf]; omega
        · obtain rfl : k = nc := by omega
          have hx := HI.x
          have hH := HI.ho
          rw [accK_four] at hx hH
          obtain ⟨N, hN⟩ : ∃ N : Int, N = (((payBits b ns ne k).length : Nat) : Int) := ⟨_, rfl⟩
          rw [← hN] at hx
          have HN := Lib.hid hN
          clear hN
          have c0 := cell_at hx 0
          have c1 := cell_at hx 1
          have f0 := free_at hx 0
          have f1 := free_at hx 1
          clear hx
          have HB : Hid ((payBits b ns ne k).length ≤ 900000) := Lib.hid (by have := HL1.out; have := HL2.out; have := HL3.out; rw [payBits_length]; omega)
          have hBl := hH.1
          rw [payBits_length] at hBl
          have HBL := Lib.hid hBl
          have HBQ : Hid (B.length ≤ 1000) := Lib.hid (by have := HL1.out; have := HL2.out; have := HL3.out; omega)
          have HH := Lib.hid hH
          clear hBl hH
          go_wp2_with fail
          refine (Pad_h v B (payBits b ns ne k) N ((B.length : Int) * 8) _ HN.out rfl (sliceAt_of_own HI.sl) HH.out HB.out).mono ?_
          rintro e W5 ⟨b5, v5, rfl, o5⟩
          obtain ⟨A5, c5, rfl, _, _⟩ := (sliceAt_of_own o5).form
          have x5 := var_later HI.x b5
          have lt5 : gC + 1 < wr.heap.size := (Array.getElem?_eq_some_iff.1 HI.x).1
          have BE := below_step HI.bel b5
          have gsz := HGC.out
          clear c0 c1 f0 f1
          generalize ((B.length : Int) * 8) = N2 at *
          have f0 := free_at x5 0
          have f1 := free_at x5 1
          have c0 := cell_at x5 0
          have c1 := cell_at x5 1
          have x6 := set_at (set_at x5 0 (.slice A5 B.length c5)) 1 (.int .i64 N2)
          have d0 := cell_at x6 0
          have d1 := cell_at x6 1
          have o6 := own_set (p := ⟨gC + 1, 1, none⟩) (own_set (p := ⟨gC + 1, 0, none⟩) o5 lt5 (.slice A5 B.length c5)) lt5 (.int .i64 N2)
          have B6 := (BE.setCell (p := ⟨gC + 1, 0, none⟩) (by simp only; omega) (.slice A5 B.length c5)).setCell (p := ⟨gC + 1, 1, none⟩) (by simp only; omega) (.int .i64 N2)
          go_wp2_with fail
          refine (Clone_c _ B _ (sliceAt_of_own o6) (by have := HBQ.out; omega)).mono ?_
          rintro e W7 ⟨v7, rfl, o7, b7⟩
          have hsl := (sliceAt_of_own o7)
          obtain ⟨A7, c7, rfl, _, _⟩ := hsl.form
          clear c0 c1 d0 d1 f0 f1
          go_wp2
          go_ret
          exact ⟨below_step B6 b7, A7, c7, B, rfl, own_mono o7 B6.size, HH.out, by rw [HBL.out]; rfl⟩
end Go.Proofs.Ytioggdiicgfoaaa
