/- Link, in company. Nothing that was there is turned. -/
import Derived.Test.YtlanlkpamnoekaaDoorZT13
import Derived.Test.YtlanlkpamnoekaaDoorZT04
set_option linter.unusedSimpArgs false
set_option linter.unusedVariables false
namespace Go.Proofs.YtlanlkpamnoekaaDoor
open Go Go.RowKit Rf Mem Bv Crc Str Lk
set_option maxRecDepth 100000
attribute [local go_sem ↓] run_max2 run_min2
/-- A part of a function, then the rest. -/
theorem seq_nrm {P : Program} {x y : Code} {Q : Exit → Act → World → Prop} {R : Act → World → Prop} {a : Act} {w : World} (h : x.wp P (nrm R) a w) (hk : ∀ a' w', R a' w' → y.wp P Q a' w') : (Code.seq x y).wp P Q a w :=
  wp_seq (wp_mono h fun e a w he => by
    cases e with
    | normal => exact hk a w he
    | _ => exact he.elim)
theorem Sl.getD {a : Act} {n : Nat} {l : List (Nat × Value)} (h : Sl a n l) {i : Nat} {v : Value} (hm : (i, v) ∈ l) : a.tmps.getD i undef = v := by
  have := h.get hm
  simp [Array.getD_eq_getD_getElem?, this]
def lit61 (j : Nat → Value) : List Value := [j 0, j 1, j 2, j 3, j 4, j 5, j 6, j 7, j 8, j 9, j 10, j 11, j 12, j 13, j 14, j 15, j 16, j 17, j 18, j 19, j 20, j 21, j 22, j 23, j 24, j 25, j 26, j 27, j 28, j 29, j 30, j 31, j 32, j 33, j 34, j 35, j 36, j 37, j 38, j 39, j 40, j 41, j 42, j 43, j 44, j 45, j 46, j 47, j 48, j 49] ++ ([j 50, j 51, j 52, j 53, j 54, j 55, j 56, j 57, j 58, j 59, j 60])
theorem lit61_eq (j : Nat → Value) : (List.range 61).map j = lit61 j := by kernel_rfl
theorem Sl.lit61 {a : Act} {l : List (Nat × Value)} (h : Sl a 61 l) : ∃ j : Nat → Value, a = ⟨(lit61 j).toArray, []⟩ ∧ ∀ p ∈ l, j p.1 = p.2 := by
  obtain ⟨j, h1, h2⟩ := h.letters
  exact ⟨j, by rw [h1, lit61_eq], h2⟩

noncomputable def bodyH : Code := Tryd.f12.body.getD .skip
noncomputable def rgH (k : Nat) : Code := nthSeq k bodyH

noncomputable def rH1 : Code := cfst (rgH 1)
noncomputable def rH2 : Code := cfst (cyes (csnd (rgH 1)))
noncomputable def rH4 : Code := cfst (rgH 3)
noncomputable def rH5 : Code := cyes (csnd (rgH 3))
noncomputable def rH6 : Code := cfst (rgH 4)
noncomputable def rH7 : Code := cyes (csnd (rgH 4))
noncomputable def rH8 : Code := cfst (rgH 5)
noncomputable def rH9 : Code := cfst (cyes (csnd (rgH 5)))
noncomputable def rH10 : Code := cfst (csnd (cyes (csnd (rgH 5))))
theorem bodyH_eq : bodyH = .seq (rgH 0) (.seq (rgH 1) (.seq (rgH 2) (.seq (rgH 3) (.seq (rgH 4) (.seq (rgH 5) (.seq (rgH 6) (.seq (rgH 7) (.seq (rgH 8) .ret)))))))) := rfl
theorem rgH1_eq : rgH 1 = .seq rH1 (.cond (.tmp 13) (.seq rH2 .ret) .skip) := rfl
theorem rgH3_eq : rgH 3 = .seq rH4 (.cond (.tmp 28) rH5 .skip) := rfl
theorem rgH4_eq : rgH 4 = .seq rH6 (.cond (.tmp 44) rH7 .skip) := rfl
theorem rgH5_eq : rgH 5 = .seq rH8 (.cond (.tmp 46) (.seq rH9 (.seq rH10 .ret)) .skip) := rfl
/-- What is held behind the start. -/
structure HW (w : World) (N g3 g6 g7 : Nat) (s q e : Int) : Prop where
  l3 : LVar w g3 s q e
  l6 : LVar w g6 0 0 0
  f7 : w.heap[g7]? = some (.cells #[.int .u8 0, .int .u8 0, .slice none 0 0] 41 (0, 0))
  ge : N ≤ g3 ∧ N ≤ g6 ∧ N ≤ g7
  ne : g3 ≠ g6 ∧ g3 ≠ g7 ∧ g6 ≠ g7
theorem HW.later {w W : World} {N g3 g6 g7 : Nat} {s q e : Int} (h : HW w N g3 g6 g7 s q e) (b : Below w.heap.size w W) : HW W N g3 g6 g7 s q e := ⟨h.l3.later b, h.l6.later b, below_at b h.f7 (lt_of_at h.f7), h.ge, h.ne⟩
theorem lh0 (a : Act) (kd : Int) (Ab : Option Addr) (cb nb : Nat) (s q e : Int) (hS : Sl a 61 [(0, lk s q e), (1, .int .u8 kd), (2, .slice Ab nb cb)]) (w : World)  : (rgH 0).wp Tryd.prog (nrm fun a' w' => ∃ g3 g6 g7, Sl a' 61 [(1, .int .u8 kd), (2, .slice Ab nb cb), (3, .pointer (some ⟨g3, 0, none⟩)), (6, .pointer (some ⟨g6, 0, none⟩)), (7, .pointer (some ⟨g7, 0, none⟩)), (8, .int .i64 0)] ∧ HW w' w.heap.size g3 g6 g7 s q e ∧ Below w.heap.size w w') a w := by
  obtain ⟨j, rfl, hj⟩ := hS.lit61
  have h0 : j 0 = lk s q e := hj (0, _) (by simp)
  have h1 : j 1 = .int .u8 kd := hj (1, _) (by simp)
  have h2 : j 2 = .slice Ab nb cb := hj (2, _) (by simp)
  clear hj hS
  unfold rgH bodyH
  simp only [Tryd.f12, Option.getD_some, nthSeq, cfst, csnd, cyes, copsOf, lit61, List.cons_append, List.nil_append, h0, h1, h2]
  have b1 := below_new w (.cells #[.int .i64 s, .int .i64 q, .int .i64 e] 31)
  have V1 := LVar.new w s q e
  have b2 := below_new (w.alloc (.cells #[.int .i64 s, .int .i64 q, .int .i64 e] 31)) (.cells #[.int .i64 0, .int .i64 0, .int .i64 0] 31)
  have V2 := LVar.new (w.alloc (.cells #[.int .i64 s, .int .i64 q, .int .i64 e] 31)) 0 0 0
  have b3 := below_new ((w.alloc (.cells #[.int .i64 s, .int .i64 q, .int .i64 e] 31)).alloc (.cells #[.int .i64 0, .int .i64 0, .int .i64 0] 31)) (.cells #[.int .u8 0, .int .u8 0, .slice none 0 0] 41)
  have F3 := new_at (w := (w.alloc (.cells #[.int .i64 s, .int .i64 q, .int .i64 e] 31)).alloc (.cells #[.int .i64 0, .int .i64 0, .int .i64 0] 31)) rfl (.cells #[.int .u8 0, .int .u8 0, .slice none 0 0] 41)
  have B3 := below_step (below_step b1 b2) b3
  have V1' := (V1.later b2).later b3
  have V2' := V2.later b3
  simp only [World.size_alloc] at V2' F3
  have H : HW _ w.heap.size w.heap.size (w.heap.size + 1) (w.heap.size + 1 + 1) s q e := ⟨V1', V2', F3, by omega, by omega⟩
  clear V1 V2 V1' V2' F3 b1 b2 b3
  go_wp2
  exact ⟨_, _, _, ⟨rfl, rfl, by simp⟩, H, B3⟩
theorem lh1 (a : Act) (kd : Int) (Ab : Option Addr) (cb nb : Nat) (g3 g6 g7 : Nat) (s q e : Int) (N : Nat) (t : Bool) (ht : t = rightL s q e) (hS : Sl a 61 [(1, .int .u8 kd), (2, .slice Ab nb cb), (3, .pointer (some ⟨g3, 0, none⟩)), (6, .pointer (some ⟨g6, 0, none⟩)), (7, .pointer (some ⟨g7, 0, none⟩)), (8, .int .i64 0)]) (w : World) (H : HW w N g3 g6 g7 s q e) : rH1.wp Tryd.prog (nrm fun a' w' => Sl a' 61 [(1, .int .u8 kd), (2, .slice Ab nb cb), (3, .pointer (some ⟨g3, 0, none⟩)), (6, .pointer (some ⟨g6, 0, none⟩)), (7, .pointer (some ⟨g7, 0, none⟩)), (8, .int .i64 0), (13, .bool (!t))] ∧ Below w.heap.size w w') a w := by
  obtain ⟨j, rfl, hj⟩ := hS.lit61
  have h1 : j 1 = .int .u8 kd := hj (1, _) (by simp)
  have h2 : j 2 = .slice Ab nb cb := hj (2, _) (by simp)
  have h3 : j 3 = .pointer (some ⟨g3, 0, none⟩) := hj (3, _) (by simp)
  have h6 : j 6 = .pointer (some ⟨g6, 0, none⟩) := hj (6, _) (by simp)
  have h7 : j 7 = .pointer (some ⟨g7, 0, none⟩) := hj (7, _) (by simp)
  have h8 : j 8 = .int .i64 0 := hj (8, _) (by simp)
  clear hj hS
  unfold rH1 rgH bodyH
  simp only [Tryd.f12, Option.getD_some, nthSeq, cfst, csnd, cyes, copsOf, lit61, List.cons_append, List.nil_append, h1, h2, h3, h6, h7, h8]
  have x0 := H.l3.c0
  have x1 := H.l3.c1
  have x2 := H.l3.c2
  have HR := Lib.hid ht
  clear ht H
  go_wp2_with fail
  refine (r29Right_c s q e t HR.out w).mono ?_
  rintro e' W ⟨rfl, b⟩
  go_wp2
  exact ⟨⟨rfl, rfl, by simp⟩, b⟩
theorem lh2 (a : Act) (kd : Int) (Ab : Option Addr) (cb nb : Nat) (g3 g6 g7 : Nat) (s q e : Int) (N : Nat) (w0 : World) (hS : Sl a 61 [(1, .int .u8 kd), (2, .slice Ab nb cb), (3, .pointer (some ⟨g3, 0, none⟩)), (6, .pointer (some ⟨g6, 0, none⟩)), (7, .pointer (some ⟨g7, 0, none⟩)), (8, .int .i64 0)]) (w : World) (H : HW w N g3 g6 g7 s q e) (b0 : Below N w0 w) : rH2.wp Tryd.prog (nrm fun a' w' => Sl a' 61 [(1, .int .u8 kd), (2, .slice Ab nb cb), (3, .pointer (some ⟨g3, 0, none⟩)), (6, .pointer (some ⟨g6, 0, none⟩)), (7, .pointer (some ⟨g7, 0, none⟩)), (8, .int .i64 2)] ∧ LVar w' g6 s q e ∧ w'.heap[g7]? = some (.cells #[.int .u8 0, .int .u8 0, .slice none 0 0] 41 (0, 0)) ∧ Below N w0 w') a w := by
  obtain ⟨j, rfl, hj⟩ := hS.lit61
  have h1 : j 1 = .int .u8 kd := hj (1, _) (by simp)
  have h2 : j 2 = .slice Ab nb cb := hj (2, _) (by simp)
  have h3 : j 3 = .pointer (some ⟨g3, 0, none⟩) := hj (3, _) (by simp)
  have h6 : j 6 = .pointer (some ⟨g6, 0, none⟩) := hj (6, _) (by simp)
  have h7 : j 7 = .pointer (some ⟨g7, 0, none⟩) := hj (7, _) (by simp)
  have h8 : j 8 = .int .i64 0 := hj (8, _) (by simp)
  clear hj hS
  unfold rH2 rgH bodyH
  simp only [Tryd.f12, Option.getD_some, nthSeq, cfst, csnd, cyes, copsOf, lit61, List.cons_append, List.nil_append, h1, h2, h3, h6, h7, h8]
  have x0 := H.l3.c0
  have x1 := H.l3.c1
  have x2 := H.l3.c2
  have y0 := H.l6.c0
  have y1 := H.l6.c1
  have y2 := H.l6.c2
  have f0 := cell_at H.f7 0
  have f1 := cell_at H.f7 1
  have f2 := cell_at H.f7 2
  have e0 := free_at H.l6.at_ 0
  have e1 := free_at H.l6.at_ 1
  have e2 := free_at H.l6.at_ 2
  have h0 := free_at H.f7 0
  have h1 := free_at H.f7 1
  have h2 := free_at H.f7 2
  have n67 := H.ne.2.2
  have L6 := H.l6.set3 s q e
  have G7 := frame_far3 H.f7 (g' := g6) (Ne.symm n67) s q e
  have L6' := frame_far3' L6.at_ n67 (.int .u8 0) (.int .u8 0) (.slice none 0 0)
  have G7' := set_at (set_at (set_at G7 0 (.int .u8 0)) 1 (.int .u8 0)) 2 (.slice none 0 0)
  have B2 := (((((b0.setCell (p := ⟨g6, 0, none⟩) H.ge.2.1 (.int .i64 s)).setCell (p := ⟨g6, 1, none⟩) H.ge.2.1 (.int .i64 q)).setCell (p := ⟨g6, 2, none⟩) H.ge.2.1 (.int .i64 e)).setCell (p := ⟨g7, 0, none⟩) H.ge.2.2 (.int .u8 0)).setCell (p := ⟨g7, 1, none⟩) H.ge.2.2 (.int .u8 0)).setCell (p := ⟨g7, 2, none⟩) H.ge.2.2 (.slice none 0 0)
  simp only [List.setIfInBounds_toArray, List.set_cons_zero, List.set_cons_succ] at G7'
  have HL := Lib.hid L6'
  have HG := Lib.hid G7'
  have HB := Lib.hid B2
  clear H L6 G7 L6' G7' B2 b0
  go_wp2
  exact ⟨⟨rfl, rfl, by simp⟩, ⟨HL.out⟩, HG.out, HB.out⟩
theorem lh3 (a : Act) (kd : Int) (Ab : Option Addr) (cb nb : Nat) (g3 g6 g7 : Nat) (s q e : Int) (N : Nat) (b : List (BitVec 8)) (f : Frm) (te : Int) (hb : b.length = nb) (hl : nb ≤ 140737488355320) (ht : takeV b = (f.1, f.2.1, f.2.2, te)) (hS : Sl a 61 [(1, .int .u8 kd), (2, .slice Ab nb cb), (3, .pointer (some ⟨g3, 0, none⟩)), (6, .pointer (some ⟨g6, 0, none⟩)), (7, .pointer (some ⟨g7, 0, none⟩)), (8, .int .i64 0)]) (w : World) (hs : SliceAt w 1 (.slice Ab nb cb) nb (u8s b)) (hN : N ≤ w.heap.size) : (rgH 2).wp Tryd.prog (nrm fun a' w' => ∃ g9, Sl a' 61 [(1, .int .u8 kd), (2, .slice Ab nb cb), (3, .pointer (some ⟨g3, 0, none⟩)), (6, .pointer (some ⟨g6, 0, none⟩)), (7, .pointer (some ⟨g7, 0, none⟩)), (8, .int .i64 0), (9, .pointer (some ⟨g9, 0, none⟩)), (10, .int .i64 te)] ∧ (∃ A c, w'.heap[g9]? = some (.cells #[.int .u8 (f.1.toNat : Int), .int .u8 (f.2.1.toNat : Int), .slice A f.2.2.length c] 41 (0, 0)) ∧ SliceAt w' 1 (.slice A f.2.2.length c) f.2.2.length (u8s f.2.2) ∧ ∀ q, VB (.slice A f.2.2.length c) f.2.2.length q → N ≤ q ∧ w.heap.size ≤ q) ∧ w.heap.size ≤ g9 ∧ Below w.heap.size w w' ) a w := by
  obtain ⟨j, rfl, hj⟩ := hS.lit61
  have h1 : j 1 = .int .u8 kd := hj (1, _) (by simp)
  have h2 : j 2 = .slice Ab nb cb := hj (2, _) (by simp)
  have h3 : j 3 = .pointer (some ⟨g3, 0, none⟩) := hj (3, _) (by simp)
  have h6 : j 6 = .pointer (some ⟨g6, 0, none⟩) := hj (6, _) (by simp)
  have h7 : j 7 = .pointer (some ⟨g7, 0, none⟩) := hj (7, _) (by simp)
  have h8 : j 8 = .int .i64 0 := hj (8, _) (by simp)
  clear hj hS
  unfold rgH bodyH
  simp only [Tryd.f12, Option.getD_some, nthSeq, cfst, csnd, cyes, copsOf, lit61, List.cons_append, List.nil_append, h1, h2, h3, h6, h7, h8]
  have HT := Lib.hid ht
  have HN := Lib.hid hN
  clear ht hN
  subst hb
  go_wp2_with fail
  refine (refTake_tn (.slice Ab b.length cb) b f.1 f.2.1 f.2.2 te w HT.out hs hl).mono ?_
  rintro e' W ⟨b1, A, c, rfl, hp, hq⟩
  have b2 := below_new W (.cells #[.int .u8 (f.1.toNat : Int), .int .u8 (f.2.1.toNat : Int), .slice A f.2.2.length c] 41)
  have F2 := new_at (w := W) rfl (.cells #[.int .u8 (f.1.toNat : Int), .int .u8 (f.2.1.toNat : Int), .slice A f.2.2.length c] 41)
  have hp2 := hp.later b2
  have B := below_step b1 b2
  have HQ := Lib.hid hq
  have hsz := Lib.hid b1.size
  clear hs hp b1 b2 hq
  go_wp2
  exact ⟨_, ⟨rfl, rfl, by simp⟩, ⟨A, c, F2, hp2, fun q h => ⟨Nat.le_trans HN.out (HQ.out q h), HQ.out q h⟩⟩, hsz.out, B⟩

end Go.Proofs.YtlanlkpamnoekaaDoor
namespace Go.Proofs.YtlanlkpamnoekaaDoor
open List renaming getElem_toArray → zA, getElem_cons_succ → zS, getElem_cons_zero → zZ, setIfInBounds_toArray → zP, set_cons_zero → zQ, set_cons_succ → zR
open Go Go.RowKit Rf Mem Bv Crc Str Lk
set_option maxRecDepth 100000
attribute [local go_sem ↓] run_max2 run_min2
theorem lh4 (a : Act) (kd : Int) (Ab : Option Addr) (cb nb : Nat) (g3 g6 g7 : Nat) (g9 : Nat) (A9 : Option Addr) (c9 : Nat) (f : Frm) (te : Int) (t : Bool) (ht : t = (decide (te = 0) && ((f.1.toNat : Int) != kd))) (hS : Sl a 61 [(1, .int .u8 kd), (2, .slice Ab nb cb), (3, .pointer (some ⟨g3, 0, none⟩)), (6, .pointer (some ⟨g6, 0, none⟩)), (7, .pointer (some ⟨g7, 0, none⟩)), (8, .int .i64 0), (9, .pointer (some ⟨g9, 0, none⟩)), (10, .int .i64 te)]) (w : World) (hC9 : w.heap[g9]? = some (.cells #[.int .u8 (f.1.toNat : Int), .int .u8 (f.2.1.toNat : Int), .slice A9 f.2.2.length c9] 41 (0, 0))) : rH4.wp Tryd.prog (nrm fun a' w' => Sl a' 61 [(1, .int .u8 kd), (2, .slice Ab nb cb), (3, .pointer (some ⟨g3, 0, none⟩)), (6, .pointer (some ⟨g6, 0, none⟩)), (7, .pointer (some ⟨g7, 0, none⟩)), (8, .int .i64 0), (9, .pointer (some ⟨g9, 0, none⟩)), (10, .int .i64 te), (28, .bool t)] ∧ w' = w) a w := by
  obtain ⟨j, rfl, hj⟩ := hS.lit61
  have h1 : j 1 = .int .u8 kd := hj (1, _) (by simp)
  have h2 : j 2 = .slice Ab nb cb := hj (2, _) (by simp)
  have h3 : j 3 = .pointer (some ⟨g3, 0, none⟩) := hj (3, _) (by simp)
  have h6 : j 6 = .pointer (some ⟨g6, 0, none⟩) := hj (6, _) (by simp)
  have h7 : j 7 = .pointer (some ⟨g7, 0, none⟩) := hj (7, _) (by simp)
  have h8 : j 8 = .int .i64 0 := hj (8, _) (by simp)
  have h9 : j 9 = .pointer (some ⟨g9, 0, none⟩) := hj (9, _) (by simp)
  have h10 : j 10 = .int .i64 te := hj (10, _) (by simp)
  clear hj hS
  unfold rH4 rgH bodyH
  simp only [Tryd.f12, Option.getD_some, nthSeq, cfst, csnd, cyes, copsOf, lit61, List.cons_append, List.nil_append, h1, h2, h3, h6, h7, h8, h9, h10]
  have f0 : w.cell? ⟨g9, 0, none⟩ = some (.int .u8 (f.1.toNat : Int)) := cell_at hC9 0
  clear hC9
  by_cases h0 : te = 0
  · subst h0
    simp only [decide_true, Bool.true_and] at ht
    have HT := Lib.hid ht
    clear ht
    go_wp2
    exact ⟨⟨rfl, rfl, by simp [HT.out]⟩, rfl⟩
  · have hd : decide (te = 0) = false := decide_eq_false h0
    rw [hd, Bool.false_and] at ht
    subst ht
    go_wp2
    exact ⟨⟨rfl, rfl, by simp⟩, rfl⟩
theorem lh5 (a : Act) (kd : Int) (Ab : Option Addr) (cb nb : Nat) (g3 g6 g7 : Nat) (g9 : Nat) (te : Int) (hS : Sl a 61 [(1, .int .u8 kd), (2, .slice Ab nb cb), (3, .pointer (some ⟨g3, 0, none⟩)), (6, .pointer (some ⟨g6, 0, none⟩)), (7, .pointer (some ⟨g7, 0, none⟩)), (8, .int .i64 0), (9, .pointer (some ⟨g9, 0, none⟩)), (10, .int .i64 te)]) (w : World)  : rH5.wp Tryd.prog (nrm fun a' w' => Sl a' 61 [(1, .int .u8 kd), (2, .slice Ab nb cb), (3, .pointer (some ⟨g3, 0, none⟩)), (6, .pointer (some ⟨g6, 0, none⟩)), (7, .pointer (some ⟨g7, 0, none⟩)), (8, .int .i64 0), (9, .pointer (some ⟨g9, 0, none⟩)), (10, .int .i64 41)] ∧ w' = w) a w := by
  obtain ⟨j, rfl, hj⟩ := hS.lit61
  have h1 : j 1 = .int .u8 kd := hj (1, _) (by simp)
  have h2 : j 2 = .slice Ab nb cb := hj (2, _) (by simp)
  have h3 : j 3 = .pointer (some ⟨g3, 0, none⟩) := hj (3, _) (by simp)
  have h6 : j 6 = .pointer (some ⟨g6, 0, none⟩) := hj (6, _) (by simp)
  have h7 : j 7 = .pointer (some ⟨g7, 0, none⟩) := hj (7, _) (by simp)
  have h8 : j 8 = .int .i64 0 := hj (8, _) (by simp)
  have h9 : j 9 = .pointer (some ⟨g9, 0, none⟩) := hj (9, _) (by simp)
  have h10 : j 10 = .int .i64 te := hj (10, _) (by simp)
  clear hj hS
  unfold rH5 rgH bodyH
  simp only [Tryd.f12, Option.getD_some, nthSeq, cfst, csnd, cyes, copsOf, lit61, List.cons_append, List.nil_append, h1, h2, h3, h6, h7, h8, h9, h10]
  go_wp2
  exact ⟨⟨rfl, rfl, by simp⟩, rfl⟩
theorem lh6 (a : Act) (kd : Int) (Ab : Option Addr) (cb nb : Nat) (g3 g6 g7 : Nat) (g9 : Nat) (s q e : Int) (N : Nat) (A9 : Option Addr) (c9 : Nat) (f : Frm) (er : Int) (t : Bool) (hs : -1 ≤ s ∧ s < 256) (ht : t = (decide (er = 0) && (decide (0 ≤ s) && !newer (f.2.1.toNat : Int) s))) (hS : Sl a 61 [(1, .int .u8 kd), (2, .slice Ab nb cb), (3, .pointer (some ⟨g3, 0, none⟩)), (6, .pointer (some ⟨g6, 0, none⟩)), (7, .pointer (some ⟨g7, 0, none⟩)), (8, .int .i64 0), (9, .pointer (some ⟨g9, 0, none⟩)), (10, .int .i64 er)]) (w : World) (H : HW w N g3 g6 g7 s q e) (hC9 : w.heap[g9]? = some (.cells #[.int .u8 (f.1.toNat : Int), .int .u8 (f.2.1.toNat : Int), .slice A9 f.2.2.length c9] 41 (0, 0))) : rH6.wp Tryd.prog (nrm fun a' w' => Sl a' 61 [(1, .int .u8 kd), (2, .slice Ab nb cb), (3, .pointer (some ⟨g3, 0, none⟩)), (6, .pointer (some ⟨g6, 0, none⟩)), (7, .pointer (some ⟨g7, 0, none⟩)), (8, .int .i64 0), (9, .pointer (some ⟨g9, 0, none⟩)), (10, .int .i64 er), (44, .bool t)] ∧ w' = w) a w := by
  obtain ⟨j, rfl, hj⟩ := hS.lit61
  have h1 : j 1 = .int .u8 kd := hj (1, _) (by simp)
  have h2 : j 2 = .slice Ab nb cb := hj (2, _) (by simp)
  have h3 : j 3 = .pointer (some ⟨g3, 0, none⟩) := hj (3, _) (by simp)
  have h6 : j 6 = .pointer (some ⟨g6, 0, none⟩) := hj (6, _) (by simp)
  have h7 : j 7 = .pointer (some ⟨g7, 0, none⟩) := hj (7, _) (by simp)
  have h8 : j 8 = .int .i64 0 := hj (8, _) (by simp)
  have h9 : j 9 = .pointer (some ⟨g9, 0, none⟩) := hj (9, _) (by simp)
  have h10 : j 10 = .int .i64 er := hj (10, _) (by simp)
  clear hj hS
  unfold rH6 rgH bodyH
  simp only [Tryd.f12, Option.getD_some, nthSeq, cfst, csnd, cyes, copsOf, lit61, List.cons_append, List.nil_append, h1, h2, h3, h6, h7, h8, h9, h10]
  have f1 : w.cell? ⟨g9, 1, none⟩ = some (.int .u8 (f.2.1.toNat : Int)) := cell_at hC9 1
  have x0 := H.l3.c0
  have h21 := f.2.1.isLt
  obtain ⟨fs, hfs⟩ : ∃ fs : Int, (f.2.1.toNat : Int) = fs := ⟨_, rfl⟩
  have hf0 : 0 ≤ fs := by omega
  have hf1 : fs < 256 := by omega
  rw [hfs] at f1 ht
  clear hC9 H h21 hfs
  by_cases h0 : er = 0
  · subst h0
    by_cases hp : 0 ≤ s
    · obtain ⟨r, hr⟩ : ∃ r, r = newer fs s := ⟨_, rfl⟩
      have hd : decide (0 ≤ s) = true := decide_eq_true hp
      rw [hd, ← hr] at ht
      simp only [decide_true, Bool.true_and] at ht
      have HT := Lib.hid ht
      have HR := Lib.hid hr
      have hsb : s < 256 := hs.2
      have hwu : IntKind.u8.wrap s = s := by simp [IntKind.wrap, IntKind.signed, IntKind.bits]; omega
      clear ht hr hs
      go_wp2_with fail
      refine (refNewer_g fs s r w HR.out hf0 hf1 hp hsb).mono ?_
      rintro e' W' ⟨rfl, rfl⟩
      go_wp2
      exact ⟨⟨rfl, rfl, by simp [HT.out]⟩, rfl⟩
    · have hd : decide (0 ≤ s) = false := decide_eq_false hp
      rw [hd] at ht
      simp only [decide_true, Bool.true_and, Bool.false_and] at ht
      subst ht
      clear hs
      go_wp2
      exact ⟨⟨rfl, rfl, by simp⟩, rfl⟩
  · have hd : decide (er = 0) = false := decide_eq_false h0
    rw [hd, Bool.false_and] at ht
    subst ht
    clear hs
    go_wp2
    exact ⟨⟨rfl, rfl, by simp⟩, rfl⟩
theorem lh7 (a : Act) (kd : Int) (Ab : Option Addr) (cb nb : Nat) (g3 g6 g7 : Nat) (g9 : Nat) (er : Int) (hS : Sl a 61 [(1, .int .u8 kd), (2, .slice Ab nb cb), (3, .pointer (some ⟨g3, 0, none⟩)), (6, .pointer (some ⟨g6, 0, none⟩)), (7, .pointer (some ⟨g7, 0, none⟩)), (8, .int .i64 0), (9, .pointer (some ⟨g9, 0, none⟩)), (10, .int .i64 er)]) (w : World)  : rH7.wp Tryd.prog (nrm fun a' w' => Sl a' 61 [(1, .int .u8 kd), (2, .slice Ab nb cb), (3, .pointer (some ⟨g3, 0, none⟩)), (6, .pointer (some ⟨g6, 0, none⟩)), (7, .pointer (some ⟨g7, 0, none⟩)), (8, .int .i64 0), (9, .pointer (some ⟨g9, 0, none⟩)), (10, .int .i64 290)] ∧ w' = w) a w := by
  obtain ⟨j, rfl, hj⟩ := hS.lit61
  have h1 : j 1 = .int .u8 kd := hj (1, _) (by simp)
  have h2 : j 2 = .slice Ab nb cb := hj (2, _) (by simp)
  have h3 : j 3 = .pointer (some ⟨g3, 0, none⟩) := hj (3, _) (by simp)
  have h6 : j 6 = .pointer (some ⟨g6, 0, none⟩) := hj (6, _) (by simp)
  have h7 : j 7 = .pointer (some ⟨g7, 0, none⟩) := hj (7, _) (by simp)
  have h8 : j 8 = .int .i64 0 := hj (8, _) (by simp)
  have h9 : j 9 = .pointer (some ⟨g9, 0, none⟩) := hj (9, _) (by simp)
  have h10 : j 10 = .int .i64 er := hj (10, _) (by simp)
  clear hj hS
  unfold rH7 rgH bodyH
  simp only [Tryd.f12, Option.getD_some, nthSeq, cfst, csnd, cyes, copsOf, lit61, List.cons_append, List.nil_append, h1, h2, h3, h6, h7, h8, h9, h10]
  go_wp2
  exact ⟨⟨rfl, rfl, by simp⟩, rfl⟩
theorem lh8 (a : Act) (kd : Int) (Ab : Option Addr) (cb nb : Nat) (g3 g6 g7 : Nat) (g9 : Nat) (er : Int) (t : Bool) (ht : t = (er != 0)) (hS : Sl a 61 [(1, .int .u8 kd), (2, .slice Ab nb cb), (3, .pointer (some ⟨g3, 0, none⟩)), (6, .pointer (some ⟨g6, 0, none⟩)), (7, .pointer (some ⟨g7, 0, none⟩)), (8, .int .i64 0), (9, .pointer (some ⟨g9, 0, none⟩)), (10, .int .i64 er)]) (w : World)  : rH8.wp Tryd.prog (nrm fun a' w' => Sl a' 61 [(1, .int .u8 kd), (2, .slice Ab nb cb), (3, .pointer (some ⟨g3, 0, none⟩)), (6, .pointer (some ⟨g6, 0, none⟩)), (7, .pointer (some ⟨g7, 0, none⟩)), (8, .int .i64 0), (9, .pointer (some ⟨g9, 0, none⟩)), (10, .int .i64 er), (46, .bool t)] ∧ w' = w) a w := by
  obtain ⟨j, rfl, hj⟩ := hS.lit61
  have h1 : j 1 = .int .u8 kd := hj (1, _) (by simp)
  have h2 : j 2 = .slice Ab nb cb := hj (2, _) (by simp)
  have h3 : j 3 = .pointer (some ⟨g3, 0, none⟩) := hj (3, _) (by simp)
  have h6 : j 6 = .pointer (some ⟨g6, 0, none⟩) := hj (6, _) (by simp)
  have h7 : j 7 = .pointer (some ⟨g7, 0, none⟩) := hj (7, _) (by simp)
  have h8 : j 8 = .int .i64 0 := hj (8, _) (by simp)
  have h9 : j 9 = .pointer (some ⟨g9, 0, none⟩) := hj (9, _) (by simp)
  have h10 : j 10 = .int .i64 er := hj (10, _) (by simp)
  clear hj hS
  unfold rH8 rgH bodyH
  simp only [Tryd.f12, Option.getD_some, nthSeq, cfst, csnd, cyes, copsOf, lit61, List.cons_append, List.nil_append, h1, h2, h3, h6, h7, h8, h9, h10]
  subst ht
  go_wp2
  exact ⟨⟨rfl, rfl, by simp⟩, rfl⟩
theorem lh9 (a : Act) (kd : Int) (Ab : Option Addr) (cb nb : Nat) (g3 g6 g7 : Nat) (g9 : Nat) (er : Int) (s q e : Int) (N : Nat) (w0 : World) (E : Int) (hE : E = onV e 1 65535) (hS : Sl a 61 [(1, .int .u8 kd), (2, .slice Ab nb cb), (3, .pointer (some ⟨g3, 0, none⟩)), (6, .pointer (some ⟨g6, 0, none⟩)), (7, .pointer (some ⟨g7, 0, none⟩)), (8, .int .i64 0), (9, .pointer (some ⟨g9, 0, none⟩)), (10, .int .i64 er)]) (w : World) (H : HW w N g3 g6 g7 s q e) (b0 : Below N w0 w) (hN : N ≤ w.heap.size) : rH9.wp Tryd.prog (nrm fun a' w' => Sl a' 61 [(1, .int .u8 kd), (2, .slice Ab nb cb), (3, .pointer (some ⟨g3, 0, none⟩)), (6, .pointer (some ⟨g6, 0, none⟩)), (7, .pointer (some ⟨g7, 0, none⟩)), (8, .int .i64 0), (9, .pointer (some ⟨g9, 0, none⟩)), (10, .int .i64 er)] ∧ HW w' N g3 g6 g7 s q E ∧ Below N w0 w') a w := by
  obtain ⟨j, rfl, hj⟩ := hS.lit61
  have h1 : j 1 = .int .u8 kd := hj (1, _) (by simp)
  have h2 : j 2 = .slice Ab nb cb := hj (2, _) (by simp)
  have h3 : j 3 = .pointer (some ⟨g3, 0, none⟩) := hj (3, _) (by simp)
  have h6 : j 6 = .pointer (some ⟨g6, 0, none⟩) := hj (6, _) (by simp)
  have h7 : j 7 = .pointer (some ⟨g7, 0, none⟩) := hj (7, _) (by simp)
  have h8 : j 8 = .int .i64 0 := hj (8, _) (by simp)
  have h9 : j 9 = .pointer (some ⟨g9, 0, none⟩) := hj (9, _) (by simp)
  have h10 : j 10 = .int .i64 er := hj (10, _) (by simp)
  clear hj hS
  unfold rH9 rgH bodyH
  simp only [Tryd.f12, Option.getD_some, nthSeq, cfst, csnd, cyes, copsOf, lit61, List.cons_append, List.nil_append, h1, h2, h3, h6, h7, h8, h9, h10]
  have x2 := H.l3.c2
  go_wp2_with fail
  refine (r3More_v e w).mono ?_
  rintro e' W ⟨rfl, b⟩
  rw [← hE]
  have H1 := H.later b
  have b1 := b0.trans (b.mono hN)
  have e2 := free_at H1.l3.at_ 2
  have H2 : HW (W.setCell ⟨g3, 2, none⟩ (.int .i64 E)) N g3 g6 g7 s q E := ⟨H1.l3.set1 _, ⟨frame_far1 H1.l6.at_ (Ne.symm H1.ne.1) _⟩, frame_far1 H1.f7 (Ne.symm H1.ne.2.1) _, H1.ge, H1.ne⟩
  have B2 := b1.setCell (p := ⟨g3, 2, none⟩) H1.ge.1 (.int .i64 E)
  have x2' := H1.l3.c2
  clear H H1 b1 b0 b hN x2
  clear hE
  go_wp2
  exact ⟨⟨rfl, rfl, by simp⟩, H2, B2⟩
theorem lh10 (a : Act) (kd : Int) (Ab : Option Addr) (cb nb : Nat) (g3 g6 g7 : Nat) (g9 : Nat) (er : Int) (s q e : Int) (N : Nat) (w0 : World) (hS : Sl a 61 [(1, .int .u8 kd), (2, .slice Ab nb cb), (3, .pointer (some ⟨g3, 0, none⟩)), (6, .pointer (some ⟨g6, 0, none⟩)), (7, .pointer (some ⟨g7, 0, none⟩)), (8, .int .i64 0), (9, .pointer (some ⟨g9, 0, none⟩)), (10, .int .i64 er)]) (w : World) (H : HW w N g3 g6 g7 s q e) (b0 : Below N w0 w) : rH10.wp Tryd.prog (nrm fun a' w' => Sl a' 61 [(1, .int .u8 kd), (2, .slice Ab nb cb), (3, .pointer (some ⟨g3, 0, none⟩)), (6, .pointer (some ⟨g6, 0, none⟩)), (7, .pointer (some ⟨g7, 0, none⟩)), (8, .int .i64 er), (9, .pointer (some ⟨g9, 0, none⟩)), (10, .int .i64 er)] ∧ LVar w' g6 s q e ∧ w'.heap[g7]? = some (.cells #[.int .u8 0, .int .u8 0, .slice none 0 0] 41 (0, 0)) ∧ Below N w0 w') a w := by
  obtain ⟨j, rfl, hj⟩ := hS.lit61
  have h1 : j 1 = .int .u8 kd := hj (1, _) (by simp)
  have h2 : j 2 = .slice Ab nb cb := hj (2, _) (by simp)
  have h3 : j 3 = .pointer (some ⟨g3, 0, none⟩) := hj (3, _) (by simp)
  have h6 : j 6 = .pointer (some ⟨g6, 0, none⟩) := hj (6, _) (by simp)
  have h7 : j 7 = .pointer (some ⟨g7, 0, none⟩) := hj (7, _) (by simp)
  have h8 : j 8 = .int .i64 0 := hj (8, _) (by simp)
  have h9 : j 9 = .pointer (some ⟨g9, 0, none⟩) := hj (9, _) (by simp)
  have h10 : j 10 = .int .i64 er := hj (10, _) (by simp)
  clear hj hS
  unfold rH10 rgH bodyH
  simp only [Tryd.f12, Option.getD_some, nthSeq, cfst, csnd, cyes, copsOf, lit61, List.cons_append, List.nil_append, h1, h2, h3, h6, h7, h8, h9, h10]
  have x0 := H.l3.c0
  have x1 := H.l3.c1
  have x2 := H.l3.c2
  have y0 := H.l6.c0
  have y1 := H.l6.c1
  have y2 := H.l6.c2
  have f0 := cell_at H.f7 0
  have f1 := cell_at H.f7 1
  have f2 := cell_at H.f7 2
  have e0 := free_at H.l6.at_ 0
  have e1 := free_at H.l6.at_ 1
  have e2 := free_at H.l6.at_ 2
  have h0 := free_at H.f7 0
  have h1 := free_at H.f7 1
  have h2 := free_at H.f7 2
  have n67 := H.ne.2.2
  have L6 := H.l6.set3 s q e
  have G7 := frame_far3 H.f7 (g' := g6) (Ne.symm n67) s q e
  have L6' := frame_far3' L6.at_ n67 (.int .u8 0) (.int .u8 0) (.slice none 0 0)
  have G7' := set_at (set_at (set_at G7 0 (.int .u8 0)) 1 (.int .u8 0)) 2 (.slice none 0 0)
  have B2 := (((((b0.setCell (p := ⟨g6, 0, none⟩) H.ge.2.1 (.int .i64 s)).setCell (p := ⟨g6, 1, none⟩) H.ge.2.1 (.int .i64 q)).setCell (p := ⟨g6, 2, none⟩) H.ge.2.1 (.int .i64 e)).setCell (p := ⟨g7, 0, none⟩) H.ge.2.2 (.int .u8 0)).setCell (p := ⟨g7, 1, none⟩) H.ge.2.2 (.int .u8 0)).setCell (p := ⟨g7, 2, none⟩) H.ge.2.2 (.slice none 0 0)
  simp only [List.setIfInBounds_toArray, List.set_cons_zero, List.set_cons_succ] at G7'
  have HL := Lib.hid L6'
  have HG := Lib.hid G7'
  have HB := Lib.hid B2
  clear H L6 G7 L6' G7' B2 b0
  go_wp2
  exact ⟨⟨rfl, rfl, by simp⟩, ⟨HL.out⟩, HG.out, HB.out⟩
theorem lh11 (a : Act) (kd : Int) (Ab : Option Addr) (cb nb : Nat) (g3 g6 g7 : Nat) (g9 : Nat) (er : Int) (s q e : Int) (N : Nat) (w0 : World) (A9 : Option Addr) (c9 : Nat) (f : Frm) (hS : Sl a 61 [(1, .int .u8 kd), (2, .slice Ab nb cb), (3, .pointer (some ⟨g3, 0, none⟩)), (6, .pointer (some ⟨g6, 0, none⟩)), (7, .pointer (some ⟨g7, 0, none⟩)), (8, .int .i64 0), (9, .pointer (some ⟨g9, 0, none⟩)), (10, .int .i64 er)]) (w : World) (H : HW w N g3 g6 g7 s q e) (b0 : Below N w0 w) (hC9 : w.heap[g9]? = some (.cells #[.int .u8 (f.1.toNat : Int), .int .u8 (f.2.1.toNat : Int), .slice A9 f.2.2.length c9] 41 (0, 0))) (n9 : g3 ≠ g9) : (rgH 6).wp Tryd.prog (nrm fun a' w' => Sl a' 61 [(1, .int .u8 kd), (2, .slice Ab nb cb), (3, .pointer (some ⟨g3, 0, none⟩)), (6, .pointer (some ⟨g6, 0, none⟩)), (7, .pointer (some ⟨g7, 0, none⟩)), (8, .int .i64 0), (9, .pointer (some ⟨g9, 0, none⟩)), (10, .int .i64 er)] ∧ HW w' N g3 g6 g7 (f.2.1.toNat : Int) q e ∧ Below N w0 w' ∧ w'.heap[g9]? = some (.cells #[.int .u8 (f.1.toNat : Int), .int .u8 (f.2.1.toNat : Int), .slice A9 f.2.2.length c9] 41 (0, 0)) ∧ (∀ v : Value, SliceAt w 1 v f.2.2.length (u8s f.2.2) → SliceAt w' 1 v f.2.2.length (u8s f.2.2))) a w := by
  obtain ⟨j, rfl, hj⟩ := hS.lit61
  have h1 : j 1 = .int .u8 kd := hj (1, _) (by simp)
  have h2 : j 2 = .slice Ab nb cb := hj (2, _) (by simp)
  have h3 : j 3 = .pointer (some ⟨g3, 0, none⟩) := hj (3, _) (by simp)
  have h6 : j 6 = .pointer (some ⟨g6, 0, none⟩) := hj (6, _) (by simp)
  have h7 : j 7 = .pointer (some ⟨g7, 0, none⟩) := hj (7, _) (by simp)
  have h8 : j 8 = .int .i64 0 := hj (8, _) (by simp)
  have h9 : j 9 = .pointer (some ⟨g9, 0, none⟩) := hj (9, _) (by simp)
  have h10 : j 10 = .int .i64 er := hj (10, _) (by simp)
  clear hj hS
  unfold rgH bodyH
  simp only [Tryd.f12, Option.getD_some, nthSeq, cfst, csnd, cyes, copsOf, lit61, List.cons_append, List.nil_append, h1, h2, h3, h6, h7, h8, h9, h10]
  have f1 : w.cell? ⟨g9, 1, none⟩ = some (.int .u8 (f.2.1.toNat : Int)) := cell_at hC9 1
  have h21 := f.2.1.isLt
  have e0 := free_at H.l3.at_ 0
  have x0 := H.l3.c0
  have L3 : LVar (w.setCell ⟨g3, 0, none⟩ (.int .i64 (f.2.1.toNat : Int))) g3 (f.2.1.toNat : Int) q e := ⟨by rw [set_at H.l3.at_ 0 _]; simp⟩
  have H2 : HW (w.setCell ⟨g3, 0, none⟩ (.int .i64 (f.2.1.toNat : Int))) N g3 g6 g7 (f.2.1.toNat : Int) q e := ⟨L3, ⟨frame_far1 H.l6.at_ (Ne.symm H.ne.1) _⟩, frame_far1 H.f7 (Ne.symm H.ne.2.1) _, H.ge, H.ne⟩
  have B2 := b0.setCell (p := ⟨g3, 0, none⟩) H.ge.1 (.int .i64 (f.2.1.toNat : Int))
  have C2 := frame_far1 (i := 0) hC9 (Ne.symm n9) (.int .i64 (f.2.1.toNat : Int))
  have S2 : ∀ v : Value, SliceAt w 1 v f.2.2.length (u8s f.2.2) → SliceAt (w.setCell ⟨g3, 0, none⟩ (.int .i64 (f.2.1.toNat : Int))) 1 v f.2.2.length (u8s f.2.2) := fun v h => Mem.SliceAt.beside h H.l3 (by simp) fun i hi => Below.heap_setCell _ _ _ _ hi
  have hw64 : IntKind.i64.wrap (f.2.1.toNat : Int) = (f.2.1.toNat : Int) := IntWalk.i64_in _ (by omega)
  clear H b0 hC9 L3
  generalize (f.2.1.toNat : Int) = fs at *
  go_wp2
  exact ⟨⟨rfl, rfl, by simp⟩, H2, B2, C2, S2⟩
theorem lh12 (a : Act) (kd : Int) (Ab : Option Addr) (cb nb : Nat) (g3 g6 g7 : Nat) (g9 : Nat) (er : Int) (s q e : Int) (N : Nat) (w0 : World) (A9 : Option Addr) (c9 : Nat) (f : Frm) (hS : Sl a 61 [(1, .int .u8 kd), (2, .slice Ab nb cb), (3, .pointer (some ⟨g3, 0, none⟩)), (6, .pointer (some ⟨g6, 0, none⟩)), (7, .pointer (some ⟨g7, 0, none⟩)), (8, .int .i64 0), (9, .pointer (some ⟨g9, 0, none⟩)), (10, .int .i64 er)]) (w : World) (H : HW w N g3 g6 g7 s q e) (b0 : Below N w0 w) (hC9 : w.heap[g9]? = some (.cells #[.int .u8 (f.1.toNat : Int), .int .u8 (f.2.1.toNat : Int), .slice A9 f.2.2.length c9] 41 (0, 0))) (n9 : g3 ≠ g9) : (rgH 7).wp Tryd.prog (nrm fun a' w' => Sl a' 61 [(1, .int .u8 kd), (2, .slice Ab nb cb), (3, .pointer (some ⟨g3, 0, none⟩)), (6, .pointer (some ⟨g6, 0, none⟩)), (7, .pointer (some ⟨g7, 0, none⟩)), (8, .int .i64 0), (9, .pointer (some ⟨g9, 0, none⟩)), (10, .int .i64 er)] ∧ HW w' N g3 g6 g7 s 0 e ∧ Below N w0 w' ∧ w'.heap[g9]? = some (.cells #[.int .u8 (f.1.toNat : Int), .int .u8 (f.2.1.toNat : Int), .slice A9 f.2.2.length c9] 41 (0, 0)) ∧ (∀ v : Value, SliceAt w 1 v f.2.2.length (u8s f.2.2) → SliceAt w' 1 v f.2.2.length (u8s f.2.2))) a w := by
  obtain ⟨j, rfl, hj⟩ := hS.lit61
  have h1 : j 1 = .int .u8 kd := hj (1, _) (by simp)
  have h2 : j 2 = .slice Ab nb cb := hj (2, _) (by simp)
  have h3 : j 3 = .pointer (some ⟨g3, 0, none⟩) := hj (3, _) (by simp)
  have h6 : j 6 = .pointer (some ⟨g6, 0, none⟩) := hj (6, _) (by simp)
  have h7 : j 7 = .pointer (some ⟨g7, 0, none⟩) := hj (7, _) (by simp)
  have h8 : j 8 = .int .i64 0 := hj (8, _) (by simp)
  have h9 : j 9 = .pointer (some ⟨g9, 0, none⟩) := hj (9, _) (by simp)
  have h10 : j 10 = .int .i64 er := hj (10, _) (by simp)
  clear hj hS
  unfold rgH bodyH
  simp only [Tryd.f12, Option.getD_some, nthSeq, cfst, csnd, cyes, copsOf, lit61, List.cons_append, List.nil_append, h1, h2, h3, h6, h7, h8, h9, h10]
  have e0 := free_at H.l3.at_ 1
  have x0 := H.l3.c1
  have L3 : LVar (w.setCell ⟨g3, 1, none⟩ (.int .i64 0)) g3 s 0 e := ⟨by rw [set_at H.l3.at_ 1 _]; simp⟩
  have H2 : HW (w.setCell ⟨g3, 1, none⟩ (.int .i64 0)) N g3 g6 g7 s 0 e := ⟨L3, ⟨frame_far1 H.l6.at_ (Ne.symm H.ne.1) _⟩, frame_far1 H.f7 (Ne.symm H.ne.2.1) _, H.ge, H.ne⟩
  have B2 := b0.setCell (p := ⟨g3, 1, none⟩) H.ge.1 (.int .i64 0)
  have C2 := frame_far1 (i := 1) hC9 (Ne.symm n9) (.int .i64 0)
  have S2 : ∀ v : Value, SliceAt w 1 v f.2.2.length (u8s f.2.2) → SliceAt (w.setCell ⟨g3, 1, none⟩ (.int .i64 0)) 1 v f.2.2.length (u8s f.2.2) := fun v h => Mem.SliceAt.beside h H.l3 (by simp) fun i hi => Below.heap_setCell _ _ _ _ hi
  clear H b0 hC9 L3
  go_wp2
  exact ⟨⟨rfl, rfl, by simp⟩, H2, B2, C2, S2⟩
set_option maxHeartbeats 4000000 in
theorem lh13 (a : Act) (kd : Int) (Ab : Option Addr) (cb nb : Nat) (g3 g6 g7 : Nat) (g9 : Nat) (er : Int) (s q e : Int) (N : Nat) (w0 : World) (A9 : Option Addr) (c9 : Nat) (f : Frm) (hS : Sl a 61 [(1, .int .u8 kd), (2, .slice Ab nb cb), (3, .pointer (some ⟨g3, 0, none⟩)), (6, .pointer (some ⟨g6, 0, none⟩)), (7, .pointer (some ⟨g7, 0, none⟩)), (8, .int .i64 0), (9, .pointer (some ⟨g9, 0, none⟩)), (10, .int .i64 er)]) (w : World) (H : HW w N g3 g6 g7 s q e) (b0 : Below N w0 w) (hC9 : w.heap[g9]? = some (.cells #[.int .u8 (f.1.toNat : Int), .int .u8 (f.2.1.toNat : Int), .slice A9 f.2.2.length c9] 41 (0, 0))) (n9 : g6 ≠ g9 ∧ g7 ≠ g9) (hp : SliceAt w 1 (.slice A9 f.2.2.length c9) f.2.2.length (u8s f.2.2)) (hq : ∀ q, VB (.slice A9 f.2.2.length c9) f.2.2.length q → q ≠ g7) : (rgH 8).wp Tryd.prog (nrm fun a' w' => Sl a' 61 [(1, .int .u8 kd), (2, .slice Ab nb cb), (3, .pointer (some ⟨g3, 0, none⟩)), (6, .pointer (some ⟨g6, 0, none⟩)), (7, .pointer (some ⟨g7, 0, none⟩)), (8, .int .i64 0), (9, .pointer (some ⟨g9, 0, none⟩)), (10, .int .i64 er)] ∧ LVar w' g6 s q e ∧ w'.heap[g7]? = some (.cells #[.int .u8 (f.1.toNat : Int), .int .u8 (f.2.1.toNat : Int), .slice A9 f.2.2.length c9] 41 (0, 0)) ∧ SliceAt w' 1 (.slice A9 f.2.2.length c9) f.2.2.length (u8s f.2.2) ∧ Below N w0 w') a w := by
  obtain ⟨j, rfl, hj⟩ := hS.lit61
  have h1 : j 1 = .int .u8 kd := hj (1, _) (by simp)
  have h2 : j 2 = .slice Ab nb cb := hj (2, _) (by simp)
  have h3 : j 3 = .pointer (some ⟨g3, 0, none⟩) := hj (3, _) (by simp)
  have h6 : j 6 = .pointer (some ⟨g6, 0, none⟩) := hj (6, _) (by simp)
  have h7 : j 7 = .pointer (some ⟨g7, 0, none⟩) := hj (7, _) (by simp)
  have h8 : j 8 = .int .i64 0 := hj (8, _) (by simp)
  have h9 : j 9 = .pointer (some ⟨g9, 0, none⟩) := hj (9, _) (by simp)
  have h10 : j 10 = .int .i64 er := hj (10, _) (by simp)
  clear hj hS
  unfold rgH bodyH
  simp only [Tryd.f12, Option.getD_some, nthSeq, cfst, csnd, cyes, copsOf, lit61, List.cons_append, List.nil_append, h1, h2, h3, h6, h7, h8, h9, h10]
  refine wp_region_held_drew (S := (fun w' => LVar w' g3 s q e ∧ w'.heap[g9]? = some (.cells #[.int .u8 (f.1.toNat : Int), .int .u8 (f.2.1.toNat : Int), .slice A9 f.2.2.length c9] 41 (0, 0)))) (by kernel_rfl) ?_ (fun hHeld => ?_)
  · exact ⟨⟨H.l3.at_⟩, hC9⟩
  have Bd := b0.drew
  have L3 : LVar w.drew g3 s q e := ⟨H.l3.at_⟩
  have L6 : LVar w.drew g6 0 0 0 := ⟨H.l6.at_⟩
  have F7 : w.drew.heap[g7]? = some (.cells #[.int .u8 0, .int .u8 0, .slice none 0 0] 41 (0, 0)) := H.f7
  have H9 : w.drew.heap[g9]? = some (.cells #[.int .u8 (f.1.toNat : Int), .int .u8 (f.2.1.toNat : Int), .slice A9 f.2.2.length c9] 41 (0, 0)) := hC9
  have hp := hp.later (Below.refl _ w).drew
  obtain ⟨k1, k2, k3⟩ := H.ge
  obtain ⟨m1, m2, m3⟩ := H.ne
  clear hHeld H hC9 b0
  generalize w.drew = V at *
  have hHeld : LVar V g3 s q e ∧ V.heap[g9]? = some (.cells #[.int .u8 (f.1.toNat : Int), .int .u8 (f.2.1.toNat : Int), .slice A9 f.2.2.length c9] 41 (0, 0)) := ⟨L3, H9⟩
  refine Node.tk 0 (lk s q e) rfl (fun _ hSw => run_ld hSw.1 rfl rfl) ?_
  simp only [zA, zS, zZ, Act.put, zP, zQ, zR]
  refine Node.tk 1 (.agg #[.int .u8 (f.1.toNat : Int), .int .u8 (f.2.1.toNat : Int), .slice A9 f.2.2.length c9]) rfl (fun w' hSw => run_fr (k := 0) (cell_at hSw.2 0) (cell_at hSw.2 1) (cell_at hSw.2 2) rfl rfl) ?_
  simp only [zA, zS, zZ, Act.put, zP, zQ, zR]
  refine Node.on 2 rfl (fun K hK => ?_)
  refine wp_st_lk L6 rfl rfl rfl rfl ?_
  have L3' := L3.far3 (g' := g6) m1 s q e
  have H9' := frame_far3 H9 (g' := g6) (Ne.symm n9.1) s q e
  have F7' := frame_far3 F7 (g' := g6) (Ne.symm m3) s q e
  have L6' := L6.set3 s q e
  have B2 := ((Bd.setCell (p := ⟨g6, 0, none⟩) k2 (.int .i64 s)).setCell (p := ⟨g6, 1, none⟩) k2 (.int .i64 q)).setCell (p := ⟨g6, 2, none⟩) k2 (.int .i64 e)
  have hp' := bytes_far hp L6 (.int .i64 s) (.int .i64 q) (.int .i64 e)
  clear L3 H9 F7 L6 Bd hp hHeld
  generalize ((V.setCell ⟨g6, 0, none⟩ (.int .i64 s)).setCell ⟨g6, 1, none⟩ (.int .i64 q)).setCell ⟨g6, 2, none⟩ (.int .i64 e) = V2 at *
  refine hK.out _ _ ⟨L3', H9'⟩ (fun hHeld => ?_)
  clear hK K
  try simp only [zA, zS, zZ, Act.put, zP, zQ, zR]
  refine Node.on 3 rfl (fun K hK => ?_)
  refine wp_st_fr F7' rfl rfl rfl rfl ?_
  obtain ⟨x1, x2, x3⟩ : _ ∧ _ ∧ _ := ⟨set_at (set_at (set_at F7' 0 (.int .u8 (f.1.toNat : Int))) 1 (.int .u8 (f.2.1.toNat : Int))) 2 (.slice A9 f.2.2.length c9), slice_keep hp' (keep3 V2 g7 (.int .u8 (f.1.toNat : Int)) (.int .u8 (f.2.1.toNat : Int)) (.slice A9 f.2.2.length c9)) hq, frame_far3' L6'.at_ m3 (.int .u8 (f.1.toNat : Int)) (.int .u8 (f.2.1.toNat : Int)) (.slice A9 f.2.2.length c9)⟩
  have B3 := ((B2.setCell (p := ⟨g7, 0, none⟩) k3 (.int .u8 (f.1.toNat : Int))).setCell (p := ⟨g7, 1, none⟩) k3 (.int .u8 (f.2.1.toNat : Int))).setCell (p := ⟨g7, 2, none⟩) k3 (.slice A9 f.2.2.length c9)
  simp only [List.setIfInBounds_toArray, List.set_cons_zero, List.set_cons_succ] at x1
  refine hK.out _ _ ⟨⟨frame_far3' L3'.at_ m2 _ _ _⟩, frame_far3' H9' (Ne.symm n9.2) _ _ _⟩ (fun hHeld => ?_)
  clear hK K
  generalize ((V2.setCell ⟨g7, 0, none⟩ (.int .u8 (f.1.toNat : Int))).setCell ⟨g7, 1, none⟩ (.int .u8 (f.2.1.toNat : Int))).setCell ⟨g7, 2, none⟩ (.slice A9 f.2.2.length c9) = V3 at *
  try simp only [zA, zS, zZ, Act.put, zP, zQ, zR]
  refine Node.tk 4 ?_ rfl ?_ ?_
  rotate_left
  · intro w hSw; (try dsimp only at hSw); go_simp; try with_reducible rfl
  simp only [zA, zS, zZ, Act.put, zP, zQ, zR]
  refine wpAnyH_done (by kernel_rfl) ?_ _
  exact ⟨⟨rfl, rfl, by simp⟩, ⟨x3⟩, x1, x2, B3⟩

end Go.Proofs.YtlanlkpamnoekaaDoor
namespace Go.Proofs.YtlanlkpamnoekaaDoor
open Go Go.RowKit Rf Mem Bv Crc Str Lk
set_option maxRecDepth 100000
def e41 (kd te : Int) (f : Frm) : Int := if (decide (te = 0) && ((f.1.toNat : Int) != kd)) = true then 41 else te
def e290 (er s : Int) (f : Frm) : Int := if (decide (er = 0) && (decide (0 ≤ s) && !newer (f.2.1.toNat : Int) s)) = true then 290 else er
theorem hear_by (kd : Int) (b : List (BitVec 8)) (x : Lst) (f : Frm) (te : Int) (hb : takeV b = (f.1, f.2.1, f.2.2, te)) (hr : rightL x.1 x.2.1 x.2.2 = true) :
    hearV kd b x = if e290 (e41 kd te f) x.1 f ≠ 0 then ((x.1, x.2.1, onV x.2.2 1 65535), e290 (e41 kd te f) x.1 f, noF) else (((f.2.1.toNat : Int), 0, x.2.2), 0, f) := by
  have h0 : ¬ rightL x.1 x.2.1 x.2.2 = false := by rw [hr]; decide
  unfold hearV
  rw [if_neg h0]
  simp only [hb]
  by_cases h1 : te = 0
  · subst h1
    rw [if_neg (by simp)]
    by_cases h2 : (f.1.toNat : Int) = kd
    · have e1 : e41 kd 0 f = 0 := by unfold e41; simp [h2]
      rw [if_neg (by simp [h2]), e1]
      by_cases h3 : 0 ≤ x.1 ∧ newer (f.2.1.toNat : Int) x.1 = false
      · have e2 : e290 0 x.1 f = 290 := by unfold e290; simp [h3.1, h3.2]
        rw [if_pos h3, e2, if_pos (by decide)]
      · have e2 : e290 0 x.1 f = 0 := by
          unfold e290
          rw [if_neg]
          intro h
          simp only [decide_true, Bool.true_and, Bool.and_eq_true, decide_eq_true_eq, Bool.not_eq_true'] at h
          exact h3 h
        rw [if_neg h3, e2, if_neg (by simp)]
    · have e1 : e41 kd 0 f = 41 := by unfold e41; simp [h2]
      have e2 : e290 41 x.1 f = 41 := by unfold e290; simp
      rw [if_pos h2, e1, e2, if_pos (by decide)]
  · have e1 : e41 kd te f = te := by unfold e41; simp [h1]
    have e2 : e290 te x.1 f = te := by unfold e290; simp [h1]
    rw [if_pos h1, e1, e2, if_pos h1]

theorem r29Hear_v (x : Lst) (kind : Int) (v : Value) (b : List (BitVec 8)) (w : World) (r : Lst × Int × Frm) (hr : r = hearV kind b x) (hs : SliceAt w 1 v b.length (u8s b)) (hl2 : b.length ≤ 140737488355320) :
    Calls Tryd.prog 12 #[lkv x, .int .u8 kind, v] w fun y w' => ∃ A c, y = .returned (.tuple #[lkv r.1, fval r.2.2 (.slice A r.2.2.2.2.length c), .int .i64 r.2.1]) ∧ Below w.heap.size w w' ∧ SliceAt w' 1 (.slice A r.2.2.2.2.length c) r.2.2.2.2.length (u8s r.2.2.2.2) ∧ ∀ q, VB (.slice A r.2.2.2.2.length c) r.2.2.2.2.length q → w.heap.size ≤ q := by
  obtain ⟨s, q, e⟩ := x
  obtain ⟨Ab, cb, rfl, _⟩ := hs.form
  refine calls_of_wp (c := bodyH) Tryd.func12 rfl ?_
  rw [Tryd.ntmps12, bodyH_eq]
  refine seq_nrm (lh0 _ kind Ab cb b.length s q e ⟨rfl, by simp, by simp⟩ w) fun a0 W0 ⟨g3, g6, g7, t0, H0, b0⟩ => ?_
  refine wp_seq ?_
  rw [rgH1_eq]
  obtain ⟨t, ht⟩ : ∃ t, t = rightL s q e := ⟨_, rfl⟩
  refine seq_nrm (lh1 a0 kind Ab cb b.length g3 g6 g7 s q e w.heap.size t ht t0 W0 H0) fun a1 W1 ⟨t1, b1⟩ => ?_
  have H1 := H0.later b1
  have B1 := below_step b0 b1
  have e13 : a1.tmps[13]? = some (.bool (!t)) := t1.get (by simp)
  refine wp_cond (t := !t) (by simp [Act.eval, e13]) ?_
  cases t with
  | false =>
    have hR : hearV kind b (s, q, e) = ((s, q, e), 2, noF) := by unfold hearV; rw [if_pos ht.symm]
    rw [hR] at hr
    subst hr
    refine seq_nrm (lh2 a1 kind Ab cb b.length g3 g6 g7 s q e w.heap.size w (t1.sub (by simp)) W1 H1 B1) fun a2 W2 ⟨t2, l6, f7, b2⟩ => ?_
    refine wp_ret ⟨t2.defers, _, res_hear (t := 6) (u := 7) (v := 8) rfl (t2.getD (by simp)) (t2.getD (by simp)) l6.at_ f7, none, 0, ?_, b2, SliceAt.nil_ _ _, fun q hq => absurd hq.1 (by simp [noF])⟩
    rw [t2.getD (i := 8) (v := .int .i64 2) (by simp)]
    rfl
  | true =>
    refine wp_skip ?_
    have hb' := right_e (x := (s, q, e)) ht.symm
    obtain ⟨f, te, hf⟩ : ∃ (f : Frm) (te : Int), takeV b = (f.1, f.2.1, f.2.2, te) := ⟨((takeV b).1, (takeV b).2.1, (takeV b).2.2.1), (takeV b).2.2.2, rfl⟩
    have hR := hear_by kind b (s, q, e) f te hf ht.symm
    rw [← hr] at hR
    clear hr
    refine seq_nrm (lh3 a1 kind Ab cb b.length g3 g6 g7 s q e w.heap.size b f te rfl hl2 hf (t1.sub (by simp)) W1 (hs.later B1) B1.size) fun a2 W2 ⟨g9, t2, ⟨A9, c9, f9, p9, q9⟩, n9, b2⟩ => ?_
    have H2 := H1.later b2
    have B2 := below_step B1 b2
    have m3 : g3 < W1.heap.size := lt_of_at H1.l3.at_
    have m6 : g6 < W1.heap.size := lt_of_at H1.l6.at_
    have m7 : g7 < W1.heap.size := lt_of_at H1.f7
    refine wp_seq ?_
    rw [rgH3_eq]
    refine seq_nrm (lh4 a2 kind Ab cb b.length g3 g6 g7 g9 A9 c9 f te _ rfl t2 W2 f9) fun a3 W3 ⟨t3, e3⟩ => ?_
    subst e3
    have e28 : a3.tmps[28]? = some (.bool (decide (te = 0) && ((f.1.toNat : Int) != kind))) := t3.get (by simp)
    refine wp_cond (t := (decide (te = 0) && ((f.1.toNat : Int) != kind))) (by simp [Act.eval, e28]) ?_
    -- the kind is asked
    have hk : ∀ a4 : Act, Sl a4 61 [(1, .int .u8 kind), (2, .slice Ab b.length cb), (3, .pointer (some ⟨g3, 0, none⟩)), (6, .pointer (some ⟨g6, 0, none⟩)), (7, .pointer (some ⟨g7, 0, none⟩)), (8, .int .i64 0), (9, .pointer (some ⟨g9, 0, none⟩)), (10, .int .i64 (e41 kind te f))] →
        (Code.seq (rgH 4) (.seq (rgH 5) (.seq (rgH 6) (.seq (rgH 7) (.seq (rgH 8) .ret))))).wp Tryd.prog (bodyPost Tryd.prog Tryd.f12 fun y w' => ∃ A c, y = .returned (.tuple #[lkv r.1, fval r.2.2 (.slice A r.2.2.2.2.length c), .int .i64 r.2.1]) ∧ Below w.heap.size w w' ∧ SliceAt w' 1 (.slice A r.2.2.2.2.length c) r.2.2.2.2.length (u8s r.2.2.2.2) ∧ ∀ q, VB (.slice A r.2.2.2.2.length c) r.2.2.2.2.length q → w.heap.size ≤ q) a4 W3 := by
      intro a4 t4
      refine wp_seq ?_
      rw [rgH4_eq]
      refine seq_nrm (lh6 a4 kind Ab cb b.length g3 g6 g7 g9 s q e w.heap.size A9 c9 f (e41 kind te f) _ ⟨hb'.2.2.2.2.1, hb'.2.2.2.2.2⟩ rfl t4 W3 H2 f9) fun a5 W5 ⟨t5, e5⟩ => ?_
      subst e5
      have e44 : a5.tmps[44]? = some (.bool (decide (e41 kind te f = 0) && (decide (0 ≤ s) && !newer (f.2.1.toNat : Int) s))) := t5.get (by simp)
      refine wp_cond (t := (decide (e41 kind te f = 0) && (decide (0 ≤ s) && !newer (f.2.1.toNat : Int) s))) (by simp [Act.eval, e44]) ?_
      have hk2 : ∀ a6 : Act, Sl a6 61 [(1, .int .u8 kind), (2, .slice Ab b.length cb), (3, .pointer (some ⟨g3, 0, none⟩)), (6, .pointer (some ⟨g6, 0, none⟩)), (7, .pointer (some ⟨g7, 0, none⟩)), (8, .int .i64 0), (9, .pointer (some ⟨g9, 0, none⟩)), (10, .int .i64 (e290 (e41 kind te f) s f))] →
          (Code.seq (rgH 5) (.seq (rgH 6) (.seq (rgH 7) (.seq (rgH 8) .ret)))).wp Tryd.prog (bodyPost Tryd.prog Tryd.f12 fun y w' => ∃ A c, y = .returned (.tuple #[lkv r.1, fval r.2.2 (.slice A r.2.2.2.2.length c), .int .i64 r.2.1]) ∧ Below w.heap.size w w' ∧ SliceAt w' 1 (.slice A r.2.2.2.2.length c) r.2.2.2.2.length (u8s r.2.2.2.2) ∧ ∀ q, VB (.slice A r.2.2.2.2.length c) r.2.2.2.2.length q → w.heap.size ≤ q) a6 W5 := by
        intro a6 t6
        obtain ⟨er, her⟩ : ∃ er, er = e290 (e41 kind te f) s f := ⟨_, rfl⟩
        simp only at hR
        rw [← her] at t6 hR
        refine wp_seq ?_
        rw [rgH5_eq]
        refine seq_nrm (lh8 a6 kind Ab cb b.length g3 g6 g7 g9 er _ rfl t6 W5) fun a7 W7 ⟨t7, e7⟩ => ?_
        subst e7
        have e46 : a7.tmps[46]? = some (.bool (er != 0)) := t7.get (by simp)
        by_cases h0 : er = 0
        · have hne : (er != 0) = false := by rw [h0]; rfl
          rw [hne] at e46
          refine wp_cond_false (by simp [Act.eval, e46]) (wp_skip ?_)
          rw [if_neg (by simp [h0])] at hR
          subst hR
          refine seq_nrm (lh11 a7 kind Ab cb b.length g3 g6 g7 g9 er s q e w.heap.size w A9 c9 f (t7.sub (by simp)) W7 H2 B2 f9 (by omega)) fun a8 W8 ⟨t8, H8, b8, f8, s8⟩ => ?_
          refine seq_nrm (lh12 a8 kind Ab cb b.length g3 g6 g7 g9 er _ q e w.heap.size w A9 c9 f t8 W8 H8 b8 f8 (by omega)) fun a9 W9 ⟨t9, H9, b9, f9', s9⟩ => ?_
          refine seq_nrm (lh13 a9 kind Ab cb b.length g3 g6 g7 g9 er _ 0 e w.heap.size w A9 c9 f t9 W9 H9 b9 f9' ⟨by omega, by omega⟩ (s9 _ (s8 _ p9)) (fun q hq => by have := (q9 q hq).2; omega)) fun a10 W10 ⟨t10, l6, f7, p10, b10⟩ => ?_
          refine wp_ret ⟨t10.defers, _, res_hear (t := 6) (u := 7) (v := 8) rfl (t10.getD (by simp)) (t10.getD (by simp)) l6.at_ f7, A9, c9, ?_, b10, p10, fun q hq => (q9 q hq).1⟩
          rw [t10.getD (i := 8) (v := .int .i64 0) (by simp)]
        · have hne : (er != 0) = true := by simp [h0]
          rw [hne] at e46
          refine wp_cond_true (by simp [Act.eval, e46]) ?_
          rw [if_pos h0] at hR
          subst hR
          refine seq_nrm (lh9 a7 kind Ab cb b.length g3 g6 g7 g9 er s q e w.heap.size w _ rfl (t7.sub (by simp)) W7 H2 B2 B2.size) fun a8 W8 ⟨t8, H8, b8⟩ => ?_
          refine seq_nrm (lh10 a8 kind Ab cb b.length g3 g6 g7 g9 er s q _ w.heap.size w t8 W8 H8 b8) fun a9 W9 ⟨t9, l6, f7, b9⟩ => ?_
          refine wp_ret ⟨t9.defers, _, res_hear (t := 6) (u := 7) (v := 8) rfl (t9.getD (by simp)) (t9.getD (by simp)) l6.at_ f7, none, 0, ?_, b9, SliceAt.nil_ _ _, fun q hq => absurd hq.1 (by simp [noF])⟩
          rw [t9.getD (i := 8) (v := .int .i64 er) (by simp)]
          rfl
      by_cases hc : (decide (e41 kind te f = 0) && (decide (0 ≤ s) && !newer (f.2.1.toNat : Int) s)) = true
      · rw [hc]
        refine wp_mono (lh7 a5 kind Ab cb b.length g3 g6 g7 g9 (e41 kind te f) (t5.sub (by simp)) W5) fun x a6 W6 hx => ?_
        cases x with
        | normal =>
          obtain ⟨t6, rfl⟩ := hx
          have h290 : e290 (e41 kind te f) s f = 290 := by unfold e290; rw [if_pos hc]
          exact hk2 a6 (by rw [h290]; exact t6)
        | _ => exact hx.elim
      · have hc' : (decide (e41 kind te f = 0) && (decide (0 ≤ s) && !newer (f.2.1.toNat : Int) s)) = false := by simpa using hc
        rw [hc']
        have h290 : e290 (e41 kind te f) s f = e41 kind te f := by unfold e290; rw [if_neg hc]
        exact wp_skip (hk2 a5 (by rw [h290]; exact t5.sub (by simp)))
    by_cases hc : (decide (te = 0) && ((f.1.toNat : Int) != kind)) = true
    · rw [hc]
      refine wp_mono (lh5 a3 kind Ab cb b.length g3 g6 g7 g9 te (t3.sub (by simp)) W3) fun x a4 W4 hx => ?_
      cases x with
      | normal =>
        obtain ⟨t4, rfl⟩ := hx
        have h41 : e41 kind te f = 41 := by unfold e41; rw [if_pos hc]
        exact hk a4 (by rw [h41]; exact t4)
      | _ => exact hx.elim
    · have hc' : (decide (te = 0) && ((f.1.toNat : Int) != kind)) = false := by simpa using hc
      rw [hc']
      have h41 : e41 kind te f = te := by unfold e41; rw [if_neg hc]
      exact wp_skip (hk a3 (by rw [h41]; exact t3.sub (by simp)))
end Go.Proofs.YtlanlkpamnoekaaDoor
namespace Go.Proofs.YtlanlkpamnoekaaDoor
open Go Go.RowKit Rf Mem Bv Crc Str Lk Go.ChangeShapes Go.WideShapes
set_option maxRecDepth 100000
attribute [local go_sem ↓] run_max2 run_min2
theorem cell_list {w : World} {g : Nat} {t : TypeId} {cs : List Value} {f : Nat × Nat} (h : w.heap[g]? = some (.cells cs.toArray t f)) {i : Nat} {v : Value} (hv : cs[i]? = some v) : w.cell? ⟨g, i, none⟩ = some v := by
  rw [cell_at h]; simpa using hv
/-- a slice of exits reads; the lengths of their overlaps -/
def ExsAt (W : World) (v : Value) (lens : List Nat) : Prop :=
  ∃ A c, v = .slice A lens.length c ∧ lens.length ≤ c ∧ c ≤ maxLen ∧ (lens.length = 0 ∨ ∃ b off, A = some ⟨b, off, none⟩ ∧ b < W.heap.size ∧ ∀ (k n : Nat), lens[k]? = some n → ∃ A' c', W.cell? ⟨b, off + k * 3 + 2, none⟩ = some (.slice A' n c'))
theorem ExsAt.later {W W' : World} {v : Value} {lens : List Nat} (h : ExsAt W v lens) (hb : Below W.heap.size W W') : ExsAt W' v lens := by
  obtain ⟨A, c, rfl, h1, h2, h3⟩ := h
  refine ⟨A, c, rfl, h1, h2, h3.imp id ?_⟩
  rintro ⟨b, off, rfl, hlt, hc⟩
  exact ⟨b, off, rfl, Nat.lt_of_lt_of_le hlt hb.size, fun k n hk => by obtain ⟨A', c', h⟩ := hc k n hk; exact ⟨A', c', (hb.cell (p := ⟨b, off + k * 3 + 2, none⟩) hlt).trans h⟩⟩
/-- is a layout too great to be asked? -/
def greatV (ns nsig nfl : Nat) (lens : List Nat) : Bool :=
  (lens.take 21).any (fun n => decide (20 < n)) || (decide (30 < ns) || (decide (20 < nsig) || (decide (20 < lens.length) || decide (30 < nfl))))
set_option maxHeartbeats 1000000 in
set_option maxRecDepth 100000 in
theorem Great_c (L : List Value) (ns nsig nfl : Nat) (lens : List Nat) (A A1 A3 : Option Addr) (c c1 c3 : Nat) (v : Value) (w : World) (h0 : L[0]? = some (.slice A ns c)) (h1 : L[1]? = some (.slice A1 nsig c1)) (h2 : L[2]? = some v) (h3 : L[3]? = some (.slice A3 nfl c3)) (hE : ExsAt w v lens) :
    Calls Tryd.prog 8 #[.agg L.toArray] w fun e w' => e = .returned (.bool (greatV ns nsig nfl lens)) ∧ Below w.heap.size w w' := by
  have b0 := below_new w (.cells L.toArray 29)
  have G0 : (w.alloc (.cells L.toArray 29)).heap[w.heap.size]? = some (.cells L.toArray 29 (0, 0)) := new_at rfl _
  have hE' := hE.later b0
  obtain ⟨Ae, ce, rfl, hce, _, hcase⟩ := hE'
  have x0 := cell_list G0 h0
  have x1 := cell_list G0 h1
  have x2 := cell_list G0 h2
  have x3 := cell_list G0 h3
  obtain ⟨r, hr⟩ : ∃ r, greatV ns nsig nfl lens = r := ⟨_, rfl⟩
  rw [hr]
  have HR := Lib.hid hr
  clear hr hE
  go_enter Tryd.func8, Tryd.ntmps8
  go_wp2
  generalize w.alloc (.cells L.toArray 29) = W0 at *
  go_loopw [3] (fun i wr => ∃ k : Nat, k ≤ lens.length ∧ k ≤ 21 ∧ i = .int .i64 k ∧ wr = W0 ∧ Hid ((lens.take k).any (fun n => decide (20 < n)) = false)) (fun i _ => 21 - (intOf i).toNat)
  case atStart => exact ⟨0, Nat.zero_le _, by omega, rfl, rfl, Lib.hid rfl⟩
  case round =>
    obtain ⟨k, hk, hk2, rfl, rfl, HK⟩ := hrel
    by_cases hlt : k < lens.length ∧ k ≤ 20
    · obtain ⟨hl1, hl2⟩ := hlt
      obtain ⟨be, oe, rfl, hbe, hcells⟩ := hcase.resolve_left (by omega)
      obtain ⟨n, hn⟩ : ∃ n, lens[k]? = some n := ⟨_, List.getElem?_eq_getElem hl1⟩
      obtain ⟨An, cn, xn⟩ := hcells k n hn
      have HN := Lib.hid hn
      have i1 : (k : Int) < (lens.length : Int) := by omega
      have q1 : decide (k < lens.length) = true := decide_eq_true hl1
      have q2 : decide ((k : Int) ≤ 20) = true := decide_eq_true (by omega)
      by_cases hg : 20 < n
      · have q3 : decide ((20 : Int) < (n : Int)) = true := decide_eq_true (by omega)
        have HG := Lib.hid hg
        clear hn hcells hg
        go_wp2
        go_ret
        refine ⟨?_, b0⟩
        have : (lens.take 21).any (fun n => decide (20 < n)) = true := by
          rw [List.any_eq_true]
          exact ⟨n, List.mem_of_getElem? (i := k) (by rw [List.getElem?_take, if_pos (by omega)]; exact HN.out), decide_eq_true HG.out⟩
        rw [← HR.out]; unfold greatV; rw [this]; rfl
      · have q3 : decide ((20 : Int) < (n : Int)) = false := decide_eq_false (by omega)
        have HG := Lib.hid (decide_eq_false hg)
        clear hn hcells hg
        go_wp2
        go_roundw
        case rel => exact ⟨k + 1, by omega, by omega, by go_num, trivial, Lib.hid (by rw [List.take_add_one, HN.out, List.any_append, HK.out]; simp [HG.out])⟩
        case measure => simp [intOf]; omega
    · have hfin : (lens.take 21).any (fun n => decide (20 < n)) = false := by
        have := HK.out
        rcases Nat.lt_or_ge k 21 with h | h
        · have e : k = lens.length := by omega
          rw [List.take_of_length_le (by omega)] at this
          rw [List.take_of_length_le (by omega)]; exact this
        · have e : k = 21 := by omega
          rwa [e] at this
      have hrb : r = (decide (30 < ns) || (decide (20 < nsig) || (decide (20 < lens.length) || decide (30 < nfl)))) := by rw [← HR.out]; unfold greatV; rw [hfin]; rfl
      have HRB := Lib.hid hrb
      have e1 : decide ((30 : Int) < (ns : Int)) = decide (30 < ns) := by rw [Bool.eq_iff_iff]; simp; omega
      have e2 : decide ((20 : Int) < (nsig : Int)) = decide (20 < nsig) := by rw [Bool.eq_iff_iff]; simp; omega
      have e3 : decide ((20 : Int) < (lens.length : Int)) = decide (20 < lens.length) := by rw [Bool.eq_iff_iff]; simp; omega
      have e4 : decide ((30 : Int) < (nfl : Int)) = decide (30 < nfl) := by rw [Bool.eq_iff_iff]; simp; omega
      have hq : (decide (k < lens.length) = false) ∨ (decide (k < lens.length) = true ∧ decide ((k : Int) ≤ 20) = false) := by
        by_cases h : k < lens.length
        · exact .inr ⟨decide_eq_true h, decide_eq_false (by omega)⟩
        · exact .inl (decide_eq_false h)
      clear hfin hrb
      generalize decide (30 < ns) = p1 at *
      generalize decide (20 < nsig) = p2 at *
      generalize decide (20 < lens.length) = p3 at *
      generalize decide (30 < nfl) = p4 at *
      rcases hq with t1 | ⟨t1, t2⟩
      all_goals
        cases p1 <;> cases p2 <;> cases p3 <;> cases p4
      all_goals
        go_wp2
        go_ret
        exact ⟨by rw [HRB.out]; rfl, b0⟩
section
variable {H : Type} {enc : TypeId × Value → H} {w : World}
/-- the length of an exit's overlap -/
def lenOf (l : List Value) : Nat := match l[2]? with | some (Value.slice _ n _) => n | _ => 0
abbrev Exi := { l : List Value // l.length = 3 }
theorem open_exits {m : Nat} {cs : List Value} {x : DataW H × List MemPlace} (h : DataW.trod enc Tryd.prog w 0 (fun _ => true) true m 24 cs = some x) :
    ∃ (v : Value) (xs : List Exi), cs = [v] ∧ SliceAt w 3 v xs.length (xs.flatMap (·.1)) ∧ ∀ a ∈ xs, ∃ A c, a.1[2]? = some (.slice A (lenOf a.1) c) := by
  refine open_cs (sz := 3) (fun a : Exi => a.1) (fun a => ∃ A c, a.1[2]? = some (.slice A (lenOf a.1) c)) (fun a => a.2) (by omega) Tryd.underlying24 (by kernel_rfl) (fun m cs x hl ht => ?_) h
  refine ⟨⟨cs, hl⟩, ?_, rfl⟩
  obtain ⟨ys, n, _, _, _, hlen, hel⟩ := DataW.trod_struct Tryd.underlying69 ht
  have h0 := hel 1 _ rfl
  obtain ⟨y, hy⟩ : ∃ y, ys[1]? = some y := ⟨_, List.getElem?_eq_getElem (by rw [hlen]; decide)⟩
  obtain ⟨A, l, c, hz⟩ := Joins.slice_form Tryd.underlying67 (h0.trans hy)
  have hc : Tryd.prog.cellsOf 67 = 1 := by kernel_rfl
  have h1 : cs[2]? = some (.slice A l c) := by
    have := congrArg (·[0]?) hz
    simp only [hc, List.getElem?_take, List.getElem?_drop] at this
    exact (by simpa using this : _ ∧ _).2
  exact ⟨A, c, by simp only [lenOf, h1]⟩
theorem exits_of {v : Value} {xs : List Exi} (h : SliceAt w 3 v xs.length (xs.flatMap (·.1))) (hk : ∀ a ∈ xs, ∃ A c, a.1[2]? = some (.slice A (lenOf a.1) c)) :
    ExsAt w v (xs.map (fun a : Exi => lenOf a.1)) := by
  obtain ⟨A, c, rfl, h1, h2, h3, h4⟩ := h
  refine ⟨A, c, by simp, by simpa using h1, h2, ?_⟩
  rcases h4 with h4 | ⟨b, off, rfl, hb, hc⟩
  · exact .inl (by simpa using h4)
  · refine .inr ⟨b, off, rfl, hb, fun k n hn => ?_⟩
    rw [List.getElem?_map] at hn
    obtain ⟨a, ha, rfl⟩ := Option.map_eq_some_iff.1 hn
    obtain ⟨A', c', h5⟩ := hk a (List.mem_of_getElem? ha)
    refine ⟨A', c', ?_⟩
    have := hc (k * 3 + 2) _ (by rw [flatMap_get (fun a _ => a.2) k 2 (by omega), ha]; exact h5)
    rwa [← Nat.add_assoc] at this
theorem at_of {cs : List Value} {o : Nat} {u : Value} (h : (cs.drop o).take 1 = [u]) : cs[o]? = some u := by
  have := congrArg (·[0]?) h
  simpa using this
theorem int_at {m o : Nat} {cs : List Value} {y : DataW H × List MemPlace} (h : DataW.trod enc Tryd.prog w 0 (fun _ => true) true m 3 ((cs.drop o).take (Tryd.prog.cellsOf 3)) = some y) : ∃ z : Int, cs[o]? = some (.int .i64 z) ∧ (-9223372036854775808 ≤ z ∧ z ≤ 9223372036854775807) := by
  have hc : Tryd.prog.cellsOf 3 = 1 := by kernel_rfl
  rw [hc] at h
  obtain ⟨z, hz, _, hw⟩ := DataW.trod_int Tryd.underlying3 h
  exact ⟨z, at_of hz, i64_bounds hw⟩
theorem slice_at {m o t e : Nat} {cs : List Value} {y : DataW H × List MemPlace} (ht : Tryd.prog.underlying t = some (.slice e)) (hc : Tryd.prog.cellsOf t = 1) (h : DataW.trod enc Tryd.prog w 0 (fun _ => true) true m t ((cs.drop o).take (Tryd.prog.cellsOf t)) = some y) : ∃ A n c, cs[o]? = some (.slice A n c) := by
  rw [hc] at h
  obtain ⟨A, l, c, hz⟩ := Joins.slice_form ht h
  exact ⟨A, l, c, at_of hz⟩
end
/-- What is asked of a layout. -/
structure LayQ (w : World) (y : Nat → Value) : Prop where
  s0 : ∃ A n c, y 0 = .slice A n c
  s1 : ∃ A n c, y 1 = .slice A n c
  s3 : ∃ A n c, y 3 = .slice A n c
  ex : ∃ lens, ExsAt w (y 2) lens
theorem LayQ.later {w W : World} {y : Nat → Value} (h : LayQ w y) (b : Below w.heap.size w W) : LayQ W y := ⟨h.s0, h.s1, h.s3, by obtain ⟨l, hl⟩ := h.ex; exact ⟨l, hl.later b⟩⟩
theorem LayQ.see {A G : World} {y : Nat → Value} (h : LayQ A y) (s : Sees A G) : LayQ G y := ⟨h.s0, h.s1, h.s3, by
  obtain ⟨l, B, c, e, h1, h2, h3⟩ := h.ex
  refine ⟨l, B, c, e, h1, h2, h3.imp id ?_⟩
  rintro ⟨b, off, e2, hlt, hc⟩
  exact ⟨b, off, e2, by rw [← s.size]; exact hlt, fun k n hk => by obtain ⟨A', c', h⟩ := hc k n hk; exact ⟨A', c', s.cell _ _ h⟩⟩⟩
theorem great07_c (y : Nat → Value) (tl : Int) (w : World) (h : LayQ w y) : Calls Tryd.prog 8 #[ly y tl] w fun e w' => (∃ b : Bool, e = .returned (.bool b)) ∧ Below w.heap.size w w' := by
  obtain ⟨A0, n0, c0, h0⟩ := h.s0
  obtain ⟨A1, n1, c1, h1⟩ := h.s1
  obtain ⟨A3, n3, c3, h3⟩ := h.s3
  obtain ⟨lens, hE⟩ := h.ex
  have := Great_c [y 0, y 1, y 2, y 3, y 4, y 5, y 6, y 7, y 8, y 9, .int .i64 tl] n0 n1 n3 lens A0 A1 A3 c0 c1 c3 (y 2) w (by rw [h0]; rfl) (by rw [h1]; rfl) rfl (by rw [h3]; rfl) hE
  exact this.mono fun e w' h => ⟨⟨_, h.1⟩, h.2⟩
theorem open_layQ {H : Type} {enc : TypeId × Value → H} {w : World} {base : Nat} {v : Value} {d : DataW H} {p : List MemPlace} (hv : Value.okWide Tryd.prog w .any base 29 v) (h : DataW.Trod enc Tryd.prog w 0 (fun _ => true) true 29 v d p) :
    ∃ (y : Nat → Value) (tl : Int), v = ly y tl ∧ LayQ w y := by
  obtain ⟨cs, rfl, hsz⟩ := okWide_struct Tryd.underlying29 hv
  obtain ⟨L⟩ := cs
  obtain ⟨fuel, hf⟩ := h
  simp only [Value.cells] at hf
  have hlen : L.length = 11 := hsz.trans (by kernel_rfl)
  obtain ⟨ys, n, _, _, _, hyl, hel⟩ := DataW.trod_struct Tryd.underlying29 hf
  have gy : ∀ i, i < 5 → ∃ y, ys[i]? = some y := fun i hi => ⟨_, List.getElem?_eq_getElem (by rw [hyl]; exact hi)⟩
  obtain ⟨y0, e0⟩ := gy 0 (by omega)
  obtain ⟨y1, e1⟩ := gy 1 (by omega)
  obtain ⟨y2, e2⟩ := gy 2 (by omega)
  obtain ⟨y3, e3⟩ := gy 3 (by omega)
  obtain ⟨y4, e4⟩ := gy 4 (by omega)
  obtain ⟨A0, n0, c0, h0⟩ := slice_at Tryd.underlying22 (by kernel_rfl) (show DataW.trod enc Tryd.prog w 0 (fun _ => true) true n 22 ((L.drop 0).take (Tryd.prog.cellsOf 22)) = some y0 from (hel 0 _ rfl).trans e0)
  obtain ⟨A1, n1, c1, h1⟩ := slice_at Tryd.underlying23 (by kernel_rfl) (show DataW.trod enc Tryd.prog w 0 (fun _ => true) true n 23 ((L.drop 1).take (Tryd.prog.cellsOf 23)) = some y1 from (hel 1 _ rfl).trans e1)
  obtain ⟨v2, xe, h2, h2s, h2k⟩ := open_exits (show DataW.trod enc Tryd.prog w 0 (fun _ => true) true n 24 ((L.drop 2).take (Tryd.prog.cellsOf 24)) = some y2 from (hel 2 _ rfl).trans e2)
  obtain ⟨A3, n3, c3, h3⟩ := slice_at Tryd.underlying25 (by kernel_rfl) (show DataW.trod enc Tryd.prog w 0 (fun _ => true) true n 25 ((L.drop 3).take (Tryd.prog.cellsOf 25)) = some y3 from (hel 3 _ rfl).trans e3)
  have k2 : Tryd.prog.cellsOf 24 = 1 := by kernel_rfl
  rw [k2] at h2
  have g2 := at_of h2
  obtain ⟨zs, n4, _, _, _, hzl, hel4⟩ := DataW.trod_struct Tryd.underlying27 (show DataW.trod enc Tryd.prog w 0 (fun _ => true) true n 27 ((L.drop 4).take (Tryd.prog.cellsOf 27)) = some y4 from (hel 4 _ rfl).trans e4)
  obtain ⟨z6, f6⟩ : ∃ z, zs[6]? = some z := ⟨_, List.getElem?_eq_getElem (by rw [hzl]; decide)⟩
  obtain ⟨tl, q6, _⟩ := int_at (show DataW.trod enc Tryd.prog w 0 (fun _ => true) true n4 3 ((((L.drop 4).take (Tryd.prog.cellsOf 27)).drop 6).take (Tryd.prog.cellsOf 3)) = some z6 from (hel4 6 _ rfl).trans f6)
  have hc4 : Tryd.prog.cellsOf 27 = 7 := by kernel_rfl
  simp only [hc4, List.getElem?_take, List.getElem?_drop] at q6
  have q10 : L[10]? = some (.int .i64 tl) := by simpa using q6
  refine ⟨fun i => L.getD i undef, tl, ?_, ⟨⟨A0, n0, c0, ?_⟩, ⟨A1, n1, c1, ?_⟩, ⟨A3, n3, c3, ?_⟩, ⟨xe.map (fun a : Exi => lenOf a.1), ?_⟩⟩⟩
  · match L, hlen with
    | [b0, b1, b2, b3, b4, b5, b6, b7, b8, b9, b10], _ =>
      simp only [List.getElem?_cons_succ, List.getElem?_cons_zero, Option.some.injEq] at q10
      subst q10
      rfl
  · simp [List.getD, h0]
  · simp [List.getD, h1]
  · simp [List.getD, h3]
  · have : L.getD 2 undef = v2 := by simp [List.getD, g2]
    rw [this]
    exact exits_of h2s h2k
end Go.Proofs.YtlanlkpamnoekaaDoor
namespace Go.Proofs.YtlanlkpamnoekaaDoor
open Go Go.RowKit Rf Mem Bv Crc Str Bits
set_option maxRecDepth 100000
theorem run_cv {w : World} {a : Act} {o : Oper} {x : Operand} {v : Value} {bs : List (BitVec 8)} (h : SliceAt w 1 v bs.length (u8s bs)) (ho : o.op = .convert 36 9 x) (hx : a.eval x = v) : (execOp a.eval o).run Tryd.prog w = .ok (.value (.string (strOf bs))) w := by
  have hc := conv_str (P := Tryd.prog) (dst := 9) h Tryd.underlying36 Tryd.underlying5 Tryd.underlying9
  unfold execOp
  simp [ho, hx, hc]
theorem run_inv {w : World} {a : Act} {o : Oper} {x : Operand} {g : Nat} {p q r s : U32} (h : IVar w g p q r s) (ho : o.op = .load 35 x) (hx : a.eval x = .pointer (some ⟨g, 0, none⟩)) : (execOp a.eval o).run Tryd.prog w = .ok (.value (inv p q r s)) w := by
  have x0 := h.cell 0 _ rfl
  have x1 := h.cell 1 _ rfl
  have x2 := h.cell 2 _ rfl
  have x3 := h.cell 3 _ rfl
  generalize a.eval = ρ at *
  unfold execOp
  simp [ho, hx, go_sem, x0, x1, x2, x3]
end Go.Proofs.YtlanlkpamnoekaaDoor
namespace Go.Proofs.YtlanlkpamnoekaaDoor
open List renaming getElem_toArray → zA, getElem_cons_succ → zS, getElem_cons_zero → zZ, setIfInBounds_toArray → zP, set_cons_zero → zQ, set_cons_succ → zR
open Go Go.RowKit Rf Mem Bv Crc Str Lk Bits Bt
set_option maxRecDepth 100000
attribute [local go_sem ↓] run_max2 run_min2
/-- Block g holds bits. -/
structure BVar (W : World) (g : Nat) (v : Value) (N : Int) : Prop where
  at_ : W.heap[g]? = some (.cells #[v, .int .i64 N] 75 (0, 0))
theorem BVar.later {W W' : World} {g : Nat} {v : Value} {N : Int} (h : BVar W g v N) (hb : Below W.heap.size W W') : BVar W' g v N := ⟨below_at hb h.at_ (lt_of_at h.at_)⟩
theorem BVar.new (W : World) (v : Value) (N : Int) : BVar (W.alloc (.cells #[v, .int .i64 N] 75)) W.heap.size v N := ⟨new_at rfl _⟩
theorem run_bv {w : World} {a : Act} {o : Oper} {x : Operand} {g : Nat} {v : Value} {N : Int} (h : BVar w g v N) (ho : o.op = .load 75 x) (hx : a.eval x = .pointer (some ⟨g, 0, none⟩)) : (execOp a.eval o).run Tryd.prog w = .ok (.value (bv v N)) w := by
  have h0 : w.cell? ⟨g, 0, none⟩ = some v := cell_at h.at_ 0
  have h1 : w.cell? ⟨g, 1, none⟩ = some (.int .i64 N) := cell_at h.at_ 1
  generalize a.eval = ρ at *
  unfold execOp
  simp [ho, hx, go_sem, h0, h1]
theorem run_u32 {w : World} {a : Act} {o : Oper} {x : Operand} {p : Addr} {v : Value} (h : w.cell? p = some v) (ho : o.op = .load 33 x) (hx : a.eval x = .pointer (some p)) : (execOp a.eval o).run Tryd.prog w = .ok (.value v) w := by
  generalize a.eval = ρ at *
  unfold execOp
  simp [ho, hx, go_sem, h]
theorem wp_st_bv {w : World} {a : Act} {o : Oper} {x y : Operand} {g : Nat} {v : Value} {A' : Option Addr} {n' c' : Nat} {N N' : Int} {K : Act → World → Prop} {Q : Exit → Act → World → Prop} (h : BVar w g v N) (ho : o.op = .store 75 x y) (hx : a.eval x = .pointer (some ⟨g, 0, none⟩)) (hy : a.eval y = bv (.slice A' n' c') N') (hd : o.dst = none)
    (hK : K a ((w.setCell ⟨g, 0, none⟩ (.slice A' n' c')).setCell ⟨g, 1, none⟩ (.int .i64 N'))) : o.wp Tryd.prog a w K Q := by
  have c0 : w.cell? ⟨g, 0, none⟩ = some v := cell_at h.at_ 0
  have c1 : w.cell? ⟨g, 1, none⟩ = some (.int .i64 N) := cell_at h.at_ 1
  have e0 := free_at h.at_ 0
  have e1 := free_at h.at_ 1
  unfold Oper.wp execOp
  generalize a.eval = ρ at *
  simp [ho, hx, hy, go_sem, c0, c1, e0, e1, hd]
  exact hK
theorem BVar.set {W : World} {g : Nat} {v : Value} {N : Int} (h : BVar W g v N) (v' : Value) (N' : Int) : BVar ((W.setCell ⟨g, 0, none⟩ v').setCell ⟨g, 1, none⟩ (.int .i64 N')) g v' N' := ⟨by
  have := set_at (set_at h.at_ 0 v') 1 (.int .i64 N')
  simpa using this⟩
theorem keep2 (W : World) (g : Nat) (x y : Value) : Keep (fun q => q ≠ g) W ((W.setCell ⟨g, 0, none⟩ x).setCell ⟨g, 1, none⟩ y) :=
  ((Keep.refl _ W).setCell (p := ⟨g, 0, none⟩) (fun _ h => h rfl) x).setCell (p := ⟨g, 1, none⟩) (fun _ h => h rfl) y
/-- Bytes do not lie where bits' header lies. -/
theorem bits_far {W : World} {g : Nat} {N : Int} {A : Option Addr} {n c : Nat} {v : Value} {p : List (BitVec 8)} (h : SliceAt W 1 v p.length (u8s p)) (hb : BVar W g (.slice A n c) N) (x y : Value) : SliceAt ((W.setCell ⟨g, 0, none⟩ x).setCell ⟨g, 1, none⟩ y) 1 v p.length (u8s p) := by
  refine slice_keep h (keep2 W g x y) fun q hq e => ?_
  subst e
  obtain ⟨hn, hv⟩ := hq
  obtain ⟨b, off, c', rfl, _, _, _, hcell⟩ := h.pos hn
  cases hv
  obtain ⟨z, hz⟩ : ∃ z, p[0]? = some z := ⟨_, List.getElem?_eq_getElem hn⟩
  have h0 := hcell 0 (.int .u8 (z.toNat : Int)) (by simp [u8s, hz])
  rw [cell_at hb.at_] at h0
  match off, h0 with
  | 0, h0 => simp at h0
  | 1, h0 => simp at h0
  | k + 2, h0 => simp at h0
def lit31 (j : Nat → Value) : List Value := [j 0, j 1, j 2, j 3, j 4, j 5, j 6, j 7, j 8, j 9, j 10, j 11, j 12, j 13, j 14, j 15, j 16, j 17, j 18, j 19, j 20, j 21, j 22, j 23, j 24, j 25, j 26, j 27, j 28, j 29, j 30]
theorem lit31_eq (j : Nat → Value) : (List.range 31).map j = lit31 j := by kernel_rfl
theorem Sl.lit31 {a : Act} {l : List (Nat × Value)} (h : Sl a 31 l) : ∃ j : Nat → Value, a = ⟨(lit31 j).toArray, []⟩ ∧ ∀ p ∈ l, j p.1 = p.2 := by
  obtain ⟨j, h1, h2⟩ := h.letters
  exact ⟨j, by rw [h1, lit31_eq], h2⟩

noncomputable def bodyU : Code := Tryd.f28.body.getD .skip
noncomputable def rgU (k : Nat) : Code := nthSeq k bodyU

noncomputable def rU3 : Code := cfst (rgU 3)
noncomputable def loopU : Code := match rgU 3 with | .seq _ (.block _ (.loop c)) => c | _ => .skip
noncomputable def rU4 : Code := cfst (cfst loopU)
noncomputable def rU6 : Code := match loopU with | .seq _ (.seq (.block _ c) _) => c | _ => .skip
noncomputable def rU5 : Code := csnd (csnd loopU)
theorem bodyU_eq : bodyU = .seq (rgU 0) (.seq (rgU 1) (.seq (rgU 2) (.seq (rgU 3) (.seq (rgU 4) .ret)))) := rfl
theorem rgU3_eq : rgU 3 = .seq rU3 (.block 0 (.loop loopU)) := rfl
theorem loopU_eq : loopU = .seq (.seq rU4 (.cond (.tmp 17) .skip (.exit 0))) (.seq (.block 1 rU6) rU5) := rfl
theorem lu0 (q : Act) (a b c d : U32) (hS : Sl q 31 [(0, inv a b c d)]) (w : World) : (rgU 0).wp Tryd.prog (nrm fun a' w' => ∃ g1, Sl a' 31 [(1, .pointer (some ⟨g1, 0, none⟩)), (2, .slice none 0 0)] ∧ IVar w' g1 a b c d ∧ Below w.heap.size w w') q w := by
  obtain ⟨j, rfl, hj⟩ := hS.lit31
  have h0 : j 0 = inv a b c d := hj (0, _) (by simp)
  clear hj hS
  unfold rgU bodyU
  simp only [Tryd.f28, Option.getD_some, nthSeq, cfst, csnd, cyes, copsOf, lit31, List.cons_append, List.nil_append, h0]
  have b1 := below_new w (.cells (inc a b c d) 35)
  have Y1 : IVar (w.alloc (.cells (inc a b c d) 35)) w.heap.size a b c d := ⟨new_at rfl _⟩
  go_wp2
  exact ⟨_, ⟨rfl, rfl, by simp⟩, Y1, b1⟩
theorem lu1 (q : Act) (g1 : Nat) (hS : Sl q 31 [(1, .pointer (some ⟨g1, 0, none⟩)), (2, .slice none 0 0)]) (w : World) : (rgU 1).wp Tryd.prog (nrm fun a' w' => ∃ g3, Sl a' 31 [(1, .pointer (some ⟨g1, 0, none⟩)), (2, .slice none 0 0), (3, .pointer (some ⟨g3, 0, none⟩))] ∧ BVar w' g3 (.slice none 0 0) 0 ∧ w.heap.size ≤ g3 ∧ Below w.heap.size w w') q w := by
  obtain ⟨j, rfl, hj⟩ := hS.lit31
  have h1 : j 1 = .pointer (some ⟨g1, 0, none⟩) := hj (1, _) (by simp)
  have h2 : j 2 = .slice none 0 0 := hj (2, _) (by simp)
  clear hj hS
  unfold rgU bodyU
  simp only [Tryd.f28, Option.getD_some, nthSeq, cfst, csnd, cyes, copsOf, lit31, List.cons_append, List.nil_append, h1, h2]
  have b1 := below_new w (.cells #[.slice none 0 0, .int .i64 0] 75)
  have Y1 := BVar.new w (.slice none 0 0) 0
  go_wp2
  exact ⟨_, ⟨rfl, rfl, by simp⟩, Y1, Nat.le_refl _, b1⟩
theorem lu2 (q : Act) (g1 g3 : Nat) (a b c d : U32) (hS : Sl q 31 [(1, .pointer (some ⟨g1, 0, none⟩)), (2, .slice none 0 0), (3, .pointer (some ⟨g3, 0, none⟩))]) (w : World) (I : IVar w g1 a b c d) : (rgU 2).wp Tryd.prog (nrm fun a' w' => ∃ g4, Sl a' 31 [(1, .pointer (some ⟨g1, 0, none⟩)), (2, .slice none 0 0), (3, .pointer (some ⟨g3, 0, none⟩)), (4, .pointer (some ⟨g4, 0, none⟩))] ∧ w'.heap[g4]? = some (.cells (inc a b c d) 84 (0, 0)) ∧ w.heap.size ≤ g4 ∧ Below w.heap.size w w') q w := by
  obtain ⟨j, rfl, hj⟩ := hS.lit31
  have h1 : j 1 = .pointer (some ⟨g1, 0, none⟩) := hj (1, _) (by simp)
  have h2 : j 2 = .slice none 0 0 := hj (2, _) (by simp)
  have h3 : j 3 = .pointer (some ⟨g3, 0, none⟩) := hj (3, _) (by simp)
  clear hj hS
  unfold rgU bodyU
  simp only [Tryd.f28, Option.getD_some, nthSeq, cfst, csnd, cyes, copsOf, lit31, List.cons_append, List.nil_append, h1, h2, h3]
  have x0 := I.cell 0 _ rfl
  have x1 := I.cell 1 _ rfl
  have x2 := I.cell 2 _ rfl
  have x3 := I.cell 3 _ rfl
  have b1 := below_new w (.cells (inc a b c d) 84)
  have Y1 := new_at (w := w) rfl (.cells (inc a b c d) 84)
  go_wp2
  exact ⟨_, ⟨rfl, rfl, by simp⟩, Y1, Nat.le_refl _, b1⟩
theorem lu3 (q : Act) (g1 g3 g4 : Nat) (hS : Sl q 31 [(1, .pointer (some ⟨g1, 0, none⟩)), (2, .slice none 0 0), (3, .pointer (some ⟨g3, 0, none⟩)), (4, .pointer (some ⟨g4, 0, none⟩))]) (w : World) : rU3.wp Tryd.prog (nrm fun a' w' => Sl a' 31 [(1, .pointer (some ⟨g1, 0, none⟩)), (2, .slice none 0 0), (3, .pointer (some ⟨g3, 0, none⟩)), (4, .pointer (some ⟨g4, 0, none⟩)), (5, .int .i64 0)] ∧ w' = w) q w := by
  obtain ⟨j, rfl, hj⟩ := hS.lit31
  have h1 : j 1 = .pointer (some ⟨g1, 0, none⟩) := hj (1, _) (by simp)
  have h2 : j 2 = .slice none 0 0 := hj (2, _) (by simp)
  have h3 : j 3 = .pointer (some ⟨g3, 0, none⟩) := hj (3, _) (by simp)
  have h4 : j 4 = .pointer (some ⟨g4, 0, none⟩) := hj (4, _) (by simp)
  clear hj hS
  unfold rU3 rgU bodyU
  simp only [Tryd.f28, Option.getD_some, nthSeq, cfst, csnd, cyes, copsOf, lit31, List.cons_append, List.nil_append, h1, h2, h3, h4]
  go_wp2
  exact ⟨⟨rfl, rfl, by simp⟩, rfl⟩
theorem lu4 (q : Act) (g1 g3 g4 i : Nat) (t : Bool) (ht : t = decide ((i : Int) < 4)) (hS : Sl q 31 [(1, .pointer (some ⟨g1, 0, none⟩)), (2, .slice none 0 0), (3, .pointer (some ⟨g3, 0, none⟩)), (4, .pointer (some ⟨g4, 0, none⟩)), (5, .int .i64 (i : Nat))]) (w : World) : rU4.wp Tryd.prog (nrm fun a' w' => Sl a' 31 [(1, .pointer (some ⟨g1, 0, none⟩)), (2, .slice none 0 0), (3, .pointer (some ⟨g3, 0, none⟩)), (4, .pointer (some ⟨g4, 0, none⟩)), (5, .int .i64 (i : Nat)), (17, .bool t)] ∧ w' = w) q w := by
  obtain ⟨j, rfl, hj⟩ := hS.lit31
  have h1 : j 1 = .pointer (some ⟨g1, 0, none⟩) := hj (1, _) (by simp)
  have h2 : j 2 = .slice none 0 0 := hj (2, _) (by simp)
  have h3 : j 3 = .pointer (some ⟨g3, 0, none⟩) := hj (3, _) (by simp)
  have h4 : j 4 = .pointer (some ⟨g4, 0, none⟩) := hj (4, _) (by simp)
  have h5 : j 5 = .int .i64 (i : Nat) := hj (5, _) (by simp)
  clear hj hS
  unfold rU4 loopU rgU bodyU
  simp only [Tryd.f28, Option.getD_some, nthSeq, cfst, csnd, cyes, copsOf, lit31, List.cons_append, List.nil_append, h1, h2, h3, h4, h5]
  subst ht
  go_wp2
  exact ⟨⟨rfl, rfl, by simp⟩, rfl⟩
theorem lu5 (q : Act) (g1 g3 g4 i : Nat) (hi : i < 4) (hS : Sl q 31 [(1, .pointer (some ⟨g1, 0, none⟩)), (2, .slice none 0 0), (3, .pointer (some ⟨g3, 0, none⟩)), (4, .pointer (some ⟨g4, 0, none⟩)), (5, .int .i64 (i : Nat))]) (w : World) : rU5.wp Tryd.prog (nrm fun a' w' => Sl a' 31 [(1, .pointer (some ⟨g1, 0, none⟩)), (2, .slice none 0 0), (3, .pointer (some ⟨g3, 0, none⟩)), (4, .pointer (some ⟨g4, 0, none⟩)), (5, .int .i64 ((i + 1) : Nat))] ∧ w' = w) q w := by
  obtain ⟨j, rfl, hj⟩ := hS.lit31
  have h1 : j 1 = .pointer (some ⟨g1, 0, none⟩) := hj (1, _) (by simp)
  have h2 : j 2 = .slice none 0 0 := hj (2, _) (by simp)
  have h3 : j 3 = .pointer (some ⟨g3, 0, none⟩) := hj (3, _) (by simp)
  have h4 : j 4 = .pointer (some ⟨g4, 0, none⟩) := hj (4, _) (by simp)
  have h5 : j 5 = .int .i64 (i : Nat) := hj (5, _) (by simp)
  clear hj hS
  unfold rU5 loopU rgU bodyU
  simp only [Tryd.f28, Option.getD_some, nthSeq, cfst, csnd, cyes, copsOf, lit31, List.cons_append, List.nil_append, h1, h2, h3, h4, h5]
  go_wp2
  exact ⟨⟨rfl, rfl, by simp [IntWalk.i64_in _ (show -9223372036854775808 ≤ (i : Int) + 1 ∧ (i : Int) + 1 ≤ 9223372036854775807 by omega)]⟩, rfl⟩
theorem lu7 (q : Act) (g1 g3 g4 : Nat) (A : Option Addr) (n cp : Nat) (N : Int) (hS : Sl q 31 [(1, .pointer (some ⟨g1, 0, none⟩)), (2, .slice none 0 0), (3, .pointer (some ⟨g3, 0, none⟩)), (4, .pointer (some ⟨g4, 0, none⟩)), (5, .int .i64 (4 : Nat))]) (w : World) (hb : BVar w g3 (.slice A n cp) N) : (rgU 4).wp Tryd.prog (nrm fun a' w' => Sl a' 31 [(2, .slice A n cp)] ∧ w' = w) q w := by
  obtain ⟨j, rfl, hj⟩ := hS.lit31
  have h1 : j 1 = .pointer (some ⟨g1, 0, none⟩) := hj (1, _) (by simp)
  have h2 : j 2 = .slice none 0 0 := hj (2, _) (by simp)
  have h3 : j 3 = .pointer (some ⟨g3, 0, none⟩) := hj (3, _) (by simp)
  have h4 : j 4 = .pointer (some ⟨g4, 0, none⟩) := hj (4, _) (by simp)
  have h5 : j 5 = .int .i64 (4 : Nat) := hj (5, _) (by simp)
  clear hj hS
  unfold rgU bodyU
  simp only [Tryd.f28, Option.getD_some, nthSeq, cfst, csnd, cyes, copsOf, lit31, List.cons_append, List.nil_append, h1, h2, h3, h4, h5]
  have h0 : w.cell? ⟨g3, 0, none⟩ = some (.slice A n cp) := cell_at hb.at_ 0
  clear hb
  go_wp2
  exact ⟨⟨rfl, rfl, by simp⟩, rfl⟩
set_option maxHeartbeats 4000000 in
theorem lu6 (q : Act) (g1 g3 g4 i : Nat) (a b c d : U32) (z : U32) (A : Option Addr) (cp : Nat) (B : List (BitVec 8)) (l : List Bool) (B0 : Nat) (w0 : World) (hB0 : B0 ≤ g3) (h34 : g4 ≠ g3) (hi : i < 4) (hz : [a, b, c, d][i]? = some z) (hl : l.length = 32 * i) (N1 : Int) (hN1 : N1 = 32 * ((i + 1 : Nat) : Int)) (hS : Sl q 31 [(1, .pointer (some ⟨g1, 0, none⟩)), (2, .slice none 0 0), (3, .pointer (some ⟨g3, 0, none⟩)), (4, .pointer (some ⟨g4, 0, none⟩)), (5, .int .i64 (i : Nat))]) (w : World) (b0 : Below B0 w0 w) (hb : BVar w g3 (.slice A B.length cp) (32 * (i : Int))) (hA4 : w.heap[g4]? = some (.cells (inc a b c d) 84 (0, 0))) (hs : SliceAt w 1 (.slice A B.length cp) B.length (u8s B)) (hH : Holds B l) : rU6.wp Tryd.prog (nrm fun a' w' => ∃ A' cp' B', Sl a' 31 [(1, .pointer (some ⟨g1, 0, none⟩)), (2, .slice none 0 0), (3, .pointer (some ⟨g3, 0, none⟩)), (4, .pointer (some ⟨g4, 0, none⟩)), (5, .int .i64 (i : Nat))] ∧ BVar w' g3 (.slice A' (B' : List (BitVec 8)).length cp') N1 ∧ w'.heap[g4]? = some (.cells (inc a b c d) 84 (0, 0)) ∧ SliceAt w' 1 (.slice A' B'.length cp') B'.length (u8s B') ∧ Holds B' (l ++ numBits z.toNat 32) ∧ Below B0 w0 w') q w := by
  have hc : w.cell? ⟨g4, i, none⟩ = some (.int .u32 (z.toNat : Int)) := by
    rw [cell_at hA4]
    match i, hz with
    | 0, h => cases h; rfl
    | 1, h => cases h; rfl
    | 2, h => cases h; rfl
    | 3, h => cases h; rfl
  have hz32 : (z.toNat : Int) < 4294967296 := by have := z.isLt; omega
  have hzw : IntKind.i64.wrap (z.toNat : Int) = (z.toNat : Int) := IntWalk.i64_in _ (by omega)
  have i1 : (0 : Int) ≤ (i : Int) ∧ (i : Int) < 4 := by omega
  have h4s := lt_of_at hA4
  obtain ⟨zi, hzi⟩ : ∃ zi : Int, (z.toNat : Int) = zi := ⟨_, rfl⟩
  have HZ := Lib.hid hzi
  have HL := Lib.hid hl
  have HN1 := Lib.hid hN1
  have HHo := Lib.hid hH
  rw [hzi] at hc hzw
  clear hz hz32 hzi hl hH hN1
  obtain ⟨j, rfl, hj⟩ := hS.lit31
  have h1 : j 1 = .pointer (some ⟨g1, 0, none⟩) := hj (1, _) (by simp)
  have h2 : j 2 = .slice none 0 0 := hj (2, _) (by simp)
  have h3 : j 3 = .pointer (some ⟨g3, 0, none⟩) := hj (3, _) (by simp)
  have h4 : j 4 = .pointer (some ⟨g4, 0, none⟩) := hj (4, _) (by simp)
  have h5 : j 5 = .int .i64 (i : Nat) := hj (5, _) (by simp)
  clear hj hS
  unfold rU6 loopU rgU bodyU
  simp only [Tryd.f28, Option.getD_some, nthSeq, cfst, csnd, cyes, copsOf, lit31, List.cons_append, List.nil_append, h1, h2, h3, h4, h5]
  refine wp_region_held_drew (S := (fun w' => w'.cell? ⟨g4, i, none⟩ = some (.int .u32 zi))) (by kernel_rfl) ?_ (fun hHeld => ?_)
  · exact hc
  have Bb := b0.drew
  have V0 : BVar w.drew g3 (.slice A B.length cp) (32 * (i : Int)) := ⟨hb.at_⟩
  have C0 : w.drew.cell? ⟨g4, i, none⟩ = some (.int .u32 zi) := hc
  have A0 : w.drew.heap[g4]? = some (.cells (inc a b c d) 84 (0, 0)) := hA4
  have S0 := hs.later (Below.refl _ w).drew
  clear hHeld hb hc hA4 hs b0
  generalize w.drew = V at *
  have hHeld : V.cell? ⟨g4, i, none⟩ = some (.int .u32 zi) := C0
  refine Node.tk 1 ?_ rfl ?_ ?_
  rotate_left
  · intro w hSw; (try dsimp only at hSw); go_simp; try with_reducible rfl
  simp only [zA, zS, zZ, Act.put, zP, zQ, zR]
  refine Node.tk 2 ?_ rfl ?_ ?_
  rotate_left
  · intro w hSw; (try dsimp only at hSw); go_simp; try with_reducible rfl
  simp only [zA, zS, zZ, Act.put, zP, zQ, zR]
  refine Node.tk 3 (.int .u32 zi) rfl (fun _ hSw => run_u32 hSw rfl rfl) ?_
  simp only [zA, zS, zZ, Act.put, zP, zQ, zR]
  refine Node.tk 4 ?_ rfl ?_ ?_
  rotate_left
  · intro w hSw; (try dsimp only at hSw); go_simp; try with_reducible rfl
  simp only [zA, zS, zZ, Act.put, zP, zQ, zR]
  refine Node.on 0 rfl (fun K hK => ?_)
  refine Node.wp_val _ (run_bv V0 rfl rfl) ?_
  refine hK.out _ _ C0 (fun hHeld => ?_)
  clear hK K
  try simp only [zA, zS, zZ, Act.put, zP, zQ, zR]
  refine Node.on 5 rfl (fun K hK => ?_)
  refine Node.wp_fn 46 [.tmp 21, .tmp 25, .const (.int .i64 32)] _ [bv (.slice A B.length cp) (32 * (i : Int)), .int .i64 zi, .int .i64 32] (by rfl) (by rfl) (enters Tryd.func46 (by kernel_rfl) rfl) (Bt.refPut_g (.slice A B.length cp) B l z.toNat 32 (32 * (i : Int)) N1 zi 32 V (by rw [HL.out]; omega) (by rw [HL.out, HN1.out]; omega) HZ.out.symm rfl S0 HHo.out (by rw [HL.out]; omega) (by omega) z.isLt) ?_
  rintro e V' ⟨b', A', cp', B', rfl, hs', hH'⟩
  refine ⟨_, rfl, ?_⟩
  have hBV : Below B0 w0 V' := Bb.trans (b'.mono (by have := lt_of_at V0.at_; omega))
  have V1 := V0.later b'
  have A1 := below_at b' A0 (lt_of_at A0)
  have C1 : V'.cell? ⟨g4, i, none⟩ = some (.int .u32 zi) := below_cell' b' (lt_of_at A0) C0
  clear Bb V0 A0 C0 S0 b' hHeld
  generalize V' = V at *
  refine hK.out _ _ C1 (fun hHeld => ?_)
  clear hK K
  try simp only [zA, zS, zZ, Act.put, zP, zQ, zR]
  refine Node.tk 6 ?_ rfl ?_ ?_
  rotate_left
  · intro w hSw; (try dsimp only at hSw); go_simp; try with_reducible rfl
  simp only [zA, zS, zZ, Act.put, zP, zQ, zR]
  refine Node.tk 7 ?_ rfl ?_ ?_
  rotate_left
  · intro w hSw; (try dsimp only at hSw); go_simp; try with_reducible rfl
  simp only [zA, zS, zZ, Act.put, zP, zQ, zR]
  refine Node.tk 8 ?_ rfl ?_ ?_
  rotate_left
  · intro w hSw; (try dsimp only at hSw); go_simp; try with_reducible rfl
  simp only [zA, zS, zZ, Act.put, zP, zQ, zR]
  refine Node.on 9 rfl (fun K hK => ?_)
  refine wp_st_bv V1 rfl rfl rfl rfl ?_
  have V2 := V1.set (.slice A' B'.length cp') N1
  have S2 := bits_far hs' V1 (.slice A' B'.length cp') (.int .i64 N1)
  have A2 := (keep2 V g3 (.slice A' B'.length cp') (.int .i64 N1)).at_ A1 h34
  have B2 := (hBV.setCell (p := ⟨g3, 0, none⟩) hB0 (.slice A' B'.length cp')).setCell (p := ⟨g3, 1, none⟩) hB0 (.int .i64 N1)
  have C2 : ((V.setCell ⟨g3, 0, none⟩ (.slice A' B'.length cp')).setCell ⟨g3, 1, none⟩ (.int .i64 N1)).cell? ⟨g4, i, none⟩ = some (.int .u32 zi) :=
    (World.cell?_of_block (a := ⟨g4, i, none⟩) ((keep2 V g3 (.slice A' B'.length cp') (.int .i64 N1)).block g4 (lt_of_at A1) h34)).trans C1
  refine hK.out _ _ C2 (fun hHeld => ?_)
  clear hK K C1 C2 V1 A1 hs' hBV
  generalize (V.setCell ⟨g3, 0, none⟩ (.slice A' B'.length cp')).setCell ⟨g3, 1, none⟩ (.int .i64 N1) = V2w at *
  try simp only [zA, zS, zZ, Act.put, zP, zQ, zR]
  refine wpAnyH_done (by kernel_rfl) ?_ _
  exact ⟨A', cp', B', ⟨rfl, rfl, by simp⟩, V2, A2, S2, hH', B2⟩
theorem inB_take (i : Nat) (xs : List U32) (z : U32) (h : xs[i]? = some z) : inB (xs.take i) ++ numBits z.toNat 32 = inB (xs.take (i + 1)) := by
  rw [List.take_add_one, h]
  simp [inB_snoc]
/-- The document's PutIn. -/
theorem r29PutIn_c (a b c d : U32) (w : World) : Calls Tryd.prog 28 #[inv a b c d] w fun e w' => Below w.heap.size w w' ∧ ∃ A cp B, e = .returned (.slice A (B : List (BitVec 8)).length cp) ∧ SliceAt w' 1 (.slice A B.length cp) B.length (u8s B) ∧ Holds B (inB [a, b, c, d]) := by
  refine calls_of_wp (c := bodyU) Tryd.func28 rfl ?_
  rw [Tryd.ntmps28, bodyU_eq]
  refine seq_nrm (lu0 _ a b c d ⟨rfl, by simp, by simp⟩ w) fun a0 W0 ⟨g1, t0, i0, b0⟩ => ?_
  refine seq_nrm (lu1 a0 g1 t0 W0) fun a1 W1 ⟨g3, t1, v1, n3, b1⟩ => ?_
  have B1 := below_step b0 b1
  refine seq_nrm (lu2 a1 g1 g3 a b c d t1 W1 (i0.later b1)) fun a2 W2 ⟨g4, t2, h4, n4, b2⟩ => ?_
  have B2 := below_step B1 b2
  have m3 := lt_of_at v1.at_
  refine wp_seq ?_
  rw [rgU3_eq]
  refine seq_nrm (lu3 a2 g1 g3 g4 t2 W2) fun a3 W3 ⟨t3, e3⟩ => ?_
  subst e3
  refine wp_block ?_
  refine wp_loop (fun a' w' => ∃ (i : Nat) (A : Option Addr) (cp : Nat) (B : List (BitVec 8)), i ≤ 4 ∧ Sl a' 31 [(1, .pointer (some ⟨g1, 0, none⟩)), (2, .slice none 0 0), (3, .pointer (some ⟨g3, 0, none⟩)), (4, .pointer (some ⟨g4, 0, none⟩)), (5, .int .i64 (i : Nat))] ∧ BVar w' g3 (.slice A B.length cp) (32 * (i : Int)) ∧ w'.heap[g4]? = some (.cells (inc a b c d) 84 (0, 0)) ∧ SliceAt w' 1 (.slice A B.length cp) B.length (u8s B) ∧ Holds B (inB ([a, b, c, d].take i)) ∧ Below w.heap.size w w') (fun a' _ => 4 - (intOf (a'.tmps.getD 5 undef)).toNat) ⟨0, none, 0, [], by omega, t3.sub (by simp), v1.later b2, h4, SliceAt.nil_ _ _, holds_nil, B2⟩ ?_
  rintro a4 W4 ⟨i, A, cp, B, hi, t4, v4, h4', s4, hH4, b4⟩
  rw [loopU_eq]
  refine wp_seq ?_
  refine seq_nrm (lu4 a4 g1 g3 g4 i _ rfl t4 W4) fun a5 W5 ⟨t5, e5⟩ => ?_
  subst e5
  have e17 : a5.tmps[17]? = some (.bool (decide ((i : Int) < 4))) := t5.get (by simp)
  refine wp_cond (t := decide ((i : Int) < 4)) (by simp [Act.eval, e17]) ?_
  by_cases hlt : i < 4
  · rw [if_pos (by simp; omega)]
    refine wp_skip ?_
    refine wp_seq (wp_block ?_)
    obtain ⟨z, hz⟩ : ∃ z, [a, b, c, d][i]? = some z := ⟨_, List.getElem?_eq_getElem (by simpa using hlt)⟩
    refine wp_mono (lu6 a5 g1 g3 g4 i a b c d z A cp B _ w.heap.size w (Nat.le_trans b0.size n3) (by omega) hlt hz (by rw [inB_len]; simp; omega) _ rfl (t5.sub (by simp)) W5 b4 v4 h4' s4 hH4) fun x a6 W6 hx => ?_
    cases x with
    | normal =>
      obtain ⟨A', cp', B', t6, v6, h6, s6, hH6, b6⟩ := hx
      refine wp_mono (lu5 a6 g1 g3 g4 i hlt t6 W6) fun x a7 W7 hx => ?_
      cases x with
      | normal =>
        obtain ⟨t7, rfl⟩ := hx
        refine ⟨⟨i + 1, A', cp', B', by omega, t7, v6, h6, s6, by rw [← inB_take i _ z hz]; exact hH6, b6⟩, ?_⟩
        rw [t7.getD (i := 5) (v := .int .i64 ((i + 1 : Nat) : Int)) (by simp), t4.getD (i := 5) (v := .int .i64 (i : Int)) (by simp)]
        simp [intOf]
        omega
      | _ => exact hx.elim
    | _ => exact hx.elim
  · rw [if_neg (by simp; omega)]
    refine wp_exit ?_
    simp only [Exit.then, Exit.inBlock, if_true]
    obtain rfl : i = 4 := by omega
    refine seq_nrm (lu7 a5 g1 g3 g4 A B.length cp _ (t5.sub (by simp)) W5 v4) fun a6 W6 ⟨t6, e6⟩ => ?_
    subst e6
    refine wp_ret ⟨t6.defers, .slice A B.length cp, ?_, b4, A, cp, B, rfl, s4, by simpa using hH4⟩
    have h2 : a6.tmps[2]?.getD undef = .slice A B.length cp := by rw [t6.get (i := 2) (v := .slice A B.length cp) (by simp)]; rfl
    simp [results, Tryd.f28, h2]
end Go.Proofs.YtlanlkpamnoekaaDoor
