/- Link, in company. Nothing that was there is turned. -/
import Derived.Test.YtlanlkpamnoekaaDoorZD04
import Derived.Test.YtlanlkpamnoekaaDoorZD09
import Derived.Test.YtlanlkpamnoekaaDoorZD01
import Derived.Deep.RegionHeld3
import Derived.KernelRfl
set_option linter.unusedSimpArgs false
set_option linter.unusedVariables false
namespace Go.Proofs.YtlanlkpamnoekaaDoor
open Go Go.RowKit Rf Mem Bv Crc Str
set_option maxRecDepth 100000
attribute [local go_sem ↓] run_max2 run_min2

/-- An act of n slots: what some of them hold. -/
structure Sl (a : Act) (n : Nat) (l : List (Nat × Value)) : Prop where
  defers : a.defers = []
  size : a.tmps.size = n
  at_ : ∀ p ∈ l, a.tmps[p.1]? = some p.2
theorem Sl.get {a : Act} {n : Nat} {l : List (Nat × Value)} (h : Sl a n l) {i : Nat} {v : Value} (hm : (i, v) ∈ l) : a.tmps[i]? = some v := h.at_ _ hm
theorem Sl.sub {a : Act} {n : Nat} {l l' : List (Nat × Value)} (h : Sl a n l) (hl : ∀ p ∈ l', p ∈ l) : Sl a n l' := ⟨h.defers, h.size, fun p hp => h.at_ p (hl p hp)⟩
/-- The slots as letters. -/
theorem Sl.letters {a : Act} {n : Nat} {l : List (Nat × Value)} (h : Sl a n l) : ∃ j : Nat → Value, a = ⟨((List.range n).map j).toArray, []⟩ ∧ ∀ p ∈ l, j p.1 = p.2 := by
  refine ⟨fun i => a.tmps[i]?.getD undef, ?_, fun p hp => by simp only [h.at_ p hp]; rfl⟩
  obtain ⟨tm, df⟩ := a
  obtain rfl : df = [] := h.defers
  have hs : tm.size = n := h.size
  congr 1
  apply Array.ext_getElem?
  intro i
  simp only [List.getElem?_toArray, List.getElem?_map, List.getElem?_range']
  by_cases hi : i < n
  · rw [List.getElem?_range hi]
    simp [Array.getElem?_eq_getElem (show i < tm.size by omega)]
  · rw [List.getElem?_eq_none (by simp; omega), Array.getElem?_eq_none (by omega)]
    rfl

theorem run_ld {w : World} {a : Act} {o : Oper} {x : Operand} {g : Nat} {s q e : Int} (h : LVar w g s q e) (ho : o.op = .load 31 x) (hx : a.eval x = .pointer (some ⟨g, 0, none⟩)) : (execOp a.eval o).run Tryd.prog w = .ok (.value (lk s q e)) w := by
  have c0 := h.c0
  have c1 := h.c1
  have c2 := h.c2
  generalize a.eval = ρ at *
  unfold execOp
  simp [ho, hx, go_sem, c0, c1, c2]
/-- A link is stored. -/
theorem wp_st_lk {w : World} {a : Act} {o : Oper} {x y : Operand} {g : Nat} {s q e s' q' e' : Int} {K : Act → World → Prop} {Q : Exit → Act → World → Prop} (h : LVar w g s q e) (ho : o.op = .store 31 x y) (hx : a.eval x = .pointer (some ⟨g, 0, none⟩)) (hy : a.eval y = lk s' q' e') (hd : o.dst = none)
    (hK : K a (((w.setCell ⟨g, 0, none⟩ (.int .i64 s')).setCell ⟨g, 1, none⟩ (.int .i64 q')).setCell ⟨g, 2, none⟩ (.int .i64 e'))) : o.wp Tryd.prog a w K Q := by
  have c0 := h.c0
  have c1 := h.c1
  have c2 := h.c2
  have e0 := free_at h.at_ 0
  have e1 := free_at h.at_ 1
  have e2 := free_at h.at_ 2
  unfold Oper.wp execOp
  generalize a.eval = ρ at *
  simp [ho, hx, hy, go_sem, c0, c1, c2, e0, e1, e2, hd]
  exact hK
/-- A frame is stored. -/
theorem wp_st_fr {w : World} {a : Act} {o : Oper} {x y : Operand} {g : Nat} {f0 f1 f2 : Value} {k n : Int} {A : Option Addr} {m c : Nat} {K : Act → World → Prop} {Q : Exit → Act → World → Prop} (h : w.heap[g]? = some (.cells #[f0, f1, f2] 41 (0, 0))) (ho : o.op = .store 41 x y) (hx : a.eval x = .pointer (some ⟨g, 0, none⟩)) (hy : a.eval y = fv k n (.slice A m c)) (hd : o.dst = none)
    (hK : K a (((w.setCell ⟨g, 0, none⟩ (.int .u8 k)).setCell ⟨g, 1, none⟩ (.int .u8 n)).setCell ⟨g, 2, none⟩ (.slice A m c))) : o.wp Tryd.prog a w K Q := by
  have c0 := cell_at h 0
  have c1 := cell_at h 1
  have c2 := cell_at h 2
  simp only [List.getElem?_toArray, List.getElem?_cons_zero, List.getElem?_cons_succ] at c0 c1 c2
  have e0 := free_at h 0
  have e1 := free_at h 1
  have e2 := free_at h 2
  unfold Oper.wp execOp
  generalize a.eval = ρ at *
  simp [ho, hx, hy, go_sem, c0, c1, c2, e0, e1, e2, hd]
  exact hK
/-- A frame's variable. -/
structure FV (W : World) (g : Nat) (f : Frm) : Prop where
  out : ∃ A c, W.heap[g]? = some (.cells #[.int .u8 (f.1.toNat : Int), .int .u8 (f.2.1.toNat : Int), .slice A f.2.2.length c] 41 (0, 0)) ∧ SliceAt W 1 (.slice A f.2.2.length c) f.2.2.length (u8s f.2.2)
theorem FV.later {W W' : World} {g : Nat} {f : Frm} (h : FV W g f) (hb : Below W.heap.size W W') : FV W' g f := by
  obtain ⟨A, c, h1, h2⟩ := h.out
  exact ⟨A, c, below_at hb h1 (lt_of_at h1), h2.later hb⟩
theorem frame_far3' {W : World} {g g' : Nat} {o : Obj} (h : W.heap[g]? = some o) (hn : g ≠ g') (x y z : Value) : (((W.setCell ⟨g', 0, none⟩ x).setCell ⟨g', 1, none⟩ y).setCell ⟨g', 2, none⟩ z).heap[g]? = some o := (far3 hn x y z).trans h
theorem slice_zero {w w' : World} {A : Option Addr} {c : Nat} {p : List (BitVec 8)} (h : SliceAt w 1 (.slice A p.length c) p.length (u8s p)) (h0 : p = []) : SliceAt w' 1 (.slice A p.length c) p.length (u8s p) := by
  subst h0
  obtain ⟨A', c', e, h1, h2, h3, _⟩ := h
  exact ⟨A', c', e, h1, h2, h3, .inl rfl⟩
theorem FV.mk3 {W : World} {g : Nat} {f : Frm} {A : Option Addr} {c : Nat} {f0 f1 f2 : Value} (h : W.heap[g]? = some (.cells #[f0, f1, f2] 41 (0, 0))) (hs : SliceAt W 1 (.slice A f.2.2.length c) f.2.2.length (u8s f.2.2)) (h0 : f.2.2 = []) :
    FV (((W.setCell ⟨g, 0, none⟩ (.int .u8 (f.1.toNat : Int))).setCell ⟨g, 1, none⟩ (.int .u8 (f.2.1.toNat : Int))).setCell ⟨g, 2, none⟩ (.slice A f.2.2.length c)) g f :=
  ⟨A, c, by rw [set_at (set_at (set_at h 0 _) 1 _) 2 _]; simp, slice_zero hs h0⟩
end Go.Proofs.YtlanlkpamnoekaaDoor
namespace Go.Proofs.YtlanlkpamnoekaaDoor
open Go Go.RowKit Rf Mem Bv Crc Str Lk
set_option maxRecDepth 100000
attribute [local go_sem ↓] run_max2 run_min2
def nthSeq : Nat → Code → Code
  | 0, .seq a _ => a
  | n + 1, .seq _ b => nthSeq n b
  | _, c => c
def lit190 (j : Nat → Value) : List Value := [j 0, j 1, j 2, j 3, j 4, j 5, j 6, j 7, j 8, j 9, j 10, j 11, j 12, j 13, j 14, j 15, j 16, j 17, j 18, j 19, j 20, j 21, j 22, j 23, j 24, j 25, j 26, j 27, j 28, j 29, j 30, j 31, j 32, j 33, j 34, j 35, j 36, j 37, j 38, j 39, j 40, j 41, j 42, j 43, j 44, j 45, j 46, j 47, j 48, j 49] ++ ([j 50, j 51, j 52, j 53, j 54, j 55, j 56, j 57, j 58, j 59, j 60, j 61, j 62, j 63, j 64, j 65, j 66, j 67, j 68, j 69, j 70, j 71, j 72, j 73, j 74, j 75, j 76, j 77, j 78, j 79, j 80, j 81, j 82, j 83, j 84, j 85, j 86, j 87, j 88, j 89, j 90, j 91, j 92, j 93, j 94, j 95, j 96, j 97, j 98, j 99] ++ ([j 100, j 101, j 102, j 103, j 104, j 105, j 106, j 107, j 108, j 109, j 110, j 111, j 112, j 113, j 114, j 115, j 116, j 117, j 118, j 119, j 120, j 121, j 122, j 123, j 124, j 125, j 126, j 127, j 128, j 129, j 130, j 131, j 132, j 133, j 134, j 135, j 136, j 137, j 138, j 139, j 140, j 141, j 142, j 143, j 144, j 145, j 146, j 147, j 148, j 149] ++ ([j 150, j 151, j 152, j 153, j 154, j 155, j 156, j 157, j 158, j 159, j 160, j 161, j 162, j 163, j 164, j 165, j 166, j 167, j 168, j 169, j 170, j 171, j 172, j 173, j 174, j 175, j 176, j 177, j 178, j 179, j 180, j 181, j 182, j 183, j 184, j 185, j 186, j 187, j 188, j 189])))
theorem lit190_eq (j : Nat → Value) : (List.range 190).map j = lit190 j := by kernel_rfl
theorem Sl.lit190 {a : Act} {l : List (Nat × Value)} (h : Sl a 190 l) : ∃ j : Nat → Value, a = ⟨(lit190 j).toArray, []⟩ ∧ ∀ p ∈ l, j p.1 = p.2 := by
  obtain ⟨j, h1, h2⟩ := h.letters
  exact ⟨j, by rw [h1, lit190_eq], h2⟩

noncomputable def body10 : Code := Tryd.f10.body.getD .skip
noncomputable def rg (k : Nat) : Code := nthSeq k body10
theorem body10_eq : body10 = .seq (rg 0) (.seq (rg 1) (.seq (rg 2) (.seq (rg 3) (.seq (rg 4) (.seq (rg 5) (.seq (rg 6) (.seq (rg 7) (.seq (rg 8) (.seq (rg 9) (.seq (rg 10) (.seq (rg 11) (.seq (rg 12) (.seq (rg 13) .ret))))))))))))) := rfl

theorem wk0 (a : Act) (hS : Sl a 190 []) (w : World) : (rg 0).wp Tryd.prog (nrm fun a' w' => Sl a' 190 [(0, .bool false)] ∧ w' = w) a w := by
  obtain ⟨j, rfl, hj⟩ := hS.lit190
  unfold rg body10
  simp only [Tryd.f10, Option.getD_some, nthSeq, lit190, List.cons_append, List.nil_append]
  go_wp2
  exact ⟨⟨rfl, rfl, by simp⟩, rfl⟩

def y1 : Nat → Value := fun i => if i < 4 then .slice none 0 0 else .int .i64 0
theorem wk1 (a : Act) (hS : Sl a 190 [(0, .bool false)]) (w : World) : (rg 1).wp Tryd.prog (nrm fun a' w' => Sl a' 190 [(0, .bool false), (1, .pointer (some ⟨w.heap.size, 0, none⟩))] ∧ LY w' w.heap.size y1 1 ∧ Below w.heap.size w w') a w := by
  obtain ⟨j, rfl, hj⟩ := hS.lit190
  have h0 : j 0 = .bool false := hj (0, _) (by simp)
  clear hj hS
  unfold rg body10
  simp only [Tryd.f10, Option.getD_some, nthSeq, lit190, List.cons_append, List.nil_append, h0]
  have b1 := below_new w (.cells (lyc y1 1) 29)
  have Y : LY (w.alloc (.cells (lyc y1 1) 29)) w.heap.size y1 1 := ⟨new_at rfl _⟩
  go_wp2
  exact ⟨⟨rfl, rfl, by simp⟩, Y, b1⟩

/-- a panel's frame, heard -/
theorem hear_panel (n : BitVec 8) (n' : Int) (hn : n' = n.toNat) (x : Lst) (hr : rightL x.1 x.2.1 x.2.2 = true) : hearV 2 (panelV n) x = if 0 ≤ x.1 ∧ newer n' x.1 = false then ((x.1, x.2.1, onV x.2.2 1 65535), 290, noF) else ((n', 0, x.2.2), 0, (2#8, n, [])) := by
  subst hn
  have ht : takeV (panelV n) = (2#8, n, [], 0) := take_hb 2#8 n [] rfl
  unfold hearV
  rw [ht, if_neg (by rw [hr]; simp), if_neg (by simp), if_neg (show ¬ (((2#8 : BitVec 8).toNat : Int) ≠ 2) by decide)]
theorem wk2 (a : Act) (g1 : Nat) (hS : Sl a 190 [(0, .bool false), (1, .pointer (some ⟨g1, 0, none⟩))]) (w : World) (hT : Tops w) : (rg 2).wp Tryd.prog (nrm fun a' w' => ∃ g2 g3, Sl a' 190 [(0, .bool false), (1, .pointer (some ⟨g1, 0, none⟩)), (2, .pointer (some ⟨g2, 0, none⟩)), (3, .pointer (some ⟨g3, 0, none⟩)), (4, .int .i64 0)] ∧ LVar w' g2 200 0 0 ∧ FV w' g3 (2#8, 200#8, []) ∧ Below w.heap.size w w') a w := by
  obtain ⟨j, rfl, hj⟩ := hS.lit190
  have h0 : j 0 = .bool false := hj (0, _) (by simp)
  have h1 : j 1 = .pointer (some ⟨g1, 0, none⟩) := hj (1, _) (by simp)
  clear hj hS
  unfold rg body10
  simp only [Tryd.f10, Option.getD_some, nthSeq, lit190, List.cons_append, List.nil_append, h0, h1]
  go_wp2_with fail
  refine (New_c w).mono ?_
  rintro e W1 ⟨rfl, b1⟩
  obtain ⟨X, hX⟩ : ∃ X, X = panelV 200#8 := ⟨_, rfl⟩
  go_wp2_with fail
  refine (panel_c 200#8 200 rfl X hX W1).mono ?_
  rintro e W2 ⟨b2, A, c, rfl, hs⟩
  have B2 := below_step b1 b2
  have hr : (((200, 0, 0), 0, (2#8, 200#8, [])) : Lst × Int × Frm) = hearV 2 X (-1, 65535, 0) := by rw [hX, hear_panel 200#8 200 rfl (-1, 65535, 0) (by decide)]; rfl
  have HR := Lib.hid hr
  have hl : X.length ≤ 140737488355328 := by rw [hX]; decide
  clear hr hX
  go_wp2_with fail
  refine (Hear_v (-1, 65535, 0) 2 (.slice A X.length c) X W2 _ HR.out (hT.below B2) hs hl).mono ?_
  rintro e W3 ⟨A3, c3, rfl, b3, hs3, _⟩
  have B3 := below_step B2 b3
  clear hs hl HR B2 b1 b2 b3 hT
  have b4 := below_new W3 (.cells #[.int .i64 200, .int .i64 0, .int .i64 0] 31)
  have V4 := LVar.new W3 200 0 0
  have b5 := below_new (W3.alloc (.cells #[.int .i64 200, .int .i64 0, .int .i64 0] 31)) (.cells #[.int .u8 2, .int .u8 200, .slice A3 0 c3] 41)
  have B5 := below_step (below_step B3 b4) b5
  have F : FV ((W3.alloc (.cells #[.int .i64 200, .int .i64 0, .int .i64 0] 31)).alloc (.cells #[.int .u8 2, .int .u8 200, .slice A3 0 c3] 41)) (W3.alloc (.cells #[.int .i64 200, .int .i64 0, .int .i64 0] 31)).heap.size (2#8, 200#8, []) := ⟨A3, c3, new_at rfl _, (hs3.later b4).later b5⟩
  have V5 := V4.later b5
  clear b4 V4 b5 B3 hs3
  go_wp2
  exact ⟨_, _, ⟨rfl, rfl, by simp⟩, V5, F, B5⟩
end Go.Proofs.YtlanlkpamnoekaaDoor
namespace Go.Proofs.YtlanlkpamnoekaaDoor
open List renaming getElem_toArray → zA, getElem_cons_succ → zS, getElem_cons_zero → zZ, setIfInBounds_toArray → zP, set_cons_zero → zQ, set_cons_succ → zR
open Go Go.RowKit Rf Mem Bv Crc Str Lk
set_option maxRecDepth 100000
attribute [local go_sem ↓] run_max2 run_min2
set_option maxHeartbeats 4000000 in
theorem wk3 (a : Act) (g1 g2 g3 : Nat) (hS : Sl a 190 [(0, .bool false), (1, .pointer (some ⟨g1, 0, none⟩)), (2, .pointer (some ⟨g2, 0, none⟩)), (3, .pointer (some ⟨g3, 0, none⟩)), (4, .int .i64 0)]) (w : World) (hT : Tops w) (L : LVar w g2 200 0 0) : (rg 3).wp Tryd.prog (nrm fun a' w' => ∃ ga gb, Sl a' 190 [(0, .bool false), (1, .pointer (some ⟨g1, 0, none⟩)), (2, .pointer (some ⟨g2, 0, none⟩)), (3, .pointer (some ⟨g3, 0, none⟩)), (4, .int .i64 0), (5, .pointer (some ⟨ga, 0, none⟩)), (6, .pointer (some ⟨gb, 0, none⟩)), (7, .int .i64 290)] ∧ LVar w' ga 200 0 1 ∧ FV w' gb noF ∧ Below w.heap.size w w') a w := by
  obtain ⟨j, rfl, hj⟩ := hS.lit190
  have h0 : j 0 = .bool false := hj (0, _) (by simp)
  have h1 : j 1 = .pointer (some ⟨g1, 0, none⟩) := hj (1, _) (by simp)
  have h2 : j 2 = .pointer (some ⟨g2, 0, none⟩) := hj (2, _) (by simp)
  have h3 : j 3 = .pointer (some ⟨g3, 0, none⟩) := hj (3, _) (by simp)
  have h4 : j 4 = .int .i64 0 := hj (4, _) (by simp)
  clear hj hS
  unfold rg body10
  simp only [Tryd.f10, Option.getD_some, nthSeq, lit190, List.cons_append, List.nil_append, h0, h1, h2, h3, h4]
  obtain ⟨X, hX⟩ : ∃ X, X = panelV 200#8 := ⟨_, rfl⟩
  have hr : (((200, 0, 1), 290, noF) : Lst × Int × Frm) = hearV 2 X (200, 0, 0) := by rw [hX]; exact (by rw [hear_panel 200#8 200 rfl (200, 0, 0) (by decide)]; rfl)
  have HR := Lib.hid hr
  have hl : X.length ≤ 140737488355328 := by rw [hX]; decide
  have HL := Lib.hid hl
  have HX := Lib.hid hX
  clear hr hX hl
  refine wp_region_held_drew (S := (fun w' => LVar w' g2 200 0 0)) (by kernel_rfl) ?_ (fun hHeld => ?_)
  · exact ⟨L.at_⟩
  have Bb : Below w.heap.size w w.drew := (Below.refl _ w).drew
  clear hHeld
  have L0 := L.later Bb
  have hT0 := hT.below Bb
  have hg2 := lt_of_at L.at_
  clear L hT
  generalize w.drew = V at *
  have hHeld := L0
  refine Node.tk 0 (lk 200 0 0) rfl (fun _ hSw => run_ld hSw rfl rfl) ?_
  simp only [zA, zS, zZ, Act.put, zP, zQ, zR]
  clear hHeld
  refine wpAnyH_ready (rs := [1, 7, 8]) (by kernel_rfl) (by simp) ?_
  refine AllReadyH.cons rfl (fun K hK => ?_) (AllReadyH.cons rfl (fun K hK => ?_) (AllReadyH.cons rfl (fun K hK => ?_) AllReadyH.nil))
  · skip
    refine Node.wp_fn 31 [.const (.int .u8 200)] _ [.int .u8 200] (by rfl) (by rfl) (enters Tryd.func31 (by kernel_rfl) rfl) (panel_c 200#8 200 rfl X HX.out V) ?_
    rintro e V' ⟨b, Ap, cp, rfl, hs⟩
    refine ⟨_, rfl, ?_⟩
    replace Bb := below_step Bb b
    replace L0 := L0.later b
    replace hT0 := hT0.below b
    try replace N5 := N5.later b
    try replace N6 := below_at b N6 (lt_of_at N6)
    clear b
    generalize V' = V at *
    refine hK.out _ _ L0 (fun _ => ?_)
    clear hK K
    try simp only [zA, zS, zZ, Act.put, zP, zQ, zR]
    refine wpAnyH_ready (rs := [2, 7, 8]) (by kernel_rfl) (by simp) ?_
    refine AllReadyH.cons rfl (fun K hK => ?_) (AllReadyH.cons rfl (fun K hK => ?_) (AllReadyH.cons rfl (fun K hK => ?_) AllReadyH.nil))
    · skip
      refine Node.wp_fn 11 [.tmp 36, .const (.int .u8 2), .tmp 37] _ [lkv (200, 0, 0), .int .u8 2, .slice Ap X.length cp] (by rfl) (by rfl) (enters Tryd.func11 (by kernel_rfl) rfl) (Hear_v (200, 0, 0) 2 (.slice Ap X.length cp) X V _ HR.out hT0 hs HL.out) ?_
      rintro e V' ⟨A3, c3, rfl, b, hp, hq⟩
      clear hq
      refine ⟨_, rfl, ?_⟩
      replace Bb := below_step Bb b
      replace L0 := L0.later b
      replace hT0 := hT0.below b
      try replace N5 := N5.later b
      try replace N6 := below_at b N6 (lt_of_at N6)
      clear b hs
      generalize V' = V at *
      refine hK.out _ _ L0 (fun _ => ?_)
      clear hK K
      try simp only [zA, zS, zZ, Act.put, zP, zQ, zR]
      refine Node.tk 3 ?_ rfl ?_ ?_
      rotate_left
      · intro w hSw; (try dsimp only at hSw); go_simp; try with_reducible rfl
      simp only [zA, zS, zZ, Act.put, zP, zQ, zR]
      refine Node.tk 4 ?_ rfl ?_ ?_
      rotate_left
      · intro w hSw; (try dsimp only at hSw); go_simp; try with_reducible rfl
      simp only [zA, zS, zZ, Act.put, zP, zQ, zR]
      refine Node.tk 5 ?_ rfl ?_ ?_
      rotate_left
      · intro w hSw; (try dsimp only at hSw); go_simp; try with_reducible rfl
      simp only [zA, zS, zZ, Act.put, zP, zQ, zR]
      refine Node.tk 6 ?_ rfl ?_ ?_
      rotate_left
      · intro w hSw; (try dsimp only at hSw); go_simp; try with_reducible rfl
      simp only [zA, zS, zZ, Act.put, zP, zQ, zR]
      refine wpAnyH_ready (rs := [7, 8]) (by kernel_rfl) (by simp) ?_
      refine AllReadyH.cons rfl (fun K hK => ?_) (AllReadyH.cons rfl (fun K hK => ?_) AllReadyH.nil)
      · skip
        have N5 := LVar.new V 0 0 0
        have b := below_new V (.cells #[.int .i64 0, .int .i64 0, .int .i64 0] 31)
        refine Node.wp_new 31 (.agg #[.int .i64 0, .int .i64 0, .int .i64 0]) #[.int .i64 0, .int .i64 0, .int .i64 0] (by kernel_rfl) rfl (by rfl) ?_
        have n5 := Bb.size
        replace Bb := below_step Bb b
        replace L0 := L0.later b
        replace hT0 := hT0.below b
        try replace hs := hs.later b
        try replace hp := hp.later b
        try (have n56 := lt_of_at N6; replace N6 := below_at b N6 n56)
        clear b
        generalize V.heap.size = g5 at *
        generalize V.alloc (.cells #[.int .i64 0, .int .i64 0, .int .i64 0] 31) = V at *
        try replace n56 := Nat.ne_of_lt n56
        refine hK.out _ _ L0 (fun _ => ?_)
        clear hK K
        try simp only [zA, zS, zZ, Act.put, zP, zQ, zR]
        refine Node.on 8 rfl (fun K hK => ?_)
        have N6 := new_at (w := V) rfl (.cells #[.int .u8 0, .int .u8 0, .slice none 0 0] 41)
        have b := below_new V (.cells #[.int .u8 0, .int .u8 0, .slice none 0 0] 41)
        refine Node.wp_new 41 (.agg #[.int .u8 0, .int .u8 0, .slice none 0 0]) #[.int .u8 0, .int .u8 0, .slice none 0 0] (by kernel_rfl) rfl (by rfl) ?_
        have n6 := Bb.size
        replace Bb := below_step Bb b
        replace L0 := L0.later b
        replace hT0 := hT0.below b
        try replace hs := hs.later b
        try replace hp := hp.later b
        try (have n56 := lt_of_at N5.at_; replace N5 := N5.later b)
        clear b
        generalize V.heap.size = g6 at *
        generalize V.alloc (.cells #[.int .u8 0, .int .u8 0, .slice none 0 0] 41) = V at *
        try replace n56 := Ne.symm (Nat.ne_of_lt n56)
        refine hK.out _ _ L0 (fun _ => ?_)
        clear hK K
        try simp only [zA, zS, zZ, Act.put, zP, zQ, zR]
        refine Node.on 9 rfl (fun K hK => ?_)
        refine wp_st_lk N5 rfl rfl rfl rfl ?_
        have hn5 := lt_of_at N5.at_
        replace L0 := L0.far3 (g' := g5) (by omega) 200 0 1
        replace N6 := frame_far3 N6 (g' := g5) n56 200 0 1
        have N5' := N5.set3 200 0 1
        replace Bb := ((Bb.setCell (p := ⟨g5, 0, none⟩) n5 (.int .i64 200)).setCell (p := ⟨g5, 1, none⟩) n5 (.int .i64 0)).setCell (p := ⟨g5, 2, none⟩) n5 (.int .i64 1)
        replace hp : SliceAt (((V.setCell ⟨g5, 0, none⟩ (.int .i64 200)).setCell ⟨g5, 1, none⟩ (.int .i64 0)).setCell ⟨g5, 2, none⟩ (.int .i64 1)) 1 (.slice A3 noF.2.2.length c3) noF.2.2.length (u8s noF.2.2) := slice_zero hp rfl
        clear N5 hT0 hn5
        generalize ((V.setCell ⟨g5, 0, none⟩ (.int .i64 200)).setCell ⟨g5, 1, none⟩ (.int .i64 0)).setCell ⟨g5, 2, none⟩ (.int .i64 1) = V at *
        refine hK.out _ _ L0 (fun _ => ?_)
        clear hK K
        try simp only [zA, zS, zZ, Act.put, zP, zQ, zR]
        refine Node.on 10 rfl (fun K hK => ?_)
        refine wp_st_fr N6 rfl rfl rfl rfl ?_
        have F := FV.mk3 (f := noF) N6 hp rfl
        have hn6 := lt_of_at N6
        replace L0 := L0.at_
        replace L0 : LVar (((V.setCell ⟨g6, 0, none⟩ (.int .u8 (noF.1.toNat : Int))).setCell ⟨g6, 1, none⟩ (.int .u8 (noF.2.1.toNat : Int))).setCell ⟨g6, 2, none⟩ (.slice A3 noF.2.2.length c3)) g2 200 0 0 := ⟨frame_far3' L0 (by omega) _ _ _⟩
        replace N5' : LVar (((V.setCell ⟨g6, 0, none⟩ (.int .u8 (noF.1.toNat : Int))).setCell ⟨g6, 1, none⟩ (.int .u8 (noF.2.1.toNat : Int))).setCell ⟨g6, 2, none⟩ (.slice A3 noF.2.2.length c3)) g5 200 0 1 := ⟨frame_far3' N5'.at_ (Ne.symm n56) _ _ _⟩
        replace Bb := ((Bb.setCell (p := ⟨g6, 0, none⟩) n6 (.int .u8 (noF.1.toNat : Int))).setCell (p := ⟨g6, 1, none⟩) n6 (.int .u8 (noF.2.1.toNat : Int))).setCell (p := ⟨g6, 2, none⟩) n6 (.slice A3 noF.2.2.length c3)
        clear N6 hp
        generalize ((V.setCell ⟨g6, 0, none⟩ (.int .u8 (noF.1.toNat : Int))).setCell ⟨g6, 1, none⟩ (.int .u8 (noF.2.1.toNat : Int))).setCell ⟨g6, 2, none⟩ (.slice A3 noF.2.2.length c3) = V at *
        refine hK.out _ _ L0 (fun _ => ?_)
        clear hK K
        try simp only [zA, zS, zZ, Act.put, zP, zQ, zR]
        refine Node.tk 11 ?_ rfl ?_ ?_
        rotate_left
        · intro w hSw; (try dsimp only at hSw); go_simp; try with_reducible rfl
        simp only [zA, zS, zZ, Act.put, zP, zQ, zR]
        refine wpAnyH_done (by kernel_rfl) ?_ _
        exact ⟨g5, g6, ⟨rfl, rfl, by simp⟩, N5', F, Bb⟩
      · skip
        have N6 := new_at (w := V) rfl (.cells #[.int .u8 0, .int .u8 0, .slice none 0 0] 41)
        have b := below_new V (.cells #[.int .u8 0, .int .u8 0, .slice none 0 0] 41)
        refine Node.wp_new 41 (.agg #[.int .u8 0, .int .u8 0, .slice none 0 0]) #[.int .u8 0, .int .u8 0, .slice none 0 0] (by kernel_rfl) rfl (by rfl) ?_
        have n6 := Bb.size
        replace Bb := below_step Bb b
        replace L0 := L0.later b
        replace hT0 := hT0.below b
        try replace hs := hs.later b
        try replace hp := hp.later b
        try (have n56 := lt_of_at N5.at_; replace N5 := N5.later b)
        clear b
        generalize V.heap.size = g6 at *
        generalize V.alloc (.cells #[.int .u8 0, .int .u8 0, .slice none 0 0] 41) = V at *
        try replace n56 := Ne.symm (Nat.ne_of_lt n56)
        refine hK.out _ _ L0 (fun _ => ?_)
        clear hK K
        try simp only [zA, zS, zZ, Act.put, zP, zQ, zR]
        refine Node.on 7 rfl (fun K hK => ?_)
        have N5 := LVar.new V 0 0 0
        have b := below_new V (.cells #[.int .i64 0, .int .i64 0, .int .i64 0] 31)
        refine Node.wp_new 31 (.agg #[.int .i64 0, .int .i64 0, .int .i64 0]) #[.int .i64 0, .int .i64 0, .int .i64 0] (by kernel_rfl) rfl (by rfl) ?_
        have n5 := Bb.size
        replace Bb := below_step Bb b
        replace L0 := L0.later b
        replace hT0 := hT0.below b
        try replace hs := hs.later b
        try replace hp := hp.later b
        try (have n56 := lt_of_at N6; replace N6 := below_at b N6 n56)
        clear b
        generalize V.heap.size = g5 at *
        generalize V.alloc (.cells #[.int .i64 0, .int .i64 0, .int .i64 0] 31) = V at *
        try replace n56 := Nat.ne_of_lt n56
        refine hK.out _ _ L0 (fun _ => ?_)
        clear hK K
        try simp only [zA, zS, zZ, Act.put, zP, zQ, zR]
        refine Node.on 9 rfl (fun K hK => ?_)
        refine wp_st_lk N5 rfl rfl rfl rfl ?_
        have hn5 := lt_of_at N5.at_
        replace L0 := L0.far3 (g' := g5) (by omega) 200 0 1
        replace N6 := frame_far3 N6 (g' := g5) n56 200 0 1
        have N5' := N5.set3 200 0 1
        replace Bb := ((Bb.setCell (p := ⟨g5, 0, none⟩) n5 (.int .i64 200)).setCell (p := ⟨g5, 1, none⟩) n5 (.int .i64 0)).setCell (p := ⟨g5, 2, none⟩) n5 (.int .i64 1)
        replace hp : SliceAt (((V.setCell ⟨g5, 0, none⟩ (.int .i64 200)).setCell ⟨g5, 1, none⟩ (.int .i64 0)).setCell ⟨g5, 2, none⟩ (.int .i64 1)) 1 (.slice A3 noF.2.2.length c3) noF.2.2.length (u8s noF.2.2) := slice_zero hp rfl
        clear N5 hT0 hn5
        generalize ((V.setCell ⟨g5, 0, none⟩ (.int .i64 200)).setCell ⟨g5, 1, none⟩ (.int .i64 0)).setCell ⟨g5, 2, none⟩ (.int .i64 1) = V at *
        refine hK.out _ _ L0 (fun _ => ?_)
        clear hK K
        try simp only [zA, zS, zZ, Act.put, zP, zQ, zR]
        refine Node.on 10 rfl (fun K hK => ?_)
        refine wp_st_fr N6 rfl rfl rfl rfl ?_
        have F := FV.mk3 (f := noF) N6 hp rfl
        have hn6 := lt_of_at N6
        replace L0 := L0.at_
        replace L0 : LVar (((V.setCell ⟨g6, 0, none⟩ (.int .u8 (noF.1.toNat : Int))).setCell ⟨g6, 1, none⟩ (.int .u8 (noF.2.1.toNat : Int))).setCell ⟨g6, 2, none⟩ (.slice A3 noF.2.2.length c3)) g2 200 0 0 := ⟨frame_far3' L0 (by omega) _ _ _⟩
        replace N5' : LVar (((V.setCell ⟨g6, 0, none⟩ (.int .u8 (noF.1.toNat : Int))).setCell ⟨g6, 1, none⟩ (.int .u8 (noF.2.1.toNat : Int))).setCell ⟨g6, 2, none⟩ (.slice A3 noF.2.2.length c3)) g5 200 0 1 := ⟨frame_far3' N5'.at_ (Ne.symm n56) _ _ _⟩
        replace Bb := ((Bb.setCell (p := ⟨g6, 0, none⟩) n6 (.int .u8 (noF.1.toNat : Int))).setCell (p := ⟨g6, 1, none⟩) n6 (.int .u8 (noF.2.1.toNat : Int))).setCell (p := ⟨g6, 2, none⟩) n6 (.slice A3 noF.2.2.length c3)
        clear N6 hp
        generalize ((V.setCell ⟨g6, 0, none⟩ (.int .u8 (noF.1.toNat : Int))).setCell ⟨g6, 1, none⟩ (.int .u8 (noF.2.1.toNat : Int))).setCell ⟨g6, 2, none⟩ (.slice A3 noF.2.2.length c3) = V at *
        refine hK.out _ _ L0 (fun _ => ?_)
        clear hK K
        try simp only [zA, zS, zZ, Act.put, zP, zQ, zR]
        refine Node.tk 11 ?_ rfl ?_ ?_
        rotate_left
        · intro w hSw; (try dsimp only at hSw); go_simp; try with_reducible rfl
        simp only [zA, zS, zZ, Act.put, zP, zQ, zR]
        refine wpAnyH_done (by kernel_rfl) ?_ _
        exact ⟨g5, g6, ⟨rfl, rfl, by simp⟩, N5', F, Bb⟩
    · skip
      have N5 := LVar.new V 0 0 0
      have b := below_new V (.cells #[.int .i64 0, .int .i64 0, .int .i64 0] 31)
      refine Node.wp_new 31 (.agg #[.int .i64 0, .int .i64 0, .int .i64 0]) #[.int .i64 0, .int .i64 0, .int .i64 0] (by kernel_rfl) rfl (by rfl) ?_
      have n5 := Bb.size
      replace Bb := below_step Bb b
      replace L0 := L0.later b
      replace hT0 := hT0.below b
      try replace hs := hs.later b
      try replace hp := hp.later b
      try (have n56 := lt_of_at N6; replace N6 := below_at b N6 n56)
      clear b
      generalize V.heap.size = g5 at *
      generalize V.alloc (.cells #[.int .i64 0, .int .i64 0, .int .i64 0] 31) = V at *
      try replace n56 := Nat.ne_of_lt n56
      refine hK.out _ _ L0 (fun _ => ?_)
      clear hK K
      try simp only [zA, zS, zZ, Act.put, zP, zQ, zR]
      refine wpAnyH_ready (rs := [2, 8]) (by kernel_rfl) (by simp) ?_
      refine AllReadyH.cons rfl (fun K hK => ?_) (AllReadyH.cons rfl (fun K hK => ?_) AllReadyH.nil)
      · skip
        refine Node.wp_fn 11 [.tmp 36, .const (.int .u8 2), .tmp 37] _ [lkv (200, 0, 0), .int .u8 2, .slice Ap X.length cp] (by rfl) (by rfl) (enters Tryd.func11 (by kernel_rfl) rfl) (Hear_v (200, 0, 0) 2 (.slice Ap X.length cp) X V _ HR.out hT0 hs HL.out) ?_
        rintro e V' ⟨A3, c3, rfl, b, hp, hq⟩
        clear hq
        refine ⟨_, rfl, ?_⟩
        replace Bb := below_step Bb b
        replace L0 := L0.later b
        replace hT0 := hT0.below b
        try replace N5 := N5.later b
        try replace N6 := below_at b N6 (lt_of_at N6)
        clear b hs
        generalize V' = V at *
        refine hK.out _ _ L0 (fun _ => ?_)
        clear hK K
        try simp only [zA, zS, zZ, Act.put, zP, zQ, zR]
        refine Node.tk 3 ?_ rfl ?_ ?_
        rotate_left
        · intro w hSw; (try dsimp only at hSw); go_simp; try with_reducible rfl
        simp only [zA, zS, zZ, Act.put, zP, zQ, zR]
        refine Node.tk 4 ?_ rfl ?_ ?_
        rotate_left
        · intro w hSw; (try dsimp only at hSw); go_simp; try with_reducible rfl
        simp only [zA, zS, zZ, Act.put, zP, zQ, zR]
        refine Node.tk 5 ?_ rfl ?_ ?_
        rotate_left
        · intro w hSw; (try dsimp only at hSw); go_simp; try with_reducible rfl
        simp only [zA, zS, zZ, Act.put, zP, zQ, zR]
        refine Node.tk 6 ?_ rfl ?_ ?_
        rotate_left
        · intro w hSw; (try dsimp only at hSw); go_simp; try with_reducible rfl
        simp only [zA, zS, zZ, Act.put, zP, zQ, zR]
        refine Node.on 8 rfl (fun K hK => ?_)
        have N6 := new_at (w := V) rfl (.cells #[.int .u8 0, .int .u8 0, .slice none 0 0] 41)
        have b := below_new V (.cells #[.int .u8 0, .int .u8 0, .slice none 0 0] 41)
        refine Node.wp_new 41 (.agg #[.int .u8 0, .int .u8 0, .slice none 0 0]) #[.int .u8 0, .int .u8 0, .slice none 0 0] (by kernel_rfl) rfl (by rfl) ?_
        have n6 := Bb.size
        replace Bb := below_step Bb b
        replace L0 := L0.later b
        replace hT0 := hT0.below b
        try replace hs := hs.later b
        try replace hp := hp.later b
        try (have n56 := lt_of_at N5.at_; replace N5 := N5.later b)
        clear b
        generalize V.heap.size = g6 at *
        generalize V.alloc (.cells #[.int .u8 0, .int .u8 0, .slice none 0 0] 41) = V at *
        try replace n56 := Ne.symm (Nat.ne_of_lt n56)
        refine hK.out _ _ L0 (fun _ => ?_)
        clear hK K
        try simp only [zA, zS, zZ, Act.put, zP, zQ, zR]
        refine Node.on 9 rfl (fun K hK => ?_)
        refine wp_st_lk N5 rfl rfl rfl rfl ?_
        have hn5 := lt_of_at N5.at_
        replace L0 := L0.far3 (g' := g5) (by omega) 200 0 1
        replace N6 := frame_far3 N6 (g' := g5) n56 200 0 1
        have N5' := N5.set3 200 0 1
        replace Bb := ((Bb.setCell (p := ⟨g5, 0, none⟩) n5 (.int .i64 200)).setCell (p := ⟨g5, 1, none⟩) n5 (.int .i64 0)).setCell (p := ⟨g5, 2, none⟩) n5 (.int .i64 1)
        replace hp : SliceAt (((V.setCell ⟨g5, 0, none⟩ (.int .i64 200)).setCell ⟨g5, 1, none⟩ (.int .i64 0)).setCell ⟨g5, 2, none⟩ (.int .i64 1)) 1 (.slice A3 noF.2.2.length c3) noF.2.2.length (u8s noF.2.2) := slice_zero hp rfl
        clear N5 hT0 hn5
        generalize ((V.setCell ⟨g5, 0, none⟩ (.int .i64 200)).setCell ⟨g5, 1, none⟩ (.int .i64 0)).setCell ⟨g5, 2, none⟩ (.int .i64 1) = V at *
        refine hK.out _ _ L0 (fun _ => ?_)
        clear hK K
        try simp only [zA, zS, zZ, Act.put, zP, zQ, zR]
        refine Node.on 10 rfl (fun K hK => ?_)
        refine wp_st_fr N6 rfl rfl rfl rfl ?_
        have F := FV.mk3 (f := noF) N6 hp rfl
        have hn6 := lt_of_at N6
        replace L0 := L0.at_
        replace L0 : LVar (((V.setCell ⟨g6, 0, none⟩ (.int .u8 (noF.1.toNat : Int))).setCell ⟨g6, 1, none⟩ (.int .u8 (noF.2.1.toNat : Int))).setCell ⟨g6, 2, none⟩ (.slice A3 noF.2.2.length c3)) g2 200 0 0 := ⟨frame_far3' L0 (by omega) _ _ _⟩
        replace N5' : LVar (((V.setCell ⟨g6, 0, none⟩ (.int .u8 (noF.1.toNat : Int))).setCell ⟨g6, 1, none⟩ (.int .u8 (noF.2.1.toNat : Int))).setCell ⟨g6, 2, none⟩ (.slice A3 noF.2.2.length c3)) g5 200 0 1 := ⟨frame_far3' N5'.at_ (Ne.symm n56) _ _ _⟩
        replace Bb := ((Bb.setCell (p := ⟨g6, 0, none⟩) n6 (.int .u8 (noF.1.toNat : Int))).setCell (p := ⟨g6, 1, none⟩) n6 (.int .u8 (noF.2.1.toNat : Int))).setCell (p := ⟨g6, 2, none⟩) n6 (.slice A3 noF.2.2.length c3)
        clear N6 hp
        generalize ((V.setCell ⟨g6, 0, none⟩ (.int .u8 (noF.1.toNat : Int))).setCell ⟨g6, 1, none⟩ (.int .u8 (noF.2.1.toNat : Int))).setCell ⟨g6, 2, none⟩ (.slice A3 noF.2.2.length c3) = V at *
        refine hK.out _ _ L0 (fun _ => ?_)
        clear hK K
        try simp only [zA, zS, zZ, Act.put, zP, zQ, zR]
        refine Node.tk 11 ?_ rfl ?_ ?_
        rotate_left
        · intro w hSw; (try dsimp only at hSw); go_simp; try with_reducible rfl
        simp only [zA, zS, zZ, Act.put, zP, zQ, zR]
        refine wpAnyH_done (by kernel_rfl) ?_ _
        exact ⟨g5, g6, ⟨rfl, rfl, by simp⟩, N5', F, Bb⟩
      · skip
        have N6 := new_at (w := V) rfl (.cells #[.int .u8 0, .int .u8 0, .slice none 0 0] 41)
        have b := below_new V (.cells #[.int .u8 0, .int .u8 0, .slice none 0 0] 41)
        refine Node.wp_new 41 (.agg #[.int .u8 0, .int .u8 0, .slice none 0 0]) #[.int .u8 0, .int .u8 0, .slice none 0 0] (by kernel_rfl) rfl (by rfl) ?_
        have n6 := Bb.size
        replace Bb := below_step Bb b
        replace L0 := L0.later b
        replace hT0 := hT0.below b
        try replace hs := hs.later b
        try replace hp := hp.later b
        try (have n56 := lt_of_at N5.at_; replace N5 := N5.later b)
        clear b
        generalize V.heap.size = g6 at *
        generalize V.alloc (.cells #[.int .u8 0, .int .u8 0, .slice none 0 0] 41) = V at *
        try replace n56 := Ne.symm (Nat.ne_of_lt n56)
        refine hK.out _ _ L0 (fun _ => ?_)
        clear hK K
        try simp only [zA, zS, zZ, Act.put, zP, zQ, zR]
        refine Node.on 2 rfl (fun K hK => ?_)
        refine Node.wp_fn 11 [.tmp 36, .const (.int .u8 2), .tmp 37] _ [lkv (200, 0, 0), .int .u8 2, .slice Ap X.length cp] (by rfl) (by rfl) (enters Tryd.func11 (by kernel_rfl) rfl) (Hear_v (200, 0, 0) 2 (.slice Ap X.length cp) X V _ HR.out hT0 hs HL.out) ?_
        rintro e V' ⟨A3, c3, rfl, b, hp, hq⟩
        clear hq
        refine ⟨_, rfl, ?_⟩
        replace Bb := below_step Bb b
        replace L0 := L0.later b
        replace hT0 := hT0.below b
        try replace N5 := N5.later b
        try replace N6 := below_at b N6 (lt_of_at N6)
        clear b hs
        generalize V' = V at *
        refine hK.out _ _ L0 (fun _ => ?_)
        clear hK K
        try simp only [zA, zS, zZ, Act.put, zP, zQ, zR]
        refine Node.tk 3 ?_ rfl ?_ ?_
        rotate_left
        · intro w hSw; (try dsimp only at hSw); go_simp; try with_reducible rfl
        simp only [zA, zS, zZ, Act.put, zP, zQ, zR]
        refine Node.tk 4 ?_ rfl ?_ ?_
        rotate_left
        · intro w hSw; (try dsimp only at hSw); go_simp; try with_reducible rfl
        simp only [zA, zS, zZ, Act.put, zP, zQ, zR]
        refine Node.tk 5 ?_ rfl ?_ ?_
        rotate_left
        · intro w hSw; (try dsimp only at hSw); go_simp; try with_reducible rfl
        simp only [zA, zS, zZ, Act.put, zP, zQ, zR]
        refine Node.tk 6 ?_ rfl ?_ ?_
        rotate_left
        · intro w hSw; (try dsimp only at hSw); go_simp; try with_reducible rfl
        simp only [zA, zS, zZ, Act.put, zP, zQ, zR]
        refine Node.on 9 rfl (fun K hK => ?_)
        refine wp_st_lk N5 rfl rfl rfl rfl ?_
        have hn5 := lt_of_at N5.at_
        replace L0 := L0.far3 (g' := g5) (by omega) 200 0 1
        replace N6 := frame_far3 N6 (g' := g5) n56 200 0 1
        have N5' := N5.set3 200 0 1
        replace Bb := ((Bb.setCell (p := ⟨g5, 0, none⟩) n5 (.int .i64 200)).setCell (p := ⟨g5, 1, none⟩) n5 (.int .i64 0)).setCell (p := ⟨g5, 2, none⟩) n5 (.int .i64 1)
        replace hp : SliceAt (((V.setCell ⟨g5, 0, none⟩ (.int .i64 200)).setCell ⟨g5, 1, none⟩ (.int .i64 0)).setCell ⟨g5, 2, none⟩ (.int .i64 1)) 1 (.slice A3 noF.2.2.length c3) noF.2.2.length (u8s noF.2.2) := slice_zero hp rfl
        clear N5 hT0 hn5
        generalize ((V.setCell ⟨g5, 0, none⟩ (.int .i64 200)).setCell ⟨g5, 1, none⟩ (.int .i64 0)).setCell ⟨g5, 2, none⟩ (.int .i64 1) = V at *
        refine hK.out _ _ L0 (fun _ => ?_)
        clear hK K
        try simp only [zA, zS, zZ, Act.put, zP, zQ, zR]
        refine Node.on 10 rfl (fun K hK => ?_)
        refine wp_st_fr N6 rfl rfl rfl rfl ?_
        have F := FV.mk3 (f := noF) N6 hp rfl
        have hn6 := lt_of_at N6
        replace L0 := L0.at_
        replace L0 : LVar (((V.setCell ⟨g6, 0, none⟩ (.int .u8 (noF.1.toNat : Int))).setCell ⟨g6, 1, none⟩ (.int .u8 (noF.2.1.toNat : Int))).setCell ⟨g6, 2, none⟩ (.slice A3 noF.2.2.length c3)) g2 200 0 0 := ⟨frame_far3' L0 (by omega) _ _ _⟩
        replace N5' : LVar (((V.setCell ⟨g6, 0, none⟩ (.int .u8 (noF.1.toNat : Int))).setCell ⟨g6, 1, none⟩ (.int .u8 (noF.2.1.toNat : Int))).setCell ⟨g6, 2, none⟩ (.slice A3 noF.2.2.length c3)) g5 200 0 1 := ⟨frame_far3' N5'.at_ (Ne.symm n56) _ _ _⟩
        replace Bb := ((Bb.setCell (p := ⟨g6, 0, none⟩) n6 (.int .u8 (noF.1.toNat : Int))).setCell (p := ⟨g6, 1, none⟩) n6 (.int .u8 (noF.2.1.toNat : Int))).setCell (p := ⟨g6, 2, none⟩) n6 (.slice A3 noF.2.2.length c3)
        clear N6 hp
        generalize ((V.setCell ⟨g6, 0, none⟩ (.int .u8 (noF.1.toNat : Int))).setCell ⟨g6, 1, none⟩ (.int .u8 (noF.2.1.toNat : Int))).setCell ⟨g6, 2, none⟩ (.slice A3 noF.2.2.length c3) = V at *
        refine hK.out _ _ L0 (fun _ => ?_)
        clear hK K
        try simp only [zA, zS, zZ, Act.put, zP, zQ, zR]
        refine Node.tk 11 ?_ rfl ?_ ?_
        rotate_left
        · intro w hSw; (try dsimp only at hSw); go_simp; try with_reducible rfl
        simp only [zA, zS, zZ, Act.put, zP, zQ, zR]
        refine wpAnyH_done (by kernel_rfl) ?_ _
        exact ⟨g5, g6, ⟨rfl, rfl, by simp⟩, N5', F, Bb⟩
    · skip
      have N6 := new_at (w := V) rfl (.cells #[.int .u8 0, .int .u8 0, .slice none 0 0] 41)
      have b := below_new V (.cells #[.int .u8 0, .int .u8 0, .slice none 0 0] 41)
      refine Node.wp_new 41 (.agg #[.int .u8 0, .int .u8 0, .slice none 0 0]) #[.int .u8 0, .int .u8 0, .slice none 0 0] (by kernel_rfl) rfl (by rfl) ?_
      have n6 := Bb.size
      replace Bb := below_step Bb b
      replace L0 := L0.later b
      replace hT0 := hT0.below b
      try replace hs := hs.later b
      try replace hp := hp.later b
      try (have n56 := lt_of_at N5.at_; replace N5 := N5.later b)
      clear b
      generalize V.heap.size = g6 at *
      generalize V.alloc (.cells #[.int .u8 0, .int .u8 0, .slice none 0 0] 41) = V at *
      try replace n56 := Ne.symm (Nat.ne_of_lt n56)
      refine hK.out _ _ L0 (fun _ => ?_)
      clear hK K
      try simp only [zA, zS, zZ, Act.put, zP, zQ, zR]
      refine wpAnyH_ready (rs := [2, 7]) (by kernel_rfl) (by simp) ?_
      refine AllReadyH.cons rfl (fun K hK => ?_) (AllReadyH.cons rfl (fun K hK => ?_) AllReadyH.nil)
      · skip
        refine Node.wp_fn 11 [.tmp 36, .const (.int .u8 2), .tmp 37] _ [lkv (200, 0, 0), .int .u8 2, .slice Ap X.length cp] (by rfl) (by rfl) (enters Tryd.func11 (by kernel_rfl) rfl) (Hear_v (200, 0, 0) 2 (.slice Ap X.length cp) X V _ HR.out hT0 hs HL.out) ?_
        rintro e V' ⟨A3, c3, rfl, b, hp, hq⟩
        clear hq
        refine ⟨_, rfl, ?_⟩
        replace Bb := below_step Bb b
        replace L0 := L0.later b
        replace hT0 := hT0.below b
        try replace N5 := N5.later b
        try replace N6 := below_at b N6 (lt_of_at N6)
        clear b hs
        generalize V' = V at *
        refine hK.out _ _ L0 (fun _ => ?_)
        clear hK K
        try simp only [zA, zS, zZ, Act.put, zP, zQ, zR]
        refine Node.tk 3 ?_ rfl ?_ ?_
        rotate_left
        · intro w hSw; (try dsimp only at hSw); go_simp; try with_reducible rfl
        simp only [zA, zS, zZ, Act.put, zP, zQ, zR]
        refine Node.tk 4 ?_ rfl ?_ ?_
        rotate_left
        · intro w hSw; (try dsimp only at hSw); go_simp; try with_reducible rfl
        simp only [zA, zS, zZ, Act.put, zP, zQ, zR]
        refine Node.tk 5 ?_ rfl ?_ ?_
        rotate_left
        · intro w hSw; (try dsimp only at hSw); go_simp; try with_reducible rfl
        simp only [zA, zS, zZ, Act.put, zP, zQ, zR]
        refine Node.tk 6 ?_ rfl ?_ ?_
        rotate_left
        · intro w hSw; (try dsimp only at hSw); go_simp; try with_reducible rfl
        simp only [zA, zS, zZ, Act.put, zP, zQ, zR]
        refine Node.on 7 rfl (fun K hK => ?_)
        have N5 := LVar.new V 0 0 0
        have b := below_new V (.cells #[.int .i64 0, .int .i64 0, .int .i64 0] 31)
        refine Node.wp_new 31 (.agg #[.int .i64 0, .int .i64 0, .int .i64 0]) #[.int .i64 0, .int .i64 0, .int .i64 0] (by kernel_rfl) rfl (by rfl) ?_
        have n5 := Bb.size
        replace Bb := below_step Bb b
        replace L0 := L0.later b
        replace hT0 := hT0.below b
        try replace hs := hs.later b
        try replace hp := hp.later b
        try (have n56 := lt_of_at N6; replace N6 := below_at b N6 n56)
        clear b
        generalize V.heap.size = g5 at *
        generalize V.alloc (.cells #[.int .i64 0, .int .i64 0, .int .i64 0] 31) = V at *
        try replace n56 := Nat.ne_of_lt n56
        refine hK.out _ _ L0 (fun _ => ?_)
        clear hK K
        try simp only [zA, zS, zZ, Act.put, zP, zQ, zR]
        refine Node.on 9 rfl (fun K hK => ?_)
        refine wp_st_lk N5 rfl rfl rfl rfl ?_
        have hn5 := lt_of_at N5.at_
        replace L0 := L0.far3 (g' := g5) (by omega) 200 0 1
        replace N6 := frame_far3 N6 (g' := g5) n56 200 0 1
        have N5' := N5.set3 200 0 1
        replace Bb := ((Bb.setCell (p := ⟨g5, 0, none⟩) n5 (.int .i64 200)).setCell (p := ⟨g5, 1, none⟩) n5 (.int .i64 0)).setCell (p := ⟨g5, 2, none⟩) n5 (.int .i64 1)
        replace hp : SliceAt (((V.setCell ⟨g5, 0, none⟩ (.int .i64 200)).setCell ⟨g5, 1, none⟩ (.int .i64 0)).setCell ⟨g5, 2, none⟩ (.int .i64 1)) 1 (.slice A3 noF.2.2.length c3) noF.2.2.length (u8s noF.2.2) := slice_zero hp rfl
        clear N5 hT0 hn5
        generalize ((V.setCell ⟨g5, 0, none⟩ (.int .i64 200)).setCell ⟨g5, 1, none⟩ (.int .i64 0)).setCell ⟨g5, 2, none⟩ (.int .i64 1) = V at *
        refine hK.out _ _ L0 (fun _ => ?_)
        clear hK K
        try simp only [zA, zS, zZ, Act.put, zP, zQ, zR]
        refine Node.on 10 rfl (fun K hK => ?_)
        refine wp_st_fr N6 rfl rfl rfl rfl ?_
        have F := FV.mk3 (f := noF) N6 hp rfl
        have hn6 := lt_of_at N6
        replace L0 := L0.at_
        replace L0 : LVar (((V.setCell ⟨g6, 0, none⟩ (.int .u8 (noF.1.toNat : Int))).setCell ⟨g6, 1, none⟩ (.int .u8 (noF.2.1.toNat : Int))).setCell ⟨g6, 2, none⟩ (.slice A3 noF.2.2.length c3)) g2 200 0 0 := ⟨frame_far3' L0 (by omega) _ _ _⟩
        replace N5' : LVar (((V.setCell ⟨g6, 0, none⟩ (.int .u8 (noF.1.toNat : Int))).setCell ⟨g6, 1, none⟩ (.int .u8 (noF.2.1.toNat : Int))).setCell ⟨g6, 2, none⟩ (.slice A3 noF.2.2.length c3)) g5 200 0 1 := ⟨frame_far3' N5'.at_ (Ne.symm n56) _ _ _⟩
        replace Bb := ((Bb.setCell (p := ⟨g6, 0, none⟩) n6 (.int .u8 (noF.1.toNat : Int))).setCell (p := ⟨g6, 1, none⟩) n6 (.int .u8 (noF.2.1.toNat : Int))).setCell (p := ⟨g6, 2, none⟩) n6 (.slice A3 noF.2.2.length c3)
        clear N6 hp
        generalize ((V.setCell ⟨g6, 0, none⟩ (.int .u8 (noF.1.toNat : Int))).setCell ⟨g6, 1, none⟩ (.int .u8 (noF.2.1.toNat : Int))).setCell ⟨g6, 2, none⟩ (.slice A3 noF.2.2.length c3) = V at *
        refine hK.out _ _ L0 (fun _ => ?_)
        clear hK K
        try simp only [zA, zS, zZ, Act.put, zP, zQ, zR]
        refine Node.tk 11 ?_ rfl ?_ ?_
        rotate_left
        · intro w hSw; (try dsimp only at hSw); go_simp; try with_reducible rfl
        simp only [zA, zS, zZ, Act.put, zP, zQ, zR]
        refine wpAnyH_done (by kernel_rfl) ?_ _
        exact ⟨g5, g6, ⟨rfl, rfl, by simp⟩, N5', F, Bb⟩
      · skip
        have N5 := LVar.new V 0 0 0
        have b := below_new V (.cells #[.int .i64 0, .int .i64 0, .int .i64 0] 31)
        refine Node.wp_new 31 (.agg #[.int .i64 0, .int .i64 0, .int .i64 0]) #[.int .i64 0, .int .i64 0, .int .i64 0] (by kernel_rfl) rfl (by rfl) ?_
        have n5 := Bb.size
        replace Bb := below_step Bb b
        replace L0 := L0.later b
        replace hT0 := hT0.below b
        try replace hs := hs.later b
        try replace hp := hp.later b
        try (have n56 := lt_of_at N6; replace N6 := below_at b N6 n56)
        clear b
        generalize V.heap.size = g5 at *
        generalize V.alloc (.cells #[.int .i64 0, .int .i64 0, .int .i64 0] 31) = V at *
        try replace n56 := Nat.ne_of_lt n56
        refine hK.out _ _ L0 (fun _ => ?_)
        clear hK K
        try simp only [zA, zS, zZ, Act.put, zP, zQ, zR]
        refine Node.on 2 rfl (fun K hK => ?_)
        refine Node.wp_fn 11 [.tmp 36, .const (.int .u8 2), .tmp 37] _ [lkv (200, 0, 0), .int .u8 2, .slice Ap X.length cp] (by rfl) (by rfl) (enters Tryd.func11 (by kernel_rfl) rfl) (Hear_v (200, 0, 0) 2 (.slice Ap X.length cp) X V _ HR.out hT0 hs HL.out) ?_
        rintro e V' ⟨A3, c3, rfl, b, hp, hq⟩
        clear hq
        refine ⟨_, rfl, ?_⟩
        replace Bb := below_step Bb b
        replace L0 := L0.later b
        replace hT0 := hT0.below b
        try replace N5 := N5.later b
        try replace N6 := below_at b N6 (lt_of_at N6)
        clear b hs
        generalize V' = V at *
        refine hK.out _ _ L0 (fun _ => ?_)
        clear hK K
        try simp only [zA, zS, zZ, Act.put, zP, zQ, zR]
        refine Node.tk 3 ?_ rfl ?_ ?_
        rotate_left
        · intro w hSw; (try dsimp only at hSw); go_simp; try with_reducible rfl
        simp only [zA, zS, zZ, Act.put, zP, zQ, zR]
        refine Node.tk 4 ?_ rfl ?_ ?_
        rotate_left
        · intro w hSw; (try dsimp only at hSw); go_simp; try with_reducible rfl
        simp only [zA, zS, zZ, Act.put, zP, zQ, zR]
        refine Node.tk 5 ?_ rfl ?_ ?_
        rotate_left
        · intro w hSw; (try dsimp only at hSw); go_simp; try with_reducible rfl
        simp only [zA, zS, zZ, Act.put, zP, zQ, zR]
        refine Node.tk 6 ?_ rfl ?_ ?_
        rotate_left
        · intro w hSw; (try dsimp only at hSw); go_simp; try with_reducible rfl
        simp only [zA, zS, zZ, Act.put, zP, zQ, zR]
        refine Node.on 9 rfl (fun K hK => ?_)
        refine wp_st_lk N5 rfl rfl rfl rfl ?_
        have hn5 := lt_of_at N5.at_
        replace L0 := L0.far3 (g' := g5) (by omega) 200 0 1
        replace N6 := frame_far3 N6 (g' := g5) n56 200 0 1
        have N5' := N5.set3 200 0 1
        replace Bb := ((Bb.setCell (p := ⟨g5, 0, none⟩) n5 (.int .i64 200)).setCell (p := ⟨g5, 1, none⟩) n5 (.int .i64 0)).setCell (p := ⟨g5, 2, none⟩) n5 (.int .i64 1)
        replace hp : SliceAt (((V.setCell ⟨g5, 0, none⟩ (.int .i64 200)).setCell ⟨g5, 1, none⟩ (.int .i64 0)).setCell ⟨g5, 2, none⟩ (.int .i64 1)) 1 (.slice A3 noF.2.2.length c3) noF.2.2.length (u8s noF.2.2) := slice_zero hp rfl
        clear N5 hT0 hn5
        generalize ((V.setCell ⟨g5, 0, none⟩ (.int .i64 200)).setCell ⟨g5, 1, none⟩ (.int .i64 0)).setCell ⟨g5, 2, none⟩ (.int .i64 1) = V at *
        refine hK.out _ _ L0 (fun _ => ?_)
        clear hK K
        try simp only [zA, zS, zZ, Act.put, zP, zQ, zR]
        refine Node.on 10 rfl (fun K hK => ?_)
        refine wp_st_fr N6 rfl rfl rfl rfl ?_
        have F := FV.mk3 (f := noF) N6 hp rfl
        have hn6 := lt_of_at N6
        replace L0 := L0.at_
        replace L0 : LVar (((V.setCell ⟨g6, 0, none⟩ (.int .u8 (noF.1.toNat : Int))).setCell ⟨g6, 1, none⟩ (.int .u8 (noF.2.1.toNat : Int))).setCell ⟨g6, 2, none⟩ (.slice A3 noF.2.2.length c3)) g2 200 0 0 := ⟨frame_far3' L0 (by omega) _ _ _⟩
        replace N5' : LVar (((V.setCell ⟨g6, 0, none⟩ (.int .u8 (noF.1.toNat : Int))).setCell ⟨g6, 1, none⟩ (.int .u8 (noF.2.1.toNat : Int))).setCell ⟨g6, 2, none⟩ (.slice A3 noF.2.2.length c3)) g5 200 0 1 := ⟨frame_far3' N5'.at_ (Ne.symm n56) _ _ _⟩
        replace Bb := ((Bb.setCell (p := ⟨g6, 0, none⟩) n6 (.int .u8 (noF.1.toNat : Int))).setCell (p := ⟨g6, 1, none⟩) n6 (.int .u8 (noF.2.1.toNat : Int))).setCell (p := ⟨g6, 2, none⟩) n6 (.slice A3 noF.2.2.length c3)
        clear N6 hp
        generalize ((V.setCell ⟨g6, 0, none⟩ (.int .u8 (noF.1.toNat : Int))).setCell ⟨g6, 1, none⟩ (.int .u8 (noF.2.1.toNat : Int))).setCell ⟨g6, 2, none⟩ (.slice A3 noF.2.2.length c3) = V at *
        refine hK.out _ _ L0 (fun _ => ?_)
        clear hK K
        try simp only [zA, zS, zZ, Act.put, zP, zQ, zR]
        refine Node.tk 11 ?_ rfl ?_ ?_
        rotate_left
        · intro w hSw; (try dsimp only at hSw); go_simp; try with_reducible rfl
        simp only [zA, zS, zZ, Act.put, zP, zQ, zR]
        refine wpAnyH_done (by kernel_rfl) ?_ _
        exact ⟨g5, g6, ⟨rfl, rfl, by simp⟩, N5', F, Bb⟩
  · skip
    have N5 := LVar.new V 0 0 0
    have b := below_new V (.cells #[.int .i64 0, .int .i64 0, .int .i64 0] 31)
    refine Node.wp_new 31 (.agg #[.int .i64 0, .int .i64 0, .int .i64 0]) #[.int .i64 0, .int .i64 0, .int .i64 0] (by kernel_rfl) rfl (by rfl) ?_
    have n5 := Bb.size
    replace Bb := below_step Bb b
    replace L0 := L0.later b
    replace hT0 := hT0.below b
    try replace hs := hs.later b
    try replace hp := hp.later b
    try (have n56 := lt_of_at N6; replace N6 := below_at b N6 n56)
    clear b
    generalize V.heap.size = g5 at *
    generalize V.alloc (.cells #[.int .i64 0, .int .i64 0, .int .i64 0] 31) = V at *
    try replace n56 := Nat.ne_of_lt n56
    refine hK.out _ _ L0 (fun _ => ?_)
    clear hK K
    try simp only [zA, zS, zZ, Act.put, zP, zQ, zR]
    refine wpAnyH_ready (rs := [1, 8]) (by kernel_rfl) (by simp) ?_
    refine AllReadyH.cons rfl (fun K hK => ?_) (AllReadyH.cons rfl (fun K hK => ?_) AllReadyH.nil)
    · skip
      refine Node.wp_fn 31 [.const (.int .u8 200)] _ [.int .u8 200] (by rfl) (by rfl) (enters Tryd.func31 (by kernel_rfl) rfl) (panel_c 200#8 200 rfl X HX.out V) ?_
      rintro e V' ⟨b, Ap, cp, rfl, hs⟩
      refine ⟨_, rfl, ?_⟩
      replace Bb := below_step Bb b
      replace L0 := L0.later b
      replace hT0 := hT0.below b
      try replace N5 := N5.later b
      try replace N6 := below_at b N6 (lt_of_at N6)
      clear b
      generalize V' = V at *
      refine hK.out _ _ L0 (fun _ => ?_)
      clear hK K
      try simp only [zA, zS, zZ, Act.put, zP, zQ, zR]
      refine wpAnyH_ready (rs := [2, 8]) (by kernel_rfl) (by simp) ?_
      refine AllReadyH.cons rfl (fun K hK => ?_) (AllReadyH.cons rfl (fun K hK => ?_) AllReadyH.nil)
      · skip
        refine Node.wp_fn 11 [.tmp 36, .const (.int .u8 2), .tmp 37] _ [lkv (200, 0, 0), .int .u8 2, .slice Ap X.length cp] (by rfl) (by rfl) (enters Tryd.func11 (by kernel_rfl) rfl) (Hear_v (200, 0, 0) 2 (.slice Ap X.length cp) X V _ HR.out hT0 hs HL.out) ?_
        rintro e V' ⟨A3, c3, rfl, b, hp, hq⟩
        clear hq
        refine ⟨_, rfl, ?_⟩
        replace Bb := below_step Bb b
        replace L0 := L0.later b
        replace hT0 := hT0.below b
        try replace N5 := N5.later b
        try replace N6 := below_at b N6 (lt_of_at N6)
        clear b hs
        generalize V' = V at *
        refine hK.out _ _ L0 (fun _ => ?_)
        clear hK K
        try simp only [zA, zS, zZ, Act.put, zP, zQ, zR]
        refine Node.tk 3 ?_ rfl ?_ ?_
        rotate_left
        · intro w hSw; (try dsimp only at hSw); go_simp; try with_reducible rfl
        simp only [zA, zS, zZ, Act.put, zP, zQ, zR]
        refine Node.tk 4 ?_ rfl ?_ ?_
        rotate_left
        · intro w hSw; (try dsimp only at hSw); go_simp; try with_reducible rfl
        simp only [zA, zS, zZ, Act.put, zP, zQ, zR]
        refine Node.tk 5 ?_ rfl ?_ ?_
        rotate_left
        · intro w hSw; (try dsimp only at hSw); go_simp; try with_reducible rfl
        simp only [zA, zS, zZ, Act.put, zP, zQ, zR]
        refine Node.tk 6 ?_ rfl ?_ ?_
        rotate_left
        · intro w hSw; (try dsimp only at hSw); go_simp; try with_reducible rfl
        simp only [zA, zS, zZ, Act.put, zP, zQ, zR]
        refine Node.on 8 rfl (fun K hK => ?_)
        have N6 := new_at (w := V) rfl (.cells #[.int .u8 0, .int .u8 0, .slice none 0 0] 41)
        have b := below_new V (.cells #[.int .u8 0, .int .u8 0, .slice none 0 0] 41)
        refine Node.wp_new 41 (.agg #[.int .u8 0, .int .u8 0, .slice none 0 0]) #[.int .u8 0, .int .u8 0, .slice none 0 0] (by kernel_rfl) rfl (by rfl) ?_
        have n6 := Bb.size
        replace Bb := below_step Bb b
        replace L0 := L0.later b
        replace hT0 := hT0.below b
        try replace hs := hs.later b
        try replace hp := hp.later b
        try (have n56 := lt_of_at N5.at_; replace N5 := N5.later b)
        clear b
        generalize V.heap.size = g6 at *
        generalize V.alloc (.cells #[.int .u8 0, .int .u8 0, .slice none 0 0] 41) = V at *
        try replace n56 := Ne.symm (Nat.ne_of_lt n56)
        refine hK.out _ _ L0 (fun _ => ?_)
        clear hK K
        try simp only [zA, zS, zZ, Act.put, zP, zQ, zR]
        refine Node.on 9 rfl (fun K hK => ?_)
        refine wp_st_lk N5 rfl rfl rfl rfl ?_
        have hn5 := lt_of_at N5.at_
        replace L0 := L0.far3 (g' := g5) (by omega) 200 0 1
        replace N6 := frame_far3 N6 (g' := g5) n56 200 0 1
        have N5' := N5.set3 200 0 1
        replace Bb := ((Bb.setCell (p := ⟨g5, 0, none⟩) n5 (.int .i64 200)).setCell (p := ⟨g5, 1, none⟩) n5 (.int .i64 0)).setCell (p := ⟨g5, 2, none⟩) n5 (.int .i64 1)
        replace hp : SliceAt (((V.setCell ⟨g5, 0, none⟩ (.int .i64 200)).setCell ⟨g5, 1, none⟩ (.int .i64 0)).setCell ⟨g5, 2, none⟩ (.int .i64 1)) 1 (.slice A3 noF.2.2.length c3) noF.2.2.length (u8s noF.2.2) := slice_zero hp rfl
        clear N5 hT0 hn5
        generalize ((V.setCell ⟨g5, 0, none⟩ (.int .i64 200)).setCell ⟨g5, 1, none⟩ (.int .i64 0)).setCell ⟨g5, 2, none⟩ (.int .i64 1) = V at *
        refine hK.out _ _ L0 (fun _ => ?_)
        clear hK K
        try simp only [zA, zS, zZ, Act.put, zP, zQ, zR]
        refine Node.on 10 rfl (fun K hK => ?_)
        refine wp_st_fr N6 rfl rfl rfl rfl ?_
        have F := FV.mk3 (f := noF) N6 hp rfl
        have hn6 := lt_of_at N6
        replace L0 := L0.at_
        replace L0 : LVar (((V.setCell ⟨g6, 0, none⟩ (.int .u8 (noF.1.toNat : Int))).setCell ⟨g6, 1, none⟩ (.int .u8 (noF.2.1.toNat : Int))).setCell ⟨g6, 2, none⟩ (.slice A3 noF.2.2.length c3)) g2 200 0 0 := ⟨frame_far3' L0 (by omega) _ _ _⟩
        replace N5' : LVar (((V.setCell ⟨g6, 0, none⟩ (.int .u8 (noF.1.toNat : Int))).setCell ⟨g6, 1, none⟩ (.int .u8 (noF.2.1.toNat : Int))).setCell ⟨g6, 2, none⟩ (.slice A3 noF.2.2.length c3)) g5 200 0 1 := ⟨frame_far3' N5'.at_ (Ne.symm n56) _ _ _⟩
        replace Bb := ((Bb.setCell (p := ⟨g6, 0, none⟩) n6 (.int .u8 (noF.1.toNat : Int))).setCell (p := ⟨g6, 1, none⟩) n6 (.int .u8 (noF.2.1.toNat : Int))).setCell (p := ⟨g6, 2, none⟩) n6 (.slice A3 noF.2.2.length c3)
        clear N6 hp
        generalize ((V.setCell ⟨g6, 0, none⟩ (.int .u8 (noF.1.toNat : Int))).setCell ⟨g6, 1, none⟩ (.int .u8 (noF.2.1.toNat : Int))).setCell ⟨g6, 2, none⟩ (.slice A3 noF.2.2.length c3) = V at *
        refine hK.out _ _ L0 (fun _ => ?_)
        clear hK K
        try simp only [zA, zS, zZ, Act.put, zP, zQ, zR]
        refine Node.tk 11 ?_ rfl ?_ ?_
        rotate_left
        · intro w hSw; (try dsimp only at hSw); go_simp; try with_reducible rfl
        simp only [zA, zS, zZ, Act.put, zP, zQ, zR]
        refine wpAnyH_done (by kernel_rfl) ?_ _
        exact ⟨g5, g6, ⟨rfl, rfl, by simp⟩, N5', F, Bb⟩
      · skip
        have N6 := new_at (w := V) rfl (.cells #[.int .u8 0, .int .u8 0, .slice none 0 0] 41)
        have b := below_new V (.cells #[.int .u8 0, .int .u8 0, .slice none 0 0] 41)
        refine Node.wp_new 41 (.agg #[.int .u8 0, .int .u8 0, .slice none 0 0]) #[.int .u8 0, .int .u8 0, .slice none 0 0] (by kernel_rfl) rfl (by rfl) ?_
        have n6 := Bb.size
        replace Bb := below_step Bb b
        replace L0 := L0.later b
        replace hT0 := hT0.below b
        try replace hs := hs.later b
        try replace hp := hp.later b
        try (have n56 := lt_of_at N5.at_; replace N5 := N5.later b)
        clear b
        generalize V.heap.size = g6 at *
        generalize V.alloc (.cells #[.int .u8 0, .int .u8 0, .slice none 0 0] 41) = V at *
        try replace n56 := Ne.symm (Nat.ne_of_lt n56)
        refine hK.out _ _ L0 (fun _ => ?_)
        clear hK K
        try simp only [zA, zS, zZ, Act.put, zP, zQ, zR]
        refine Node.on 2 rfl (fun K hK => ?_)
        refine Node.wp_fn 11 [.tmp 36, .const (.int .u8 2), .tmp 37] _ [lkv (200, 0, 0), .int .u8 2, .slice Ap X.length cp] (by rfl) (by rfl) (enters Tryd.func11 (by kernel_rfl) rfl) (Hear_v (200, 0, 0) 2 (.slice Ap X.length cp) X V _ HR.out hT0 hs HL.out) ?_
        rintro e V' ⟨A3, c3, rfl, b, hp, hq⟩
        clear hq
        refine ⟨_, rfl, ?_⟩
        replace Bb := below_step Bb b
        replace L0 := L0.later b
        replace hT0 := hT0.below b
        try replace N5 := N5.later b
        try replace N6 := below_at b N6 (lt_of_at N6)
        clear b hs
        generalize V' = V at *
        refine hK.out _ _ L0 (fun _ => ?_)
        clear hK K
        try simp only [zA, zS, zZ, Act.put, zP, zQ, zR]
        refine Node.tk 3 ?_ rfl ?_ ?_
        rotate_left
        · intro w hSw; (try dsimp only at hSw); go_simp; try with_reducible rfl
        simp only [zA, zS, zZ, Act.put, zP, zQ, zR]
        refine Node.tk 4 ?_ rfl ?_ ?_
        rotate_left
        · intro w hSw; (try dsimp only at hSw); go_simp; try with_reducible rfl
        simp only [zA, zS, zZ, Act.put, zP, zQ, zR]
        refine Node.tk 5 ?_ rfl ?_ ?_
        rotate_left
        · intro w hSw; (try dsimp only at hSw); go_simp; try with_reducible rfl
        simp only [zA, zS, zZ, Act.put, zP, zQ, zR]
        refine Node.tk 6 ?_ rfl ?_ ?_
        rotate_left
        · intro w hSw; (try dsimp only at hSw); go_simp; try with_reducible rfl
        simp only [zA, zS, zZ, Act.put, zP, zQ, zR]
        refine Node.on 9 rfl (fun K hK => ?_)
        refine wp_st_lk N5 rfl rfl rfl rfl ?_
        have hn5 := lt_of_at N5.at_
        replace L0 := L0.far3 (g' := g5) (by omega) 200 0 1
        replace N6 := frame_far3 N6 (g' := g5) n56 200 0 1
        have N5' := N5.set3 200 0 1
        replace Bb := ((Bb.setCell (p := ⟨g5, 0, none⟩) n5 (.int .i64 200)).setCell (p := ⟨g5, 1, none⟩) n5 (.int .i64 0)).setCell (p := ⟨g5, 2, none⟩) n5 (.int .i64 1)
        replace hp : SliceAt (((V.setCell ⟨g5, 0, none⟩ (.int .i64 200)).setCell ⟨g5, 1, none⟩ (.int .i64 0)).setCell ⟨g5, 2, none⟩ (.int .i64 1)) 1 (.slice A3 noF.2.2.length c3) noF.2.2.length (u8s noF.2.2) := slice_zero hp rfl
        clear N5 hT0 hn5
        generalize ((V.setCell ⟨g5, 0, none⟩ (.int .i64 200)).setCell ⟨g5, 1, none⟩ (.int .i64 0)).setCell ⟨g5, 2, none⟩ (.int .i64 1) = V at *
        refine hK.out _ _ L0 (fun _ => ?_)
        clear hK K
        try simp only [zA, zS, zZ, Act.put, zP, zQ, zR]
        refine Node.on 10 rfl (fun K hK => ?_)
        refine wp_st_fr N6 rfl rfl rfl rfl ?_
        have F := FV.mk3 (f := noF) N6 hp rfl
        have hn6 := lt_of_at N6
        replace L0 := L0.at_
        replace L0 : LVar (((V.setCell ⟨g6, 0, none⟩ (.int .u8 (noF.1.toNat : Int))).setCell ⟨g6, 1, none⟩ (.int .u8 (noF.2.1.toNat : Int))).setCell ⟨g6, 2, none⟩ (.slice A3 noF.2.2.length c3)) g2 200 0 0 := ⟨frame_far3' L0 (by omega) _ _ _⟩
        replace N5' : LVar (((V.setCell ⟨g6, 0, none⟩ (.int .u8 (noF.1.toNat : Int))).setCell ⟨g6, 1, none⟩ (.int .u8 (noF.2.1.toNat : Int))).setCell ⟨g6, 2, none⟩ (.slice A3 noF.2.2.length c3)) g5 200 0 1 := ⟨frame_far3' N5'.at_ (Ne.symm n56) _ _ _⟩
        replace Bb := ((Bb.setCell (p := ⟨g6, 0, none⟩) n6 (.int .u8 (noF.1.toNat : Int))).setCell (p := ⟨g6, 1, none⟩) n6 (.int .u8 (noF.2.1.toNat : Int))).setCell (p := ⟨g6, 2, none⟩) n6 (.slice A3 noF.2.2.length c3)
        clear N6 hp
        generalize ((V.setCell ⟨g6, 0, none⟩ (.int .u8 (noF.1.toNat : Int))).setCell ⟨g6, 1, none⟩ (.int .u8 (noF.2.1.toNat : Int))).setCell ⟨g6, 2, none⟩ (.slice A3 noF.2.2.length c3) = V at *
        refine hK.out _ _ L0 (fun _ => ?_)
        clear hK K
        try simp only [zA, zS, zZ, Act.put, zP, zQ, zR]
        refine Node.tk 11 ?_ rfl ?_ ?_
        rotate_left
        · intro w hSw; (try dsimp only at hSw); go_simp; try with_reducible rfl
        simp only [zA, zS, zZ, Act.put, zP, zQ, zR]
        refine wpAnyH_done (by kernel_rfl) ?_ _
        exact ⟨g5, g6, ⟨rfl, rfl, by simp⟩, N5', F, Bb⟩
    · skip
      have N6 := new_at (w := V) rfl (.cells #[.int .u8 0, .int .u8 0, .slice none 0 0] 41)
      have b := below_new V (.cells #[.int .u8 0, .int .u8 0, .slice none 0 0] 41)
      refine Node.wp_new 41 (.agg #[.int .u8 0, .int .u8 0, .slice none 0 0]) #[.int .u8 0, .int .u8 0, .slice none 0 0] (by kernel_rfl) rfl (by rfl) ?_
      have n6 := Bb.size
      replace Bb := below_step Bb b
      replace L0 := L0.later b
      replace hT0 := hT0.below b
      try replace hs := hs.later b
      try replace hp := hp.later b
      try (have n56 := lt_of_at N5.at_; replace N5 := N5.later b)
      clear b
      generalize V.heap.size = g6 at *
      generalize V.alloc (.cells #[.int .u8 0, .int .u8 0, .slice none 0 0] 41) = V at *
      try replace n56 := Ne.symm (Nat.ne_of_lt n56)
      refine hK.out _ _ L0 (fun _ => ?_)
      clear hK K
      try simp only [zA, zS, zZ, Act.put, zP, zQ, zR]
      refine Node.on 1 rfl (fun K hK => ?_)
      refine Node.wp_fn 31 [.const (.int .u8 200)] _ [.int .u8 200] (by rfl) (by rfl) (enters Tryd.func31 (by kernel_rfl) rfl) (panel_c 200#8 200 rfl X HX.out V) ?_
      rintro e V' ⟨b, Ap, cp, rfl, hs⟩
      refine ⟨_, rfl, ?_⟩
      replace Bb := below_step Bb b
      replace L0 := L0.later b
      replace hT0 := hT0.below b
      try replace N5 := N5.later b
      try replace N6 := below_at b N6 (lt_of_at N6)
      clear b
      generalize V' = V at *
      refine hK.out _ _ L0 (fun _ => ?_)
      clear hK K
      try simp only [zA, zS, zZ, Act.put, zP, zQ, zR]
      refine Node.on 2 rfl (fun K hK => ?_)
      refine Node.wp_fn 11 [.tmp 36, .const (.int .u8 2), .tmp 37] _ [lkv (200, 0, 0), .int .u8 2, .slice Ap X.length cp] (by rfl) (by rfl) (enters Tryd.func11 (by kernel_rfl) rfl) (Hear_v (200, 0, 0) 2 (.slice Ap X.length cp) X V _ HR.out hT0 hs HL.out) ?_
      rintro e V' ⟨A3, c3, rfl, b, hp, hq⟩
      clear hq
      refine ⟨_, rfl, ?_⟩
      replace Bb := below_step Bb b
      replace L0 := L0.later b
      replace hT0 := hT0.below b
      try replace N5 := N5.later b
      try replace N6 := below_at b N6 (lt_of_at N6)
      clear b hs
      generalize V' = V at *
      refine hK.out _ _ L0 (fun _ => ?_)
      clear hK K
      try simp only [zA, zS, zZ, Act.put, zP, zQ, zR]
      refine Node.tk 3 ?_ rfl ?_ ?_
      rotate_left
      · intro w hSw; (try dsimp only at hSw); go_simp; try with_reducible rfl
      simp only [zA, zS, zZ, Act.put, zP, zQ, zR]
      refine Node.tk 4 ?_ rfl ?_ ?_
      rotate_left
      · intro w hSw; (try dsimp only at hSw); go_simp; try with_reducible rfl
      simp only [zA, zS, zZ, Act.put, zP, zQ, zR]
      refine Node.tk 5 ?_ rfl ?_ ?_
      rotate_left
      · intro w hSw; (try dsimp only at hSw); go_simp; try with_reducible rfl
      simp only [zA, zS, zZ, Act.put, zP, zQ, zR]
      refine Node.tk 6 ?_ rfl ?_ ?_
      rotate_left
      · intro w hSw; (try dsimp only at hSw); go_simp; try with_reducible rfl
      simp only [zA, zS, zZ, Act.put, zP, zQ, zR]
      refine Node.on 9 rfl (fun K hK => ?_)
      refine wp_st_lk N5 rfl rfl rfl rfl ?_
      have hn5 := lt_of_at N5.at_
      replace L0 := L0.far3 (g' := g5) (by omega) 200 0 1
      replace N6 := frame_far3 N6 (g' := g5) n56 200 0 1
      have N5' := N5.set3 200 0 1
      replace Bb := ((Bb.setCell (p := ⟨g5, 0, none⟩) n5 (.int .i64 200)).setCell (p := ⟨g5, 1, none⟩) n5 (.int .i64 0)).setCell (p := ⟨g5, 2, none⟩) n5 (.int .i64 1)
      replace hp : SliceAt (((V.setCell ⟨g5, 0, none⟩ (.int .i64 200)).setCell ⟨g5, 1, none⟩ (.int .i64 0)).setCell ⟨g5, 2, none⟩ (.int .i64 1)) 1 (.slice A3 noF.2.2.length c3) noF.2.2.length (u8s noF.2.2) := slice_zero hp rfl
      clear N5 hT0 hn5
      generalize ((V.setCell ⟨g5, 0, none⟩ (.int .i64 200)).setCell ⟨g5, 1, none⟩ (.int .i64 0)).setCell ⟨g5, 2, none⟩ (.int .i64 1) = V at *
      refine hK.out _ _ L0 (fun _ => ?_)
      clear hK K
      try simp only [zA, zS, zZ, Act.put, zP, zQ, zR]
      refine Node.on 10 rfl (fun K hK => ?_)
      refine wp_st_fr N6 rfl rfl rfl rfl ?_
      have F := FV.mk3 (f := noF) N6 hp rfl
      have hn6 := lt_of_at N6
      replace L0 := L0.at_
      replace L0 : LVar (((V.setCell ⟨g6, 0, none⟩ (.int .u8 (noF.1.toNat : Int))).setCell ⟨g6, 1, none⟩ (.int .u8 (noF.2.1.toNat : Int))).setCell ⟨g6, 2, none⟩ (.slice A3 noF.2.2.length c3)) g2 200 0 0 := ⟨frame_far3' L0 (by omega) _ _ _⟩
      replace N5' : LVar (((V.setCell ⟨g6, 0, none⟩ (.int .u8 (noF.1.toNat : Int))).setCell ⟨g6, 1, none⟩ (.int .u8 (noF.2.1.toNat : Int))).setCell ⟨g6, 2, none⟩ (.slice A3 noF.2.2.length c3)) g5 200 0 1 := ⟨frame_far3' N5'.at_ (Ne.symm n56) _ _ _⟩
      replace Bb := ((Bb.setCell (p := ⟨g6, 0, none⟩) n6 (.int .u8 (noF.1.toNat : Int))).setCell (p := ⟨g6, 1, none⟩) n6 (.int .u8 (noF.2.1.toNat : Int))).setCell (p := ⟨g6, 2, none⟩) n6 (.slice A3 noF.2.2.length c3)
      clear N6 hp
      generalize ((V.setCell ⟨g6, 0, none⟩ (.int .u8 (noF.1.toNat : Int))).setCell ⟨g6, 1, none⟩ (.int .u8 (noF.2.1.toNat : Int))).setCell ⟨g6, 2, none⟩ (.slice A3 noF.2.2.length c3) = V at *
      refine hK.out _ _ L0 (fun _ => ?_)
      clear hK K
      try simp only [zA, zS, zZ, Act.put, zP, zQ, zR]
      refine Node.tk 11 ?_ rfl ?_ ?_
      rotate_left
      · intro w hSw; (try dsimp only at hSw); go_simp; try with_reducible rfl
      simp only [zA, zS, zZ, Act.put, zP, zQ, zR]
      refine wpAnyH_done (by kernel_rfl) ?_ _
      exact ⟨g5, g6, ⟨rfl, rfl, by simp⟩, N5', F, Bb⟩
  · skip
    have N6 := new_at (w := V) rfl (.cells #[.int .u8 0, .int .u8 0, .slice none 0 0] 41)
    have b := below_new V (.cells #[.int .u8 0, .int .u8 0, .slice none 0 0] 41)
    refine Node.wp_new 41 (.agg #[.int .u8 0, .int .u8 0, .slice none 0 0]) #[.int .u8 0, .int .u8 0, .slice none 0 0] (by kernel_rfl) rfl (by rfl) ?_
    have n6 := Bb.size
    replace Bb := below_step Bb b
    replace L0 := L0.later b
    replace hT0 := hT0.below b
    try replace hs := hs.later b
    try replace hp := hp.later b
    try (have n56 := lt_of_at N5.at_; replace N5 := N5.later b)
    clear b
    generalize V.heap.size = g6 at *
    generalize V.alloc (.cells #[.int .u8 0, .int .u8 0, .slice none 0 0] 41) = V at *
    try replace n56 := Ne.symm (Nat.ne_of_lt n56)
    refine hK.out _ _ L0 (fun _ => ?_)
    clear hK K
    try simp only [zA, zS, zZ, Act.put, zP, zQ, zR]
    refine wpAnyH_ready (rs := [1, 7]) (by kernel_rfl) (by simp) ?_
    refine AllReadyH.cons rfl (fun K hK => ?_) (AllReadyH.cons rfl (fun K hK => ?_) AllReadyH.nil)
    · skip
      refine Node.wp_fn 31 [.const (.int .u8 200)] _ [.int .u8 200] (by rfl) (by rfl) (enters Tryd.func31 (by kernel_rfl) rfl) (panel_c 200#8 200 rfl X HX.out V) ?_
      rintro e V' ⟨b, Ap, cp, rfl, hs⟩
      refine ⟨_, rfl, ?_⟩
      replace Bb := below_step Bb b
      replace L0 := L0.later b
      replace hT0 := hT0.below b
      try replace N5 := N5.later b
      try replace N6 := below_at b N6 (lt_of_at N6)
      clear b
      generalize V' = V at *
      refine hK.out _ _ L0 (fun _ => ?_)
      clear hK K
      try simp only [zA, zS, zZ, Act.put, zP, zQ, zR]
      refine wpAnyH_ready (rs := [2, 7]) (by kernel_rfl) (by simp) ?_
      refine AllReadyH.cons rfl (fun K hK => ?_) (AllReadyH.cons rfl (fun K hK => ?_) AllReadyH.nil)
      · skip
        refine Node.wp_fn 11 [.tmp 36, .const (.int .u8 2), .tmp 37] _ [lkv (200, 0, 0), .int .u8 2, .slice Ap X.length cp] (by rfl) (by rfl) (enters Tryd.func11 (by kernel_rfl) rfl) (Hear_v (200, 0, 0) 2 (.slice Ap X.length cp) X V _ HR.out hT0 hs HL.out) ?_
        rintro e V' ⟨A3, c3, rfl, b, hp, hq⟩
        clear hq
        refine ⟨_, rfl, ?_⟩
        replace Bb := below_step Bb b
        replace L0 := L0.later b
        replace hT0 := hT0.below b
        try replace N5 := N5.later b
        try replace N6 := below_at b N6 (lt_of_at N6)
        clear b hs
        generalize V' = V at *
        refine hK.out _ _ L0 (fun _ => ?_)
        clear hK K
        try simp only [zA, zS, zZ, Act.put, zP, zQ, zR]
        refine Node.tk 3 ?_ rfl ?_ ?_
        rotate_left
        · intro w hSw; (try dsimp only at hSw); go_simp; try with_reducible rfl
        simp only [zA, zS, zZ, Act.put, zP, zQ, zR]
        refine Node.tk 4 ?_ rfl ?_ ?_
        rotate_left
        · intro w hSw; (try dsimp only at hSw); go_simp; try with_reducible rfl
        simp only [zA, zS, zZ, Act.put, zP, zQ, zR]
        refine Node.tk 5 ?_ rfl ?_ ?_
        rotate_left
        · intro w hSw; (try dsimp only at hSw); go_simp; try with_reducible rfl
        simp only [zA, zS, zZ, Act.put, zP, zQ, zR]
        refine Node.tk 6 ?_ rfl ?_ ?_
        rotate_left
        · intro w hSw; (try dsimp only at hSw); go_simp; try with_reducible rfl
        simp only [zA, zS, zZ, Act.put, zP, zQ, zR]
        refine Node.on 7 rfl (fun K hK => ?_)
        have N5 := LVar.new V 0 0 0
        have b := below_new V (.cells #[.int .i64 0, .int .i64 0, .int .i64 0] 31)
        refine Node.wp_new 31 (.agg #[.int .i64 0, .int .i64 0, .int .i64 0]) #[.int .i64 0, .int .i64 0, .int .i64 0] (by kernel_rfl) rfl (by rfl) ?_
        have n5 := Bb.size
        replace Bb := below_step Bb b
        replace L0 := L0.later b
        replace hT0 := hT0.below b
        try replace hs := hs.later b
        try replace hp := hp.later b
        try (have n56 := lt_of_at N6; replace N6 := below_at b N6 n56)
        clear b
        generalize V.heap.size = g5 at *
        generalize V.alloc (.cells #[.int .i64 0, .int .i64 0, .int .i64 0] 31) = V at *
        try replace n56 := Nat.ne_of_lt n56
        refine hK.out _ _ L0 (fun _ => ?_)
        clear hK K
        try simp only [zA, zS, zZ, Act.put, zP, zQ, zR]
        refine Node.on 9 rfl (fun K hK => ?_)
        refine wp_st_lk N5 rfl rfl rfl rfl ?_
        have hn5 := lt_of_at N5.at_
        replace L0 := L0.far3 (g' := g5) (by omega) 200 0 1
        replace N6 := frame_far3 N6 (g' := g5) n56 200 0 1
        have N5' := N5.set3 200 0 1
        replace Bb := ((Bb.setCell (p := ⟨g5, 0, none⟩) n5 (.int .i64 200)).setCell (p := ⟨g5, 1, none⟩) n5 (.int .i64 0)).setCell (p := ⟨g5, 2, none⟩) n5 (.int .i64 1)
        replace hp : SliceAt (((V.setCell ⟨g5, 0, none⟩ (.int .i64 200)).setCell ⟨g5, 1, none⟩ (.int .i64 0)).setCell ⟨g5, 2, none⟩ (.int .i64 1)) 1 (.slice A3 noF.2.2.length c3) noF.2.2.length (u8s noF.2.2) := slice_zero hp rfl
        clear N5 hT0 hn5
        generalize ((V.setCell ⟨g5, 0, none⟩ (.int .i64 200)).setCell ⟨g5, 1, none⟩ (.int .i64 0)).setCell ⟨g5, 2, none⟩ (.int .i64 1) = V at *
        refine hK.out _ _ L0 (fun _ => ?_)
        clear hK K
        try simp only [zA, zS, zZ, Act.put, zP, zQ, zR]
        refine Node.on 10 rfl (fun K hK => ?_)
        refine wp_st_fr N6 rfl rfl rfl rfl ?_
        have F := FV.mk3 (f := noF) N6 hp rfl
        have hn6 := lt_of_at N6
        replace L0 := L0.at_
        replace L0 : LVar (((V.setCell ⟨g6, 0, none⟩ (.int .u8 (noF.1.toNat : Int))).setCell ⟨g6, 1, none⟩ (.int .u8 (noF.2.1.toNat : Int))).setCell ⟨g6, 2, none⟩ (.slice A3 noF.2.2.length c3)) g2 200 0 0 := ⟨frame_far3' L0 (by omega) _ _ _⟩
        replace N5' : LVar (((V.setCell ⟨g6, 0, none⟩ (.int .u8 (noF.1.toNat : Int))).setCell ⟨g6, 1, none⟩ (.int .u8 (noF.2.1.toNat : Int))).setCell ⟨g6, 2, none⟩ (.slice A3 noF.2.2.length c3)) g5 200 0 1 := ⟨frame_far3' N5'.at_ (Ne.symm n56) _ _ _⟩
        replace Bb := ((Bb.setCell (p := ⟨g6, 0, none⟩) n6 (.int .u8 (noF.1.toNat : Int))).setCell (p := ⟨g6, 1, none⟩) n6 (.int .u8 (noF.2.1.toNat : Int))).setCell (p := ⟨g6, 2, none⟩) n6 (.slice A3 noF.2.2.length c3)
        clear N6 hp
        generalize ((V.setCell ⟨g6, 0, none⟩ (.int .u8 (noF.1.toNat : Int))).setCell ⟨g6, 1, none⟩ (.int .u8 (noF.2.1.toNat : Int))).setCell ⟨g6, 2, none⟩ (.slice A3 noF.2.2.length c3) = V at *
        refine hK.out _ _ L0 (fun _ => ?_)
        clear hK K
        try simp only [zA, zS, zZ, Act.put, zP, zQ, zR]
        refine Node.tk 11 ?_ rfl ?_ ?_
        rotate_left
        · intro w hSw; (try dsimp only at hSw); go_simp; try with_reducible rfl
        simp only [zA, zS, zZ, Act.put, zP, zQ, zR]
        refine wpAnyH_done (by kernel_rfl) ?_ _
        exact ⟨g5, g6, ⟨rfl, rfl, by simp⟩, N5', F, Bb⟩
      · skip
        have N5 := LVar.new V 0 0 0
        have b := below_new V (.cells #[.int .i64 0, .int .i64 0, .int .i64 0] 31)
        refine Node.wp_new 31 (.agg #[.int .i64 0, .int .i64 0, .int .i64 0]) #[.int .i64 0, .int .i64 0, .int .i64 0] (by kernel_rfl) rfl (by rfl) ?_
        have n5 := Bb.size
        replace Bb := below_step Bb b
        replace L0 := L0.later b
        replace hT0 := hT0.below b
        try replace hs := hs.later b
        try replace hp := hp.later b
        try (have n56 := lt_of_at N6; replace N6 := below_at b N6 n56)
        clear b
        generalize V.heap.size = g5 at *
        generalize V.alloc (.cells #[.int .i64 0, .int .i64 0, .int .i64 0] 31) = V at *
        try replace n56 := Nat.ne_of_lt n56
        refine hK.out _ _ L0 (fun _ => ?_)
        clear hK K
        try simp only [zA, zS, zZ, Act.put, zP, zQ, zR]
        refine Node.on 2 rfl (fun K hK => ?_)
        refine Node.wp_fn 11 [.tmp 36, .const (.int .u8 2), .tmp 37] _ [lkv (200, 0, 0), .int .u8 2, .slice Ap X.length cp] (by rfl) (by rfl) (enters Tryd.func11 (by kernel_rfl) rfl) (Hear_v (200, 0, 0) 2 (.slice Ap X.length cp) X V _ HR.out hT0 hs HL.out) ?_
        rintro e V' ⟨A3, c3, rfl, b, hp, hq⟩
        clear hq
        refine ⟨_, rfl, ?_⟩
        replace Bb := below_step Bb b
        replace L0 := L0.later b
        replace hT0 := hT0.below b
        try replace N5 := N5.later b
        try replace N6 := below_at b N6 (lt_of_at N6)
        clear b hs
        generalize V' = V at *
        refine hK.out _ _ L0 (fun _ => ?_)
        clear hK K
        try simp only [zA, zS, zZ, Act.put, zP, zQ, zR]
        refine Node.tk 3 ?_ rfl ?_ ?_
        rotate_left
        · intro w hSw; (try dsimp only at hSw); go_simp; try with_reducible rfl
        simp only [zA, zS, zZ, Act.put, zP, zQ, zR]
        refine Node.tk 4 ?_ rfl ?_ ?_
        rotate_left
        · intro w hSw; (try dsimp only at hSw); go_simp; try with_reducible rfl
        simp only [zA, zS, zZ, Act.put, zP, zQ, zR]
        refine Node.tk 5 ?_ rfl ?_ ?_
        rotate_left
        · intro w hSw; (try dsimp only at hSw); go_simp; try with_reducible rfl
        simp only [zA, zS, zZ, Act.put, zP, zQ, zR]
        refine Node.tk 6 ?_ rfl ?_ ?_
        rotate_left
        · intro w hSw; (try dsimp only at hSw); go_simp; try with_reducible rfl
        simp only [zA, zS, zZ, Act.put, zP, zQ, zR]
        refine Node.on 9 rfl (fun K hK => ?_)
        refine wp_st_lk N5 rfl rfl rfl rfl ?_
        have hn5 := lt_of_at N5.at_
        replace L0 := L0.far3 (g' := g5) (by omega) 200 0 1
        replace N6 := frame_far3 N6 (g' := g5) n56 200 0 1
        have N5' := N5.set3 200 0 1
        replace Bb := ((Bb.setCell (p := ⟨g5, 0, none⟩) n5 (.int .i64 200)).setCell (p := ⟨g5, 1, none⟩) n5 (.int .i64 0)).setCell (p := ⟨g5, 2, none⟩) n5 (.int .i64 1)
        replace hp : SliceAt (((V.setCell ⟨g5, 0, none⟩ (.int .i64 200)).setCell ⟨g5, 1, none⟩ (.int .i64 0)).setCell ⟨g5, 2, none⟩ (.int .i64 1)) 1 (.slice A3 noF.2.2.length c3) noF.2.2.length (u8s noF.2.2) := slice_zero hp rfl
        clear N5 hT0 hn5
        generalize ((V.setCell ⟨g5, 0, none⟩ (.int .i64 200)).setCell ⟨g5, 1, none⟩ (.int .i64 0)).setCell ⟨g5, 2, none⟩ (.int .i64 1) = V at *
        refine hK.out _ _ L0 (fun _ => ?_)
        clear hK K
        try simp only [zA, zS, zZ, Act.put, zP, zQ, zR]
        refine Node.on 10 rfl (fun K hK => ?_)
        refine wp_st_fr N6 rfl rfl rfl rfl ?_
        have F := FV.mk3 (f := noF) N6 hp rfl
        have hn6 := lt_of_at N6
        replace L0 := L0.at_
        replace L0 : LVar (((V.setCell ⟨g6, 0, none⟩ (.int .u8 (noF.1.toNat : Int))).setCell ⟨g6, 1, none⟩ (.int .u8 (noF.2.1.toNat : Int))).setCell ⟨g6, 2, none⟩ (.slice A3 noF.2.2.length c3)) g2 200 0 0 := ⟨frame_far3' L0 (by omega) _ _ _⟩
        replace N5' : LVar (((V.setCell ⟨g6, 0, none⟩ (.int .u8 (noF.1.toNat : Int))).setCell ⟨g6, 1, none⟩ (.int .u8 (noF.2.1.toNat : Int))).setCell ⟨g6, 2, none⟩ (.slice A3 noF.2.2.length c3)) g5 200 0 1 := ⟨frame_far3' N5'.at_ (Ne.symm n56) _ _ _⟩
        replace Bb := ((Bb.setCell (p := ⟨g6, 0, none⟩) n6 (.int .u8 (noF.1.toNat : Int))).setCell (p := ⟨g6, 1, none⟩) n6 (.int .u8 (noF.2.1.toNat : Int))).setCell (p := ⟨g6, 2, none⟩) n6 (.slice A3 noF.2.2.length c3)
        clear N6 hp
        generalize ((V.setCell ⟨g6, 0, none⟩ (.int .u8 (noF.1.toNat : Int))).setCell ⟨g6, 1, none⟩ (.int .u8 (noF.2.1.toNat : Int))).setCell ⟨g6, 2, none⟩ (.slice A3 noF.2.2.length c3) = V at *
        refine hK.out _ _ L0 (fun _ => ?_)
        clear hK K
        try simp only [zA, zS, zZ, Act.put, zP, zQ, zR]
        refine Node.tk 11 ?_ rfl ?_ ?_
        rotate_left
        · intro w hSw; (try dsimp only at hSw); go_simp; try with_reducible rfl
        simp only [zA, zS, zZ, Act.put, zP, zQ, zR]
        refine wpAnyH_done (by kernel_rfl) ?_ _
        exact ⟨g5, g6, ⟨rfl, rfl, by simp⟩, N5', F, Bb⟩
    · skip
      have N5 := LVar.new V 0 0 0
      have b := below_new V (.cells #[.int .i64 0, .int .i64 0, .int .i64 0] 31)
      refine Node.wp_new 31 (.agg #[.int .i64 0, .int .i64 0, .int .i64 0]) #[.int .i64 0, .int .i64 0, .int .i64 0] (by kernel_rfl) rfl (by rfl) ?_
      have n5 := Bb.size
      replace Bb := below_step Bb b
      replace L0 := L0.later b
      replace hT0 := hT0.below b
      try replace hs := hs.later b
      try replace hp := hp.later b
      try (have n56 := lt_of_at N6; replace N6 := below_at b N6 n56)
      clear b
      generalize V.heap.size = g5 at *
      generalize V.alloc (.cells #[.int .i64 0, .int .i64 0, .int .i64 0] 31) = V at *
      try replace n56 := Nat.ne_of_lt n56
      refine hK.out _ _ L0 (fun _ => ?_)
      clear hK K
      try simp only [zA, zS, zZ, Act.put, zP, zQ, zR]
      refine Node.on 1 rfl (fun K hK => ?_)
      refine Node.wp_fn 31 [.const (.int .u8 200)] _ [.int .u8 200] (by rfl) (by rfl) (enters Tryd.func31 (by kernel_rfl) rfl) (panel_c 200#8 200 rfl X HX.out V) ?_
      rintro e V' ⟨b, Ap, cp, rfl, hs⟩
      refine ⟨_, rfl, ?_⟩
      replace Bb := below_step Bb b
      replace L0 := L0.later b
      replace hT0 := hT0.below b
      try replace N5 := N5.later b
      try replace N6 := below_at b N6 (lt_of_at N6)
      clear b
      generalize V' = V at *
      refine hK.out _ _ L0 (fun _ => ?_)
      clear hK K
      try simp only [zA, zS, zZ, Act.put, zP, zQ, zR]
      refine Node.on 2 rfl (fun K hK => ?_)
      refine Node.wp_fn 11 [.tmp 36, .const (.int .u8 2), .tmp 37] _ [lkv (200, 0, 0), .int .u8 2, .slice Ap X.length cp] (by rfl) (by rfl) (enters Tryd.func11 (by kernel_rfl) rfl) (Hear_v (200, 0, 0) 2 (.slice Ap X.length cp) X V _ HR.out hT0 hs HL.out) ?_
      rintro e V' ⟨A3, c3, rfl, b, hp, hq⟩
      clear hq
      refine ⟨_, rfl, ?_⟩
      replace Bb := below_step Bb b
      replace L0 := L0.later b
      replace hT0 := hT0.below b
      try replace N5 := N5.later b
      try replace N6 := below_at b N6 (lt_of_at N6)
      clear b hs
      generalize V' = V at *
      refine hK.out _ _ L0 (fun _ => ?_)
      clear hK K
      try simp only [zA, zS, zZ, Act.put, zP, zQ, zR]
      refine Node.tk 3 ?_ rfl ?_ ?_
      rotate_left
      · intro w hSw; (try dsimp only at hSw); go_simp; try with_reducible rfl
      simp only [zA, zS, zZ, Act.put, zP, zQ, zR]
      refine Node.tk 4 ?_ rfl ?_ ?_
      rotate_left
      · intro w hSw; (try dsimp only at hSw); go_simp; try with_reducible rfl
      simp only [zA, zS, zZ, Act.put, zP, zQ, zR]
      refine Node.tk 5 ?_ rfl ?_ ?_
      rotate_left
      · intro w hSw; (try dsimp only at hSw); go_simp; try with_reducible rfl
      simp only [zA, zS, zZ, Act.put, zP, zQ, zR]
      refine Node.tk 6 ?_ rfl ?_ ?_
      rotate_left
      · intro w hSw; (try dsimp only at hSw); go_simp; try with_reducible rfl
      simp only [zA, zS, zZ, Act.put, zP, zQ, zR]
      refine Node.on 9 rfl (fun K hK => ?_)
      refine wp_st_lk N5 rfl rfl rfl rfl ?_
      have hn5 := lt_of_at N5.at_
      replace L0 := L0.far3 (g' := g5) (by omega) 200 0 1
      replace N6 := frame_far3 N6 (g' := g5) n56 200 0 1
      have N5' := N5.set3 200 0 1
      replace Bb := ((Bb.setCell (p := ⟨g5, 0, none⟩) n5 (.int .i64 200)).setCell (p := ⟨g5, 1, none⟩) n5 (.int .i64 0)).setCell (p := ⟨g5, 2, none⟩) n5 (.int .i64 1)
      replace hp : SliceAt (((V.setCell ⟨g5, 0, none⟩ (.int .i64 200)).setCell ⟨g5, 1, none⟩ (.int .i64 0)).setCell ⟨g5, 2, none⟩ (.int .i64 1)) 1 (.slice A3 noF.2.2.length c3) noF.2.2.length (u8s noF.2.2) := slice_zero hp rfl
      clear N5 hT0 hn5
      generalize ((V.setCell ⟨g5, 0, none⟩ (.int .i64 200)).setCell ⟨g5, 1, none⟩ (.int .i64 0)).setCell ⟨g5, 2, none⟩ (.int .i64 1) = V at *
      refine hK.out _ _ L0 (fun _ => ?_)
      clear hK K
      try simp only [zA, zS, zZ, Act.put, zP, zQ, zR]
      refine Node.on 10 rfl (fun K hK => ?_)
      refine wp_st_fr N6 rfl rfl rfl rfl ?_
      have F := FV.mk3 (f := noF) N6 hp rfl
      have hn6 := lt_of_at N6
      replace L0 := L0.at_
      replace L0 : LVar (((V.setCell ⟨g6, 0, none⟩ (.int .u8 (noF.1.toNat : Int))).setCell ⟨g6, 1, none⟩ (.int .u8 (noF.2.1.toNat : Int))).setCell ⟨g6, 2, none⟩ (.slice A3 noF.2.2.length c3)) g2 200 0 0 := ⟨frame_far3' L0 (by omega) _ _ _⟩
      replace N5' : LVar (((V.setCell ⟨g6, 0, none⟩ (.int .u8 (noF.1.toNat : Int))).setCell ⟨g6, 1, none⟩ (.int .u8 (noF.2.1.toNat : Int))).setCell ⟨g6, 2, none⟩ (.slice A3 noF.2.2.length c3)) g5 200 0 1 := ⟨frame_far3' N5'.at_ (Ne.symm n56) _ _ _⟩
      replace Bb := ((Bb.setCell (p := ⟨g6, 0, none⟩) n6 (.int .u8 (noF.1.toNat : Int))).setCell (p := ⟨g6, 1, none⟩) n6 (.int .u8 (noF.2.1.toNat : Int))).setCell (p := ⟨g6, 2, none⟩) n6 (.slice A3 noF.2.2.length c3)
      clear N6 hp
      generalize ((V.setCell ⟨g6, 0, none⟩ (.int .u8 (noF.1.toNat : Int))).setCell ⟨g6, 1, none⟩ (.int .u8 (noF.2.1.toNat : Int))).setCell ⟨g6, 2, none⟩ (.slice A3 noF.2.2.length c3) = V at *
      refine hK.out _ _ L0 (fun _ => ?_)
      clear hK K
      try simp only [zA, zS, zZ, Act.put, zP, zQ, zR]
      refine Node.tk 11 ?_ rfl ?_ ?_
      rotate_left
      · intro w hSw; (try dsimp only at hSw); go_simp; try with_reducible rfl
      simp only [zA, zS, zZ, Act.put, zP, zQ, zR]
      refine wpAnyH_done (by kernel_rfl) ?_ _
      exact ⟨g5, g6, ⟨rfl, rfl, by simp⟩, N5', F, Bb⟩
end Go.Proofs.YtlanlkpamnoekaaDoor
