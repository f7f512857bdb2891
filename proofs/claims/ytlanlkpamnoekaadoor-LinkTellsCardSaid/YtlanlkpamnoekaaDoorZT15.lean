/- Link, in company. Nothing that was there is turned. -/
import Derived.Test.YtlanlkpamnoekaaDoorZT14
import Derived.Test.YtlanlkpamnoekaaDoorZT13
import Derived.OrdersHeld
set_option linter.unusedSimpArgs false
set_option linter.unusedVariables false
namespace Go.Proofs.YtlanlkpamnoekaaDoor
open List renaming getElem_toArray → zA, getElem_cons_succ → zS, getElem_cons_zero → zZ, setIfInBounds_toArray → zP, set_cons_zero → zQ, set_cons_succ → zR
open Go Go.RowKit Rf Mem Bv Crc Str Lk
set_option maxRecDepth 100000
attribute [local go_sem ↓] run_max2 run_min2
def lit39 (j : Nat → Value) : List Value := [j 0, j 1, j 2, j 3, j 4, j 5, j 6, j 7, j 8, j 9, j 10, j 11, j 12, j 13, j 14, j 15, j 16, j 17, j 18, j 19, j 20, j 21, j 22, j 23, j 24, j 25, j 26, j 27, j 28, j 29, j 30, j 31, j 32, j 33, j 34, j 35, j 36, j 37, j 38]
theorem lit39_eq (j : Nat → Value) : (List.range 39).map j = lit39 j := by kernel_rfl
theorem Sl.lit39 {a : Act} {l : List (Nat × Value)} (h : Sl a 39 l) : ∃ j : Nat → Value, a = ⟨(lit39 j).toArray, []⟩ ∧ ∀ p ∈ l, j p.1 = p.2 := by
  obtain ⟨j, h1, h2⟩ := h.letters
  exact ⟨j, by rw [h1, lit39_eq], h2⟩

noncomputable def bodyR : Code := Tryd.f15.body.getD .skip
noncomputable def rgR (k : Nat) : Code := nthSeq k bodyR

noncomputable def rR2 : Code := cfst (rgR 2)
noncomputable def loopR : Code := match rgR 2 with | .seq _ (.block _ (.loop c)) => c | _ => .skip
noncomputable def rR3 : Code := cfst (cfst loopR)
noncomputable def cR : Code := match loopR with | .seq _ (.seq (.block _ c) _) => c | _ => .skip
noncomputable def rR4 : Code := csnd (csnd loopR)
noncomputable def rR5 : Code := cfst cR
noncomputable def rR6 : Code := cfst (csnd cR)
noncomputable def rR7 : Code := cfst (csnd (csnd cR))
noncomputable def rR8 : Code := cyes (csnd (csnd (csnd cR)))
theorem bodyR_eq : bodyR = .seq (rgR 0) (.seq (rgR 1) (.seq (rgR 2) (.seq (rgR 3) .ret))) := rfl
theorem rgR2_eq : rgR 2 = .seq rR2 (.block 0 (.loop loopR)) := rfl
theorem loopR_eq : loopR = .seq (.seq rR3 (.cond (.tmp 16) .skip (.exit 0))) (.seq (.block 1 cR) rR4) := rfl
theorem cR_eq : cR = .seq rR5 (.seq rR6 (.seq rR7 (.cond (.tmp 32) rR8 .skip))) := rfl
/-- The row so far. -/
def RowR (R : Nat) (rv : Value) (fs : List Frm) (w : World) : Prop := ∃ xs, w.ownsRow R 41 3 rv fs.length xs ∧ FCells (fun q => rv.ownBlock ≠ some q) w fs xs
theorem RowR.later {R : Nat} {rv : Value} {fs : List Frm} {w W : World} (h : RowR R rv fs w) (b : Below w.heap.size w W) : RowR R rv fs W := by
  obtain ⟨xs, ho, hf⟩ := h
  exact ⟨xs, own_later ho (fun g hg => b.block g (own_base ho hg).2), hf.later b⟩
theorem la0R (a : Act) (Af : Option Addr) (cf n : Nat) (kd : Int) (s q e : Int) (hS : Sl a 39 [(0, lk s q e), (1, .int .u8 kd), (2, .slice Af n cf)]) (w : World) : (rgR 0).wp Tryd.prog (nrm fun a' w' => ∃ g3 g6, Sl a' 39 [(1, .int .u8 kd), (2, .slice Af n cf), (3, .pointer (some ⟨g3, 0, none⟩)), (6, .pointer (some ⟨g6, 0, none⟩))] ∧ LVar w' g3 s q e ∧ LVar w' g6 0 0 0 ∧ w.heap.size ≤ g3 ∧ w.heap.size ≤ g6 ∧ g3 ≠ g6 ∧ Below w.heap.size w w') a w := by
  obtain ⟨j, rfl, hj⟩ := hS.lit39
  have h0 : j 0 = lk s q e := hj (0, _) (by simp)
  have h1 : j 1 = .int .u8 kd := hj (1, _) (by simp)
  have h2 : j 2 = .slice Af n cf := hj (2, _) (by simp)
  clear hj hS
  unfold rgR bodyR
  simp only [Tryd.f15, Option.getD_some, nthSeq, cfst, csnd, cyes, copsOf, lit39, List.cons_append, List.nil_append, h0, h1, h2]
  have b1 := below_new w (.cells #[.int .i64 s, .int .i64 q, .int .i64 e] 31)
  have V1 := LVar.new w s q e
  have b2 := below_new (w.alloc (.cells #[.int .i64 s, .int .i64 q, .int .i64 e] 31)) (.cells #[.int .i64 0, .int .i64 0, .int .i64 0] 31)
  have V2 := LVar.new (w.alloc (.cells #[.int .i64 s, .int .i64 q, .int .i64 e] 31)) 0 0 0
  have B3 := below_step b1 b2
  have V1' := V1.later b2
  simp only [World.size_alloc] at V2
  clear V1 b1 b2
  go_wp2
  exact ⟨_, _, ⟨rfl, rfl, by simp⟩, V1', V2, by omega, by omega, by omega, B3⟩
theorem la1R (a : Act) (Af : Option Addr) (cf n : Nat) (kd : Int) (g3 g6 : Nat) (hS : Sl a 39 [(1, .int .u8 kd), (2, .slice Af n cf), (3, .pointer (some ⟨g3, 0, none⟩)), (6, .pointer (some ⟨g6, 0, none⟩))]) (w : World) : (rgR 1).wp Tryd.prog (nrm fun a' w' => Sl a' 39 [(1, .int .u8 kd), (2, .slice Af n cf), (3, .pointer (some ⟨g3, 0, none⟩)), (6, .pointer (some ⟨g6, 0, none⟩)), (8, .slice none 0 0)] ∧ w' = w) a w := by
  obtain ⟨j, rfl, hj⟩ := hS.lit39
  have h1 : j 1 = .int .u8 kd := hj (1, _) (by simp)
  have h2 : j 2 = .slice Af n cf := hj (2, _) (by simp)
  have h3 : j 3 = .pointer (some ⟨g3, 0, none⟩) := hj (3, _) (by simp)
  have h6 : j 6 = .pointer (some ⟨g6, 0, none⟩) := hj (6, _) (by simp)
  clear hj hS
  unfold rgR bodyR
  simp only [Tryd.f15, Option.getD_some, nthSeq, cfst, csnd, cyes, copsOf, lit39, List.cons_append, List.nil_append, h1, h2, h3, h6]
  go_wp2
  exact ⟨⟨rfl, rfl, by simp⟩, rfl⟩
theorem la2R (a : Act) (Af : Option Addr) (cf n : Nat) (kd : Int) (g3 g6 : Nat) (hS : Sl a 39 [(1, .int .u8 kd), (2, .slice Af n cf), (3, .pointer (some ⟨g3, 0, none⟩)), (6, .pointer (some ⟨g6, 0, none⟩)), (8, .slice none 0 0)]) (w : World) : rR2.wp Tryd.prog (nrm fun a' w' => Sl a' 39 [(1, .int .u8 kd), (2, .slice Af n cf), (3, .pointer (some ⟨g3, 0, none⟩)), (6, .pointer (some ⟨g6, 0, none⟩)), (8, .slice none 0 0), (9, .int .i64 0)] ∧ w' = w) a w := by
  obtain ⟨j, rfl, hj⟩ := hS.lit39
  have h1 : j 1 = .int .u8 kd := hj (1, _) (by simp)
  have h2 : j 2 = .slice Af n cf := hj (2, _) (by simp)
  have h3 : j 3 = .pointer (some ⟨g3, 0, none⟩) := hj (3, _) (by simp)
  have h6 : j 6 = .pointer (some ⟨g6, 0, none⟩) := hj (6, _) (by simp)
  have h8 : j 8 = .slice none 0 0 := hj (8, _) (by simp)
  clear hj hS
  unfold rR2 rgR bodyR
  simp only [Tryd.f15, Option.getD_some, nthSeq, cfst, csnd, cyes, copsOf, lit39, List.cons_append, List.nil_append, h1, h2, h3, h6, h8]
  go_wp2
  exact ⟨⟨rfl, rfl, by simp⟩, rfl⟩
theorem la3R (a : Act) (Af : Option Addr) (cf n : Nat) (kd : Int) (g3 g6 : Nat) (rv : Value) (i : Nat) (t : Bool) (ht : t = decide ((i : Int) < n)) (hS : Sl a 39 [(1, .int .u8 kd), (2, .slice Af n cf), (3, .pointer (some ⟨g3, 0, none⟩)), (6, .pointer (some ⟨g6, 0, none⟩)), (8, rv), (9, .int .i64 (i : Nat))]) (w : World) : rR3.wp Tryd.prog (nrm fun a' w' => Sl a' 39 [(1, .int .u8 kd), (2, .slice Af n cf), (3, .pointer (some ⟨g3, 0, none⟩)), (6, .pointer (some ⟨g6, 0, none⟩)), (8, rv), (9, .int .i64 (i : Nat)), (16, .bool t)] ∧ w' = w) a w := by
  obtain ⟨j, rfl, hj⟩ := hS.lit39
  have h1 : j 1 = .int .u8 kd := hj (1, _) (by simp)
  have h2 : j 2 = .slice Af n cf := hj (2, _) (by simp)
  have h3 : j 3 = .pointer (some ⟨g3, 0, none⟩) := hj (3, _) (by simp)
  have h6 : j 6 = .pointer (some ⟨g6, 0, none⟩) := hj (6, _) (by simp)
  have h8 : j 8 = rv := hj (8, _) (by simp)
  have h9 : j 9 = .int .i64 (i : Nat) := hj (9, _) (by simp)
  clear hj hS
  unfold rR3 loopR rgR bodyR
  simp only [Tryd.f15, Option.getD_some, nthSeq, cfst, csnd, cyes, copsOf, lit39, List.cons_append, List.nil_append, h1, h2, h3, h6, h8, h9]
  subst ht
  go_wp2
  exact ⟨⟨rfl, rfl, by simp⟩, rfl⟩
theorem la4R (a : Act) (Af : Option Addr) (cf n : Nat) (kd : Int) (g3 g6 : Nat) (rv : Value) (i : Nat) (hi : i < 100) (hS : Sl a 39 [(1, .int .u8 kd), (2, .slice Af n cf), (3, .pointer (some ⟨g3, 0, none⟩)), (6, .pointer (some ⟨g6, 0, none⟩)), (8, rv), (9, .int .i64 (i : Nat))]) (w : World) : rR4.wp Tryd.prog (nrm fun a' w' => Sl a' 39 [(1, .int .u8 kd), (2, .slice Af n cf), (3, .pointer (some ⟨g3, 0, none⟩)), (6, .pointer (some ⟨g6, 0, none⟩)), (8, rv), (9, .int .i64 ((i + 1) : Nat))] ∧ w' = w) a w := by
  obtain ⟨j, rfl, hj⟩ := hS.lit39
  have h1 : j 1 = .int .u8 kd := hj (1, _) (by simp)
  have h2 : j 2 = .slice Af n cf := hj (2, _) (by simp)
  have h3 : j 3 = .pointer (some ⟨g3, 0, none⟩) := hj (3, _) (by simp)
  have h6 : j 6 = .pointer (some ⟨g6, 0, none⟩) := hj (6, _) (by simp)
  have h8 : j 8 = rv := hj (8, _) (by simp)
  have h9 : j 9 = .int .i64 (i : Nat) := hj (9, _) (by simp)
  clear hj hS
  unfold rR4 loopR rgR bodyR
  simp only [Tryd.f15, Option.getD_some, nthSeq, cfst, csnd, cyes, copsOf, lit39, List.cons_append, List.nil_append, h1, h2, h3, h6, h8, h9]
  go_wp2
  exact ⟨⟨rfl, rfl, by simp [IntWalk.i64_in _ (show -9223372036854775808 ≤ (i : Int) + 1 ∧ (i : Int) + 1 ≤ 9223372036854775807 by omega)]⟩, rfl⟩
set_option maxHeartbeats 8000000 in
theorem la5R (a : Act) (bA oA cf n : Nat) (kd : Int) (g3 g6 : Nat) (rv : Value) (i : Nat) (s q e : Int) (er : Int) (s' q' e' : Int) (f : Frm) (y : List (BitVec 8)) (us : List Value) (Ay : Option Addr) (cy : Nat) (hr : (((s', q', e'), er, f) : Lst × Int × Frm) = hearV kd y (s, q, e)) (hin : i < n) (hu : us[i]? = some (.slice Ay y.length cy)) (hly : y.length ≤ 140737488355320) (hS : Sl a 39 [(1, .int .u8 kd), (2, .slice (some ⟨bA, oA, none⟩) n cf), (3, .pointer (some ⟨g3, 0, none⟩)), (6, .pointer (some ⟨g6, 0, none⟩)), (8, rv), (9, .int .i64 (i : Nat))]) (w : World) (L : LVar w g3 s q e) (CS : SliceAt w 1 (.slice (some ⟨bA, oA, none⟩) n cf) n us) (SY : SliceAt w 1 (.slice Ay y.length cy) y.length (u8s y)) : rR5.wp Tryd.prog (nrm fun a' w' => ∃ gc gd, Sl a' 39 [(1, .int .u8 kd), (2, .slice (some ⟨bA, oA, none⟩) n cf), (3, .pointer (some ⟨g3, 0, none⟩)), (6, .pointer (some ⟨g6, 0, none⟩)), (8, rv), (9, .int .i64 (i : Nat)), (10, .pointer (some ⟨gc, 0, none⟩)), (11, .pointer (some ⟨gd, 0, none⟩)), (12, .int .i64 er)] ∧ LVar w' gc s' q' e' ∧ (∃ A c, w'.heap[gd]? = some (.cells #[.int .u8 (f.1.toNat : Int), .int .u8 (f.2.1.toNat : Int), .slice A f.2.2.length c] 41 (0, 0)) ∧ SliceAt w' 1 (.slice A f.2.2.length c) f.2.2.length (u8s f.2.2) ∧ ∀ q, VB (.slice A f.2.2.length c) f.2.2.length q → w.heap.size ≤ q) ∧ w.heap.size ≤ gc ∧ w.heap.size ≤ gd ∧ Below w.heap.size w w') a w := by
  have HR := Lib.hid hr
  have LY0 := Lib.hid hly
  have hT : True := trivial
  have i1 : (0 : Int) ≤ (i : Int) ∧ (i : Int) < (n : Int) := by omega
  have hL5 : ∀ g, w.heap.size ≤ g → g3 ≠ g := fun g hg => Nat.ne_of_lt (Nat.lt_of_lt_of_le (lt_of_at L.at_) hg)
  have hC5 : ∀ g, w.heap.size ≤ g → bA ≠ g := fun g hg => Nat.ne_of_lt (Nat.lt_of_lt_of_le (vblock_lt CS ⟨by omega, rfl⟩) hg)
  clear hr hly
  obtain ⟨j, rfl, hj⟩ := hS.lit39
  have h1 : j 1 = .int .u8 kd := hj (1, _) (by simp)
  have h2 : j 2 = .slice (some ⟨bA, oA, none⟩) n cf := hj (2, _) (by simp)
  have h3 : j 3 = .pointer (some ⟨g3, 0, none⟩) := hj (3, _) (by simp)
  have h6 : j 6 = .pointer (some ⟨g6, 0, none⟩) := hj (6, _) (by simp)
  have h8 : j 8 = rv := hj (8, _) (by simp)
  have h9 : j 9 = .int .i64 (i : Nat) := hj (9, _) (by simp)
  clear hj hS
  unfold rR5 cR loopR rgR bodyR
  simp only [Tryd.f15, Option.getD_some, nthSeq, cfst, csnd, cyes, copsOf, lit39, List.cons_append, List.nil_append, h1, h2, h3, h6, h8, h9]
  refine Node.region_key (fun w' => LVar w' g3 s q e ∧ SliceAt w' 1 (.slice (some ⟨bA, oA, none⟩) n cf) n us) 3 #[true, true, true, true, true, true, true, true, true, true, true, true, true, false, false, false] (fun a V => ∃ (u5 g6' : Nat) (A3 : Option Addr) (c3 : Nat), Sl a 39 [(1, .int .u8 kd), (2, .slice (some ⟨bA, oA, none⟩) n cf), (3, .pointer (some ⟨g3, 0, none⟩)), (6, .pointer (some ⟨g6, 0, none⟩)), (8, rv), (9, .int .i64 (i : Nat)), (10, .pointer (some ⟨u5, 0, none⟩)), (11, .pointer (some ⟨g6', 0, none⟩)), (27, lk s' q' e'), (28, fv (f.1.toNat : Int) (f.2.1.toNat : Int) (.slice A3 f.2.2.length c3)), (29, .int .i64 er)] ∧ g6' ≠ u5 ∧ LVar V u5 0 0 0 ∧ V.heap[g6']? = some (.cells #[.int .u8 0, .int .u8 0, .slice none 0 0] 41 (0, 0)) ∧ SliceAt V 1 (.slice A3 f.2.2.length c3) f.2.2.length (u8s f.2.2) ∧ (∀ q, VB (.slice A3 f.2.2.length c3) f.2.2.length q → q ≠ g6') ∧ (∀ q, VB (.slice A3 f.2.2.length c3) f.2.2.length q → w.heap.size ≤ q) ∧ Below w.heap.size w V ∧ w.heap.size ≤ u5 ∧ w.heap.size ≤ g6') ?_ (fun kT => ?_)
  · rintro a V hS ⟨u5, g6', A3, c3, hs, n56, N5, N6, hp, n6q, HQ2, Bb, n5, n6⟩
    obtain ⟨L0, C0⟩ := hS
    obtain ⟨j, rfl, hj⟩ := hs.lit39
    have zk1 : j 1 = .int .u8 kd := hj (1, _) (by simp)
    have zk2 : j 2 = .slice (some ⟨bA, oA, none⟩) n cf := hj (2, _) (by simp)
    have zk3 : j 3 = .pointer (some ⟨g3, 0, none⟩) := hj (3, _) (by simp)
    have zk6 : j 6 = .pointer (some ⟨g6, 0, none⟩) := hj (6, _) (by simp)
    have zk8 : j 8 = rv := hj (8, _) (by simp)
    have zk9 : j 9 = .int .i64 (i : Nat) := hj (9, _) (by simp)
    have zk10 : j 10 = .pointer (some ⟨u5, 0, none⟩) := hj (10, _) (by simp)
    have zk11 : j 11 = .pointer (some ⟨g6', 0, none⟩) := hj (11, _) (by simp)
    have zk27 : j 27 = lk s' q' e' := hj (27, _) (by simp)
    have zk28 : j 28 = fv (f.1.toNat : Int) (f.2.1.toNat : Int) (.slice A3 f.2.2.length c3) := hj (28, _) (by simp)
    have zk29 : j 29 = .int .i64 er := hj (29, _) (by simp)
    clear hj hs
    simp only [lit39, List.cons_append, List.nil_append, zk1, zk2, zk3, zk6, zk8, zk9, zk10, zk11, zk27, zk28, zk29]
    refine Node.on 13 rfl (fun K hK => ?_)
    refine wp_st_lk N5 rfl rfl rfl rfl ?_
    have hn5 := lt_of_at N5.at_
    have k5 := hL5 u5 n5
    replace L0 := L0.far3 (g' := u5) k5 s' q' e'
    replace N6 := frame_far3 N6 (g' := u5) n56 s' q' e'
    replace C0 := slice_far C0 (hC5 u5 n5) (.int .i64 s') (.int .i64 q') (.int .i64 e')
    have N5' := N5.set3 s' q' e'
    replace Bb := ((Bb.setCell (p := ⟨u5, 0, none⟩) n5 (.int .i64 s')).setCell (p := ⟨u5, 1, none⟩) n5 (.int .i64 q')).setCell (p := ⟨u5, 2, none⟩) n5 (.int .i64 e')
    replace hp := bytes_far hp N5 (.int .i64 s') (.int .i64 q') (.int .i64 e')
    clear N5 hn5 k5
    generalize ((V.setCell ⟨u5, 0, none⟩ (.int .i64 s')).setCell ⟨u5, 1, none⟩ (.int .i64 q')).setCell ⟨u5, 2, none⟩ (.int .i64 e') = V at *
    refine hK.out _ _ ⟨L0, C0⟩ (fun _ => ?_)
    clear hK K
    try simp only [zA, zS, zZ, Act.put, zP, zQ, zR]
    refine Node.on 14 rfl (fun K hK => ?_)
    refine wp_st_fr N6 rfl rfl rfl rfl ?_
    obtain ⟨F1, F2⟩ : _ ∧ _ := ⟨set_at (set_at (set_at N6 0 (.int .u8 (f.1.toNat : Int))) 1 (.int .u8 (f.2.1.toNat : Int))) 2 (.slice A3 f.2.2.length c3), slice_keep hp (keep3 V g6' (.int .u8 (f.1.toNat : Int)) (.int .u8 (f.2.1.toNat : Int)) (.slice A3 f.2.2.length c3)) n6q⟩
    simp only [List.setIfInBounds_toArray, List.set_cons_zero, List.set_cons_succ] at F1
    have k6 := hL5 g6' n6
    replace L0 := L0.at_
    replace L0 : LVar (((V.setCell ⟨g6', 0, none⟩ (.int .u8 (f.1.toNat : Int))).setCell ⟨g6', 1, none⟩ (.int .u8 (f.2.1.toNat : Int))).setCell ⟨g6', 2, none⟩ (.slice A3 f.2.2.length c3)) g3 s q e := ⟨frame_far3' L0 k6 _ _ _⟩
    replace C0 := slice_far C0 (hC5 g6' n6) (.int .u8 (f.1.toNat : Int)) (.int .u8 (f.2.1.toNat : Int)) (.slice A3 f.2.2.length c3)
    replace N5' : LVar (((V.setCell ⟨g6', 0, none⟩ (.int .u8 (f.1.toNat : Int))).setCell ⟨g6', 1, none⟩ (.int .u8 (f.2.1.toNat : Int))).setCell ⟨g6', 2, none⟩ (.slice A3 f.2.2.length c3)) u5 s' q' e' := ⟨frame_far3' N5'.at_ (Ne.symm n56) _ _ _⟩
    replace Bb := ((Bb.setCell (p := ⟨g6', 0, none⟩) n6 (.int .u8 (f.1.toNat : Int))).setCell (p := ⟨g6', 1, none⟩) n6 (.int .u8 (f.2.1.toNat : Int))).setCell (p := ⟨g6', 2, none⟩) n6 (.slice A3 f.2.2.length c3)
    clear N6 hp n6q k6
    generalize ((V.setCell ⟨g6', 0, none⟩ (.int .u8 (f.1.toNat : Int))).setCell ⟨g6', 1, none⟩ (.int .u8 (f.2.1.toNat : Int))).setCell ⟨g6', 2, none⟩ (.slice A3 f.2.2.length c3) = V at *
    refine hK.out _ _ ⟨L0, C0⟩ (fun _ => ?_)
    clear hK K
    try simp only [zA, zS, zZ, Act.put, zP, zQ, zR]
    refine Node.tk 15 ?_ rfl ?_ ?_
    rotate_left
    · intro w hSw; (try dsimp only at hSw); go_simp; try with_reducible rfl
    simp only [zA, zS, zZ, Act.put, zP, zQ, zR]
    refine wpAnyH_done (by kernel_rfl) ?_ _
    exact ⟨u5, g6', ⟨rfl, rfl, by simp⟩, N5', ⟨A3, c3, F1, F2, HQ2⟩, n5, n6, Bb⟩
  refine wp_region_held_drew (S := (fun w' => LVar w' g3 s q e ∧ SliceAt w' 1 (.slice (some ⟨bA, oA, none⟩) n cf) n us)) (by kernel_rfl) ?_ (fun hHeld => ?_)
  · exact ⟨⟨L.at_⟩, CS⟩
  have Bb : Below w.heap.size w w.drew := (Below.refl _ w).drew
  clear hHeld
  have L0 := L.later Bb
  have C0 := CS.later Bb
  have hT0 : True := trivial
  replace SY := SY.later Bb
  clear L hT CS
  generalize w.drew = V at *
  have hHeld : LVar V g3 s q e ∧ SliceAt V 1 (.slice (some ⟨bA, oA, none⟩) n cf) n us := ⟨L0, C0⟩
  refine Node.tk 0 (lk s q e) rfl (fun _ hSw => run_ld hSw.1 rfl rfl) ?_
  simp only [zA, zS, zZ, Act.put, zP, zQ, zR]
  refine Node.tk 1 ?_ rfl ?_ ?_
  rotate_left
  · intro w hSw; (try dsimp only at hSw); go_simp; try with_reducible rfl
  simp only [zA, zS, zZ, Act.put, zP, zQ, zR]
  refine Node.tk 2 ?_ rfl ?_ ?_
  rotate_left
  · intro w hSw; (try dsimp only at hSw); go_simp; try with_reducible rfl
  simp only [zA, zS, zZ, Act.put, zP, zQ, zR]
  refine Node.tk 3 ?_ rfl ?_ ?_
  rotate_left
  · intro w hSw; (try dsimp only at hSw); go_simp; try with_reducible rfl
  simp only [zA, zS, zZ, Act.put, zP, zQ, zR]
  refine Node.tk 4 ?_ rfl ?_ ?_
  rotate_left
  · intro w hSw; (try dsimp only at hSw); go_simp; try with_reducible rfl
  simp only [zA, zS, zZ, Act.put, zP, zQ, zR]
  refine Node.tk 5 (.slice Ay y.length cy) rfl (fun _ hSw => run_el (slice_cell hSw.2 hu) rfl rfl) ?_
  simp only [zA, zS, zZ, Act.put, zP, zQ, zR]
  clear hHeld
  refine wpAnyH_ready (rs := [6, 11, 12]) (by kernel_rfl) (by simp) ?_
  refine AllReadyH.cons rfl (fun K hK => ?_) (AllReadyH.cons rfl (fun K hK => ?_) (AllReadyH.cons rfl (fun K hK => ?_) AllReadyH.nil))
  · skip
    refine Node.wp_fn 12 [.tmp 20, .tmp 21, .tmp 25] _ [lkv (s, q, e), .int .u8 kd, .slice Ay y.length cy] (by rfl) (by rfl) (enters Tryd.func12 (by kernel_rfl) rfl) (r29Hear_v (s, q, e) kd (.slice Ay y.length cy) y V _ HR.out SY LY0.out) ?_
    rintro e' V' ⟨A3, c3, rfl, b, hp, hq⟩
    refine ⟨_, rfl, ?_⟩
    have HQ2 := fun q hb => Nat.le_trans Bb.size (hq q hb)
    try replace n6q := fun q hb => Ne.symm (Nat.ne_of_lt (Nat.lt_of_lt_of_le (lt_of_at N6) (hq q hb)))
    replace Bb := below_step Bb b
    replace L0 := L0.later b
    replace C0 := C0.later b
    try replace N5 := N5.later b
    try replace N6 := below_at b N6 (lt_of_at N6)
    clear b hq SY
    generalize V' = V at *
    refine hK.out _ _ ⟨L0, C0⟩ (fun _ => ?_)
    clear hK K
    try simp only [zA, zS, zZ, Act.put, zP, zQ, zR]
    refine Node.tk 7 ?_ rfl ?_ ?_
    rotate_left
    · intro w hSw; (try dsimp only at hSw); go_simp; try with_reducible rfl
    simp only [zA, zS, zZ, Act.put, zP, zQ, zR]
    refine Node.tk 8 ?_ rfl ?_ ?_
    rotate_left
    · intro w hSw; (try dsimp only at hSw); go_simp; try with_reducible rfl
    simp only [zA, zS, zZ, Act.put, zP, zQ, zR]
    refine Node.tk 9 ?_ rfl ?_ ?_
    rotate_left
    · intro w hSw; (try dsimp only at hSw); go_simp; try with_reducible rfl
    simp only [zA, zS, zZ, Act.put, zP, zQ, zR]
    refine Node.tk 10 ?_ rfl ?_ ?_
    rotate_left
    · intro w hSw; (try dsimp only at hSw); go_simp; try with_reducible rfl
    simp only [zA, zS, zZ, Act.put, zP, zQ, zR]
    refine wpAnyH_ready (rs := [11, 12]) (by kernel_rfl) (by simp) ?_
    refine AllReadyH.cons rfl (fun K hK => ?_) (AllReadyH.cons rfl (fun K hK => ?_) AllReadyH.nil)
    · skip
      refine new_lk rfl fun u5 V' z N5 b => ?_
      have n5 := Nat.le_trans Bb.size z
      replace Bb := below_step Bb b
      replace L0 := L0.later b
      replace C0 := C0.later b
      try replace SY := SY.later b
      try replace hp := hp.later b
      try (have n56 := Nat.ne_of_lt (Nat.lt_of_lt_of_le (lt_of_at N6) z); replace N6 := below_at b N6 (lt_of_at N6))
      clear b z
      generalize V' = V at *
      refine hK.out _ _ ⟨L0, C0⟩ (fun _ => ?_)
      clear hK K
      try simp only [zA, zS, zZ, Act.put, zP, zQ, zR]
      refine Node.on 12 rfl (fun K hK => ?_)
      refine new_fr rfl fun g6' V' z N6 b => ?_
      have n6 := Nat.le_trans Bb.size z
      replace Bb := below_step Bb b
      replace L0 := L0.later b
      replace C0 := C0.later b
      try replace SY := SY.later b
      have n6q : True := trivial
      try (replace n6q := fun q hb => Nat.ne_of_lt (Nat.lt_of_lt_of_le (vblock_lt hp (q := q) hb) z); replace hp := hp.later b)
      try (have n56 := Nat.ne_of_gt (Nat.lt_of_lt_of_le (lt_of_at N5.at_) z); replace N5 := N5.later b)
      clear b z
      generalize V' = V at *
      refine hK.out _ _ ⟨L0, C0⟩ (fun _ => ?_)
      clear hK K
      try simp only [zA, zS, zZ, Act.put, zP, zQ, zR]
      exact kT _ _ ⟨L0, C0⟩ ⟨u5, g6', A3, c3, ⟨rfl, rfl, by simp⟩, n56, N5, N6, hp, n6q, HQ2, Bb, n5, n6⟩
    · skip
      refine new_fr rfl fun g6' V' z N6 b => ?_
      have n6 := Nat.le_trans Bb.size z
      replace Bb := below_step Bb b
      replace L0 := L0.later b
      replace C0 := C0.later b
      try replace SY := SY.later b
      have n6q : True := trivial
      try (replace n6q := fun q hb => Nat.ne_of_lt (Nat.lt_of_lt_of_le (vblock_lt hp (q := q) hb) z); replace hp := hp.later b)
      try (have n56 := Nat.ne_of_gt (Nat.lt_of_lt_of_le (lt_of_at N5.at_) z); replace N5 := N5.later b)
      clear b z
      generalize V' = V at *
      refine hK.out _ _ ⟨L0, C0⟩ (fun _ => ?_)
      clear hK K
      try simp only [zA, zS, zZ, Act.put, zP, zQ, zR]
      refine Node.on 11 rfl (fun K hK => ?_)
      refine new_lk rfl fun u5 V' z N5 b => ?_
      have n5 := Nat.le_trans Bb.size z
      replace Bb := below_step Bb b
      replace L0 := L0.later b
      replace C0 := C0.later b
      try replace SY := SY.later b
      try replace hp := hp.later b
      try (have n56 := Nat.ne_of_lt (Nat.lt_of_lt_of_le (lt_of_at N6) z); replace N6 := below_at b N6 (lt_of_at N6))
      clear b z
      generalize V' = V at *
      refine hK.out _ _ ⟨L0, C0⟩ (fun _ => ?_)
      clear hK K
      try simp only [zA, zS, zZ, Act.put, zP, zQ, zR]
      exact kT _ _ ⟨L0, C0⟩ ⟨u5, g6', A3, c3, ⟨rfl, rfl, by simp⟩, n56, N5, N6, hp, n6q, HQ2, Bb, n5, n6⟩
  · skip
    refine new_lk rfl fun u5 V' z N5 b => ?_
    have n5 := Nat.le_trans Bb.size z
    replace Bb := below_step Bb b
    replace L0 := L0.later b
    replace C0 := C0.later b
    try replace SY := SY.later b
    try replace hp := hp.later b
    try (have n56 := Nat.ne_of_lt (Nat.lt_of_lt_of_le (lt_of_at N6) z); replace N6 := below_at b N6 (lt_of_at N6))
    clear b z
    generalize V' = V at *
    refine hK.out _ _ ⟨L0, C0⟩ (fun _ => ?_)
    clear hK K
    try simp only [zA, zS, zZ, Act.put, zP, zQ, zR]
    refine wpAnyH_ready (rs := [6, 12]) (by kernel_rfl) (by simp) ?_
    refine AllReadyH.cons rfl (fun K hK => ?_) (AllReadyH.cons rfl (fun K hK => ?_) AllReadyH.nil)
    · skip
      refine Node.wp_fn 12 [.tmp 20, .tmp 21, .tmp 25] _ [lkv (s, q, e), .int .u8 kd, .slice Ay y.length cy] (by rfl) (by rfl) (enters Tryd.func12 (by kernel_rfl) rfl) (r29Hear_v (s, q, e) kd (.slice Ay y.length cy) y V _ HR.out SY LY0.out) ?_
      rintro e' V' ⟨A3, c3, rfl, b, hp, hq⟩
      refine ⟨_, rfl, ?_⟩
      have HQ2 := fun q hb => Nat.le_trans Bb.size (hq q hb)
      try replace n6q := fun q hb => Ne.symm (Nat.ne_of_lt (Nat.lt_of_lt_of_le (lt_of_at N6) (hq q hb)))
      replace Bb := below_step Bb b
      replace L0 := L0.later b
      replace C0 := C0.later b
      try replace N5 := N5.later b
      try replace N6 := below_at b N6 (lt_of_at N6)
      clear b hq SY
      generalize V' = V at *
      refine hK.out _ _ ⟨L0, C0⟩ (fun _ => ?_)
      clear hK K
      try simp only [zA, zS, zZ, Act.put, zP, zQ, zR]
      refine Node.tk 7 ?_ rfl ?_ ?_
      rotate_left
      · intro w hSw; (try dsimp only at hSw); go_simp; try with_reducible rfl
      simp only [zA, zS, zZ, Act.put, zP, zQ, zR]
      refine Node.tk 8 ?_ rfl ?_ ?_
      rotate_left
      · intro w hSw; (try dsimp only at hSw); go_simp; try with_reducible rfl
      simp only [zA, zS, zZ, Act.put, zP, zQ, zR]
      refine Node.tk 9 ?_ rfl ?_ ?_
      rotate_left
      · intro w hSw; (try dsimp only at hSw); go_simp; try with_reducible rfl
      simp only [zA, zS, zZ, Act.put, zP, zQ, zR]
      refine Node.tk 10 ?_ rfl ?_ ?_
      rotate_left
      · intro w hSw; (try dsimp only at hSw); go_simp; try with_reducible rfl
      simp only [zA, zS, zZ, Act.put, zP, zQ, zR]
      refine Node.on 12 rfl (fun K hK => ?_)
      refine new_fr rfl fun g6' V' z N6 b => ?_
      have n6 := Nat.le_trans Bb.size z
      replace Bb := below_step Bb b
      replace L0 := L0.later b
      replace C0 := C0.later b
      try replace SY := SY.later b
      have n6q : True := trivial
      try (replace n6q := fun q hb => Nat.ne_of_lt (Nat.lt_of_lt_of_le (vblock_lt hp (q := q) hb) z); replace hp := hp.later b)
      try (have n56 := Nat.ne_of_gt (Nat.lt_of_lt_of_le (lt_of_at N5.at_) z); replace N5 := N5.later b)
      clear b z
      generalize V' = V at *
      refine hK.out _ _ ⟨L0, C0⟩ (fun _ => ?_)
      clear hK K
      try simp only [zA, zS, zZ, Act.put, zP, zQ, zR]
      exact kT _ _ ⟨L0, C0⟩ ⟨u5, g6', A3, c3, ⟨rfl, rfl, by simp⟩, n56, N5, N6, hp, n6q, HQ2, Bb, n5, n6⟩
    · skip
      refine new_fr rfl fun g6' V' z N6 b => ?_
      have n6 := Nat.le_trans Bb.size z
      replace Bb := below_step Bb b
      replace L0 := L0.later b
      replace C0 := C0.later b
      try replace SY := SY.later b
      have n6q : True := trivial
      try (replace n6q := fun q hb => Nat.ne_of_lt (Nat.lt_of_lt_of_le (vblock_lt hp (q := q) hb) z); replace hp := hp.later b)
      try (have n56 := Nat.ne_of_gt (Nat.lt_of_lt_of_le (lt_of_at N5.at_) z); replace N5 := N5.later b)
      clear b z
      generalize V' = V at *
      refine hK.out _ _ ⟨L0, C0⟩ (fun _ => ?_)
      clear hK K
      try simp only [zA, zS, zZ, Act.put, zP, zQ, zR]
      refine Node.on 6 rfl (fun K hK => ?_)
      refine Node.wp_fn 12 [.tmp 20, .tmp 21, .tmp 25] _ [lkv (s, q, e), .int .u8 kd, .slice Ay y.length cy] (by rfl) (by rfl) (enters Tryd.func12 (by kernel_rfl) rfl) (r29Hear_v (s, q, e) kd (.slice Ay y.length cy) y V _ HR.out SY LY0.out) ?_
      rintro e' V' ⟨A3, c3, rfl, b, hp, hq⟩
      refine ⟨_, rfl, ?_⟩
      have HQ2 := fun q hb => Nat.le_trans Bb.size (hq q hb)
      try replace n6q := fun q hb => Ne.symm (Nat.ne_of_lt (Nat.lt_of_lt_of_le (lt_of_at N6) (hq q hb)))
      replace Bb := below_step Bb b
      replace L0 := L0.later b
      replace C0 := C0.later b
      try replace N5 := N5.later b
      try replace N6 := below_at b N6 (lt_of_at N6)
      clear b hq SY
      generalize V' = V at *
      refine hK.out _ _ ⟨L0, C0⟩ (fun _ => ?_)
      clear hK K
      try simp only [zA, zS, zZ, Act.put, zP, zQ, zR]
      refine Node.tk 7 ?_ rfl ?_ ?_
      rotate_left
      · intro w hSw; (try dsimp only at hSw); go_simp; try with_reducible rfl
      simp only [zA, zS, zZ, Act.put, zP, zQ, zR]
      refine Node.tk 8 ?_ rfl ?_ ?_
      rotate_left
      · intro w hSw; (try dsimp only at hSw); go_simp; try with_reducible rfl
      simp only [zA, zS, zZ, Act.put, zP, zQ, zR]
      refine Node.tk 9 ?_ rfl ?_ ?_
      rotate_left
      · intro w hSw; (try dsimp only at hSw); go_simp; try with_reducible rfl
      simp only [zA, zS, zZ, Act.put, zP, zQ, zR]
      refine Node.tk 10 ?_ rfl ?_ ?_
      rotate_left
      · intro w hSw; (try dsimp only at hSw); go_simp; try with_reducible rfl
      simp only [zA, zS, zZ, Act.put, zP, zQ, zR]
      exact kT _ _ ⟨L0, C0⟩ ⟨u5, g6', A3, c3, ⟨rfl, rfl, by simp⟩, n56, N5, N6, hp, n6q, HQ2, Bb, n5, n6⟩
  · skip
    refine new_fr rfl fun g6' V' z N6 b => ?_
    have n6 := Nat.le_trans Bb.size z
    replace Bb := below_step Bb b
    replace L0 := L0.later b
    replace C0 := C0.later b
    try replace SY := SY.later b
    have n6q : True := trivial
    try (replace n6q := fun q hb => Nat.ne_of_lt (Nat.lt_of_lt_of_le (vblock_lt hp (q := q) hb) z); replace hp := hp.later b)
    try (have n56 := Nat.ne_of_gt (Nat.lt_of_lt_of_le (lt_of_at N5.at_) z); replace N5 := N5.later b)
    clear b z
    generalize V' = V at *
    refine hK.out _ _ ⟨L0, C0⟩ (fun _ => ?_)
    clear hK K
    try simp only [zA, zS, zZ, Act.put, zP, zQ, zR]
    refine wpAnyH_ready (rs := [6, 11]) (by kernel_rfl) (by simp) ?_
    refine AllReadyH.cons rfl (fun K hK => ?_) (AllReadyH.cons rfl (fun K hK => ?_) AllReadyH.nil)
    · skip
      refine Node.wp_fn 12 [.tmp 20, .tmp 21, .tmp 25] _ [lkv (s, q, e), .int .u8 kd, .slice Ay y.length cy] (by rfl) (by rfl) (enters Tryd.func12 (by kernel_rfl) rfl) (r29Hear_v (s, q, e) kd (.slice Ay y.length cy) y V _ HR.out SY LY0.out) ?_
      rintro e' V' ⟨A3, c3, rfl, b, hp, hq⟩
      refine ⟨_, rfl, ?_⟩
      have HQ2 := fun q hb => Nat.le_trans Bb.size (hq q hb)
      try replace n6q := fun q hb => Ne.symm (Nat.ne_of_lt (Nat.lt_of_lt_of_le (lt_of_at N6) (hq q hb)))
      replace Bb := below_step Bb b
      replace L0 := L0.later b
      replace C0 := C0.later b
      try replace N5 := N5.later b
      try replace N6 := below_at b N6 (lt_of_at N6)
      clear b hq SY
      generalize V' = V at *
      refine hK.out _ _ ⟨L0, C0⟩ (fun _ => ?_)
      clear hK K
      try simp only [zA, zS, zZ, Act.put, zP, zQ, zR]
      refine Node.tk 7 ?_ rfl ?_ ?_
      rotate_left
      · intro w hSw; (try dsimp only at hSw); go_simp; try with_reducible rfl
      simp only [zA, zS, zZ, Act.put, zP, zQ, zR]
      refine Node.tk 8 ?_ rfl ?_ ?_
      rotate_left
      · intro w hSw; (try dsimp only at hSw); go_simp; try with_reducible rfl
      simp only [zA, zS, zZ, Act.put, zP, zQ, zR]
      refine Node.tk 9 ?_ rfl ?_ ?_
      rotate_left
      · intro w hSw; (try dsimp only at hSw); go_simp; try with_reducible rfl
      simp only [zA, zS, zZ, Act.put, zP, zQ, zR]
      refine Node.tk 10 ?_ rfl ?_ ?_
      rotate_left
      · intro w hSw; (try dsimp only at hSw); go_simp; try with_reducible rfl
      simp only [zA, zS, zZ, Act.put, zP, zQ, zR]
      refine Node.on 11 rfl (fun K hK => ?_)
      refine new_lk rfl fun u5 V' z N5 b => ?_
      have n5 := Nat.le_trans Bb.size z
      replace Bb := below_step Bb b
      replace L0 := L0.later b
      replace C0 := C0.later b
      try replace SY := SY.later b
      try replace hp := hp.later b
      try (have n56 := Nat.ne_of_lt (Nat.lt_of_lt_of_le (lt_of_at N6) z); replace N6 := below_at b N6 (lt_of_at N6))
      clear b z
      generalize V' = V at *
      refine hK.out _ _ ⟨L0, C0⟩ (fun _ => ?_)
      clear hK K
      try simp only [zA, zS, zZ, Act.put, zP, zQ, zR]
      exact kT _ _ ⟨L0, C0⟩ ⟨u5, g6', A3, c3, ⟨rfl, rfl, by simp⟩, n56, N5, N6, hp, n6q, HQ2, Bb, n5, n6⟩
    · skip
      refine new_lk rfl fun u5 V' z N5 b => ?_
      have n5 := Nat.le_trans Bb.size z
      replace Bb := below_step Bb b
      replace L0 := L0.later b
      replace C0 := C0.later b
      try replace SY := SY.later b
      try replace hp := hp.later b
      try (have n56 := Nat.ne_of_lt (Nat.lt_of_lt_of_le (lt_of_at N6) z); replace N6 := below_at b N6 (lt_of_at N6))
      clear b z
      generalize V' = V at *
      refine hK.out _ _ ⟨L0, C0⟩ (fun _ => ?_)
      clear hK K
      try simp only [zA, zS, zZ, Act.put, zP, zQ, zR]
      refine Node.on 6 rfl (fun K hK => ?_)
      refine Node.wp_fn 12 [.tmp 20, .tmp 21, .tmp 25] _ [lkv (s, q, e), .int .u8 kd, .slice Ay y.length cy] (by rfl) (by rfl) (enters Tryd.func12 (by kernel_rfl) rfl) (r29Hear_v (s, q, e) kd (.slice Ay y.length cy) y V _ HR.out SY LY0.out) ?_
      rintro e' V' ⟨A3, c3, rfl, b, hp, hq⟩
      refine ⟨_, rfl, ?_⟩
      have HQ2 := fun q hb => Nat.le_trans Bb.size (hq q hb)
      try replace n6q := fun q hb => Ne.symm (Nat.ne_of_lt (Nat.lt_of_lt_of_le (lt_of_at N6) (hq q hb)))
      replace Bb := below_step Bb b
      replace L0 := L0.later b
      replace C0 := C0.later b
      try replace N5 := N5.later b
      try replace N6 := below_at b N6 (lt_of_at N6)
      clear b hq SY
      generalize V' = V at *
      refine hK.out _ _ ⟨L0, C0⟩ (fun _ => ?_)
      clear hK K
      try simp only [zA, zS, zZ, Act.put, zP, zQ, zR]
      refine Node.tk 7 ?_ rfl ?_ ?_
      rotate_left
      · intro w hSw; (try dsimp only at hSw); go_simp; try with_reducible rfl
      simp only [zA, zS, zZ, Act.put, zP, zQ, zR]
      refine Node.tk 8 ?_ rfl ?_ ?_
      rotate_left
      · intro w hSw; (try dsimp only at hSw); go_simp; try with_reducible rfl
      simp only [zA, zS, zZ, Act.put, zP, zQ, zR]
      refine Node.tk 9 ?_ rfl ?_ ?_
      rotate_left
      · intro w hSw; (try dsimp only at hSw); go_simp; try with_reducible rfl
      simp only [zA, zS, zZ, Act.put, zP, zQ, zR]
      refine Node.tk 10 ?_ rfl ?_ ?_
      rotate_left
      · intro w hSw; (try dsimp only at hSw); go_simp; try with_reducible rfl
      simp only [zA, zS, zZ, Act.put, zP, zQ, zR]
      exact kT _ _ ⟨L0, C0⟩ ⟨u5, g6', A3, c3, ⟨rfl, rfl, by simp⟩, n56, N5, N6, hp, n6q, HQ2, Bb, n5, n6⟩

theorem la7R (a : Act) (Af : Option Addr) (cf n : Nat) (kd : Int) (g3 g6 : Nat) (rv : Value) (ga gb i : Nat) (er : Int) (t : Bool) (ht : t = (er == 0)) (hS : Sl a 39 [(1, .int .u8 kd), (2, .slice Af n cf), (3, .pointer (some ⟨g3, 0, none⟩)), (6, .pointer (some ⟨g6, 0, none⟩)), (8, rv), (9, .int .i64 (i : Nat)), (10, .pointer (some ⟨ga, 0, none⟩)), (11, .pointer (some ⟨gb, 0, none⟩)), (12, .int .i64 er)]) (w : World) : rR7.wp Tryd.prog (nrm fun a' w' => Sl a' 39 [(1, .int .u8 kd), (2, .slice Af n cf), (3, .pointer (some ⟨g3, 0, none⟩)), (6, .pointer (some ⟨g6, 0, none⟩)), (8, rv), (9, .int .i64 (i : Nat)), (10, .pointer (some ⟨ga, 0, none⟩)), (11, .pointer (some ⟨gb, 0, none⟩)), (12, .int .i64 er), (32, .bool t)] ∧ w' = w) a w := by
  obtain ⟨j, rfl, hj⟩ := hS.lit39
  have h1 : j 1 = .int .u8 kd := hj (1, _) (by simp)
  have h2 : j 2 = .slice Af n cf := hj (2, _) (by simp)
  have h3 : j 3 = .pointer (some ⟨g3, 0, none⟩) := hj (3, _) (by simp)
  have h6 : j 6 = .pointer (some ⟨g6, 0, none⟩) := hj (6, _) (by simp)
  have h8 : j 8 = rv := hj (8, _) (by simp)
  have h9 : j 9 = .int .i64 (i : Nat) := hj (9, _) (by simp)
  have h10 : j 10 = .pointer (some ⟨ga, 0, none⟩) := hj (10, _) (by simp)
  have h11 : j 11 = .pointer (some ⟨gb, 0, none⟩) := hj (11, _) (by simp)
  have h12 : j 12 = .int .i64 er := hj (12, _) (by simp)
  clear hj hS
  unfold rR7 cR loopR rgR bodyR
  simp only [Tryd.f15, Option.getD_some, nthSeq, cfst, csnd, cyes, copsOf, lit39, List.cons_append, List.nil_append, h1, h2, h3, h6, h8, h9, h10, h11, h12]
  subst ht
  go_wp2
  exact ⟨⟨rfl, rfl, by simp⟩, rfl⟩
end Go.Proofs.YtlanlkpamnoekaaDoor
namespace Go.Proofs.YtlanlkpamnoekaaDoor
open Go Go.RowKit Rf Mem Bv Crc Str Lk Bits Bt
set_option maxRecDepth 100000
attribute [local go_sem ↓] run_max2 run_min2
/-- Block g holds four words. -/
structure AVar (W : World) (g : Nat) (a b c d : U32) : Prop where
  at_ : W.heap[g]? = some (.cells (inc a b c d) 84 (0, 0))
theorem AVar.later {W W' : World} {g : Nat} {a b c d : U32} (h : AVar W g a b c d) (hb : Below W.heap.size W W') : AVar W' g a b c d := ⟨below_at hb h.at_ (lt_of_at h.at_)⟩
theorem AVar.cell {W : World} {g : Nat} {a b c d : U32} (h : AVar W g a b c d) (i : Nat) (z : U32) (hz : [a, b, c, d][i]? = some z) : W.cell? ⟨g, i, none⟩ = some (.int .u32 (z.toNat : Int)) := by
  rw [cell_at h.at_]
  match i, hz with
  | 0, h => cases h; rfl
  | 1, h => cases h; rfl
  | 2, h => cases h; rfl
  | 3, h => cases h; rfl
theorem AVar.set {W : World} {g : Nat} {P : List (BitVec 8)} {i : Nat} (h : AVar W g (upto P i 0) (upto P i 1) (upto P i 2) (upto P i 3)) (hi : i < 4) : AVar (W.setCell ⟨g, i, none⟩ (.int .u32 ((fld P i).toNat : Int))) g (upto P (i + 1) 0) (upto P (i + 1) 1) (upto P (i + 1) 2) (upto P (i + 1) 3) := by
  refine ⟨?_⟩
  have := set_at h.at_ i (.int .u32 ((fld P i).toNat : Int))
  rw [this]
  match i, hi with
  | 0, _ => simp [upto]
  | 1, _ => simp [upto]
  | 2, _ => simp [upto]
  | 3, _ => simp [upto]
theorem holds_all (B : List (BitVec 8)) : Holds B (bitsOf B) := ⟨by rw [bitsOf_length]; omega, 0, by simp⟩
noncomputable def bodyV : Code := Tryd.f17.body.getD .skip
noncomputable def rgV (k : Nat) : Code := nthSeq k bodyV

noncomputable def rV1 : Code := cfst (rgV 1)
noncomputable def rV2 : Code := cfst (cyes (csnd (rgV 1)))
noncomputable def rV5 : Code := cfst (rgV 4)
noncomputable def loopV : Code := match rgV 4 with | .seq _ (.block _ (.loop c)) => c | _ => .skip
noncomputable def rV6 : Code := cfst (cfst loopV)
noncomputable def cV : Code := match loopV with | .seq _ (.seq (.block _ c) _) => c | _ => .skip
noncomputable def rV7 : Code := csnd (csnd loopV)
noncomputable def rV8 : Code := cfst cV
noncomputable def rV9 : Code := csnd cV
theorem bodyV_eq : bodyV = .seq (rgV 0) (.seq (rgV 1) (.seq (rgV 2) (.seq (rgV 3) (.seq (rgV 4) (.seq (rgV 5) .ret))))) := rfl
theorem rgV1_eq : rgV 1 = .seq rV1 (.cond (.tmp 11) (.seq rV2 .ret) .skip) := rfl
theorem rgV4_eq : rgV 4 = .seq rV5 (.block 0 (.loop loopV)) := rfl
theorem loopV_eq : loopV = .seq (.seq rV6 (.cond (.tmp 16) .skip (.exit 0))) (.seq (.block 1 cV) rV7) := rfl
theorem cV_eq : cV = .seq rV8 rV9 := rfl
theorem lv0 (q : Act) (Ay : Option Addr) (cy n : Nat) (hS : Sl q 39 [(0, .slice Ay n cy)]) (w : World) : (rgV 0).wp Tryd.prog (nrm fun a' w' => ∃ g2, Sl a' 39 [(0, .slice Ay n cy), (2, .pointer (some ⟨g2, 0, none⟩)), (3, .int .i64 0)] ∧ IVar w' g2 0 0 0 0 ∧ w.heap.size ≤ g2 ∧ Below w.heap.size w w') q w := by
  obtain ⟨j, rfl, hj⟩ := hS.lit39
  have h0 : j 0 = .slice Ay n cy := hj (0, _) (by simp)
  clear hj hS
  unfold rgV bodyV
  simp only [Tryd.f17, Option.getD_some, nthSeq, cfst, csnd, cyes, copsOf, lit39, List.cons_append, List.nil_append, h0]
  have b1 := below_new w (.cells #[.int .u32 0, .int .u32 0, .int .u32 0, .int .u32 0] 35)
  have Y1 : IVar (w.alloc (.cells #[.int .u32 0, .int .u32 0, .int .u32 0, .int .u32 0] 35)) w.heap.size 0 0 0 0 := ⟨new_at rfl _⟩
  go_wp2
  exact ⟨_, ⟨rfl, rfl, by simp⟩, Y1, Nat.le_refl _, b1⟩
theorem lv1 (q : Act) (Ay : Option Addr) (cy n : Nat) (g2 : Nat) (t : Bool) (ht : t = ((n : Int) != 16)) (hS : Sl q 39 [(0, .slice Ay n cy), (2, .pointer (some ⟨g2, 0, none⟩)), (3, .int .i64 0)]) (w : World) : rV1.wp Tryd.prog (nrm fun a' w' => Sl a' 39 [(0, .slice Ay n cy), (2, .pointer (some ⟨g2, 0, none⟩)), (3, .int .i64 0), (11, .bool t)] ∧ w' = w) q w := by
  obtain ⟨j, rfl, hj⟩ := hS.lit39
  have h0 : j 0 = .slice Ay n cy := hj (0, _) (by simp)
  have h2 : j 2 = .pointer (some ⟨g2, 0, none⟩) := hj (2, _) (by simp)
  have h3 : j 3 = .int .i64 0 := hj (3, _) (by simp)
  clear hj hS
  unfold rV1 rgV bodyV
  simp only [Tryd.f17, Option.getD_some, nthSeq, cfst, csnd, cyes, copsOf, lit39, List.cons_append, List.nil_append, h0, h2, h3]
  subst ht
  go_wp2
  exact ⟨⟨rfl, rfl, by simp⟩, rfl⟩
theorem lv2 (q : Act) (Ay : Option Addr) (cy n : Nat) (g2 B0 : Nat) (w0 : World) (hB : B0 ≤ g2) (hS : Sl q 39 [(0, .slice Ay n cy), (2, .pointer (some ⟨g2, 0, none⟩)), (3, .int .i64 0)]) (w : World) (b0 : Below B0 w0 w) (I : IVar w g2 0 0 0 0) : rV2.wp Tryd.prog (nrm fun a' w' => Sl a' 39 [(2, .pointer (some ⟨g2, 0, none⟩)), (3, .int .i64 41)] ∧ IVar w' g2 0 0 0 0 ∧ Below B0 w0 w') q w := by
  obtain ⟨j, rfl, hj⟩ := hS.lit39
  have h0 : j 0 = .slice Ay n cy := hj (0, _) (by simp)
  have h2 : j 2 = .pointer (some ⟨g2, 0, none⟩) := hj (2, _) (by simp)
  have h3 : j 3 = .int .i64 0 := hj (3, _) (by simp)
  clear hj hS
  unfold rV2 rgV bodyV
  simp only [Tryd.f17, Option.getD_some, nthSeq, cfst, csnd, cyes, copsOf, lit39, List.cons_append, List.nil_append, h0, h2, h3]
  have x0 : w.cell? ⟨g2, 0, none⟩ = some (.int .u32 0) := I.cell 0 _ rfl
  have x1 : w.cell? ⟨g2, 1, none⟩ = some (.int .u32 0) := I.cell 1 _ rfl
  have x2 : w.cell? ⟨g2, 2, none⟩ = some (.int .u32 0) := I.cell 2 _ rfl
  have x3 : w.cell? ⟨g2, 3, none⟩ = some (.int .u32 0) := I.cell 3 _ rfl
  have e0 := free_at I.at_ 0
  have e1 := free_at I.at_ 1
  have e2 := free_at I.at_ 2
  have e3 := free_at I.at_ 3
  have I2 : IVar ((((w.setCell ⟨g2, 0, none⟩ (.int .u32 0)).setCell ⟨g2, 1, none⟩ (.int .u32 0)).setCell ⟨g2, 2, none⟩ (.int .u32 0)).setCell ⟨g2, 3, none⟩ (.int .u32 0)) g2 0 0 0 0 := ⟨by
    rw [set_at (set_at (set_at (set_at I.at_ 0 (.int .u32 0)) 1 (.int .u32 0)) 2 (.int .u32 0)) 3 (.int .u32 0)]
    rfl⟩
  have B2 := (((b0.setCell (p := ⟨g2, 0, none⟩) hB (.int .u32 0)).setCell (p := ⟨g2, 1, none⟩) hB (.int .u32 0)).setCell (p := ⟨g2, 2, none⟩) hB (.int .u32 0)).setCell (p := ⟨g2, 3, none⟩) hB (.int .u32 0)
  clear I b0
  go_wp2
  exact ⟨⟨rfl, rfl, by simp⟩, I2, B2⟩
theorem lv3 (q : Act) (Ay : Option Addr) (cy n : Nat) (g2 : Nat) (Y : List (BitVec 8)) (hy : Y.length = n) (h16 : n = 16) (hS : Sl q 39 [(0, .slice Ay n cy), (2, .pointer (some ⟨g2, 0, none⟩)), (3, .int .i64 0)]) (w : World) (hs : SliceAt w 1 (.slice Ay n cy) n (u8s Y)) : (rgV 2).wp Tryd.prog (nrm fun a' w' => ∃ g4 A c, Sl a' 39 [(0, .slice Ay n cy), (2, .pointer (some ⟨g2, 0, none⟩)), (3, .int .i64 0), (4, .pointer (some ⟨g4, 0, none⟩))] ∧ BVar w' g4 (.slice A Y.length c) 128 ∧ SliceAt w' 1 (.slice A Y.length c) Y.length (u8s Y) ∧ w.heap.size ≤ g4 ∧ Below w.heap.size w w') q w := by
  subst hy
  have H16 := Lib.hid h16
  clear h16
  obtain ⟨j, rfl, hj⟩ := hS.lit39
  have h0 : j 0 = .slice Ay Y.length cy := hj (0, _) (by simp)
  have h2 : j 2 = .pointer (some ⟨g2, 0, none⟩) := hj (2, _) (by simp)
  have h3 : j 3 = .int .i64 0 := hj (3, _) (by simp)
  clear hj hS
  unfold rgV bodyV
  simp only [Tryd.f17, Option.getD_some, nthSeq, cfst, csnd, cyes, copsOf, lit39, List.cons_append, List.nil_append, h0, h2, h3]
  go_wp2_with fail
  refine (Bt.refOf_c (.slice Ay Y.length cy) Y 128 w (by rw [H16.out]; rfl) hs (by rw [H16.out]; omega)).mono ?_
  rintro e W ⟨b', A, c, rfl, hs'⟩
  have b1 := below_new W (.cells #[.slice A Y.length c, .int .i64 128] 75)
  have V1 := BVar.new W (.slice A Y.length c) 128
  have S1 := hs'.later b1
  have B := below_step b' b1
  have hsz := Lib.hid b'.size
  clear hs hs' b' b1
  go_wp2
  exact ⟨_, A, c, ⟨rfl, rfl, by simp⟩, V1, S1, hsz.out, B⟩
theorem lv4 (q : Act) (Ay : Option Addr) (cy n : Nat) (g2 g4 : Nat) (hS : Sl q 39 [(0, .slice Ay n cy), (2, .pointer (some ⟨g2, 0, none⟩)), (3, .int .i64 0), (4, .pointer (some ⟨g4, 0, none⟩))]) (w : World) : (rgV 3).wp Tryd.prog (nrm fun a' w' => ∃ g5, Sl a' 39 [(0, .slice Ay n cy), (2, .pointer (some ⟨g2, 0, none⟩)), (3, .int .i64 0), (4, .pointer (some ⟨g4, 0, none⟩)), (5, .pointer (some ⟨g5, 0, none⟩))] ∧ AVar w' g5 0 0 0 0 ∧ w.heap.size ≤ g5 ∧ Below w.heap.size w w') q w := by
  obtain ⟨j, rfl, hj⟩ := hS.lit39
  have h0 : j 0 = .slice Ay n cy := hj (0, _) (by simp)
  have h2 : j 2 = .pointer (some ⟨g2, 0, none⟩) := hj (2, _) (by simp)
  have h3 : j 3 = .int .i64 0 := hj (3, _) (by simp)
  have h4 : j 4 = .pointer (some ⟨g4, 0, none⟩) := hj (4, _) (by simp)
  clear hj hS
  unfold rgV bodyV
  simp only [Tryd.f17, Option.getD_some, nthSeq, cfst, csnd, cyes, copsOf, lit39, List.cons_append, List.nil_append, h0, h2, h3, h4]
  have b1 := below_new w (.cells #[.int .u32 0, .int .u32 0, .int .u32 0, .int .u32 0] 84)
  have Y1 : AVar (w.alloc (.cells #[.int .u32 0, .int .u32 0, .int .u32 0, .int .u32 0] 84)) w.heap.size 0 0 0 0 := ⟨new_at rfl _⟩
  go_wp2
  exact ⟨_, ⟨rfl, rfl, by simp⟩, Y1, Nat.le_refl _, b1⟩
theorem lv5 (q : Act) (Ay : Option Addr) (cy n : Nat) (g2 g4 g5 : Nat) (hS : Sl q 39 [(0, .slice Ay n cy), (2, .pointer (some ⟨g2, 0, none⟩)), (3, .int .i64 0), (4, .pointer (some ⟨g4, 0, none⟩)), (5, .pointer (some ⟨g5, 0, none⟩))]) (w : World) : rV5.wp Tryd.prog (nrm fun a' w' => Sl a' 39 [(0, .slice Ay n cy), (2, .pointer (some ⟨g2, 0, none⟩)), (3, .int .i64 0), (4, .pointer (some ⟨g4, 0, none⟩)), (5, .pointer (some ⟨g5, 0, none⟩)), (6, .int .i64 0)] ∧ w' = w) q w := by
  obtain ⟨j, rfl, hj⟩ := hS.lit39
  have h0 : j 0 = .slice Ay n cy := hj (0, _) (by simp)
  have h2 : j 2 = .pointer (some ⟨g2, 0, none⟩) := hj (2, _) (by simp)
  have h3 : j 3 = .int .i64 0 := hj (3, _) (by simp)
  have h4 : j 4 = .pointer (some ⟨g4, 0, none⟩) := hj (4, _) (by simp)
  have h5 : j 5 = .pointer (some ⟨g5, 0, none⟩) := hj (5, _) (by simp)
  clear hj hS
  unfold rV5 rgV bodyV
  simp only [Tryd.f17, Option.getD_some, nthSeq, cfst, csnd, cyes, copsOf, lit39, List.cons_append, List.nil_append, h0, h2, h3, h4, h5]
  go_wp2
  exact ⟨⟨rfl, rfl, by simp⟩, rfl⟩
theorem lv6 (q : Act) (Ay : Option Addr) (cy n : Nat) (g2 g4 g5 i : Nat) (t : Bool) (ht : t = decide ((i : Int) < 4)) (hS : Sl q 39 [(0, .slice Ay n cy), (2, .pointer (some ⟨g2, 0, none⟩)), (3, .int .i64 0), (4, .pointer (some ⟨g4, 0, none⟩)), (5, .pointer (some ⟨g5, 0, none⟩)), (6, .int .i64 (i : Nat))]) (w : World) : rV6.wp Tryd.prog (nrm fun a' w' => Sl a' 39 [(0, .slice Ay n cy), (2, .pointer (some ⟨g2, 0, none⟩)), (3, .int .i64 0), (4, .pointer (some ⟨g4, 0, none⟩)), (5, .pointer (some ⟨g5, 0, none⟩)), (6, .int .i64 (i : Nat)), (16, .bool t)] ∧ w' = w) q w := by
  obtain ⟨j, rfl, hj⟩ := hS.lit39
  have h0 : j 0 = .slice Ay n cy := hj (0, _) (by simp)
  have h2 : j 2 = .pointer (some ⟨g2, 0, none⟩) := hj (2, _) (by simp)
  have h3 : j 3 = .int .i64 0 := hj (3, _) (by simp)
  have h4 : j 4 = .pointer (some ⟨g4, 0, none⟩) := hj (4, _) (by simp)
  have h5 : j 5 = .pointer (some ⟨g5, 0, none⟩) := hj (5, _) (by simp)
  have h6 : j 6 = .int .i64 (i : Nat) := hj (6, _) (by simp)
  clear hj hS
  unfold rV6 loopV rgV bodyV
  simp only [Tryd.f17, Option.getD_some, nthSeq, cfst, csnd, cyes, copsOf, lit39, List.cons_append, List.nil_append, h0, h2, h3, h4, h5, h6]
  subst ht
  go_wp2
  exact ⟨⟨rfl, rfl, by simp⟩, rfl⟩
theorem lv7 (q : Act) (Ay : Option Addr) (cy n : Nat) (g2 g4 g5 i : Nat) (hi : i < 4) (hS : Sl q 39 [(0, .slice Ay n cy), (2, .pointer (some ⟨g2, 0, none⟩)), (3, .int .i64 0), (4, .pointer (some ⟨g4, 0, none⟩)), (5, .pointer (some ⟨g5, 0, none⟩)), (6, .int .i64 (i : Nat))]) (w : World) : rV7.wp Tryd.prog (nrm fun a' w' => Sl a' 39 [(0, .slice Ay n cy), (2, .pointer (some ⟨g2, 0, none⟩)), (3, .int .i64 0), (4, .pointer (some ⟨g4, 0, none⟩)), (5, .pointer (some ⟨g5, 0, none⟩)), (6, .int .i64 ((i + 1) : Nat))] ∧ w' = w) q w := by
  obtain ⟨j, rfl, hj⟩ := hS.lit39
  have h0 : j 0 = .slice Ay n cy := hj (0, _) (by simp)
  have h2 : j 2 = .pointer (some ⟨g2, 0, none⟩) := hj (2, _) (by simp)
  have h3 : j 3 = .int .i64 0 := hj (3, _) (by simp)
  have h4 : j 4 = .pointer (some ⟨g4, 0, none⟩) := hj (4, _) (by simp)
  have h5 : j 5 = .pointer (some ⟨g5, 0, none⟩) := hj (5, _) (by simp)
  have h6 : j 6 = .int .i64 (i : Nat) := hj (6, _) (by simp)
  clear hj hS
  unfold rV7 loopV rgV bodyV
  simp only [Tryd.f17, Option.getD_some, nthSeq, cfst, csnd, cyes, copsOf, lit39, List.cons_append, List.nil_append, h0, h2, h3, h4, h5, h6]
  go_wp2
  exact ⟨⟨rfl, rfl, by simp [IntWalk.i64_in _ (show -9223372036854775808 ≤ (i : Int) + 1 ∧ (i : Int) + 1 ≤ 9223372036854775807 by omega)]⟩, rfl⟩
theorem lv8 (q : Act) (Ay : Option Addr) (cy n : Nat) (g2 g4 g5 i : Nat) (hi : i < 4) (Y : List (BitVec 8)) (h16 : Y.length = 16) (A : Option Addr) (c : Nat) (hS : Sl q 39 [(0, .slice Ay n cy), (2, .pointer (some ⟨g2, 0, none⟩)), (3, .int .i64 0), (4, .pointer (some ⟨g4, 0, none⟩)), (5, .pointer (some ⟨g5, 0, none⟩)), (6, .int .i64 (i : Nat))]) (w : World) (V0 : BVar w g4 (.slice A Y.length c) 128) (hs : SliceAt w 1 (.slice A Y.length c) Y.length (u8s Y)) : rV8.wp Tryd.prog (nrm fun a' w' => Sl a' 39 [(0, .slice Ay n cy), (2, .pointer (some ⟨g2, 0, none⟩)), (3, .int .i64 0), (4, .pointer (some ⟨g4, 0, none⟩)), (5, .pointer (some ⟨g5, 0, none⟩)), (6, .int .i64 (i : Nat)), (7, .int .i64 ((fld Y i).toNat : Int))] ∧ Below w.heap.size w w') q w := by
  have h0 : w.cell? ⟨g4, 0, none⟩ = some (.slice A Y.length c) := cell_at V0.at_ 0
  have hb1 : w.cell? ⟨g4, 1, none⟩ = some (.int .i64 128) := cell_at V0.at_ 1
  have hl : (bitsOf Y).length = 128 := by rw [bitsOf_length, h16]
  have hlt := num_lt (((bitsOf Y).drop (32 * i)).take 32)
  have hl2 : (((bitsOf Y).drop (32 * i)).take 32).length = 32 := by rw [List.length_take, List.length_drop, hl]; omega
  rw [hl2] at hlt
  have hf := fld_lt Y i hlt
  have hH := holds_all Y
  have HF := Lib.hid hf
  have HL := Lib.hid hl
  have HHo := Lib.hid hH
  have hw : wrap64 (32 * (i : Int)) = 32 * (i : Int) := by unfold wrap64; omega
  have hw2 : IntKind.i64.wrap (32 * (i : Int)) = 32 * (i : Int) := IntWalk.i64_in _ (by omega)
  obtain ⟨fv', hfv⟩ : ∃ fv' : Int, ((fld Y i).toNat : Int) = fv' := ⟨_, rfl⟩
  have HFV := Lib.hid hfv
  rw [hfv]
  clear hf hl hl2 hlt hH V0 h16 hfv
  obtain ⟨j, rfl, hj⟩ := hS.lit39
  have h0 : j 0 = .slice Ay n cy := hj (0, _) (by simp)
  have h2 : j 2 = .pointer (some ⟨g2, 0, none⟩) := hj (2, _) (by simp)
  have h3 : j 3 = .int .i64 0 := hj (3, _) (by simp)
  have h4 : j 4 = .pointer (some ⟨g4, 0, none⟩) := hj (4, _) (by simp)
  have h5 : j 5 = .pointer (some ⟨g5, 0, none⟩) := hj (5, _) (by simp)
  have h6 : j 6 = .int .i64 (i : Nat) := hj (6, _) (by simp)
  clear hj hS
  unfold rV8 cV loopV rgV bodyV
  simp only [Tryd.f17, Option.getD_some, nthSeq, cfst, csnd, cyes, copsOf, lit39, List.cons_append, List.nil_append, h0, h2, h3, h4, h5, h6]
  go_wp2_with fail
  refine (Bt.refTake_g (.slice A Y.length c) Y (bitsOf Y) (32 * i) 32 128 (32 * (i : Int)) 32 fv' w (by rw [HL.out]; rfl) (by omega) rfl (by rw [← HFV.out, HF.out]) hs HHo.out (by rw [HL.out]; omega) (by omega) (by rw [HL.out]; omega)).mono ?_
  rintro e W ⟨b', rfl⟩
  go_wp2
  exact ⟨⟨rfl, rfl, by simp⟩, b'⟩
theorem lv9 (q : Act) (Ay : Option Addr) (cy n : Nat) (g2 g4 g5 i B0 : Nat) (w0 : World) (hB : B0 ≤ g5) (hi : i < 4) (Y : List (BitVec 8)) (hS : Sl q 39 [(0, .slice Ay n cy), (2, .pointer (some ⟨g2, 0, none⟩)), (3, .int .i64 0), (4, .pointer (some ⟨g4, 0, none⟩)), (5, .pointer (some ⟨g5, 0, none⟩)), (6, .int .i64 (i : Nat)), (7, .int .i64 ((fld Y i).toNat : Int))]) (w : World) (b0 : Below B0 w0 w) (V0 : AVar w g5 (upto Y i 0) (upto Y i 1) (upto Y i 2) (upto Y i 3)) : rV9.wp Tryd.prog (nrm fun a' w' => Sl a' 39 [(0, .slice Ay n cy), (2, .pointer (some ⟨g2, 0, none⟩)), (3, .int .i64 0), (4, .pointer (some ⟨g4, 0, none⟩)), (5, .pointer (some ⟨g5, 0, none⟩)), (6, .int .i64 (i : Nat))] ∧ AVar w' g5 (upto Y (i + 1) 0) (upto Y (i + 1) 1) (upto Y (i + 1) 2) (upto Y (i + 1) 3) ∧ Below B0 w0 w' ∧ w' = w.setCell ⟨g5, i, none⟩ (.int .u32 ((fld Y i).toNat : Int))) q w := by
  have hz := (fld Y i).isLt
  have V1 := V0.set hi
  have B1 := b0.setCell (p := ⟨g5, i, none⟩) hB (.int .u32 ((fld Y i).toNat : Int))
  have e0 := free_at V0.at_ i
  obtain ⟨z, hz1⟩ : ∃ z, [upto Y i 0, upto Y i 1, upto Y i 2, upto Y i 3][i]? = some z := ⟨_, List.getElem?_eq_getElem (by simpa using hi)⟩
  have x0 := V0.cell i z hz1
  obtain ⟨fv', hfv⟩ : ∃ fv' : Int, ((fld Y i).toNat : Int) = fv' := ⟨_, rfl⟩
  have hwu : IntKind.u32.wrap fv' = fv' := by simp [IntKind.wrap, IntKind.signed, IntKind.bits]; omega
  have i1 : (0 : Int) ≤ (i : Int) ∧ (i : Int) < 4 := by omega
  rw [hfv] at V1 B1 hS ⊢
  clear hz V0 b0 hfv hz1
  obtain ⟨j, rfl, hj⟩ := hS.lit39
  have h0 : j 0 = .slice Ay n cy := hj (0, _) (by simp)
  have h2 : j 2 = .pointer (some ⟨g2, 0, none⟩) := hj (2, _) (by simp)
  have h3 : j 3 = .int .i64 0 := hj (3, _) (by simp)
  have h4 : j 4 = .pointer (some ⟨g4, 0, none⟩) := hj (4, _) (by simp)
  have h5 : j 5 = .pointer (some ⟨g5, 0, none⟩) := hj (5, _) (by simp)
  have h6 : j 6 = .int .i64 (i : Nat) := hj (6, _) (by simp)
  have h7 : j 7 = .int .i64 fv' := hj (7, _) (by simp)
  clear hj hS
  unfold rV9 cV loopV rgV bodyV
  simp only [Tryd.f17, Option.getD_some, nthSeq, cfst, csnd, cyes, copsOf, lit39, List.cons_append, List.nil_append, h0, h2, h3, h4, h5, h6, h7]
  go_wp2
  exact ⟨⟨rfl, rfl, by simp⟩, V1, B1, rfl⟩
end Go.Proofs.YtlanlkpamnoekaaDoor
namespace Go.Proofs.YtlanlkpamnoekaaDoor
open Go Go.RowKit Rf Mem Bv Crc Str Lk Bits Bt
set_option maxRecDepth 100000
attribute [local go_sem ↓] run_max2 run_min2
theorem lv10 (q : Act) (Ay : Option Addr) (cy n : Nat) (g2 g4 g5 B0 : Nat) (w0 : World) (hB : B0 ≤ g2) (a b c d : U32) (hS : Sl q 39 [(0, .slice Ay n cy), (2, .pointer (some ⟨g2, 0, none⟩)), (3, .int .i64 0), (4, .pointer (some ⟨g4, 0, none⟩)), (5, .pointer (some ⟨g5, 0, none⟩)), (6, .int .i64 (4 : Nat))]) (w : World) (b0 : Below B0 w0 w) (I : IVar w g2 0 0 0 0) (J : AVar w g5 a b c d) : (rgV 5).wp Tryd.prog (nrm fun a' w' => Sl a' 39 [(2, .pointer (some ⟨g2, 0, none⟩)), (3, .int .i64 0)] ∧ IVar w' g2 a b c d ∧ Below B0 w0 w') q w := by
  have x0 : w.cell? ⟨g2, 0, none⟩ = some (.int .u32 0) := I.cell 0 _ rfl
  have x1 : w.cell? ⟨g2, 1, none⟩ = some (.int .u32 0) := I.cell 1 _ rfl
  have x2 : w.cell? ⟨g2, 2, none⟩ = some (.int .u32 0) := I.cell 2 _ rfl
  have x3 : w.cell? ⟨g2, 3, none⟩ = some (.int .u32 0) := I.cell 3 _ rfl
  have y0 := J.cell 0 _ rfl
  have y1 := J.cell 1 _ rfl
  have y2 := J.cell 2 _ rfl
  have y3 := J.cell 3 _ rfl
  have e0 := free_at I.at_ 0
  have e1 := free_at I.at_ 1
  have e2 := free_at I.at_ 2
  have e3 := free_at I.at_ 3
  have I2 : IVar ((((w.setCell ⟨g2, 0, none⟩ (.int .u32 (a.toNat : Int))).setCell ⟨g2, 1, none⟩ (.int .u32 (b.toNat : Int))).setCell ⟨g2, 2, none⟩ (.int .u32 (c.toNat : Int))).setCell ⟨g2, 3, none⟩ (.int .u32 (d.toNat : Int))) g2 a b c d := ⟨by
    rw [set_at (set_at (set_at (set_at I.at_ 0 (.int .u32 (a.toNat : Int))) 1 (.int .u32 (b.toNat : Int))) 2 (.int .u32 (c.toNat : Int))) 3 (.int .u32 (d.toNat : Int))]
    rfl⟩
  have B2 := (((b0.setCell (p := ⟨g2, 0, none⟩) hB (.int .u32 (a.toNat : Int))).setCell (p := ⟨g2, 1, none⟩) hB (.int .u32 (b.toNat : Int))).setCell (p := ⟨g2, 2, none⟩) hB (.int .u32 (c.toNat : Int))).setCell (p := ⟨g2, 3, none⟩) hB (.int .u32 (d.toNat : Int))
  clear I J b0
  obtain ⟨j, rfl, hj⟩ := hS.lit39
  have h0 : j 0 = .slice Ay n cy := hj (0, _) (by simp)
  have h2 : j 2 = .pointer (some ⟨g2, 0, none⟩) := hj (2, _) (by simp)
  have h3 : j 3 = .int .i64 0 := hj (3, _) (by simp)
  have h4 : j 4 = .pointer (some ⟨g4, 0, none⟩) := hj (4, _) (by simp)
  have h5 : j 5 = .pointer (some ⟨g5, 0, none⟩) := hj (5, _) (by simp)
  have h6 : j 6 = .int .i64 (4 : Nat) := hj (6, _) (by simp)
  clear hj hS
  unfold rgV bodyV
  simp only [Tryd.f17, Option.getD_some, nthSeq, cfst, csnd, cyes, copsOf, lit39, List.cons_append, List.nil_append, h0, h2, h3, h4, h5, h6]
  go_wp2
  exact ⟨⟨rfl, rfl, by simp⟩, I2, B2⟩
/-- The document's TakeIn. -/
theorem r29TakeIn_c (v : Value) (Y : List (BitVec 8)) (a b c d : U32) (er : Int) (w : World) (hr : takeInV Y = (a, b, c, d, er)) (hs : SliceAt w 1 v Y.length (u8s Y)) (hl : Y.length ≤ 100000) :
    Calls Tryd.prog 17 #[v] w fun e w' => e = .returned (.tuple #[inv a b c d, .int .i64 er]) ∧ Below w.heap.size w w' := by
  obtain ⟨Ay, cy, rfl, _⟩ := hs.form
  refine calls_of_wp (c := bodyV) Tryd.func17 rfl ?_
  rw [Tryd.ntmps17, bodyV_eq]
  refine seq_nrm (lv0 _ Ay cy Y.length ⟨rfl, by simp, by simp⟩ w) fun a0 W0 ⟨g2, t0, i0, n2, b0⟩ => ?_
  refine wp_seq ?_
  rw [rgV1_eq]
  refine seq_nrm (lv1 a0 Ay cy Y.length g2 _ rfl t0 W0) fun a1 W1 ⟨t1, e1⟩ => ?_
  subst e1
  have e11 : a1.tmps[11]? = some (.bool ((Y.length : Int) != 16)) := t1.get (by simp)
  refine wp_cond (t := ((Y.length : Int) != 16)) (by simp [Act.eval, e11]) ?_
  by_cases h16 : Y.length = 16
  · have hne : ((Y.length : Int) != 16) = false := by rw [h16]; rfl
    rw [hne]
    refine wp_skip ?_
    unfold takeInV at hr
    rw [if_pos h16] at hr
    simp only [Prod.mk.injEq] at hr
    obtain ⟨rfl, rfl, rfl, rfl, rfl⟩ := hr
    refine seq_nrm (lv3 a1 Ay cy Y.length g2 Y rfl h16 (t1.sub (by simp)) W1 (hs.later b0)) fun a2 W2 ⟨g4, A, c, t2, v2, s2, n4, b2⟩ => ?_
    have B2 := below_step b0 b2
    refine seq_nrm (lv4 a2 Ay cy Y.length g2 g4 t2 W2) fun a3 W3 ⟨g5, t3, v3, n5, b3⟩ => ?_
    have B3 := below_step B2 b3
    have m2 := lt_of_at i0.at_
    have m4 := lt_of_at v2.at_
    have i3 := (i0.later b2).later b3
    refine wp_seq ?_
    rw [rgV4_eq]
    refine seq_nrm (lv5 a3 Ay cy Y.length g2 g4 g5 t3 W3) fun a4 W4 ⟨t4, e4⟩ => ?_
    subst e4
    refine wp_block ?_
    refine wp_loop (fun a' w' => ∃ i : Nat, i ≤ 4 ∧ Sl a' 39 [(0, .slice Ay Y.length cy), (2, .pointer (some ⟨g2, 0, none⟩)), (3, .int .i64 0), (4, .pointer (some ⟨g4, 0, none⟩)), (5, .pointer (some ⟨g5, 0, none⟩)), (6, .int .i64 (i : Nat))] ∧ AVar w' g5 (upto Y i 0) (upto Y i 1) (upto Y i 2) (upto Y i 3) ∧ Below W2.heap.size W2 w') (fun a' _ => 4 - (intOf (a'.tmps.getD 6 undef)).toNat) ⟨0, by omega, t4.sub (by simp), by simpa [upto] using v3, b3⟩ ?_
    rintro a5 W5 ⟨i, hi, t5, v5, b5⟩
    rw [loopV_eq]
    refine wp_seq ?_
    refine seq_nrm (lv6 a5 Ay cy Y.length g2 g4 g5 i _ rfl t5 W5) fun a6 W6 ⟨t6, e6⟩ => ?_
    subst e6
    have e16 : a6.tmps[16]? = some (.bool (decide ((i : Int) < 4))) := t6.get (by simp)
    refine wp_cond (t := decide ((i : Int) < 4)) (by simp [Act.eval, e16]) ?_
    by_cases hlt : i < 4
    · rw [if_pos (by simp; omega)]
      refine wp_skip ?_
      refine wp_seq (wp_block ?_)
      rw [cV_eq]
      refine seq_nrm (lv8 a6 Ay cy Y.length g2 g4 g5 i hlt Y h16 A c (t6.sub (by simp)) W6 (v2.later b5) (s2.later b5)) fun a7 W7 ⟨t7, b7⟩ => ?_
      refine wp_mono (lv9 a7 Ay cy Y.length g2 g4 g5 i W2.heap.size W2 n5 hlt Y t7 W7 (below_step b5 b7) (v5.later b7)) fun x a8 W8 hx => ?_
      cases x with
      | normal =>
        obtain ⟨t8, v8, b8, _⟩ := hx
        refine wp_mono (lv7 a8 Ay cy Y.length g2 g4 g5 i hlt t8 W8) fun x a9 W9 hx => ?_
        cases x with
        | normal =>
          obtain ⟨t9, rfl⟩ := hx
          refine ⟨⟨i + 1, by omega, t9, v8, b8⟩, ?_⟩
          rw [t9.getD (i := 6) (v := .int .i64 ((i + 1 : Nat) : Int)) (by simp), t5.getD (i := 6) (v := .int .i64 (i : Int)) (by simp)]
          simp [intOf]
          omega
        | _ => exact hx.elim
      | _ => exact hx.elim
    · rw [if_neg (by simp; omega)]
      refine wp_exit ?_
      simp only [Exit.then, Exit.inBlock, if_true]
      obtain rfl : i = 4 := by omega
      have B6 := below_step B2 b5
      refine seq_nrm (lv10 a6 Ay cy Y.length g2 g4 g5 w.heap.size w n2 _ _ _ _ (t6.sub (by simp)) W6 B6 ((i0.later b2).later b5) v5) fun a7 W7 ⟨t7, i7, b7⟩ => ?_
      refine wp_ret ⟨t7.defers, _, res_in (t := 2) (u := 3) rfl (t7.getD (by simp)) i7, ?_, b7⟩
      rw [t7.getD (i := 3) (v := .int .i64 0) (by simp)]
      simp [upto]
  · have hne : ((Y.length : Int) != 16) = true := by simp; omega
    rw [hne]
    unfold takeInV at hr
    rw [if_neg h16] at hr
    simp only [Prod.mk.injEq] at hr
    obtain ⟨rfl, rfl, rfl, rfl, rfl⟩ := hr
    refine seq_nrm (lv2 a1 Ay cy Y.length g2 w.heap.size w n2 (t1.sub (by simp)) W1 b0 i0) fun a2 W2 ⟨t2, i2, b2⟩ => ?_
    refine wp_ret ⟨t2.defers, _, res_in (t := 2) (u := 3) rfl (t2.getD (by simp)) i2, ?_, b2⟩
    rw [t2.getD (i := 3) (v := .int .i64 41) (by simp)]
end Go.Proofs.YtlanlkpamnoekaaDoor
namespace Go.Proofs.YtlanlkpamnoekaaDoor.Lk
open Go Go.RowKit Go.Conc
set_option maxRecDepth 100000

/-- How many have not come up. -/
def left (n : Nat) (listed : Array Bool) : Nat := (List.range n).countP (fun j => !listed.getD j true)

theorem count_lt {p q : Nat → Bool} : ∀ {L : List Nat} {x : Nat}, (∀ y, q y = true → p y = true) → x ∈ L → p x = true → q x = false → L.countP q + 1 ≤ L.countP p
  | y :: L, x, hqp, hx, hp, hq => by
    rcases List.mem_cons.1 hx with rfl | hx
    · rw [List.countP_cons_of_pos hp, List.countP_cons_of_neg (by simp [hq])]
      exact Nat.succ_le_succ (List.countP_mono_left fun y _ hy => hqp y hy)
    · have ih := count_lt hqp hx hp hq
      rw [List.countP_cons, List.countP_cons]
      by_cases h1 : q y = true
      · simp only [h1, hqp y h1, if_true]; omega
      · by_cases h2 : p y = true
        · simp only [h1, h2, if_true]; simp only [Bool.false_eq_true, if_false]; omega
        · simp only [h1, h2, if_false, Bool.false_eq_true]; omega

theorem left_ge {listed : Array Bool} {m : Nat} : ∀ (n : Nat), (∀ j, m ≤ j → j < n → listed.getD j true = false) → n - m ≤ left n listed
  | 0, _ => by simp
  | n + 1, h => by
    have ih := left_ge (listed := listed) (m := m) n fun j h1 h2 => h j h1 (by omega)
    unfold left at *
    rw [List.range_succ, List.countP_append, List.countP_singleton]
    by_cases hm : m ≤ n
    · rw [h n hm (by omega)]; simp only [Bool.not_false, if_true]; omega
    · omega

section
variable {ops : Array Oper} {i0 : Nat}
theorem getD_set {listed : Array Bool} {i j : Nat} (hi : i < listed.size) : (listed.setIfInBounds i true).getD j true = if j = i then true else listed.getD j true := by
  by_cases h : j = i
  · subst h; simp [Array.getD, hi]
  · rw [if_neg h]
    simp only [Array.getD_eq_getD_getElem?]
    rw [Array.getElem?_setIfInBounds_ne (by omega)]
theorem getDf_set {listed : Array Bool} {i j : Nat} (hi : i < listed.size) : (listed.setIfInBounds i true).getD j false = if j = i then true else listed.getD j false := by
  by_cases h : j = i
  · subst h; simp [Array.getD, hi]
  · rw [if_neg h]
    simp only [Array.getD_eq_getD_getElem?]
    rw [Array.getElem?_setIfInBounds_ne (by omega)]
theorem getD_tf {listed : Array Bool} {j : Nat} (h : j < listed.size) : listed.getD j true = listed.getD j false := by
  simp [Array.getD, h]

/-- Edges, by their numbers. -/
def Dep (ops : Array Oper) (j e : Nat) : Prop := ∃ o, ops[j]? = some o ∧ ∃ x ∈ o.after, Region.binds .any x = true ∧ x.on = e

structure Shape (ops : Array Oper) (i0 : Nat) : Prop where
  lt : i0 < ops.size
  back : ∀ j e, Dep ops j e → e < j
  up : ∀ j, j < i0 → ∃ j', j < j' ∧ j' ≤ i0 ∧ Dep ops j' j
  chain : ∀ j, i0 < j → j < ops.size → Dep ops j (j - 1)

theorem ready_mem {listed : Array Bool} {i : Nat} : i ∈ Region.ready .any ops listed ↔ i < ops.size ∧ listed.getD i true = false ∧ ∀ e, Dep ops i e → listed.getD e false = true := by
  unfold Region.ready Dep
  rw [List.mem_filter, List.mem_range]
  constructor
  · rintro ⟨h1, h2⟩
    obtain ⟨o, ho⟩ : ∃ o, ops[i]? = some o := ⟨_, Array.getElem?_eq_getElem h1⟩
    simp only [ho, Option.map_some, Option.getD_some, Bool.and_eq_true, Bool.not_eq_true', Array.all_eq_true_iff_forall_mem, Bool.or_eq_true] at h2
    refine ⟨h1, h2.1, ?_⟩
    rintro e ⟨o', ho', x, hx, hb, rfl⟩
    cases ho.symm.trans ho'
    rcases h2.2 x hx with h | h
    · rw [hb] at h; cases h
    · exact h
  · rintro ⟨h1, h2, h3⟩
    obtain ⟨o, ho⟩ : ∃ o, ops[i]? = some o := ⟨_, Array.getElem?_eq_getElem h1⟩
    refine ⟨h1, ?_⟩
    simp only [ho, Option.map_some, Option.getD_some, Bool.and_eq_true, Bool.not_eq_true', Array.all_eq_true_iff_forall_mem, Bool.or_eq_true]
    refine ⟨h2, fun x hx => ?_⟩
    cases hb : Region.binds .any x with
    | false => exact .inl rfl
    | true => exact .inr (h3 _ ⟨o, ho, x, hx, hb, rfl⟩)

/-- What has come up has what it waits for. -/
def Closed (ops : Array Oper) (listed : Array Bool) : Prop := ∀ j e, j < ops.size → listed.getD j true = true → Dep ops j e → listed.getD e false = true

theorem closed_set {listed : Array Bool} {i : Nat} (hs : listed.size = ops.size) (hc : Closed ops listed) (hi : i ∈ Region.ready .any ops listed) : Closed ops (listed.setIfInBounds i true) := by
  obtain ⟨h1, h2, h3⟩ := ready_mem.1 hi
  intro j e hj hl hd
  rw [getD_set (by omega)] at hl
  rw [getDf_set (by omega)]
  by_cases he : e = i
  · rw [if_pos he]
  rw [if_neg he]
  by_cases h : j = i
  · subst h; exact h3 e hd
  · rw [if_neg h] at hl; exact hc j e hj hl hd

/-- Some may come up while not all have. -/
theorem ready_some (H : Shape ops i0) {listed : Array Bool} (hs : listed.size = ops.size) : ∀ (j : Nat), j < ops.size → listed.getD j true = false → Region.ready .any ops listed ≠ [] := by
  intro j
  induction j using Nat.strongRecOn with
  | _ j ih =>
    intro hj hl
    by_cases h : ∀ e, Dep ops j e → listed.getD e false = true
    · exact List.ne_nil_of_mem (ready_mem.2 ⟨hj, hl, h⟩)
    · simp only [Classical.not_forall] at h
      obtain ⟨e, hd, he⟩ := h
      have hlt := H.back j e hd
      refine ih e hlt (by omega) ?_
      rw [getD_tf (by omega)]
      simpa using he

theorem go_eq (fuel t : Nat) (listed : Array Bool) : Region.linearise.go .any ops (fuel + 1) t listed [] = match (Region.ready .any ops listed)[t % (Region.ready .any ops listed).length]? with
    | some i => i :: Region.linearise.go .any ops fuel (t / (Region.ready .any ops listed).length) (listed.setIfInBounds i true) []
    | none => [] := by
  conv => lhs; unfold Region.linearise.go
  change (match (Region.ready .any ops listed)[t % (Region.ready .any ops listed).length]? with
      | some i => Region.linearise.go .any ops fuel (t / (Region.ready .any ops listed).length) (listed.setIfInBounds i true) [i]
      | none => [].reverse) = _
  split
  · rw [linearise_go_acc, List.reverse_singleton, List.singleton_append]
  · rfl
theorem pick_some {L : List Nat} (h : L ≠ []) (t : Nat) : ∃ i, L[t % L.length]? = some i ∧ i ∈ L := by
  have hl : 0 < L.length := by cases L with | nil => exact absurd rfl h | cons => simp
  refine ⟨L[t % L.length]'(Nat.mod_lt _ hl), List.getElem?_eq_getElem _, List.getElem_mem _⟩

/-- Behind the chain's head: the chain. -/
theorem tail_go (H : Shape ops i0) : ∀ (d m fuel t : Nat) (listed : Array Bool), listed.size = ops.size → i0 < m → m + d = ops.size → d ≤ fuel → (∀ j, j < ops.size → listed.getD j true = decide (j < m)) → Region.linearise.go .any ops fuel t listed [] = List.range' m d := by
  intro d
  induction d with
  | zero =>
    intro m fuel t listed hs hm he hf hl
    have hr : Region.ready .any ops listed = [] := by
      apply List.eq_nil_iff_forall_not_mem.2
      intro i hi
      obtain ⟨h1, h2, _⟩ := ready_mem.1 hi
      rw [hl i h1, decide_eq_true (by omega)] at h2
      cases h2
    cases fuel with
    | zero => simp [Region.linearise.go]
    | succ fuel => rw [go_eq, hr]; simp
  | succ d ih =>
    intro m fuel t listed hs hm he hf hl
    obtain ⟨fuel, rfl⟩ : ∃ f, fuel = f + 1 := ⟨fuel - 1, by omega⟩
    obtain ⟨i, hi, hir⟩ := pick_some (ready_some H hs m (by omega) (by rw [hl m (by omega)]; simp)) t
    obtain ⟨h1, h2, h3⟩ := ready_mem.1 hir
    rw [hl i h1] at h2
    have him : m ≤ i := by simpa using h2
    have : i = m := by
      rcases Nat.lt_or_ge m i with hlt | hge
      · have hd := h3 _ (H.chain i (by omega) h1)
        rw [← getD_tf (by omega), hl (i - 1) (by omega)] at hd
        simp at hd
        omega
      · omega
    subst this
    rw [go_eq, hi]
    simp only
    rw [List.range'_succ]
    congr 1
    refine ih (i + 1) fuel _ _ (by simp [hs]) (by omega) (by omega) (by omega) fun j hj => ?_
    rw [getD_set (by omega), hl j hj]
    by_cases h : j = i
    · rw [if_pos h]; simp; omega
    · rw [if_neg h]; congr 1; simp only [eq_iff_iff]; omega

theorem head_go (H : Shape ops i0) : ∀ (fuel t : Nat) (listed : Array Bool), listed.size = ops.size → left ops.size listed ≤ fuel → Closed ops listed → (∀ j, i0 ≤ j → j < ops.size → listed.getD j true = false) → ∃ l1, Region.linearise.go .any ops fuel t listed [] = l1 ++ List.range' i0 (ops.size - i0) ∧ ∀ j ∈ l1, j < i0 := by
  intro fuel
  induction fuel with
  | zero =>
    intro t listed hs hf hc hn
    have := left_ge (m := i0) ops.size hn
    have := H.lt
    omega
  | succ fuel ih =>
    intro t listed hs hf hc hn
    have hlt := H.lt
    obtain ⟨i, hi, hir⟩ := pick_some (ready_some H hs i0 hlt (hn i0 (Nat.le_refl _) hlt)) t
    obtain ⟨h1, h2, h3⟩ := ready_mem.1 hir
    have hf' : left ops.size (listed.setIfInBounds i true) ≤ fuel := by
      have := count_lt (p := fun j => !listed.getD j true) (q := fun j => !(listed.setIfInBounds i true).getD j true) (L := List.range ops.size) (x := i) (fun y hy => by
        rw [getD_set (by omega)] at hy
        by_cases h : y = i
        · rw [if_pos h] at hy; cases hy
        · rw [if_neg h] at hy; exact hy) (List.mem_range.2 h1) (by simp [h2]) (by rw [getD_set (by omega), if_pos rfl]; rfl)
      unfold left at *
      omega
    rw [go_eq, hi]
    simp only
    rcases Nat.lt_trichotomy i i0 with hlt' | heq | hgt
    · obtain ⟨l1, e1, e2⟩ := ih (t / (Region.ready .any ops listed).length) (listed.setIfInBounds i true) (by simp [hs]) hf' (closed_set hs hc hir) fun j hj1 hj2 => by
        rw [getD_set (by omega), if_neg (by omega)]; exact hn j hj1 hj2
      refine ⟨i :: l1, by rw [e1]; rfl, fun j hj => ?_⟩
      rcases List.mem_cons.1 hj with rfl | hj
      · exact hlt'
      · exact e2 j hj
    · subst heq
      refine ⟨[], ?_, by simp⟩
      have hall : ∀ (d j : Nat), j + d = i → 0 < d → listed.getD j true = true := by
        intro d
        induction d using Nat.strongRecOn with
        | _ d ihd =>
          intro j hj hd
          obtain ⟨j', a1, a2, a3⟩ := H.up j (by omega)
          rcases Nat.lt_or_ge j' i with hl | hl
          · have hj' := ihd (i - j') (by omega) j' (by omega) (by omega)
            rw [getD_tf (by omega)]
            exact hc j' j (by omega) hj' a3
          · obtain rfl : j' = i := by omega
            rw [getD_tf (by omega)]
            exact h3 j a3
      have hd : ops.size - i = (ops.size - (i + 1)) + 1 := by omega
      rw [hd, List.range'_succ, List.nil_append]
      congr 1
      refine tail_go H _ _ _ _ _ (by simp [hs]) (by omega) (by omega) ?_ fun j hj => ?_
      · have := left_ge (m := i + 1) (listed := listed.setIfInBounds i true) ops.size fun j b1 b2 => by
          rw [getD_set (by omega), if_neg (by omega)]; exact hn j (by omega) b2
        omega
      · rw [getD_set (by omega)]
        by_cases h : j = i
        · rw [if_pos h]; simp; omega
        · rw [if_neg h]
          by_cases hji : j < i
          · rw [hall (i - j) j (by omega) (by omega)]; simp; omega
          · rw [hn j (by omega) hj]; simp; omega
    · have := h3 _ (H.chain i hgt h1)
      rw [← getD_tf (by omega), hn (i - 1) (by omega) (by omega)] at this
      cases this

/-- Every order ends in the chain. -/
theorem orders_end (H : Shape ops i0) (t : Nat) : ∃ l1, Region.linearise .any ops t = l1 ++ List.range' i0 (ops.size - i0) ∧ ∀ j ∈ l1, j < i0 := by
  unfold Region.linearise
  refine head_go H _ _ _ (by simp) ?_ (fun j e hj hl _ => ?_) fun j _ hj => by simp [Array.getD, hj]
  · unfold left
    have := List.countP_le_length (l := List.range ops.size) (p := fun j => !(Array.replicate ops.size false).getD j true)
    simpa using this
  · simp [Array.getD, hj] at hl
end
end Go.Proofs.YtlanlkpamnoekaaDoor.Lk
namespace Go.Proofs.YtlanlkpamnoekaaDoor.Lk
open Go Go.RowKit Go.Conc
set_option maxRecDepth 100000

/-- An operation that does nothing in another's place. -/
def hush (o : Oper) : Oper := { o with op := .move (.const (.bool true)), dst := none, guard := none }
/-- A region whose last operations do nothing. -/
def swap (ops : Array Oper) (i0 : Nat) : Array Oper := (ops.toList.take i0 ++ (ops.toList.drop i0).map hush).toArray

section
variable {P : Program} {ops : Array Oper} {i0 : Nat}
theorem swap_lt {j : Nat} (h : j < i0) (hi : i0 < ops.size) : (swap ops i0)[j]? = ops[j]? := by
  unfold swap
  rw [List.getElem?_toArray, List.getElem?_append_left (by simp; omega), List.getElem?_take, if_pos h]
  simp
theorem swap_ge {j : Nat} (h : i0 ≤ j) (hi : i0 < ops.size) : (swap ops i0)[j]? = ops[j]?.map hush := by
  unfold swap
  have hl : (ops.toList.take i0).length = i0 := by simp; omega
  rw [List.getElem?_toArray, List.getElem?_append_right (by omega), hl, List.getElem?_map, List.getElem?_drop]
  rw [show i0 + (j - i0) = j by omega]
  simp
theorem swap_size (hi : i0 < ops.size) : (swap ops i0).size = ops.size := by
  unfold swap; simp; omega
theorem swap_after (hi : i0 < ops.size) (j : Nat) : (swap ops i0)[j]?.map (·.after) = ops[j]?.map (·.after) := by
  rcases Nat.lt_or_ge j i0 with h | h
  · rw [swap_lt h hi]
  · rw [swap_ge h hi]; cases ops[j]? <;> rfl
theorem ready_swap (hi : i0 < ops.size) (listed : Array Bool) : Region.ready .any (swap ops i0) listed = Region.ready .any ops listed := by
  unfold Region.ready
  rw [swap_size hi]
  refine List.filter_congr fun j _ => ?_
  have h := swap_after hi j
  cases h1 : (swap ops i0)[j]? <;> cases h2 : ops[j]? <;> simp_all
theorem go_swap (hi : i0 < ops.size) : ∀ (fuel t : Nat) (listed : Array Bool), Region.linearise.go .any (swap ops i0) fuel t listed [] = Region.linearise.go .any ops fuel t listed []
  | 0, _, _ => rfl
  | fuel + 1, t, listed => by
    rw [go_eq, go_eq, ready_swap hi]
    split
    · rw [go_swap hi fuel]
    · rfl
/-- A normal way out, another law behind it. -/
theorem oper_nrm {o : Oper} {a : Act} {w : World} {K K' : Act → World → Prop} {R R' : Act → World → Prop} (h : o.wp P a w K (nrm R)) (hK : ∀ a w, K a w → K' a w) : o.wp P a w K' (nrm R') := by
  unfold Oper.wp at *
  generalize (execOp a.eval o).run P w = r at *
  cases r with
  | ok n w' =>
    cases n <;> simp only [Oper.upon] at h ⊢ <;>
      first
        | exact hK _ _ h
        | exact Calls.mono h (fun e w'' he => by
            cases e with
            | returned v => exact hK _ _ he
            | panicked c => exact he.elim
            | outgrown => exact absurd he nrm_lets)
        | exact Rows.mono h (fun _ _ he => hK _ _ he)
  | halt x w' => cases x <;> simp only [Oper.upon] at h ⊢ <;> first | exact h.elim | exact absurd h nrm_lets | exact h

theorem yielded_swap {j : Nat} {tmps : Array Value} (h : j < i0) (hi : i0 < ops.size) : yielded (swap ops i0) tmps j = yielded ops tmps j := by
  unfold yielded
  rw [swap_lt h hi]

/-- Behind the first operations, the last. -/
theorem wpOps_swap (hi : i0 < ops.size) (hg : ∀ j o g b, j < i0 → ops[j]? = some o → o.guard = some (g, b) → g < i0) {R : Act → World → Prop} {l2 : List Nat} : ∀ (l1 : List Nat), (∀ j ∈ l1, j < i0) → ∀ (a : Act) (w : World), wpOps P (swap ops i0) (nrm R) (l1 ++ l2) a w → wpOps P ops (nrm fun a w => wpOps P (swap ops i0) (nrm R) l2 a w) l1 a w
  | [], _, a, w, h => h
  | i :: l1, hl, a, w, h => by
    have hi1 : i < i0 := hl i List.mem_cons_self
    have ih := wpOps_swap hi hg l1 (fun j hj => hl j (List.mem_cons_of_mem _ hj)) (R := R) (l2 := l2)
    rw [List.cons_append, wpOps_cons] at h
    rw [wpOps_cons]
    unfold wpOp at *
    rw [swap_lt hi1 hi] at h
    cases ho : ops[i]? with
    | none => simp only [ho] at h; exact ih _ _ h
    | some o =>
      simp only [ho] at h
      have hw : Region.wanted o (yielded (swap ops i0) a.tmps) = Region.wanted o (yielded ops a.tmps) := by
        unfold Region.wanted
        cases hgd : o.guard with
        | none => rfl
        | some gb =>
          obtain ⟨g, b⟩ := gb
          simp only
          rw [yielded_swap (hg i o g b hi1 ho hgd) hi]
      rw [hw] at h
      by_cases hwt : Region.wanted o (yielded ops a.tmps) = true
      · simp only [hwt, if_true] at h ⊢
        rcases h with h | ⟨_, hq⟩
        · exact .inl (oper_nrm h ih)
        · exact absurd hq nrm_lets
      · simp only [hwt, if_false, Bool.false_eq_true] at h ⊢
        exact ih _ _ h

theorem wpOps_hush (hi : i0 < ops.size) {R : Act → World → Prop} : ∀ (l : List Nat), (∀ j ∈ l, i0 ≤ j) → ∀ (a : Act) (w : World), wpOps P (swap ops i0) (nrm R) l a w → R a w
  | [], _, a, w, h => h
  | i :: l, hl, a, w, h => by
    have hi1 : i0 ≤ i := hl i List.mem_cons_self
    have ih := wpOps_hush hi l (fun j hj => hl j (List.mem_cons_of_mem _ hj)) (R := R)
    rw [wpOps_cons] at h
    unfold wpOp at h
    rw [swap_ge hi1 hi] at h
    cases ho : ops[i]? with
    | none => simp only [ho, Option.map_none] at h; exact ih _ _ h
    | some o =>
      simp only [ho, Option.map_some] at h
      have hw : Region.wanted (hush o) (yielded (swap ops i0) a.tmps) = true := rfl
      rw [if_pos hw] at h
      rcases h with h | ⟨_, hq⟩
      · have he : (execOp a.eval (hush o)).run P w = .ok (.value (.bool true)) w := by
          unfold execOp
          simp [hush, Act.eval]
        unfold Oper.wp at h
        rw [he, Oper.upon_value] at h
        exact ih _ _ h
      · exact absurd hq nrm_lets

/-- ████ A drawn region, up to its last operations. ████ -/
theorem Wins.drawn {T : Frame → List Frame → World → Prop} {b : Frame} {a : Act} {k : List Item} {fs : List Frame} {w : World} {id fuel : Nat} {L : Array Bool} {R : Act → World → Prop} {S : World → Prop} (H : Shape ops i0) (hg : ∀ j o g b, j < i0 → ops[j]? = some o → o.guard = some (g, b) → g < i0) (hm : P.follows .mixedOrders = true)
    (hfuel : fuel = ops.size) (hL : L = Array.replicate ops.size false) (h : wpAnyH P .any (swap ops i0) (nrm R) S fuel L a { w with drawn := w.drawn + 1 })
    (hk : ∀ a' w', R a' w' → Wins P T (b.at a' (.inRegion ops (List.range' i0 (ops.size - i0)) :: k)) fs w') : Wins P T (b.at a (.code (.region id ops true) :: k)) fs w := by
  subst hfuel hL
  have hi := H.lt
  refine .steps (.one step_region_draw) ?_
  generalize w.tape w.drawn (.order b.fn id) = t
  obtain ⟨l1, e1, e2⟩ := orders_end H t
  have h1 := wpAny_sound ops.size t _ a _ (wpAny_of_held _ _ _ _ h)
  have h2 : Region.linearise.go .any (swap ops i0) ops.size t (Array.replicate ops.size false) [] = l1 ++ List.range' i0 (ops.size - i0) := by
    rw [go_swap hi]; exact e1
  rw [h2] at h1
  have h3 := wpOps_swap hi hg l1 e2 a _ h1
  have h4 : Region.schedule (P.follows .mixedOrders) ops t = l1 ++ List.range' i0 (ops.size - i0) := by
    simp only [Region.schedule, hm, Bool.true_or, if_true]
    exact e1
  refine Wins.ops l1 _ h4 h3 fun a' w' h5 => hk a' w' (wpOps_hush hi _ (fun j hj => ?_) a' w' h5)
  rw [List.mem_range'] at hj
  omega
end

/-! ### the shape, by a program -/
def depB (ops : Array Oper) (j e : Nat) : Bool := (ops[j]?).elim false fun o => o.after.toList.any fun x => Region.binds .any x && x.on == e
def shapeB (ops : Array Oper) (i0 : Nat) : Bool :=
  decide (i0 < ops.size) && (List.range ops.size).all (fun j => (ops[j]?).elim true fun o => o.after.all fun x => decide (x.on < j)) &&
  (List.range i0).all (fun j => (List.range (i0 + 1)).any fun j' => decide (j < j') && depB ops j' j) && (List.range ops.size).all (fun j => decide (j ≤ i0) || depB ops j (j - 1)) &&
  (List.range i0).all fun j => (ops[j]?).elim true fun o => match o.guard with | none => true | some (g, _) => decide (g < i0)
theorem depB_spec {ops : Array Oper} {j e : Nat} (h : depB ops j e = true) : Dep ops j e := by
  unfold depB at h
  cases ho : ops[j]? with
  | none => simp [ho] at h
  | some o =>
    simp only [ho, Option.elim_some, List.any_eq_true, Bool.and_eq_true, beq_iff_eq] at h
    obtain ⟨x, hx, h1, h2⟩ := h
    exact ⟨o, ho, x, Array.mem_toList_iff.1 hx, h1, h2⟩
theorem shape_of {ops : Array Oper} {i0 : Nat} (h : shapeB ops i0 = true) : Shape ops i0 ∧ ∀ j o g b, j < i0 → ops[j]? = some o → o.guard = some (g, b) → g < i0 := by
  unfold shapeB at h
  simp only [Bool.and_eq_true, List.all_eq_true, List.mem_range, decide_eq_true_eq, List.any_eq_true, Bool.or_eq_true] at h
  obtain ⟨⟨⟨⟨h1, h2⟩, h3⟩, h4⟩, h5⟩ := h
  refine ⟨⟨h1, ?_, ?_, ?_⟩, ?_⟩
  · rintro j e ⟨o, ho, x, hx, hb, rfl⟩
    have hj : j < ops.size := by
      rcases Nat.lt_or_ge j ops.size with h | h
      · exact h
      · rw [Array.getElem?_eq_none h] at ho; cases ho
    have := h2 j hj
    simp only [ho, Option.elim_some, Array.all_eq_true_iff_forall_mem, decide_eq_true_eq] at this
    exact this x hx
  · intro j hj
    obtain ⟨j', h6, h7, h8⟩ := h3 j hj
    exact ⟨j', h7, by omega, depB_spec h8⟩
  · intro j hj hs
    rcases h4 j hs with h | h
    · omega
    · exact depB_spec h
  · intro j o g b hj ho hg
    have := h5 j hj
    simp only [ho, Option.elim_some, hg, decide_eq_true_eq] at this
    exact this
end Go.Proofs.YtlanlkpamnoekaaDoor.Lk
