/- Link, in company. Nothing that was there is turned. -/
import Derived.Test.YtlanlkpamnoekaaDoorZT11
import Derived.Test.YtlanlkpamnoekaaDoorZT12
import Derived.Test.YtlanlkpamnoekaaDoorZT01
import Derived.Deep.CutRange
import Derived.Conc.Beside
import Derived.Test.YtlanlkpamnoekaaDoorZT03
import Derived.OpenShut
set_option linter.unusedSimpArgs false
set_option linter.unusedVariables false
namespace Go.Proofs.YtlanlkpamnoekaaDoor
open Go Go.RowKit Rf Mem Bv Crc Str Lk Bits
set_option maxRecDepth 100000
attribute [local go_sem ↓] run_max2 run_min2
noncomputable def ops8 : Array Oper := match rg 8 with | .region _ o _ => o | _ => #[]
theorem rg8_eq : rg 8 = .region 8 ops8 false := rfl
theorem size8 : List.range ops8.size = [0, 1, 2, 3, 4] ++ [5, 6, 7, 8, 9, 10, 11] := by kernel_rfl
theorem ops8_from (k n : Nat) : ∀ j, j < ((ops8.toList.drop k).take n).length → ((ops8.toList.drop k).take n)[j]? = ops8[k + j]? := by
  intro j hj
  simp only [List.length_take] at hj
  rw [List.getElem?_take, if_pos (by omega), List.getElem?_drop]
  simp
theorem wk8a (a : Act) (g1 g2 g3 g5 g8 g17 : Nat) (hS : Sl a 190 [(0, .bool false), (1, .pointer (some ⟨g1, 0, none⟩)), (2, .pointer (some ⟨g2, 0, none⟩)), (3, .pointer (some ⟨g3, 0, none⟩)), (4, .int .i64 0), (5, .pointer (some ⟨g5, 0, none⟩)), (7, .int .i64 290), (8, .pointer (some ⟨g8, 0, none⟩)), (10, .int .i64 0), (13, .int .i64 41), (16, .int .i64 40), (17, .pointer (some ⟨g17, 0, none⟩))]) (w : World) : wpOps Tryd.prog ops8 (nrm fun a' w' => ∃ gv A1 c1 A2 c2 A3 c3, Sl a' 190 [(0, .bool false), (1, .pointer (some ⟨g1, 0, none⟩)), (2, .pointer (some ⟨g2, 0, none⟩)), (3, .pointer (some ⟨g3, 0, none⟩)), (4, .int .i64 0), (5, .pointer (some ⟨g5, 0, none⟩)), (7, .int .i64 290), (8, .pointer (some ⟨g8, 0, none⟩)), (10, .int .i64 0), (13, .int .i64 41), (16, .int .i64 40), (17, .pointer (some ⟨g17, 0, none⟩)), (69, lk (-1) 65535 0), (73, .slice (some ⟨gv, 0, none⟩) 4 4)] ∧ SliceAt w' 1 (.slice (some ⟨gv, 0, none⟩) 4 4) 4 [.slice A1 (panelV 1#8).length c1, .slice A2 (panelV 1#8).length c2, .slice none 0 0, .slice A3 (panelV 2#8).length c3] ∧ Els w' [.slice A1 (panelV 1#8).length c1, .slice A2 (panelV 1#8).length c2, .slice none 0 0, .slice A3 (panelV 2#8).length c3] [panelV 1#8, panelV 1#8, [], panelV 2#8] ∧ Below w.heap.size w w') [0, 1, 2, 3, 4] a w := by
  have h4 := fun Q => wpOps_some (P := Tryd.prog) (Q := Q) ((ops8.toList.drop 0).take 5) 0 (ops8_from 0 5)
  have h5 : ((ops8.toList.drop 0).take 5).length = 5 := by kernel_rfl
  rw [h5] at h4
  show wpOps _ _ _ (List.range' 0 5) _ _
  rw [h4]
  clear h4 h5
  obtain ⟨j, rfl, hj⟩ := hS.lit190
  have h0 : j 0 = .bool false := hj (0, _) (by simp)
  have h1 : j 1 = .pointer (some ⟨g1, 0, none⟩) := hj (1, _) (by simp)
  have h2 : j 2 = .pointer (some ⟨g2, 0, none⟩) := hj (2, _) (by simp)
  have h3 : j 3 = .pointer (some ⟨g3, 0, none⟩) := hj (3, _) (by simp)
  have h4 : j 4 = .int .i64 0 := hj (4, _) (by simp)
  have h5 : j 5 = .pointer (some ⟨g5, 0, none⟩) := hj (5, _) (by simp)
  have h7 : j 7 = .int .i64 290 := hj (7, _) (by simp)
  have h8 : j 8 = .pointer (some ⟨g8, 0, none⟩) := hj (8, _) (by simp)
  have h10 : j 10 = .int .i64 0 := hj (10, _) (by simp)
  have h13 : j 13 = .int .i64 41 := hj (13, _) (by simp)
  have h16 : j 16 = .int .i64 40 := hj (16, _) (by simp)
  have h17 : j 17 = .pointer (some ⟨g17, 0, none⟩) := hj (17, _) (by simp)
  clear hj hS
  unfold ops8 rg body10
  simp only [Tryd.f10, Option.getD_some, nthSeq, lit190, List.cons_append, List.nil_append, h0, h1, h2, h3, h4, h5, h7, h8, h10, h13, h16, h17]
  obtain ⟨X, hX⟩ : ∃ X, X = panelV 1#8 := ⟨_, rfl⟩
  obtain ⟨Y, hY⟩ : ∃ Y, Y = panelV 2#8 := ⟨_, rfl⟩
  have hlX : X.length ≤ 140737488355328 := by rw [hX]; decide
  have hlY : Y.length ≤ 140737488355328 := by rw [hY]; decide
  rw [← hX, ← hY]
  simp only [List.drop_zero, List.take_succ_cons, List.take_zero]
  have HX := Lib.hid hX
  have HY := Lib.hid hY
  have HlX := Lib.hid hlX
  have HlY := Lib.hid hlY
  clear hX hY hlX hlY
  go_wp2_with fail
  refine (New_c w).mono ?_
  rintro e W1 ⟨rfl, b1⟩
  go_wp2_with fail
  refine (panel_c 1#8 1 rfl X HX.out W1).mono ?_
  rintro e W2 ⟨b2, A1, c1, rfl, s1⟩
  have B2 := below_step b1 b2
  go_wp2_with fail
  refine (panel_c 1#8 1 rfl X HX.out W2).mono ?_
  rintro e W3 ⟨b3, A2, c2, rfl, s2⟩
  have B3 := below_step B2 b3
  go_wp2_with fail
  refine (panel_c 2#8 2 rfl Y HY.out W3).mono ?_
  rintro e W4 ⟨b4, A3, c3, rfl, s3⟩
  have B4 := below_step B3 b4
  have s1' := ((s1.later b3).later b4)
  have s2' := s2.later b4
  have b5 := below_new W4 (.cells #[.slice A1 X.length c1, .slice A2 X.length c2, .slice none 0 0, .slice A3 Y.length c3] 36)
  have B5 := below_step B4 b5
  have hrow : SliceAt (W4.alloc (.cells #[.slice A1 X.length c1, .slice A2 X.length c2, .slice none 0 0, .slice A3 Y.length c3] 36)) 1 (.slice (some ⟨W4.heap.size, 0, none⟩) 4 4) 4 [.slice A1 X.length c1, .slice A2 X.length c2, .slice none 0 0, .slice A3 Y.length c3] := sliceAt_blk (new_at rfl _) rfl (by simp [maxLen])
  have hE : Els (W4.alloc (.cells #[.slice A1 X.length c1, .slice A2 X.length c2, .slice none 0 0, .slice A3 Y.length c3] 36)) [.slice A1 X.length c1, .slice A2 X.length c2, .slice none 0 0, .slice A3 Y.length c3] [X, X, [], Y] := ⟨s1'.later b5, HlX.out, s2'.later b5, HlX.out, SliceAt.nil_ _ _, by simp, s3.later b5, HlY.out, trivial⟩
  clear s1 s2 s3 s1' s2' b1 b2 b3 b4 B2 B3 B4 b5
  go_wp2
  exact ⟨_, _, _, _, _, _, _, ⟨rfl, rfl, by simp⟩, hrow, hE, B5⟩

theorem wk8b (a : Act) (g1 g2 g3 g5 g8 g17 : Nat) (Ar : Option Addr) (cr : Nat) (hS : Sl a 190 [(0, .bool false), (1, .pointer (some ⟨g1, 0, none⟩)), (2, .pointer (some ⟨g2, 0, none⟩)), (3, .pointer (some ⟨g3, 0, none⟩)), (4, .int .i64 0), (5, .pointer (some ⟨g5, 0, none⟩)), (7, .int .i64 290), (8, .pointer (some ⟨g8, 0, none⟩)), (10, .int .i64 0), (13, .int .i64 41), (16, .int .i64 40), (17, .pointer (some ⟨g17, 0, none⟩)), (74, .tuple #[lk 2 0 2, .slice Ar 2 cr])]) (w : World) : wpOps Tryd.prog ops8 (nrm fun a' w' => ∃ g18, Sl a' 190 [(0, .bool false), (1, .pointer (some ⟨g1, 0, none⟩)), (2, .pointer (some ⟨g2, 0, none⟩)), (3, .pointer (some ⟨g3, 0, none⟩)), (4, .int .i64 0), (5, .pointer (some ⟨g5, 0, none⟩)), (7, .int .i64 290), (8, .pointer (some ⟨g8, 0, none⟩)), (10, .int .i64 0), (13, .int .i64 41), (16, .int .i64 40), (17, .pointer (some ⟨g17, 0, none⟩)), (18, .pointer (some ⟨g18, 0, none⟩)), (19, .slice Ar 2 cr)] ∧ LVar w' g18 2 0 2 ∧ Below w.heap.size w w') [6, 7, 8, 9, 10, 11] a w := by
  have h4 := fun Q => wpOps_some (P := Tryd.prog) (Q := Q) ((ops8.toList.drop 6).take 6) 6 (ops8_from 6 6)
  have h5 : ((ops8.toList.drop 6).take 6).length = 6 := by kernel_rfl
  rw [h5] at h4
  show wpOps _ _ _ (List.range' 6 6) _ _
  rw [h4]
  clear h4 h5
  obtain ⟨j, rfl, hj⟩ := hS.lit190
  have h0 : j 0 = .bool false := hj (0, _) (by simp)
  have h1 : j 1 = .pointer (some ⟨g1, 0, none⟩) := hj (1, _) (by simp)
  have h2 : j 2 = .pointer (some ⟨g2, 0, none⟩) := hj (2, _) (by simp)
  have h3 : j 3 = .pointer (some ⟨g3, 0, none⟩) := hj (3, _) (by simp)
  have h4 : j 4 = .int .i64 0 := hj (4, _) (by simp)
  have h5 : j 5 = .pointer (some ⟨g5, 0, none⟩) := hj (5, _) (by simp)
  have h7 : j 7 = .int .i64 290 := hj (7, _) (by simp)
  have h8 : j 8 = .pointer (some ⟨g8, 0, none⟩) := hj (8, _) (by simp)
  have h10 : j 10 = .int .i64 0 := hj (10, _) (by simp)
  have h13 : j 13 = .int .i64 41 := hj (13, _) (by simp)
  have h16 : j 16 = .int .i64 40 := hj (16, _) (by simp)
  have h17 : j 17 = .pointer (some ⟨g17, 0, none⟩) := hj (17, _) (by simp)
  have h74 : j 74 = .tuple #[lk 2 0 2, .slice Ar 2 cr] := hj (74, _) (by simp)
  clear hj hS
  unfold ops8 rg body10
  simp only [Tryd.f10, Option.getD_some, nthSeq, lit190, List.cons_append, List.nil_append, h0, h1, h2, h3, h4, h5, h7, h8, h10, h13, h16, h17, h74]
  simp only [List.drop_succ_cons, List.drop_zero, List.take_succ_cons, List.take_zero]
  have b1 := below_new w (.cells #[.int .i64 2, .int .i64 0, .int .i64 2] 31)
  have V := LVar.new w 2 0 2
  go_wp2
  exact ⟨_, ⟨rfl, rfl, by simp⟩, V, b1⟩

abbrev iA : U32 := 1#32
abbrev iB : U32 := 2#32
abbrev iC : U32 := 2147483648#32
abbrev iD : U32 := 5#32
theorem wk9 (a : Act) (g1 g2 g3 g5 g8 g17 g18 : Nat) (Ar : Option Addr) (cr : Nat) (hS : Sl a 190 [(0, .bool false), (1, .pointer (some ⟨g1, 0, none⟩)), (2, .pointer (some ⟨g2, 0, none⟩)), (3, .pointer (some ⟨g3, 0, none⟩)), (4, .int .i64 0), (5, .pointer (some ⟨g5, 0, none⟩)), (7, .int .i64 290), (8, .pointer (some ⟨g8, 0, none⟩)), (10, .int .i64 0), (13, .int .i64 41), (16, .int .i64 40), (17, .pointer (some ⟨g17, 0, none⟩)), (18, .pointer (some ⟨g18, 0, none⟩)), (19, .slice Ar 2 cr)]) (w : World) : (rg 9).wp Tryd.prog (nrm fun a' w' => ∃ g20, Sl a' 190 [(0, .bool false), (1, .pointer (some ⟨g1, 0, none⟩)), (2, .pointer (some ⟨g2, 0, none⟩)), (3, .pointer (some ⟨g3, 0, none⟩)), (4, .int .i64 0), (5, .pointer (some ⟨g5, 0, none⟩)), (7, .int .i64 290), (8, .pointer (some ⟨g8, 0, none⟩)), (10, .int .i64 0), (13, .int .i64 41), (16, .int .i64 40), (17, .pointer (some ⟨g17, 0, none⟩)), (18, .pointer (some ⟨g18, 0, none⟩)), (19, .slice Ar 2 cr), (20, .pointer (some ⟨g20, 0, none⟩))] ∧ IVar w' g20 iA iB iC iD ∧ Below w.heap.size w w') a w := by
  obtain ⟨j, rfl, hj⟩ := hS.lit190
  have h0 : j 0 = .bool false := hj (0, _) (by simp)
  have h1 : j 1 = .pointer (some ⟨g1, 0, none⟩) := hj (1, _) (by simp)
  have h2 : j 2 = .pointer (some ⟨g2, 0, none⟩) := hj (2, _) (by simp)
  have h3 : j 3 = .pointer (some ⟨g3, 0, none⟩) := hj (3, _) (by simp)
  have h4 : j 4 = .int .i64 0 := hj (4, _) (by simp)
  have h5 : j 5 = .pointer (some ⟨g5, 0, none⟩) := hj (5, _) (by simp)
  have h7 : j 7 = .int .i64 290 := hj (7, _) (by simp)
  have h8 : j 8 = .pointer (some ⟨g8, 0, none⟩) := hj (8, _) (by simp)
  have h10 : j 10 = .int .i64 0 := hj (10, _) (by simp)
  have h13 : j 13 = .int .i64 41 := hj (13, _) (by simp)
  have h16 : j 16 = .int .i64 40 := hj (16, _) (by simp)
  have h17 : j 17 = .pointer (some ⟨g17, 0, none⟩) := hj (17, _) (by simp)
  have h18 : j 18 = .pointer (some ⟨g18, 0, none⟩) := hj (18, _) (by simp)
  have h19 : j 19 = .slice Ar 2 cr := hj (19, _) (by simp)
  clear hj hS
  unfold rg body10
  simp only [Tryd.f10, Option.getD_some, nthSeq, lit190, List.cons_append, List.nil_append, h0, h1, h2, h3, h4, h5, h7, h8, h10, h13, h16, h17, h18, h19]
  have b1 := below_new w (.cells #[.int .u32 1, .int .u32 2, .int .u32 2147483648, .int .u32 5] 35)
  have V : IVar (w.alloc (.cells #[.int .u32 1, .int .u32 2, .int .u32 2147483648, .int .u32 5] 35)) w.heap.size iA iB iC iD := ⟨new_at rfl _⟩
  go_wp2
  exact ⟨_, ⟨rfl, rfl, by simp⟩, V, b1⟩

theorem wk10 (a : Act) (g1 g2 g3 g5 g8 g17 g18 g20 : Nat) (Ar : Option Addr) (cr : Nat) (hS : Sl a 190 [(0, .bool false), (1, .pointer (some ⟨g1, 0, none⟩)), (2, .pointer (some ⟨g2, 0, none⟩)), (3, .pointer (some ⟨g3, 0, none⟩)), (4, .int .i64 0), (5, .pointer (some ⟨g5, 0, none⟩)), (7, .int .i64 290), (8, .pointer (some ⟨g8, 0, none⟩)), (10, .int .i64 0), (13, .int .i64 41), (16, .int .i64 40), (17, .pointer (some ⟨g17, 0, none⟩)), (18, .pointer (some ⟨g18, 0, none⟩)), (19, .slice Ar 2 cr), (20, .pointer (some ⟨g20, 0, none⟩))]) (w : World) (V : IVar w g20 iA iB iC iD) : (rg 10).wp Tryd.prog (nrm fun a' w' => ∃ Ap cp X, Sl a' 190 [(0, .bool false), (1, .pointer (some ⟨g1, 0, none⟩)), (2, .pointer (some ⟨g2, 0, none⟩)), (3, .pointer (some ⟨g3, 0, none⟩)), (4, .int .i64 0), (5, .pointer (some ⟨g5, 0, none⟩)), (7, .int .i64 290), (8, .pointer (some ⟨g8, 0, none⟩)), (10, .int .i64 0), (13, .int .i64 41), (16, .int .i64 40), (17, .pointer (some ⟨g17, 0, none⟩)), (18, .pointer (some ⟨g18, 0, none⟩)), (19, .slice Ar 2 cr), (20, .pointer (some ⟨g20, 0, none⟩)), (21, .slice Ap 16 cp)] ∧ SliceAt w' 1 (.slice Ap 16 cp) 16 (u8s X) ∧ X.length = 16 ∧ Holds X (inB [iA, iB, iC, iD]) ∧ Below w.heap.size w w') a w := by
  obtain ⟨j, rfl, hj⟩ := hS.lit190
  have h0 : j 0 = .bool false := hj (0, _) (by simp)
  have h1 : j 1 = .pointer (some ⟨g1, 0, none⟩) := hj (1, _) (by simp)
  have h2 : j 2 = .pointer (some ⟨g2, 0, none⟩) := hj (2, _) (by simp)
  have h3 : j 3 = .pointer (some ⟨g3, 0, none⟩) := hj (3, _) (by simp)
  have h4 : j 4 = .int .i64 0 := hj (4, _) (by simp)
  have h5 : j 5 = .pointer (some ⟨g5, 0, none⟩) := hj (5, _) (by simp)
  have h7 : j 7 = .int .i64 290 := hj (7, _) (by simp)
  have h8 : j 8 = .pointer (some ⟨g8, 0, none⟩) := hj (8, _) (by simp)
  have h10 : j 10 = .int .i64 0 := hj (10, _) (by simp)
  have h13 : j 13 = .int .i64 41 := hj (13, _) (by simp)
  have h16 : j 16 = .int .i64 40 := hj (16, _) (by simp)
  have h17 : j 17 = .pointer (some ⟨g17, 0, none⟩) := hj (17, _) (by simp)
  have h18 : j 18 = .pointer (some ⟨g18, 0, none⟩) := hj (18, _) (by simp)
  have h19 : j 19 = .slice Ar 2 cr := hj (19, _) (by simp)
  have h20 : j 20 = .pointer (some ⟨g20, 0, none⟩) := hj (20, _) (by simp)
  clear hj hS
  unfold rg body10
  simp only [Tryd.f10, Option.getD_some, nthSeq, lit190, List.cons_append, List.nil_append, h0, h1, h2, h3, h4, h5, h7, h8, h10, h13, h16, h17, h18, h19, h20]
  have x0 := V.cell 0 _ rfl
  have x1 := V.cell 1 _ rfl
  have x2 := V.cell 2 _ rfl
  have x3 := V.cell 3 _ rfl
  go_wp2_with fail
  refine (PutIn_c iA iB iC iD w).mono ?_
  rintro e W ⟨b, A, c, X, rfl, hs, hH⟩
  have h16 : X.length = 16 := by rw [hH.1, inB_len]; rfl
  rw [h16] at hs ⊢
  clear x0 x1 x2 x3
  have HH := Lib.hid hH
  have H16 := Lib.hid h16
  clear hH h16
  go_wp2
  exact ⟨A, c, X, ⟨rfl, rfl, by simp⟩, hs, H16.out, HH.out, b⟩

/-- What was put is taken. -/
theorem take_put {X : List (BitVec 8)} {a b c d : U32} (h : Holds X (inB [a, b, c, d])) : takeInV X = (a, b, c, d, 0) := by
  have h16 : X.length = 16 := by rw [h.1, inB_len]; simp
  have hb : bitsOf X = inB [a, b, c, d] := by
    have := holds_len h
    rw [h16, inB_len] at this
    simpa using this
  have hf : ∀ i z, [a, b, c, d][i]? = some z → fld X i = z := fun i z hz => by
    have hn : ((inB [a, b, c, d]).drop (32 * i)).take 32 = numBits z.toNat 32 := by
      have hl : ∀ u : U32, (numBits u.toNat 32).length = 32 := fun u => numBits_length ..
      have hd : ∀ (u : U32) (k : Nat), 32 ≤ k → (numBits u.toNat 32).drop k = [] := fun u k h => List.drop_eq_nil_of_le (by rw [hl]; exact h)
      have ht : ∀ u : U32, (numBits u.toNat 32).take 32 = numBits u.toNat 32 := fun u => List.take_of_length_le (by rw [hl]; exact Nat.le_refl _)
      match i, hz with
      | 0, h => cases h; simp [inB, List.take_append, hl, ht]
      | 1, h => cases h; simp [inB, List.drop_append, List.take_append, hl, hd, ht]
      | 2, h => cases h; simp [inB, List.drop_append, List.take_append, hl, hd, ht]
      | 3, h => cases h; simp [inB, List.drop_append, List.take_append, hl, hd, ht]
      | i + 4, h => simp at h
    unfold fld
    rw [hb, hn, num_numBits, Nat.mod_eq_of_lt z.isLt]
    simp
  unfold takeInV
  rw [if_pos h16, hf 0 a rfl, hf 1 b rfl, hf 2 c rfl, hf 3 d rfl]

theorem wk11 (a : Act) (g1 g2 g3 g5 g8 g17 g18 g20 : Nat) (Ar Ap : Option Addr) (cr cp : Nat) (X : List (BitVec 8)) (hS : Sl a 190 [(0, .bool false), (1, .pointer (some ⟨g1, 0, none⟩)), (2, .pointer (some ⟨g2, 0, none⟩)), (3, .pointer (some ⟨g3, 0, none⟩)), (4, .int .i64 0), (5, .pointer (some ⟨g5, 0, none⟩)), (7, .int .i64 290), (8, .pointer (some ⟨g8, 0, none⟩)), (10, .int .i64 0), (13, .int .i64 41), (16, .int .i64 40), (17, .pointer (some ⟨g17, 0, none⟩)), (18, .pointer (some ⟨g18, 0, none⟩)), (19, .slice Ar 2 cr), (20, .pointer (some ⟨g20, 0, none⟩)), (21, .slice Ap 16 cp)]) (w : World) (hs : SliceAt w 1 (.slice Ap 16 cp) 16 (u8s X)) (hx16 : X.length = 16) (hH : Holds X (inB [iA, iB, iC, iD])) : (rg 11).wp Tryd.prog (nrm fun a' w' => ∃ g22, Sl a' 190 [(0, .bool false), (1, .pointer (some ⟨g1, 0, none⟩)), (2, .pointer (some ⟨g2, 0, none⟩)), (3, .pointer (some ⟨g3, 0, none⟩)), (4, .int .i64 0), (5, .pointer (some ⟨g5, 0, none⟩)), (7, .int .i64 290), (8, .pointer (some ⟨g8, 0, none⟩)), (10, .int .i64 0), (13, .int .i64 41), (16, .int .i64 40), (17, .pointer (some ⟨g17, 0, none⟩)), (18, .pointer (some ⟨g18, 0, none⟩)), (19, .slice Ar 2 cr), (20, .pointer (some ⟨g20, 0, none⟩)), (21, .slice Ap 16 cp), (22, .pointer (some ⟨g22, 0, none⟩)), (23, .int .i64 0)] ∧ IVar w' g22 iA iB iC iD ∧ Below w.heap.size w w') a w := by
  obtain ⟨j, rfl, hj⟩ := hS.lit190
  have h0 : j 0 = .bool false := hj (0, _) (by simp)
  have h1 : j 1 = .pointer (some ⟨g1, 0, none⟩) := hj (1, _) (by simp)
  have h2 : j 2 = .pointer (some ⟨g2, 0, none⟩) := hj (2, _) (by simp)
  have h3 : j 3 = .pointer (some ⟨g3, 0, none⟩) := hj (3, _) (by simp)
  have h4 : j 4 = .int .i64 0 := hj (4, _) (by simp)
  have h5 : j 5 = .pointer (some ⟨g5, 0, none⟩) := hj (5, _) (by simp)
  have h7 : j 7 = .int .i64 290 := hj (7, _) (by simp)
  have h8 : j 8 = .pointer (some ⟨g8, 0, none⟩) := hj (8, _) (by simp)
  have h10 : j 10 = .int .i64 0 := hj (10, _) (by simp)
  have h13 : j 13 = .int .i64 41 := hj (13, _) (by simp)
  have h16 : j 16 = .int .i64 40 := hj (16, _) (by simp)
  have h17 : j 17 = .pointer (some ⟨g17, 0, none⟩) := hj (17, _) (by simp)
  have h18 : j 18 = .pointer (some ⟨g18, 0, none⟩) := hj (18, _) (by simp)
  have h19 : j 19 = .slice Ar 2 cr := hj (19, _) (by simp)
  have h20 : j 20 = .pointer (some ⟨g20, 0, none⟩) := hj (20, _) (by simp)
  have h21 : j 21 = .slice Ap 16 cp := hj (21, _) (by simp)
  clear hj hS
  unfold rg body10
  simp only [Tryd.f10, Option.getD_some, nthSeq, lit190, List.cons_append, List.nil_append, h0, h1, h2, h3, h4, h5, h7, h8, h10, h13, h16, h17, h18, h19, h20, h21]
  have ht := take_put hH
  go_wp2_with fail
  refine (TakeIn_c (.slice Ap 16 cp) X iA iB iC iD 0 w ht (by rw [hx16]; exact hs) (by rw [hx16]; omega)).mono ?_
  rintro e W ⟨rfl, b⟩
  have b1 := below_new W (.cells #[.int .u32 1, .int .u32 2, .int .u32 2147483648, .int .u32 5] 35)
  have V : IVar (W.alloc (.cells #[.int .u32 1, .int .u32 2, .int .u32 2147483648, .int .u32 5] 35)) W.heap.size iA iB iC iD := ⟨new_at rfl _⟩
  have B := below_step b b1
  clear ht hH hx16 hs b b1
  go_wp2
  exact ⟨_, ⟨rfl, rfl, by simp⟩, V, B⟩

theorem wk12 (a : Act) (g1 g2 g3 g5 g8 g17 g18 g20 g22 : Nat) (Ar Ap : Option Addr) (cr cp : Nat) (X : List (BitVec 8)) (hS : Sl a 190 [(0, .bool false), (1, .pointer (some ⟨g1, 0, none⟩)), (2, .pointer (some ⟨g2, 0, none⟩)), (3, .pointer (some ⟨g3, 0, none⟩)), (4, .int .i64 0), (5, .pointer (some ⟨g5, 0, none⟩)), (7, .int .i64 290), (8, .pointer (some ⟨g8, 0, none⟩)), (10, .int .i64 0), (13, .int .i64 41), (16, .int .i64 40), (17, .pointer (some ⟨g17, 0, none⟩)), (18, .pointer (some ⟨g18, 0, none⟩)), (19, .slice Ar 2 cr), (20, .pointer (some ⟨g20, 0, none⟩)), (21, .slice Ap 16 cp), (22, .pointer (some ⟨g22, 0, none⟩)), (23, .int .i64 0)]) (w : World) (hs : SliceAt w 1 (.slice Ap 16 cp) 16 (u8s X)) (hx16 : X.length = 16) : (rg 12).wp Tryd.prog (nrm fun a' w' => Sl a' 190 [(0, .bool false), (1, .pointer (some ⟨g1, 0, none⟩)), (2, .pointer (some ⟨g2, 0, none⟩)), (3, .pointer (some ⟨g3, 0, none⟩)), (4, .int .i64 0), (5, .pointer (some ⟨g5, 0, none⟩)), (7, .int .i64 290), (8, .pointer (some ⟨g8, 0, none⟩)), (10, .int .i64 0), (13, .int .i64 41), (16, .int .i64 40), (17, .pointer (some ⟨g17, 0, none⟩)), (18, .pointer (some ⟨g18, 0, none⟩)), (19, .slice Ar 2 cr), (20, .pointer (some ⟨g20, 0, none⟩)), (21, .slice Ap 16 cp), (22, .pointer (some ⟨g22, 0, none⟩)), (23, .int .i64 0), (25, .int .i64 41)] ∧ Below w.heap.size w w') a w := by
  obtain ⟨j, rfl, hj⟩ := hS.lit190
  have h0 : j 0 = .bool false := hj (0, _) (by simp)
  have h1 : j 1 = .pointer (some ⟨g1, 0, none⟩) := hj (1, _) (by simp)
  have h2 : j 2 = .pointer (some ⟨g2, 0, none⟩) := hj (2, _) (by simp)
  have h3 : j 3 = .pointer (some ⟨g3, 0, none⟩) := hj (3, _) (by simp)
  have h4 : j 4 = .int .i64 0 := hj (4, _) (by simp)
  have h5 : j 5 = .pointer (some ⟨g5, 0, none⟩) := hj (5, _) (by simp)
  have h7 : j 7 = .int .i64 290 := hj (7, _) (by simp)
  have h8 : j 8 = .pointer (some ⟨g8, 0, none⟩) := hj (8, _) (by simp)
  have h10 : j 10 = .int .i64 0 := hj (10, _) (by simp)
  have h13 : j 13 = .int .i64 41 := hj (13, _) (by simp)
  have h16 : j 16 = .int .i64 40 := hj (16, _) (by simp)
  have h17 : j 17 = .pointer (some ⟨g17, 0, none⟩) := hj (17, _) (by simp)
  have h18 : j 18 = .pointer (some ⟨g18, 0, none⟩) := hj (18, _) (by simp)
  have h19 : j 19 = .slice Ar 2 cr := hj (19, _) (by simp)
  have h20 : j 20 = .pointer (some ⟨g20, 0, none⟩) := hj (20, _) (by simp)
  have h21 : j 21 = .slice Ap 16 cp := hj (21, _) (by simp)
  have h22 : j 22 = .pointer (some ⟨g22, 0, none⟩) := hj (22, _) (by simp)
  have h23 : j 23 = .int .i64 0 := hj (23, _) (by simp)
  clear hj hS
  unfold rg body10
  simp only [Tryd.f10, Option.getD_some, nthSeq, lit190, List.cons_append, List.nil_append, h0, h1, h2, h3, h4, h5, h7, h8, h10, h13, h16, h17, h18, h19, h20, h21, h22, h23]
  have h15 : (X.take 15).length = 15 := by rw [List.length_take, hx16]; rfl
  have ht : takeInV (X.take 15) = (0, 0, 0, 0, 41) := by unfold takeInV; rw [if_neg (by rw [h15]; decide)]
  have hs15 : SliceAt w 1 (.slice Ap 15 cp) 15 (u8s (X.take 15)) := by
    have := hs.take (k := 15) (by omega)
    simpa [u8s, List.map_take] using this
  obtain ⟨_, _, e, hc, _⟩ := hs.form
  obtain ⟨rfl, _, rfl⟩ := Value.slice.inj e
  clear e
  have hm : (min (16 : Int) 15).toNat = 15 := by decide
  go_wp2_with fail
  refine (TakeIn_c (.slice Ap 15 cp) (X.take 15) 0 0 0 0 41 w ht (by rw [h15]; exact hs15) (by rw [h15]; omega)).mono ?_
  rintro e W ⟨rfl, b⟩
  have b1 := below_new W (.cells #[.int .u32 0, .int .u32 0, .int .u32 0, .int .u32 0] 35)
  have B := below_step b b1
  clear ht hx16 hs hs15 h15 hm b b1
  go_wp2
  exact ⟨⟨rfl, rfl, by simp⟩, B⟩
end Go.Proofs.YtlanlkpamnoekaaDoor
namespace Go.Proofs.YtlanlkpamnoekaaDoor
open Go Go.RowKit Rf Mem Bv Crc Str Lk Bits
set_option maxRecDepth 100000
attribute [local go_sem ↓] run_max2 run_min2
/-- What wakes has found. -/
structure WM (W : World) (g1 g2 g3 g5 g8 g17 : Nat) : Prop where
  y : LY W g1 y1 1
  l2 : LVar W g2 200 0 0
  f3 : FV W g3 (2#8, 200#8, [])
  l5 : LVar W g5 200 0 1
  l8 : LVar W g8 7 0 1
  l17 : LVar W g17 (-1) 2 1
  t : Tops W
theorem WM.later {W W' : World} {g1 g2 g3 g5 g8 g17 : Nat} (h : WM W g1 g2 g3 g5 g8 g17) (b : Below W.heap.size W W') : WM W' g1 g2 g3 g5 g8 g17 := ⟨h.y.later b, h.l2.later b, h.f3.later b, h.l5.later b, h.l8.later b, h.l17.later b, h.t.below b⟩
theorem FV.c1 {W : World} {g : Nat} {f : Frm} (h : FV W g f) : W.cell? ⟨g, 1, none⟩ = some (.int .u8 (f.2.1.toNat : Int)) := by
  obtain ⟨A, c, h1, _⟩ := h.out
  rw [cell_at h1]; rfl
set_option maxHeartbeats 4000000 in
theorem wk13 (a : Act) (g1 g2 g3 g5 g8 g17 g18 g20 g22 : Nat) (Ar Ap : Option Addr) (cr cp : Nat) (hS : Sl a 190 [(0, .bool false), (1, .pointer (some ⟨g1, 0, none⟩)), (2, .pointer (some ⟨g2, 0, none⟩)), (3, .pointer (some ⟨g3, 0, none⟩)), (4, .int .i64 0), (5, .pointer (some ⟨g5, 0, none⟩)), (7, .int .i64 290), (8, .pointer (some ⟨g8, 0, none⟩)), (10, .int .i64 0), (13, .int .i64 41), (16, .int .i64 40), (17, .pointer (some ⟨g17, 0, none⟩)), (18, .pointer (some ⟨g18, 0, none⟩)), (19, .slice Ar 2 cr), (20, .pointer (some ⟨g20, 0, none⟩)), (21, .slice Ap 16 cp), (22, .pointer (some ⟨g22, 0, none⟩)), (23, .int .i64 0), (25, .int .i64 41)]) (w : World) (H : WM w g1 g2 g3 g5 g8 g17) (L18 : LVar w g18 2 0 2) (I20 : IVar w g20 iA iB iC iD) (I22 : IVar w g22 iA iB iC iD) : (rg 13).wp Tryd.prog (nrm fun a' w' => Sl a' 190 [(0, .bool true)] ∧ Below w.heap.size w w') a w := by
  obtain ⟨j, rfl, hj⟩ := hS.lit190
  have h0 : j 0 = .bool false := hj (0, _) (by simp)
  have h1 : j 1 = .pointer (some ⟨g1, 0, none⟩) := hj (1, _) (by simp)
  have h2 : j 2 = .pointer (some ⟨g2, 0, none⟩) := hj (2, _) (by simp)
  have h3 : j 3 = .pointer (some ⟨g3, 0, none⟩) := hj (3, _) (by simp)
  have h4 : j 4 = .int .i64 0 := hj (4, _) (by simp)
  have h5 : j 5 = .pointer (some ⟨g5, 0, none⟩) := hj (5, _) (by simp)
  have h7 : j 7 = .int .i64 290 := hj (7, _) (by simp)
  have h8 : j 8 = .pointer (some ⟨g8, 0, none⟩) := hj (8, _) (by simp)
  have h10 : j 10 = .int .i64 0 := hj (10, _) (by simp)
  have h13 : j 13 = .int .i64 41 := hj (13, _) (by simp)
  have h16 : j 16 = .int .i64 40 := hj (16, _) (by simp)
  have h17 : j 17 = .pointer (some ⟨g17, 0, none⟩) := hj (17, _) (by simp)
  have h18 : j 18 = .pointer (some ⟨g18, 0, none⟩) := hj (18, _) (by simp)
  have h19 : j 19 = .slice Ar 2 cr := hj (19, _) (by simp)
  have h20 : j 20 = .pointer (some ⟨g20, 0, none⟩) := hj (20, _) (by simp)
  have h21 : j 21 = .slice Ap 16 cp := hj (21, _) (by simp)
  have h22 : j 22 = .pointer (some ⟨g22, 0, none⟩) := hj (22, _) (by simp)
  have h23 : j 23 = .int .i64 0 := hj (23, _) (by simp)
  have h25 : j 25 = .int .i64 41 := hj (25, _) (by simp)
  clear hj hS
  unfold rg body10
  simp only [Tryd.f10, Option.getD_some, nthSeq, lit190, List.cons_append, List.nil_append, h0, h1, h2, h3, h4, h5, h7, h8, h10, h13, h16, h17, h18, h19, h20, h21, h22, h23, h25]
  have p1 := H.f3.c1
  have p2 : w.cell? ⟨g3, 1, none⟩ = some (.int .u8 200) := p1
  clear p1
  have q0 := H.l2.c0
  have q1 := H.l2.c1
  have q5 := H.l5.c2
  have r0 := H.l8.c0
  have r1 := H.l8.c1
  have r2 := H.l8.c2
  have s0 := H.l17.c0
  have s1 := H.l17.c1
  have s2 := H.l17.c2
  obtain ⟨z0, z1, z2, z3, z4, z5, z6, z7, z8, z9, z10⟩ := H.y.cells
  go_wp2_with fail
  clear p2 q0 q1 q5 r0 r1 r2 s0 s1 s2 z0 z1 z2 z3 z4 z5 z6 z7 z8 z9 z10
  refine (Dead_c y1 1 (-1) 2 1 true (by decide) w).mono ?_
  rintro e W1 ⟨rfl, b1⟩
  have H1 := H.later b1
  have L1 := L18.later b1
  have I1 := I20.later b1
  have J1 := I22.later b1
  clear H L18 I20 I22
  have r0 := H1.l8.c0
  have r1 := H1.l8.c1
  have r2 := H1.l8.c2
  obtain ⟨z0, z1, z2, z3, z4, z5, z6, z7, z8, z9, z10⟩ := H1.y.cells
  go_wp2_with fail
  clear r0 r1 r2 z0 z1 z2 z3 z4 z5 z6 z7 z8 z9 z10
  refine (Dead_c y1 1 7 0 1 false (by decide) W1).mono ?_
  rintro e W2 ⟨rfl, b2⟩
  have H2 := H1.later b2
  have L2 := L1.later b2
  have I2 := I1.later b2
  have J2 := J1.later b2
  have B2 := below_step b1 b2
  clear H1 L1 I1 J1 b1 b2
  have s0 := H2.l17.c0
  have t2 := L2.c2
  have u0 := I2.cell 0 _ rfl
  have u1 := I2.cell 1 _ rfl
  have u2 := I2.cell 2 _ rfl
  have u3 := I2.cell 3 _ rfl
  have v0 := J2.cell 0 _ rfl
  have v1 := J2.cell 1 _ rfl
  have v2 := J2.cell 2 _ rfl
  have v3 := J2.cell 3 _ rfl
  have r0 := H2.l8.c0
  have r1 := H2.l8.c1
  have r2 := H2.l8.c2
  go_wp2_with fail
  clear s0 t2 u0 u1 u2 u3 v0 v1 v2 v3 r0 r1 r2
  refine (link_Right_c 7 0 1 W2 true (by decide) H2.t).mono ?_
  rintro e W3 ⟨rfl, b3⟩
  have H3 := H2.later b3
  have B3 := below_step B2 b3
  clear H2 L2 I2 J2 b3 B2
  go_wp2_with fail
  refine (link_Right_c 256 0 0 W3 false (by decide) H3.t).mono ?_
  rintro e W4 ⟨rfl, b4⟩
  have B4 := below_step B3 b4
  clear H3 b4 B3
  go_wp2
  exact ⟨⟨rfl, rfl, by simp⟩, B4⟩
end Go.Proofs.YtlanlkpamnoekaaDoor
namespace Go.Proofs.YtlanlkpamnoekaaDoor.Lk
open Go Go.Conc Go.RowKit Mem Rf Bv Crc Str
set_option maxRecDepth 100000
attribute [local go_sem ↓] run_max2 run_min2

theorem info_frm : (Tryd.prog.info? 41).map (fun i => (i.zero, i.size, i.bytes)) = some (some (.agg #[.int .u8 0, .int .u8 0, .slice none 0 0]), 3, 32) := by kernel_rfl

theorem hd14_of (kind : Int) (bx br bc be : Nat) (rv a0 a2 a4 a5 a10 a11 a12 a13 a14 a15 a16 a17 a18 a19 a20 a21 a22 a23 a24 a25 a26 a27 a28 a29 a30 a31 a32 a33 a34 a35 a36 a37 a38 a39 a40 : Value) : ∃ j, (⟨#[a0, .int .u8 kind, a2, .pointer (some ⟨bx, 0, none⟩), a4, a5, .pointer (some ⟨br, 0, none⟩), rv, .pointer (some ⟨bc, 0, none⟩), .pointer (some ⟨be, 0, none⟩), a10, a11, a12, a13, a14, a15, a16, a17, a18, a19, a20, a21, a22, a23, a24, a25, a26, a27, a28, a29, a30, a31, a32, a33, a34, a35, a36, a37, a38, a39, a40], []⟩ : Act) = ⟨(hd14 j kind bx br bc be rv).toArray, []⟩ := ⟨fun i => [a0, .int .u8 kind, a2, .pointer (some ⟨bx, 0, none⟩), a4, a5, .pointer (some ⟨br, 0, none⟩), rv, .pointer (some ⟨bc, 0, none⟩), .pointer (some ⟨be, 0, none⟩), a10, a11, a12, a13, a14, a15, a16, a17, a18, a19, a20, a21, a22, a23, a24, a25, a26, a27, a28, a29, a30, a31, a32, a33, a34, a35, a36, a37, a38, a39, a40].getD i undef, rfl⟩

/-- At the loop's head: the link, the frames. B: the heap's size at All's entry; the row of frames lies from R on. -/
structure Head (B R bx br : Nat) (st : Lst × List Frm) (rv : Value) (W : World) : Prop where
  x : LVar W bx st.1.1 st.1.2.1 st.1.2.2
  r : LVar W br 0 0 0
  hB : B ≤ bx ∧ bx < br ∧ br < R ∧ R ≤ W.heap.size
  own : ∃ xs, W.ownsRow R 41 3 rv st.2.length xs ∧ FCells (fun q => rv.ownBlock ≠ some q) W st.2 xs
  ne : rv = .slice none 0 0 ∨ 0 < st.2.length
  tops : Tops W
  tg : 0 < B

set_option maxHeartbeats 1000000 in
theorem all_round (j : Nat → Value) (kind : Int) (B R bx br bc be ce ee : Nat) (rv v : Value) (b : List (BitVec 8)) (st : Lst × List Frm) (w : World) (h19 : j 19 = .tuple #[.int .i64 0, .bool true, v, .agg #[]]) (h21 : j 21 = .bool true)
    (H : Head B R bx br st rv w) (hs : SliceAt w 1 v b.length (u8s b)) (hl : b.length ≤ 140737488355328) (hn : st.2.length ≤ 100000) :
    sel14.wp Tryd.prog (nrm fun a' w' => ∃ j' rv', a' = ⟨(hd14 j' kind bx br bc be rv').toArray, []⟩ ∧ Head B R bx br (stepV kind st b) rv' w' ∧ Below B w w') ⟨(se14 j kind bx br bc be ce ee rv).toArray, []⟩ w := by
  unfold sel14 loop14 body14
  simp only [Tryd.f14, Option.getD_some]
  obtain ⟨x, fs⟩ := st
  obtain ⟨V0, Q0, ⟨hB, hBx, hBr, hR⟩, ⟨xs, ho, hf⟩, hne, hT, hG⟩ := H
  have hlt := lt_of_at V0.at_
  simp only at V0 ho hf hn
  simp only [se14, h19, h21]
  have x0 := V0.c0
  have x1 := V0.c1
  have x2 := V0.c2
  go_wp2_with fail
  obtain ⟨r, hr⟩ : ∃ r, r = hearV kind b x := ⟨_, rfl⟩
  have HR := Lib.hid hr
  refine (Hear_v x kind v b w r hr hT hs hl).mono ?_
  clear hr
  rintro y W1 ⟨A, c, rfl, b1, hs1, hq1⟩
  obtain ⟨⟨s', q', e'⟩, er, f⟩ := r
  simp only at hs1 hq1 HR ⊢
  have V1 := V0.later b1
  have Q1 := Q0.later b1
  have hf1 := hf.later b1
  have ho1 : W1.ownsRow R 41 3 rv fs.length xs := own_later ho (fun g hg => b1.block g (own_base ho hg).2)
  have hT1 := hT.below b1
  clear x0 x1 x2
  go_upto_region 8 with (fail)
  have b2 := below_new W1 (.cells #[.int .i64 s', .int .i64 q', .int .i64 e'] 31)
  have N1 := LVar.new W1 s' q' e'
  have b3 := below_new (W1.alloc (.cells #[.int .i64 s', .int .i64 q', .int .i64 e'] 31)) (.cells #[.int .u8 (f.1.toNat : Int), .int .u8 (f.2.1.toNat : Int), .slice A f.2.2.length c] 41)
  have g3 : ((W1.alloc (.cells #[.int .i64 s', .int .i64 q', .int .i64 e'] 31)).alloc (.cells #[.int .u8 (f.1.toNat : Int), .int .u8 (f.2.1.toNat : Int), .slice A f.2.2.length c] 41)).heap[(W1.alloc (.cells #[.int .i64 s', .int .i64 q', .int .i64 e'] 31)).heap.size]? = some _ := new_at rfl _
  rw [World.size_alloc] at g3
  have N2 := N1.later b3
  have b4 := below_step b2 b3
  have V2 := V1.later b4
  have Q2 := Q1.later b4
  have hf2 := hf1.later b4
  have ho2 := own_later ho1 (fun g hg => b4.block g (own_base ho1 hg).2)
  have hT2 := hT1.below b4
  have hs2 := hs1.later b4
  have b5 := below_step b1 b4
  have hsz := b1.size
  clear b2 N1 b3 b4 V1 Q1 hf1 ho1 hT1 hs1 b1
  generalize (W1.alloc (.cells #[.int .i64 s', .int .i64 q', .int .i64 e'] 31)).alloc (.cells #[.int .u8 (f.1.toNat : Int), .int .u8 (f.2.1.toNat : Int), .slice A f.2.2.length c] 41) = W2 at *
  have n0 := N2.c0
  have n1 := N2.c1
  have n2 := N2.c2
  have x0 := V2.c0
  have x1 := V2.c1
  have x2 := V2.c2
  have e0 := free_at V2.at_ 0
  have e1 := free_at V2.at_ 1
  have e2 := free_at V2.at_ 2
  go_upto_region 9 with (fail)
  have V3 := V2.set3 s' q' e'
  have Q3 := Q2.far3 (g' := bx) (by omega) s' q' e'
  have hk3 := set3_off W2 bx (.int .i64 s') (.int .i64 q') (.int .i64 e')
  have B3 := (((b5.mono (B' := B) (by omega)).setCell (p := ⟨bx, 0, none⟩) hB (.int .i64 s')).setCell (p := ⟨bx, 1, none⟩) hB (.int .i64 q')).setCell (p := ⟨bx, 2, none⟩) hB (.int .i64 e')
  have g4 := (hk3 _ (by omega)).trans g3
  have hf3 := hf2.beside (w' := ((W2.setCell ⟨bx, 0, none⟩ (.int .i64 s')).setCell ⟨bx, 1, none⟩ (.int .i64 q')).setCell ⟨bx, 2, none⟩ (.int .i64 e')) V2 (by simp) hk3
  have hs3 := hs2.beside (w' := ((W2.setCell ⟨bx, 0, none⟩ (.int .i64 s')).setCell ⟨bx, 1, none⟩ (.int .i64 q')).setCell ⟨bx, 2, none⟩ (.int .i64 e')) V2 (by simp) hk3
  have ho3 := own_later (w' := ((W2.setCell ⟨bx, 0, none⟩ (.int .i64 s')).setCell ⟨bx, 1, none⟩ (.int .i64 q')).setCell ⟨bx, 2, none⟩ (.int .i64 e')) ho2 (fun g hg => hk3 g (fun e => V2.not_own ho2 (e ▸ hg)))
  have hT3 := hT.belowB B3 hG
  clear n0 n1 n2 x0 x1 x2 e0 e1 e2 V2 Q2 hf2 ho2 hT2 hs2 b5 g3 N2 hk3
  generalize ((W2.setCell ⟨bx, 0, none⟩ (.int .i64 s')).setCell ⟨bx, 1, none⟩ (.int .i64 q')).setCell ⟨bx, 2, none⟩ (.int .i64 e') = W3 at *
  obtain ⟨i0, hi, hz0, hz1, hz2⟩ := info_parts info_frm
  have hsz3 := B3.size
  by_cases her : er = 0
  · subst her
    have n0 := cell_at g4 0
    have n1 := cell_at g4 1
    have n2 := cell_at g4 2
    generalize hm : (f.1.toNat : Int) = k0 at *
    generalize hm2 : (f.2.1.toNat : Int) = k1 at *
    have bN := below_new W3 (.cells #[.int .u8 k0, .int .u8 k1, .slice A f.2.2.length c] 41)
    have hown := own_later ho3 (fun g hg => bN.block g (own_base ho3 hg).2)
    have hfN := hf3.later bN
    have hsN := hs3.later bN
    have hsr : SliceAt (W3.alloc (.cells #[.int .u8 k0, .int .u8 k1, .slice A f.2.2.length c] 41)) 3 (.slice (some ⟨W3.heap.size, 0, none⟩) 1 1) 1 [.int .u8 k0, .int .u8 k1, .slice A f.2.2.length c] := ⟨_, _, rfl, Nat.le_refl _, by simp [maxLen], rfl, .inr ⟨_, _, rfl, by simp, fun i u hu => by rw [Nat.zero_add, cell_at (new_at rfl _)]; simpa using hu⟩⟩
    have VN := V3.later bN
    have QN := Q3.later bN
    have hTN := hT3.below bN
    have BN := B3.trans (bN.mono (by omega))
    have HG := Lib.hid hm
    have HG2 := Lib.hid hm2
    have hqN : ∀ q, VB (.slice A f.2.2.length c) f.2.2.length q → rv.ownBlock ≠ some q := fun q hq e => by
      have := hq1 q hq
      have := (own_base ho e).2
      omega
    have HQN := Lib.hid hqN
    clear hm hm2 hqN
    clear hf3 hs3 hq1
    go_wp2_with (at_builtin; refine wpList_append_src (by rfl) (.tmp 35) (.tmp 37) _ (by rfl) R 41 i0 _ 3 32 Tryd.underlying46 hi hz0 hz1 hz2 rfl (by omega) rv fs.length xs (by rfl) hown (.slice (some ⟨W3.heap.size, 0, none⟩) 1 1) 1 [.int .u8 k0, .int .u8 k1, .slice A f.2.2.length c] (by rfl) hsr (by simp [Value.oneCell']) (by simp only [maxLen]; omega) (by omega) (by simp; omega) ?_; intro v1 w2 ho1 hg1 hw1)
    obtain ⟨j', hj⟩ := hd14_of kind bx br bc be v1 _ _ _ _ _ _ _ _ _ _ _ _ _ _ _ _ _ _ _ _ _ _ _ _ _ _ _ _ _ _ _ _ _ _ _
    have hbg : ∀ g, rv.ownBlock = some g → B ≤ g := fun g hg => by have := (own_base ho hg).1; omega
    have hgs := hg1.size
    have hal : (W3.alloc (.cells #[.int .u8 k0, .int .u8 k1, .slice A f.2.2.length c] 41)).heap.size = W3.heap.size + 1 := by simp
    refine ⟨j', v1, hj, ⟨?_, ⟨(hg1.block _ (lt_of_at QN.at_) (fun e => QN.not_own hown e.symm)).trans QN.at_⟩, ⟨hB, hBx, hBr, by omega⟩, ⟨xs ++ [.int .u8 k0, .int .u8 k1, .slice A f.2.2.length c], ?_⟩, .inr ?_, ?_, hG⟩, below_own BN hg1 (by simp; omega) hbg⟩
    · rw [stepV, ← HR.out]
      exact ⟨(hg1.block _ (lt_of_at VN.at_) (fun e => VN.not_own hown e.symm)).trans VN.at_⟩
    · rw [stepV, ← HR.out, if_pos rfl]
      refine ⟨by simpa using ho1, ?_⟩
      have := (hfN.snoc hsN HQN.out).grow hg1 hw1
      rw [HG.out, HG2.out] at this
      exact this
    · rw [stepV, ← HR.out, if_pos rfl]; simp
    · exact hTN.belowB (below_own (Below.refl B _) hg1 (by simp; omega) hbg) hG
  · have her' : (er == 0) = false := by simpa using her
    go_wp2
    obtain ⟨j', hj⟩ := hd14_of kind bx br bc be rv _ _ _ _ _ _ _ _ _ _ _ _ _ _ _ _ _ _ _ _ _ _ _ _ _ _ _ _ _ _ _ _ _ _ _
    refine ⟨j', rv, hj, ⟨?_, Q3, ⟨hB, hBx, hBr, by omega⟩, ⟨xs, ?_⟩, ?_, hT3, hG⟩, B3⟩
    · rw [stepV, ← HR.out]; exact V3
    · rw [stepV, ← HR.out, if_neg her]; exact ⟨ho3, hf3⟩
    · rw [stepV, ← HR.out, if_neg her]; exact hne
end Go.Proofs.YtlanlkpamnoekaaDoor.Lk
namespace Go.Proofs.YtlanlkpamnoekaaDoor.Lk
open Go Go.Conc Go.RowKit Mem Rf Bv Crc Str
set_option maxRecDepth 100000

theorem Under.re {B : Nat} {G W : World} (h : Under B G W) (τ : Tape) (d : Nat) : Under B G (re W τ d) := ⟨h.os, h.output, h.size, h.block⟩

theorem sliceAt_see {A G : World} (hsz : A.heap.size = G.heap.size) (hc : ∀ a v, A.cell? a = some v → G.cell? a = some v) {sz n : Nat} {v : Value} {cs : List Value} (h : SliceAt A sz v n cs) : SliceAt G sz v n cs := by
  obtain ⟨Ap, c, rfl, h1, h2, h3, h4⟩ := h
  refine ⟨Ap, c, rfl, h1, h2, h3, h4.imp id ?_⟩
  rintro ⟨b, off, rfl, hlt, hcell⟩
  exact ⟨b, off, rfl, by omega, fun i u hu => hc _ _ (hcell i u hu)⟩
theorem tops_see {A G : World} (hsz : A.heap.size = G.heap.size) (hc : ∀ a v, A.cell? a = some v → G.cell? a = some v) (h : Tops A) : Tops G := ⟨hc _ _ h.c0, hc _ _ h.c1, by have := h.sz; omega⟩

theorem scrub_size (Z : Nat → Prop) (A : World) : (scrub Z A).heap.size = A.heap.size := by simp [scrub]
/-- A block of cells out of Y is the same there. -/
theorem scrub_cells {Y : Nat → Prop} {A : World} {i : Nat} {c : Array Value} {t : TypeId} {f : Nat × Nat} (h : A.heap[i]? = some (.cells c t f)) (hy : ¬ Y i) : (scrub (Zset Y A) A).heap[i]? = some (.cells c t f) := by
  rw [scrub_off]
  · exact h
  · rintro ⟨o, ho, hk⟩
    rw [h] at ho
    obtain rfl := Option.some.inj ho
    exact hk.elim (fun h => h) fun h => hy h.1

theorem own_see {A G : World} {R e sz n : Nat} {v : Value} {xs : List Value} (h : A.ownsRow R e sz v n xs) (hk : ∀ (i : Nat) (c : Array Value), R ≤ i → A.heap[i]? = some (.cells c e (0, 0)) → n * sz ≤ c.size → G.heap[i]? = some (.cells c e (0, 0))) : G.ownsRow R e sz v n xs := by
  refine ⟨h.1, h.2.imp id ?_⟩
  rintro ⟨g, cap, cur, h1, h2, h3, h4, h5, h6, h7⟩
  exact ⟨g, cap, cur, h1, h2, hk g cur h2 h3 (by rw [h6]; exact Nat.mul_le_mul_right _ h4), h4, h5, h6, h7⟩

theorem Head.see {B R bx br : Nat} {st : Lst × List Frm} {rv : Value} {A G : World} (h : Head B R bx br st rv A) (hs : A.heap.size = G.heap.size) (hc : ∀ a v, A.cell? a = some v → G.cell? a = some v)
    (hb : ∀ (i : Nat) (c : Array Value) (e : TypeId), i = bx ∨ i = br ∨ R ≤ i → A.heap[i]? = some (.cells c e (0, 0)) → 0 < c.size → G.heap[i]? = some (.cells c e (0, 0))) : Head B R bx br st rv G := by
  obtain ⟨h1, hr, h2, ⟨xs, h3, h4⟩, h5, h6, h7⟩ := h
  refine ⟨⟨hb _ _ _ (.inl rfl) h1.at_ (by simp)⟩, ⟨hb _ _ _ (.inr (.inl rfl)) hr.at_ (by simp)⟩, by rw [← hs]; exact h2, ⟨xs, ?_, h4.map fun _ _ hsl hq => ⟨sliceAt_see hs hc hsl, hq⟩⟩, h5, tops_see hs hc h6, h7⟩
  rcases h5 with rfl | h5
  · rcases h3.2 with ⟨_, h⟩ | ⟨_, _, _, e, _⟩
    · exact ⟨h3.1, .inl ⟨rfl, h⟩⟩
    · cases e
  · exact own_see h3 fun i c hi hh hn => hb _ _ _ (.inr (.inr hi)) hh (by omega)
theorem Head.down {Y : Nat → Prop} {B R bx br : Nat} {st : Lst × List Frm} {rv : Value} {A : World} (h : Head B R bx br st rv A) (hY : ∀ i, Y i → i < R ∧ i ≠ bx ∧ i ≠ br) : Head B R bx br st rv (scrub (Zset Y A) A) :=
  h.see (scrub_size _ _).symm (fun a v h => scrub_cell h) fun i c e hi hh _ => scrub_cells hh fun hy => by
    have := hY _ hy
    omega
theorem Head.up {Z : Nat → Prop} {B R bx br : Nat} {st : Lst × List Frm} {rv : Value} {G A : World} (h : Head B R bx br st rv G) (hR : Rel Z G A) : Head B R bx br st rv A :=
  h.see hR.size.symm (fun a v h => hR.cell_up h) fun i c e _ hh hn => hR.cells0 hh hn
theorem Head.heap {B R bx br : Nat} {st : Lst × List Frm} {rv : Value} {G A : World} (h : Head B R bx br st rv G) (he : A.heap = G.heap) : Head B R bx br st rv A :=
  h.see (by rw [he]) (fun a v h => by unfold World.cell? at *; rw [he]; exact h) fun i c e _ hh hn => by rw [he]; exact hh

theorem head_finish (j : Nat → Value) (kind : Int) (bx br bc be ce ee : Nat) (rv : Value) (k : List Item) (v : Value) :
    (fr14 j kind bx br bc be ce ee rv k).finish v = b14.at ⟨((se14 j kind bx br bc be ce ee rv).set 19 v).toArray, []⟩ (.inRegion ops514 [1, 2, 3] :: k) := by
  unfold fr14
  rw [Frame.finish_at]
  rfl

/-- From the select, served with a value, to the loop's head, alone. -/
theorem round_wins {T : Frame → List Frame → World → Prop} (j : Nat → Value) (kind : Int) (B R bx br bc be ce ee : Nat) (rv v : Value) (b : List (BitVec 8)) (st : Lst × List Frm) (fs : List Frame) (k : List Item) (w : World)
    (H : Head B R bx br st rv w) (hs : SliceAt w 1 v b.length (u8s b)) (hl : b.length ≤ 140737488355328) (hn : st.2.length ≤ 100000)
    (hT : ∀ j' rv' w', Head B R bx br (stepV kind st b) rv' w' → Below B w w' → T (b14.at ⟨(hd14 j' kind bx br bc be rv').toArray, []⟩ (.code loop14 :: .inLoop loop14 :: k)) fs w') :
    Wins Tryd.prog T ((fr14 j kind bx br bc be ce ee rv (.code sel14 :: .inBlock 1 :: .inLoop loop14 :: k)).finish (.tuple #[.int .i64 0, .bool true, v, .agg #[]])) fs w := by
  rw [head_finish]
  refine Wins.ops [1, 2, 3] [] rfl (all_r5 j kind bx br bc be ce ee rv 0 true v w (.inl rfl)) fun a' w' ⟨e1, e2⟩ => ?_
  subst e1 e2
  refine Wins.regionEnd ?_
  obtain ⟨j2, hj2, h19, h21⟩ : ∃ j2 : Nat → Value, (⟨(((((se14 j kind bx br bc be ce ee rv).set 19 (.tuple #[.int .i64 0, .bool true, v, .agg #[]])).set 20 (.int .i64 0)).set 21 (.bool (decide ((0 : Int) = 0)))).set 22 (.bool (decide ((0 : Int) = 1)))).toArray, []⟩ : Act) = ⟨(se14 j2 kind bx br bc be ce ee rv).toArray, []⟩ ∧
      j2 19 = .tuple #[.int .i64 0, .bool true, v, .agg #[]] ∧ j2 21 = .bool true :=
    ⟨fun i => (((((se14 j kind bx br bc be ce ee rv).set 19 (.tuple #[.int .i64 0, .bool true, v, .agg #[]])).set 20 (.int .i64 0)).set 21 (.bool (decide ((0 : Int) = 0)))).set 22 (.bool (decide ((0 : Int) = 1)))).getD i undef, rfl, rfl, rfl⟩
  rw [hj2]
  refine Wins.wp (all_round j2 kind B R bx br bc be ce ee rv v b st w' h19 h21 H hs hl hn) fun a2 w2 ⟨j', rv', e, hH, hB⟩ => ?_
  subst e
  exact Wins.inBlock (Wins.inLoop (Wins.stop (hT j' rv' w2 hH hB)))

/-- At the loop's head. -/
def AtHead (G0 : World) (kind : Int) (B R bx br bc be : Nat) (st : Lst × List Frm) (k : List Item) (f : Frame) (fs : List Frame) (W : World) : Prop :=
  fs = [] ∧ ∃ j rv, f = b14.at ⟨(hd14 j kind bx br bc be rv).toArray, []⟩ (.code loop14 :: .inLoop loop14 :: k) ∧ Head B R bx br st rv W ∧ Under B G0 W
theorem aim_head (G0 : World) (kind : Int) (B R bx br bc be : Nat) (st : Lst × List Frm) (k : List Item) : Aim (AtHead G0 kind B R bx br bc be st k) :=
  ⟨fun _ _ _ τ d ⟨h1, j, rv, h2, h3, h4⟩ => ⟨h1, j, rv, h2, h3.heap rfl, h4.re τ d⟩, fun f fs w ⟨_, j, rv, h2, _⟩ ch hm => by rw [h2] at hm; cases hm⟩

theorem nice_sel : niceCode Tryd.prog sel14 = true := by kernel_rfl
theorem nice_ops5 : ∀ i ∈ [1, 2, 3], ∀ o, ops514[i]? = some o → niceOp Tryd.prog o.op = true := by
  have h : ([1, 2, 3].all fun i => match ops514[i]? with | some o => niceOp Tryd.prog o.op | none => true) = true := by kernel_rfl
  intro i hi o ho
  have := List.all_eq_true.1 h i hi
  rw [ho] at this
  exact this
/-- The frame behind the select is nice. -/
theorem nf_sel {j : Nat → Value} {kind : Int} {bx br bc be ce ee : Nat} {rv v : Value} {k : List Item} (hk : ∀ it ∈ k, niceItem Tryd.prog it) : NF Tryd.prog ((fr14 j kind bx br bc be ce ee rv (.code sel14 :: .inBlock 1 :: .inLoop loop14 :: k)).finish v) := by
  rw [head_finish]
  refine ⟨fun it hit => ?_, fun d hd' => ?_, rfl, .inl rfl⟩
  · have hit' : it ∈ (Item.inRegion ops514 [1, 2, 3] :: Item.code sel14 :: Item.inBlock 1 :: Item.inLoop loop14 :: k) := hit
    simp only [List.mem_cons] at hit'
    rcases hit' with rfl | rfl | rfl | rfl | h
    · exact nice_ops5
    · exact nice_sel
    · trivial
    · exact nice14
    · exact hk it h
  · cases hd'

section
variable {bl bc be ce ee : Nat} {Ap : Option Addr} {n c b off : Nat} {vs : List Value} {s Bs : Nat} {hL : Lay14 bl bc be ce ee Ap n c b off vs s Bs}

theorem chans_of {us : List Value} {t : Trace} {gs : Array Goroutine} {A : World} {q : Nat → Nat} {Bq : Nat} (H : SX Tryd.prog (env14 hL) us q Bq t gs A) :
    (∃ cap buf cl a b tm, A.heap[ce]? = some (.chan cap buf cl a b tm)) ∧ ∃ cap buf cl a b tm, A.heap[ee]? = some (.chan cap buf cl a b tm) := by
  refine ⟨?_, ?_⟩
  · obtain ⟨k, hk⟩ := H.come
    exact ⟨_, _, _, _, _, _, hk⟩
  · obtain ⟨_, _, hk⟩ := H.me
    rcases hk with ⟨k, hk, _⟩ | ⟨_, k, hk, _⟩ <;> exact ⟨_, _, _, _, _, _, hk⟩

/-- From the select, served with a value, to the loop's head, beside the sender. -/
theorem to_head {cs : List Frame} {A : World} {m : Machine} {t : Trace} {us : List Value} (j : Nat → Value) (kind : Int) (B R bx br : Nat) (rv v : Value) (x : List (BitVec 8)) (st : Lst × List Frm) (k : List Item) (hk : ∀ it ∈ k, niceItem Tryd.prog it)
    (H : Head B R bx br st rv A) (hs : SliceAt A 1 v x.length (u8s x)) (hl : x.length ≤ 140737488355328) (hn : st.2.length ≤ 100000) (hY : ∀ i, Y14 bl bc be n b i → i < R ∧ i ≠ bx ∧ i ≠ br) (hce : B ≤ ce) (hee : B ≤ ee)
    (h : St (QS Tryd.prog (env14 hL) us) ((fr14 j kind bx br bc be ce ee rv (.code sel14 :: .inBlock 1 :: .inLoop loop14 :: k)).finish (.tuple #[.int .i64 0, .bool true, v, .agg #[]])) cs A m t) :
    Run Tryd.prog m t (To (QS Tryd.prog (env14 hL) us) fun f' cs' A' => cs' = cs ∧ ∃ j' rv', f' = b14.at ⟨(hd14 j' kind bx br bc be rv').toArray, []⟩ (.code loop14 :: .inLoop loop14 :: k) ∧ Head B R bx br (stepV kind st x) rv' A' ∧ Below B A A') := by
  obtain ⟨μ, gs, sl, rfl, h0, q, Bq, HS, hμ⟩ := id h
  have hK : KL bl bc be ce ee Ap n c b off vs A := HS.keep
  obtain ⟨hc, he⟩ := chans_of HS
  have HG := H.down hY
  have hsG : SliceAt (scrub (Zset (Y14 bl bc be n b) A) A) 1 v x.length (u8s x) := sliceAt_see (scrub_size _ _).symm (fun a v h => scrub_cell h) hs
  refine (lone_run (fs := []) (oth_snd (off14 hL hK hc he)) (fit _) (aim_head (scrub (Zset (Y14 bl bc be n b) A) A) kind B R bx br bc be (stepV kind st x) k) (Good0.si ⟨by simp, .inl (nf_sel hk)⟩ (scrub_inv _ A)) (scrub_rel _ A) (fun τ d => ?_) h).mono ?_
  · refine round_wins j kind B R bx br bc be ce ee rv v x st [] k _ (HG.heap rfl) hsG hl hn fun j' rv' w' hH hB => ⟨rfl, j', rv', rfl, hH, ?_⟩
    exact ⟨hB.os, hB.output, hB.size, hB.block⟩
  · rintro _ _ ⟨f', cs', A', ⟨fs', G', rfl, ⟨rfl, j', rv', rfl, hH, hU⟩, _, hR, _, ht, hV⟩, hSt⟩
    exact ⟨_, _, A', ⟨rfl, j', rv', rfl, hH.up hR, hU.lift hR ht hV fun i hi => by rcases hi with rfl | rfl <;> assumption⟩, hSt⟩
end
end Go.Proofs.YtlanlkpamnoekaaDoor.Lk
namespace Go.Proofs.YtlanlkpamnoekaaDoor.Lk
open Go Go.Conc Go.RowKit Mem Rf Bv Crc Str
set_option maxRecDepth 100000

theorem allV_cons (kind : Int) (st : Lst × List Frm) (x : List (BitVec 8)) (xs : List (List (BitVec 8))) : allV kind st (x :: xs) = allV kind (stepV kind st x) xs := rfl
theorem stepV_len (kind : Int) (st : Lst × List Frm) (x : List (BitVec 8)) : (stepV kind st x).2.length ≤ st.2.length + 1 := by
  unfold stepV
  split <;> simp

section
variable {bl bc be ce ee : Nat} {Ap : Option Addr} {n c b off : Nat} {vs : List Value} {s Bs : Nat} {hL : Lay14 bl bc be ce ee Ap n c b off vs s Bs}

/-- What the select leaves. -/
theorem held_below {Y : Nat → Prop} {E : Env} {A A' : World} {B : Nat} (hH : Held E A A') (hO : E.Off (Zset Y A)) (ht : A'.tape = A.tape) (hs : A'.heap.size = A.heap.size) (hc : B ≤ E.ce) (he : B ≤ E.ee) : Below B A A' := by
  have hR := hH.1 _ hO _ (scrub_rel Y A)
  exact ⟨hR.os, ht, hR.out, by rw [hs]; exact Nat.le_refl _, fun k hk => hH.2 k (by omega) (by omega)⟩

theorem loop_comp (A0 : World) (kind : Int) (R bx br : Nat) (k : List Item) (cs : List Frame) (hk : ∀ it ∈ k, niceItem Tryd.prog it) (hY : ∀ i, Y14 bl bc be n b i → i < R ∧ i ≠ bx ∧ i ≠ br) (hce : A0.heap.size ≤ ce) (hee : A0.heap.size ≤ ee) :
    ∀ (us : List Value) (xs : List (List (BitVec 8))) (st : Lst × List Frm) (j : Nat → Value) (rv : Value) (A : World) (m : Machine) (t : Trace), Els A0 us xs → st.2.length + us.length ≤ 100000 → Head A0.heap.size R bx br st rv A → Below A0.heap.size A0 A →
      St (QS Tryd.prog (env14 hL) us) (b14.at ⟨(hd14 j kind bx br bc be rv).toArray, []⟩ (.code loop14 :: .inLoop loop14 :: k)) cs A m t →
      Run Tryd.prog m t (To (QL Tryd.prog) fun f' cs' A' => cs' = cs ∧ ∃ j' rv', f' = (fr14 j' kind bx br bc be ce ee rv' (.code sel14 :: .inBlock 1 :: .inLoop loop14 :: k)).finish (.tuple #[.int .i64 1, .bool false, .slice none 0 0, .agg #[]]) ∧
        Head A0.heap.size R bx br (allV kind st xs) rv' A' ∧ Below A0.heap.size A0 A') := by
  have hk' : ∀ it ∈ Item.inLoop loop14 :: k, niceItem Tryd.prog it := fun it hit => by
    rcases List.mem_cons.1 hit with rfl | h
    · exact nice14
    · exact hk it h
  intro us
  induction us with
  | nil =>
    intro xs st j rv A m t hE hn H hB h
    obtain rfl : xs = [] := by cases xs <;> first | rfl | exact hE.elim
    refine (to_sel j kind bx br rv (.inLoop loop14 :: k) hk' h).bind ?_
    rintro m1 t1 ⟨f1, cs1, A1, ⟨hb1, rfl, rfl, G', hG, hR, ht, hV⟩, hSt⟩
    have H1 : Head A0.heap.size R bx br st rv A1 := ((H.down hY).heap hG).up hR
    have B1 := hB.trans (hb1 A0.heap.size hce hee)
    obtain ⟨μ, gs, sl, e, h0, q, Bq, HS, hμ⟩ := id hSt
    obtain ⟨hc, he⟩ := chans_of HS
    have hO := off14 hL HS.keep hc he
    refine (served14 (k := .code sel14 :: .inBlock 1 :: .inLoop loop14 :: k) j kind bx br rv hSt).bind ?_
    rintro m2 t2 ⟨A2, s2, tp2, hH, hcase⟩
    have H2 : Head A0.heap.size R bx br st rv A2 := (H1.down hY).up (hH.1 _ hO _ (scrub_rel _ A1))
    have B2 := B1.trans (held_below hH hO tp2 s2 hce hee)
    rcases hcase with ⟨v, rest, e, _⟩ | ⟨_, hK, hSt2⟩
    · cases e
    · exact .here ⟨_, _, A2, ⟨rfl, j, rv, rfl, H2, B2⟩, hSt2⟩
  | cons u us ih =>
    intro xs st j rv A m t hE hn H hB h
    obtain ⟨x, xs, rfl⟩ : ∃ x xs', xs = x :: xs' := by cases xs <;> first | exact ⟨_, _, rfl⟩ | exact hE.elim
    obtain ⟨e1, e2, e3⟩ := hE
    refine (to_sel j kind bx br rv (.inLoop loop14 :: k) hk' h).bind ?_
    rintro m1 t1 ⟨f1, cs1, A1, ⟨hb1, rfl, rfl, G', hG, hR, ht, hV⟩, hSt⟩
    have H1 : Head A0.heap.size R bx br st rv A1 := ((H.down hY).heap hG).up hR
    have B1 := hB.trans (hb1 A0.heap.size hce hee)
    obtain ⟨μ, gs, sl, e, h0, q, Bq, HS, hμ⟩ := id hSt
    obtain ⟨hc, he⟩ := chans_of HS
    have hO := off14 hL HS.keep hc he
    refine (served14 (k := .code sel14 :: .inBlock 1 :: .inLoop loop14 :: k) j kind bx br rv hSt).bind ?_
    rintro m2 t2 ⟨A2, s2, tp2, hH, hcase⟩
    have H2 : Head A0.heap.size R bx br st rv A2 := (H1.down hY).up (hH.1 _ hO _ (scrub_rel _ A1))
    have B2 := B1.trans (held_below hH hO tp2 s2 hce hee)
    rcases hcase with ⟨v, rest, e, hSt2⟩ | ⟨e, _⟩
    · obtain ⟨rfl, rfl⟩ := List.cons.inj e
      refine (to_head j kind A0.heap.size R bx br rv u x st k hk H2 (e1.below B2 (Nat.le_refl _)) e2 (by omega) hY hce hee hSt2).bind ?_
      rintro m3 t3 ⟨f3, cs3, A3, ⟨rfl, j', rv', rfl, H3, B3⟩, hSt3⟩
      have hlen := stepV_len kind st x
      rw [allV_cons]
      exact ih xs (stepV kind st x) j' rv' A3 m3 t3 e3 (by simp only [List.length_cons] at hn; omega) H3 (B2.trans B3) hSt3
    · cases e
end
end Go.Proofs.YtlanlkpamnoekaaDoor.Lk
namespace Go.Proofs.YtlanlkpamnoekaaDoor.Lk
open Go Go.Conc Go.RowKit Mem Rf Bv Crc Str
set_option maxRecDepth 100000
attribute [local go_sem ↓] run_max2 run_min2

theorem all_ret (j : Nat → Value) (kind : Int) (B R bx br bc be ce ee : Nat) (rv : Value) (st : Lst × List Frm) (w : World) (h21 : j 21 = .bool false) (h22 : j 22 = .bool true) (H : Head B R bx br st rv w) :
    sel14.wp Tryd.prog (nrt (fun _ _ => False) fun a' w' => LVar w' br st.1.1 st.1.2.1 st.1.2.2 ∧ a'.tmps.getD 6 undef = .pointer (some ⟨br, 0, none⟩) ∧ a'.tmps.getD 7 undef = rv ∧ a'.defers = [] ∧ FrsAt w' rv st.2 ∧ Below B w w') ⟨(se14 j kind bx br bc be ce ee rv).toArray, []⟩ w := by
  unfold sel14 loop14 body14
  simp only [Tryd.f14, Option.getD_some]
  obtain ⟨x, fs⟩ := st
  obtain ⟨V0, Q0, ⟨hB, hBx, hBr, hR⟩, ⟨xs, ho, hf⟩, hne, hT, hG⟩ := H
  obtain ⟨s, q, e⟩ := x
  simp only at V0 ho hf
  simp only [se14, h21, h22]
  have x0 := V0.c0
  have x1 := V0.c1
  have x2 := V0.c2
  have q0 := Q0.c0
  have q1 := Q0.c1
  have q2 := Q0.c2
  have e0 := free_at Q0.at_ 0
  have e1 := free_at Q0.at_ 1
  have e2 := free_at Q0.at_ 2
  have hk3 := set3_off w br (.int .i64 s) (.int .i64 q) (.int .i64 e)
  have V3 := Q0.set3 s q e
  have hs3 := sliceAt_of_own (own_later (w' := ((w.setCell ⟨br, 0, none⟩ (.int .i64 s)).setCell ⟨br, 1, none⟩ (.int .i64 q)).setCell ⟨br, 2, none⟩ (.int .i64 e)) ho (fun g hg => hk3 g (fun e => Q0.not_own ho (e ▸ hg))))
  have hf3 := (hf.beside (w' := ((w.setCell ⟨br, 0, none⟩ (.int .i64 s)).setCell ⟨br, 1, none⟩ (.int .i64 q)).setCell ⟨br, 2, none⟩ (.int .i64 e)) Q0 (by simp) hk3).any
  have B3 := (((Below.refl B w).setCell (p := ⟨br, 0, none⟩) (by simp; omega) (.int .i64 s)).setCell (p := ⟨br, 1, none⟩) (by simp; omega) (.int .i64 q)).setCell (p := ⟨br, 2, none⟩) (by simp; omega) (.int .i64 e)
  have H1 := Lib.hid V3
  have H2 := Lib.hid hs3
  have H3 := Lib.hid hf3
  have H4 := Lib.hid B3
  clear V3 hs3 hf3 B3 hk3 ho hf
  go_wp2
  exact ⟨H1.out, rfl, rfl, rfl, ⟨xs, H2.out, H3.out⟩, H4.out⟩

theorem all_leave {a : Act} {br : Nat} {rv x y z : Value} {f : Nat × Nat} {todo : List Item} {w : World} (h6 : a.tmps.getD 6 undef = .pointer (some ⟨br, 0, none⟩)) (h7 : a.tmps.getD 7 undef = rv) (hd : a.defers = []) (hg : w.heap[br]? = some (.cells #[x, y, z] 31 f)) :
    ({ b14.at a todo with mode := .returning } : Frame).leaving Tryd.prog w (.returned (.tuple #[.agg #[x, y, z], rv])) := by
  refine ⟨rfl, hd, rfl, _, Tryd.func14, ?_⟩
  have h1 : a.tmps[6]?.getD undef = .pointer (some ⟨br, 0, none⟩) := by simpa using h6
  have h2 : a.tmps[7]?.getD undef = rv := by simpa using h7
  simp [results, Tryd.f14, Frame.at, h1, h2, asAddr, load_lk hg]

/-- From the select, served with the end, to the caller, alone. -/
theorem ret_wins {T : Frame → List Frame → World → Prop} (j : Nat → Value) (kind : Int) (B R bx br bc be ce ee : Nat) (rv : Value) (st : Lst × List Frm) (c : Frame) (fs : List Frame) (k : List Item) (w : World) (H : Head B R bx br st rv w)
    (hT : ∀ w', FrsAt w' rv st.2 → Below B w w' → T (c.finish (.tuple #[lkv st.1, rv])) fs w') :
    Wins Tryd.prog T ((fr14 j kind bx br bc be ce ee rv (.code sel14 :: k)).finish (.tuple #[.int .i64 1, .bool false, .slice none 0 0, .agg #[]])) (c :: fs) w := by
  rw [head_finish]
  refine Wins.ops [1, 2, 3] [] rfl (all_r5 j kind bx br bc be ce ee rv 1 false (.slice none 0 0) w (.inr rfl)) fun a' w' ⟨e1, e2⟩ => ?_
  subst e1 e2
  refine Wins.regionEnd ?_
  obtain ⟨j2, hj2, h21, h22⟩ : ∃ j2 : Nat → Value, (⟨(((((se14 j kind bx br bc be ce ee rv).set 19 (.tuple #[.int .i64 1, .bool false, .slice none 0 0, .agg #[]])).set 20 (.int .i64 1)).set 21 (.bool (decide ((1 : Int) = 0)))).set 22 (.bool (decide ((1 : Int) = 1)))).toArray, []⟩ : Act) = ⟨(se14 j2 kind bx br bc be ce ee rv).toArray, []⟩ ∧
      j2 21 = .bool false ∧ j2 22 = .bool true :=
    ⟨fun i => (((((se14 j kind bx br bc be ce ee rv).set 19 (.tuple #[.int .i64 1, .bool false, .slice none 0 0, .agg #[]])).set 20 (.int .i64 1)).set 21 (.bool (decide ((1 : Int) = 0)))).set 22 (.bool (decide ((1 : Int) = 1)))).getD i undef, rfl, rfl, rfl⟩
  rw [hj2]
  refine Wins.wpr (all_ret j2 kind B R bx br bc be ce ee rv st w' h21 h22 H) (fun _ _ h => h.elim) fun a2 w2 todo ⟨g1, g2, g3, g4, g5, g6⟩ => ?_
  exact Wins.leave (all_leave g2 g3 g4 g1.at_) (Wins.stop (hT w2 g5 g6))

/-- All has returned to its caller. -/
def AtRet (G0 : World) (B : Nat) (c : Frame) (st : Lst × List Frm) (f : Frame) (fs : List Frame) (W : World) : Prop :=
  fs = [] ∧ ∃ rv, f = c.finish (.tuple #[lkv st.1, rv]) ∧ FrsAt W rv st.2 ∧ Under B G0 W
theorem FrsAt.see {A G : World} {v : Value} {l : List Frm} (h : FrsAt A v l) (hs : A.heap.size = G.heap.size) (hc : ∀ a v, A.cell? a = some v → G.cell? a = some v) : FrsAt G v l := by
  obtain ⟨xs, h1, h2⟩ := h
  exact ⟨xs, sliceAt_see hs hc h1, h2.map fun _ _ hsl hq => ⟨sliceAt_see hs hc hsl, hq⟩⟩
theorem finish_mode (c : Frame) (v : Value) : (c.finish v).mode = c.mode := by
  unfold Frame.finish
  split <;> rfl
theorem aim_ret (G0 : World) (B : Nat) (c : Frame) (st : Lst × List Frm) (hc : NF Tryd.prog c) : Aim (AtRet G0 B c st) :=
  ⟨fun _ _ _ τ d ⟨h1, rv, h2, h3, h4⟩ => ⟨h1, rv, h2, FrsAt.see h3 rfl fun _ _ h => h, h4.re τ d⟩, fun f fs w ⟨_, rv, h2, _⟩ ch hm => by
    rw [h2, finish_mode] at hm
    rcases hc.mode with e | e <;> rw [e] at hm <;> cases hm⟩

/-- From the select, served with the end, to the caller, beside leavers. -/
theorem to_ret {cs : List Frame} {c : Frame} {A : World} {m : Machine} {t : Trace} (j : Nat → Value) (kind : Int) (B R bx br bc be ce ee : Nat) (rv : Value) (st : Lst × List Frm) (k : List Item) (hk : ∀ it ∈ k, niceItem Tryd.prog it) (hc : NF Tryd.prog c)
    (H : Head B R bx br st rv A) (h : St (QL Tryd.prog) ((fr14 j kind bx br bc be ce ee rv (.code sel14 :: .inBlock 1 :: .inLoop loop14 :: k)).finish (.tuple #[.int .i64 1, .bool false, .slice none 0 0, .agg #[]])) (c :: cs) A m t) :
    Run Tryd.prog m t (To (QL Tryd.prog) fun f' cs' A' => cs' = cs ∧ ∃ rv', f' = c.finish (.tuple #[lkv st.1, rv']) ∧ FrsAt A' rv' st.2 ∧ Below B A A') := by
  have HG := H.down (Y := fun _ => False) fun _ h => h.elim
  refine (lone_run0 (bad := 14) (fun Z => fit Z) (aim_ret (scrub (Zset (fun _ => False) A) A) B c st hc) (fs := [c]) ⟨by simpa using hc, .inl (nf_sel hk)⟩ (fun τ d => ?_) h).mono ?_
  · refine ret_wins j kind B R bx br bc be ce ee rv st c [] _ _ (HG.heap rfl) fun w' hf hB => ⟨rfl, rv, rfl, hf, ?_⟩
    exact ⟨hB.os, hB.output, hB.size, hB.block⟩
  · rintro _ _ ⟨f', cs', A', ⟨fs', G', rfl, ⟨rfl, rv', rfl, hF, hU⟩, _, hR, _, ht, hV⟩, hSt⟩
    exact ⟨_, _, A', ⟨rfl, rv', rfl, FrsAt.see hF hR.size.symm (fun a v h => hR.cell_up h), hU.lift hR ht (V := fun _ => False) (fun i hi _ => hV i hi) fun _ h => h.elim⟩, hSt⟩
end Go.Proofs.YtlanlkpamnoekaaDoor.Lk
namespace Go.Proofs.YtlanlkpamnoekaaDoor.Lk
open Go Go.Conc Go.RowKit Mem Rf Bv Crc Str
set_option maxRecDepth 100000

theorem at14_head (L lv : Value) (kind : Int) (bx bl br bc be ce ee : Nat) : ∃ j, at14 L kind lv bx bl br bc be ce ee = ⟨(hd14 j kind bx br bc be (.slice none 0 0)).toArray, []⟩ :=
  ⟨fun i => (at14 L kind lv bx bl br bc be ce ee).tmps.getD i undef, rfl⟩
theorem nf_go {a : Act} (hd : a.defers = []) : NF Tryd.prog (b14.at a (.inRegion ops214 [] :: [.code (.block 0 (.loop loop14))])) := by
  refine ⟨fun it hit => ?_, fun d hd' => ?_, rfl, .inl rfl⟩
  · have hit' : it ∈ [Item.inRegion ops214 [], .code (.block 0 (.loop loop14))] := hit
    simp only [List.mem_cons, List.not_mem_nil, or_false] at hit'
    rcases hit' with rfl | rfl
    · intro i hi
      cases hi
    · exact nice14
  · have : d ∈ a.defers := hd'
    rw [hd] at this
    cases this
theorem nice_k : ∀ it ∈ [Item.inBlock 0], niceItem Tryd.prog it := by
  intro it hit
  simp only [List.mem_cons, List.not_mem_nil, or_false] at hit
  subst hit
  trivial

section
variable {bl bc be ce ee : Nat} {Ap : Option Addr} {n c b off : Nat} {vs : List Value} {s Bs : Nat} {hL : Lay14 bl bc be ce ee Ap n c b off vs s Bs}
/-- Behind the go statement, to the loop's head. -/
theorem to_first {cs : List Frame} {A : World} {m : Machine} {t : Trace} {us : List Value} (L lv : Value) (kind : Int) (B R bx br : Nat) (st : Lst × List Frm) (H : Head B R bx br st (.slice none 0 0) A) (hY : ∀ i, Y14 bl bc be n b i → i < R ∧ i ≠ bx ∧ i ≠ br) (hce : B ≤ ce) (hee : B ≤ ee)
    (h : St (QS Tryd.prog (env14 hL) us) (b14.at (at14 L kind lv bx bl br bc be ce ee) (.inRegion ops214 [] :: [.code (.block 0 (.loop loop14))])) cs A m t) :
    Run Tryd.prog m t (To (QS Tryd.prog (env14 hL) us) fun f' cs' A' => cs' = cs ∧ ∃ j' rv', f' = b14.at ⟨(hd14 j' kind bx br bc be rv').toArray, []⟩ (.code loop14 :: .inLoop loop14 :: [.inBlock 0]) ∧ Head B R bx br st rv' A' ∧ Below B A A') := by
  obtain ⟨μ, gs, sl, rfl, h0, q, Bq, HS, hμ⟩ := id h
  have hK : KL bl bc be ce ee Ap n c b off vs A := HS.keep
  obtain ⟨hc, he⟩ := chans_of HS
  have HG := H.down hY
  refine (lone_run (fs := []) (oth_snd (off14 hL hK hc he)) (fit _) (aim_head (scrub (Zset (Y14 bl bc be n b) A) A) kind B R bx br bc be st [.inBlock 0]) (Good0.si ⟨by simp, .inl (nf_go rfl)⟩ (scrub_inv _ A)) (scrub_rel _ A) (fun τ d => ?_) h).mono ?_
  · obtain ⟨j, hj⟩ := at14_head L lv kind bx bl br bc be ce ee
    rw [hj]
    refine Wins.regionEnd (Wins.block (Wins.loop (Wins.stop ⟨rfl, j, _, rfl, HG.heap rfl, ?_⟩)))
    exact ⟨rfl, rfl, Nat.le_refl _, fun _ _ => rfl⟩
  · rintro _ _ ⟨f', cs', A', ⟨fs', G', rfl, ⟨rfl, j', rv', rfl, hH, hU⟩, _, hR, _, ht, hV⟩, hSt⟩
    exact ⟨_, _, A', ⟨rfl, j', rv', rfl, hH.up hR, hU.lift hR ht hV fun i hi => by rcases hi with rfl | rfl <;> assumption⟩, hSt⟩
end

theorem below_at_d {B : Nat} {A A' : World} (h : Below B A A') (d : Nat) : Below B A (A'.at d) := ⟨h.os, h.tape, h.output, h.size, h.block⟩

/-- ████ link.All, beside leavers. ████ -/
theorem all_comp {cs : List Frame} {cf : Frame} {A : World} {m : Machine} {t : Trace} (x : Lst) (kind : Int) (lv : Value) (vs : List Value) (xs : List (List (BitVec 8))) (hc : NF Tryd.prog cf) (hT : Tops A) (hs : SliceAt A 1 lv vs.length vs) (hE : Els A vs xs) (hn : vs.length ≤ 100000)
    (h : St (QL Tryd.prog) (Frame.enter Tryd.prog 14 #[lkv x, .int .u8 kind, lv] .normal) (cf :: cs) A m t) :
    Run Tryd.prog m t (To (QL Tryd.prog) fun f' cs' A' => cs' = cs ∧ ∃ rv, f' = cf.finish (.tuple #[lkv (allV kind (x, []) xs).1, rv]) ∧ FrsAt A' rv (allV kind (x, []) xs).2 ∧ Below A.heap.size A A') := by
  obtain ⟨Ap, c, rfl, h1, h2, h3, h4⟩ := hs
  obtain ⟨n, hnv⟩ : ∃ n, vs.length = n := ⟨_, rfl⟩
  rw [hnv] at h h1 h3 h4
  obtain ⟨b, off, hA, hb, hel⟩ : ∃ b off, (0 < n → Ap = some ⟨b, off, none⟩) ∧ (0 < n → b < A.heap.size) ∧ ∀ i u, vs[i]? = some u → A.cell? ⟨b, off + i, none⟩ = some u := by
    rcases h4 with h4 | ⟨b, off, e, hlt, hcl⟩
    · refine ⟨0, 0, fun h => by omega, fun h => by omega, fun i u hu => ?_⟩
      have := (List.getElem?_eq_some_iff.1 hu).1
      omega
    · exact ⟨b, off, fun _ => e, fun _ => hlt, hcl⟩
  refine (to_go x.1 x.2.1 x.2.2 kind Ap n c h).bind ?_
  rintro m1 t1 ⟨f1, cs1, A1, ⟨rfl, bx, bl, br, bc, be, ce, ee, rfl, hE0, hB1⟩, hSt1⟩
  refine (hired14 hE0 hA hnv ⟨h1, by simpa [maxLen] using h2⟩ hb hel hSt1).bind ?_
  rintro m2 t2 ⟨s', Bs, hL, d, hSt2⟩
  obtain ⟨a1, a2, a3⟩ := hE0.at_
  obtain ⟨n1, n2, n3, n4⟩ := hE0.new
  have hT1 := hT.below hB1
  have lt_ : ∀ {i : Nat} {o : Obj}, A1.heap[i]? = some o → i < A1.heap.size := fun h => (Array.getElem?_eq_some_iff.1 h).1
  have l1 := lt_ hE0.come
  have l2 := lt_ hE0.end_
  have l3 := lt_ hE0.r.at_
  have H : Head A.heap.size A1.heap.size bx br (x, []) (.slice none 0 0) (A1.at d) :=
    ⟨⟨hE0.x.at_⟩, ⟨hE0.r.at_⟩, ⟨by omega, by omega, l3, Nat.le_refl _⟩, ⟨[], own_nil _ _ _ _, rfl⟩, .inl rfl, ⟨hT1.c0, hT1.c1, hT1.sz⟩, hT.sz⟩
  have hY : ∀ i, Y14 bl bc be n b i → i < A1.heap.size ∧ i ≠ bx ∧ i ≠ br := by
    rintro i (rfl | rfl | rfl | ⟨hn0, rfl⟩)
    · omega
    · omega
    · omega
    · have := hb hn0
      have := hB1.size
      omega
  refine (to_first (lkv x) (.slice Ap n c) kind A.heap.size A1.heap.size bx br (x, []) H hY (by omega) (by omega) hSt2).bind ?_
  rintro m3 t3 ⟨f3, cs3, A3, ⟨rfl, j3, rv3, rfl, H3, B3⟩, hSt3⟩
  have B13 := (below_at_d hB1 d).trans B3
  refine (loop_comp A kind A1.heap.size bx br [.inBlock 0] _ nice_k hY (by omega) (by omega) vs xs (x, []) j3 rv3 A3 m3 t3 hE (by simp; omega) H3 B13 hSt3).bind ?_
  rintro m4 t4 ⟨f4, cs4, A4, ⟨rfl, j4, rv4, rfl, H4, B4⟩, hSt4⟩
  refine (to_ret j4 kind A.heap.size A1.heap.size bx br bc be ce ee rv4 _ [.inBlock 0] nice_k hc H4 hSt4).mono ?_
  rintro m5 t5 ⟨f5, cs5, A5, ⟨rfl, rv5, rfl, hF, B5⟩, hSt5⟩
  exact ⟨_, _, A5, ⟨rfl, rv5, rfl, hF, B4.trans B5⟩, hSt5⟩
end Go.Proofs.YtlanlkpamnoekaaDoor.Lk
namespace Go.Proofs.YtlanlkpamnoekaaDoor
open Go Go.Conc Go.RowKit Rf Mem Bv Crc Str Lk Bits
set_option maxRecDepth 100000

theorem Sl.put {a : Act} {n : Nat} {l : List (Nat × Value)} (h : Sl a n l) (d : Nat) (v : Value) (hd : d < n) (hl : ∀ p ∈ l, p.1 ≠ d) : Sl (a.put (some d) v) n ((d, v) :: l) := by
  obtain ⟨tm, df⟩ := a
  have hs : tm.size = n := h.size
  refine ⟨h.defers, by simp [Act.put, hs], fun p hp => ?_⟩
  simp only [List.mem_cons] at hp
  rcases hp with rfl | hp
  · simp [Act.put, hs, hd]
  · have := hl p hp
    simp only [Act.put]
    rw [Array.getElem?_setIfInBounds_ne (fun e => this e.symm)]
    exact h.at_ p hp
theorem Els.see {A G : World} (hs : A.heap.size = G.heap.size) (hc : ∀ a v, A.cell? a = some v → G.cell? a = some v) : ∀ {us : List Value} {xs : List (List (BitVec 8))}, Els A us xs → Els G us xs
  | [], [], _ => trivial
  | _ :: _, _ :: _, h => ⟨sliceAt_see hs hc h.1, h.2.1, Els.see hs hc h.2.2⟩
/-- What blocks hold is seen elsewhere. -/
structure Sees (A G : World) : Prop where
  size : A.heap.size = G.heap.size
  cell : ∀ a v, A.cell? a = some v → G.cell? a = some v
  block : ∀ (i : Nat) (c : Array Value) (e : TypeId), A.heap[i]? = some (.cells c e (0, 0)) → 0 < c.size → G.heap[i]? = some (.cells c e (0, 0))
theorem Sees.up {Z : Nat → Prop} {G A : World} (h : Rel Z G A) : Sees G A := ⟨h.size.symm, fun _ _ hc => h.cell_up hc, fun _ _ _ hh hn => h.cells0 hh hn⟩
theorem Sees.down (A : World) : Sees A (scrub (Zset (fun _ => False) A) A) := ⟨(scrub_size _ _).symm, fun _ _ hc => scrub_cell hc, fun _ _ _ hh _ => scrub_cells hh fun h => h⟩
theorem Sees.heap {A G : World} (he : G.heap = A.heap) : Sees A G := ⟨by rw [he], fun a v h => by unfold World.cell? at *; rw [he]; exact h, fun i c e hh _ => by rw [he]; exact hh⟩
theorem Sees.lv {A G : World} (s : Sees A G) {g : Nat} {x q e : Int} (h : LVar A g x q e) : LVar G g x q e := ⟨s.block _ _ _ h.at_ (by simp)⟩
theorem Sees.ly {A G : World} (s : Sees A G) {g : Nat} {y : Nat → Value} {tl : Int} (h : LY A g y tl) : LY G g y tl := ⟨s.block _ _ _ h.at_ (by simp)⟩
theorem Sees.iv {A G : World} (s : Sees A G) {g : Nat} {a b c d : U32} (h : IVar A g a b c d) : IVar G g a b c d := ⟨s.block _ _ _ h.at_ (by simp)⟩
theorem Sees.sl {A G : World} (s : Sees A G) {sz n : Nat} {v : Value} {cs : List Value} (h : SliceAt A sz v n cs) : SliceAt G sz v n cs := sliceAt_see s.size s.cell h
theorem Sees.fv {A G : World} (s : Sees A G) {g : Nat} {f : Frm} (h : FV A g f) : FV G g f := by
  obtain ⟨Ap, c, h1, h2⟩ := h.out
  exact ⟨Ap, c, s.block _ _ _ h1 (by simp), s.sl h2⟩
theorem Sees.tops {A G : World} (s : Sees A G) (h : Tops A) : Tops G := tops_see s.size s.cell h
theorem Sees.els {A G : World} (s : Sees A G) {us : List Value} {xs : List (List (BitVec 8))} (h : Els A us xs) : Els G us xs := Els.see s.size s.cell h
theorem Sees.wm {A G : World} (s : Sees A G) {g1 g2 g3 g5 g8 g17 : Nat} (h : WM A g1 g2 g3 g5 g8 g17) : WM G g1 g2 g3 g5 g8 g17 := ⟨s.ly h.y, s.lv h.l2, s.fv h.f3, s.lv h.l5, s.lv h.l8, s.lv h.l17, s.tops h.t⟩

namespace Lk
noncomputable def b10 : Frame := base 10
noncomputable def rest8 : Code := .seq (rg 9) (.seq (rg 10) (.seq (rg 11) (.seq (rg 12) (.seq (rg 13) .ret))))
/-- wakes stands where it calls All. -/
def AtAll10 (G0 : World) (f : Frame) (fs : List Frame) (W : World) : Prop := ∃ (a : Act) (gv g1 g2 g3 g5 g8 g17 : Nat) (A1 : Option Addr) (c1 : Nat) (A2 : Option Addr) (c2 : Nat) (A3 : Option Addr) (c3 : Nat),
  fs = [b10.at a (.inRegion ops8 [5, 6, 7, 8, 9, 10, 11] :: [.code rest8])] ∧ f = Frame.enter Tryd.prog 14 #[lkv (-1, 65535, 0), .int .u8 2, .slice (some ⟨gv, 0, none⟩) 4 4] .normal ∧ Sl a 190 [(0, .bool false), (1, .pointer (some ⟨g1, 0, none⟩)), (2, .pointer (some ⟨g2, 0, none⟩)), (3, .pointer (some ⟨g3, 0, none⟩)), (4, .int .i64 0), (5, .pointer (some ⟨g5, 0, none⟩)), (7, .int .i64 290), (8, .pointer (some ⟨g8, 0, none⟩)), (10, .int .i64 0), (13, .int .i64 41), (16, .int .i64 40), (17, .pointer (some ⟨g17, 0, none⟩))] ∧ WM W g1 g2 g3 g5 g8 g17 ∧
  SliceAt W 1 (.slice (some ⟨gv, 0, none⟩) 4 4) 4 [.slice A1 (panelV 1#8).length c1, .slice A2 (panelV 1#8).length c2, .slice none 0 0, .slice A3 (panelV 2#8).length c3] ∧ Els W [.slice A1 (panelV 1#8).length c1, .slice A2 (panelV 1#8).length c2, .slice none 0 0, .slice A3 (panelV 2#8).length c3] [panelV 1#8, panelV 1#8, [], panelV 2#8] ∧ Under G0.heap.size G0 W
theorem AtAll10.see {G0 : World} {f : Frame} {fs : List Frame} {W W' : World} (h : AtAll10 G0 f fs W) (s : Sees W W') (ho : W'.os = W.os) (hp : W'.output = W.output) (hh : W'.heap = W.heap) : AtAll10 G0 f fs W' := by
  obtain ⟨a, gv, g1, g2, g3, g5, g8, g17, A1, c1, A2, c2, A3, c3, h1, h2, h3, h4, h5, h6, h7⟩ := h
  exact ⟨a, gv, g1, g2, g3, g5, g8, g17, A1, c1, A2, c2, A3, c3, h1, h2, h3, s.wm h4, s.sl h5, s.els h6, ⟨ho.trans h7.os, hp.trans h7.output, by rw [hh]; exact h7.size, fun k hk => by rw [hh]; exact h7.block k hk⟩⟩
theorem aim_all10 (G0 : World) : Aim (AtAll10 G0) := by
  refine ⟨fun f fs W τ d h => h.see (Sees.heap rfl) rfl rfl rfl, fun f fs w h ch hm => ?_⟩
  obtain ⟨_, _, _, _, _, _, _, _, _, _, _, _, _, _, _, h2, _⟩ := h
  rw [h2] at hm
  simp [Frame.enter] at hm

theorem enter10 : Frame.enter Tryd.prog 10 #[] .normal = b10.at ⟨#[] ++ Array.replicate 190 undef, []⟩ [.code body10] := by
  rw [enter_at (c := body10) _ Tryd.func10 rfl, Tryd.ntmps10]
  rfl

theorem wakes_wins {T : Frame → List Frame → World → Prop} (fs : List Frame) (G : World) (hT : Tops G)
    (h : ∀ f fr W, AtAll10 G f [fr] W → T f (fr :: fs) W) : Wins Tryd.prog T (Frame.enter Tryd.prog 10 #[] .normal) fs G := by
  rw [enter10, body10_eq]
  refine Wins.seq (Wins.wp (wk0 _ ⟨rfl, by simp, by simp⟩ G) fun a0 W0 ⟨s0, e0⟩ => ?_)
  subst e0
  refine Wins.seq (Wins.wp (wk1 a0 s0 W0) fun a1 W1 ⟨s1, y1', b1⟩ => ?_)
  refine Wins.seq (Wins.wp (wk2 a1 W0.heap.size s1 W1 (hT.below b1)) fun a2 W2 ⟨g2, g3, s2, l2, f3, b2⟩ => ?_)
  have B2 := below_step b1 b2
  refine Wins.seq (Wins.wp (wk3 a2 W0.heap.size g2 g3 s2 W2 (hT.below B2) l2) fun a3 W3 ⟨g5, g6, s3, l5, _, b3⟩ => ?_)
  have B3 := below_step B2 b3
  refine Wins.seq (Wins.wp (wk4 a3 W0.heap.size g2 g3 g5 g6 s3 W3 (hT.below B3) l5) fun a4 W4 ⟨g8, g9, s4, l8, _, b4⟩ => ?_)
  have B4 := below_step B3 b4
  refine Wins.seq (Wins.wp (wk5 a4 W0.heap.size g2 g3 g5 g6 g8 g9 s4 W4 (hT.below B4) l8) fun a5 W5 ⟨g11, g12, s5, _, _, b5⟩ => ?_)
  have B5 := below_step B4 b5
  refine Wins.seq (Wins.wp (wk6 a5 W0.heap.size g2 g3 g5 g8 (s5.sub (by simp)) W5 (hT.below B5) (l8.later b5)) fun a6 W6 ⟨s6, b6⟩ => ?_)
  have B6 := below_step B5 b6
  have y6 := ((((y1'.later b2).later b3).later b4).later b5).later b6
  have l86 := (l8.later b5).later b6
  refine Wins.seq (Wins.wp (wk7 a6 W0.heap.size g2 g3 g5 g8 s6 W6 (hT.below B6) l86 y6) fun a7 W7 ⟨g17, s7, l17, b7⟩ => ?_)
  have B7 := below_step B6 b7
  have HM : WM W7 W0.heap.size g2 g3 g5 g8 g17 := ⟨y6.later b7, ((((l2.later b3).later b4).later b5).later b6).later b7, ((((f3.later b3).later b4).later b5).later b6).later b7, (((l5.later b4).later b5).later b6).later b7, l86.later b7, l17, hT.below B7⟩
  refine Wins.seq ?_
  rw [rg8_eq]
  refine Wins.region (Wins.ops [0, 1, 2, 3, 4] [5, 6, 7, 8, 9, 10, 11] size8 (wk8a a7 W0.heap.size g2 g3 g5 g8 g17 s7 W7) fun a8 W8 ⟨gv, A1, c1, A2, c2, A3, c3, s8, hrow, hels, b8⟩ => ?_)
  obtain ⟨o, ho, hg, hop⟩ : ∃ o, ops8[5]? = some o ∧ o.guard = none ∧ o.op = .call { callee := .value (.func 14), args := #[.tmp 69, .const (.int .u8 2), .tmp 73], argTypes := #[31, 5, 32] } := ⟨_, rfl, rfl, rfl⟩
  have e69 : a8.tmps[69]? = some (lk (-1) 65535 0) := s8.get (by simp)
  have e73 : a8.tmps[73]? = some (.slice (some ⟨gv, 0, none⟩) 4 4) := s8.get (by simp)
  have hcall : ∀ args w, (callFunc 14 args).run Tryd.prog w = .ok (.enter 14 args) w := enters Tryd.func14 (by kernel_rfl) rfl
  refine Wins.call ho (by rw [Region.wanted, hg]) (g := 14) (args := #[lkv (-1, 65535, 0), .int .u8 2, .slice (some ⟨gv, 0, none⟩) 4 4]) (w' := W8) ?_ ?_
  · unfold execOp
    simp [hop, resolve, invoke, Act.eval, Deferred.ofValue, e69, e73, hcall]
  · exact Wins.stop (h _ _ W8 ⟨a8, gv, W0.heap.size, g2, g3, g5, g8, g17, A1, c1, A2, c2, A3, c3, rfl, rfl, s8.sub (by simp), HM.later b8, hrow, hels, .of (below_step B7 b8)⟩)
end Lk
end Go.Proofs.YtlanlkpamnoekaaDoor
namespace Go.Proofs.YtlanlkpamnoekaaDoor.Lk
open Go Go.Conc Go.RowKit Rf Mem Bv Crc Str Bits
set_option maxRecDepth 100000

/-- It has returned true to its caller. -/
def AtTrue (G0 : World) (c : Frame) (f : Frame) (fs : List Frame) (W : World) : Prop := fs = [] ∧ f = c.finish (.bool true) ∧ Under G0.heap.size G0 W
theorem aim_true (G0 : World) (c : Frame) (hc : NF Tryd.prog c) : Aim (AtTrue G0 c) :=
  ⟨fun _ _ _ τ d ⟨h1, h2, h3⟩ => ⟨h1, h2, h3.re τ d⟩, fun f fs w ⟨_, h2, _⟩ ch hm => by
    rw [h2, finish_mode] at hm
    rcases hc.mode with e | e <;> rw [e] at hm <;> cases hm⟩

theorem all10_V : allV 2 ((-1, 65535, 0), []) [panelV 1#8, panelV 1#8, [], panelV 2#8] = ((2, 0, 2), [(2#8, 1#8, []), (2#8, 2#8, [])]) := by
  have h1 : hearV 2 (panelV 1#8) (-1, 65535, 0) = ((1, 0, 0), 0, (2#8, 1#8, [])) := by rw [hear_panel 1#8 1 rfl (-1, 65535, 0) (by decide)]; rfl
  have h2 : hearV 2 (panelV 1#8) (1, 0, 0) = ((1, 0, 1), 290, noF) := by rw [hear_panel 1#8 1 rfl (1, 0, 0) (by decide)]; rfl
  have h3 : hearV 2 [] (1, 0, 1) = ((1, 0, 2), 40, noF) := by decide
  have h4 : hearV 2 (panelV 2#8) (1, 0, 2) = ((2, 0, 2), 0, (2#8, 2#8, [])) := by rw [hear_panel 2#8 2 rfl (1, 0, 2) (by decide)]; rfl
  simp [allV, stepV, h1, h2, h3, h4]

/-- From All's return to the end, alone. -/
theorem rest_wins {T : Frame → List Frame → World → Prop} (a : Act) (g1 g2 g3 g5 g8 g17 : Nat) (Ar : Option Addr) (cr : Nat) (hS : Sl a 190 [(0, .bool false), (1, .pointer (some ⟨g1, 0, none⟩)), (2, .pointer (some ⟨g2, 0, none⟩)), (3, .pointer (some ⟨g3, 0, none⟩)), (4, .int .i64 0), (5, .pointer (some ⟨g5, 0, none⟩)), (7, .int .i64 290), (8, .pointer (some ⟨g8, 0, none⟩)), (10, .int .i64 0), (13, .int .i64 41), (16, .int .i64 40), (17, .pointer (some ⟨g17, 0, none⟩))]) (c : Frame) (fs : List Frame) (w : World) (H : WM w g1 g2 g3 g5 g8 g17) (hT : ∀ W, Below w.heap.size w W → T (c.finish (.bool true)) fs W) :
    Wins Tryd.prog T ((b10.at a (.inRegion ops8 [5, 6, 7, 8, 9, 10, 11] :: [.code rest8])).finish (.tuple #[lk 2 0 2, .slice Ar 2 cr])) (c :: fs) w := by
  have hd : (ops8[5]?.bind (·.dst)) = some 74 := rfl
  rw [Frame.finish_at, hd]
  have hS2 := (hS.put 74 (.tuple #[lk 2 0 2, .slice Ar 2 cr]) (by omega) (by simp))
  refine Wins.ops [6, 7, 8, 9, 10, 11] [] rfl (wk8b _ g1 g2 g3 g5 g8 g17 Ar cr (hS2.sub (by simp)) w) fun a1 W1 ⟨g18, s1, l18, b1⟩ => ?_
  refine Wins.regionEnd ?_
  unfold rest8
  refine Wins.seq (Wins.wp (wk9 a1 g1 g2 g3 g5 g8 g17 g18 Ar cr s1 W1) fun a2 W2 ⟨g20, s2, i20, b2⟩ => ?_)
  have B2 := below_step b1 b2
  refine Wins.seq (Wins.wp (wk10 a2 g1 g2 g3 g5 g8 g17 g18 g20 Ar cr s2 W2 i20) fun a3 W3 ⟨Ap, cp, X, s3, hs3, h16, hH, b3⟩ => ?_)
  have B3 := below_step B2 b3
  refine Wins.seq (Wins.wp (wk11 a3 g1 g2 g3 g5 g8 g17 g18 g20 Ar Ap cr cp X s3 W3 hs3 h16 hH) fun a4 W4 ⟨g22, s4, i22, b4⟩ => ?_)
  have B4 := below_step B3 b4
  refine Wins.seq (Wins.wp (wk12 a4 g1 g2 g3 g5 g8 g17 g18 g20 g22 Ar Ap cr cp X s4 W4 (hs3.later b4) h16) fun a5 W5 ⟨s5, b5⟩ => ?_)
  have B5 := below_step B4 b5
  refine Wins.seq (Wins.wp (wk13 a5 g1 g2 g3 g5 g8 g17 g18 g20 g22 Ar Ap cr cp s5 W5 (H.later B5) ((((l18.later b2).later b3).later b4).later b5) (((i20.later b3).later b4).later b5) (i22.later b5)) fun a6 W6 ⟨s6, b6⟩ => ?_)
  have B6 := below_step B5 b6
  refine Wins.ret (Wins.leave (v := .bool true) ?_ (Wins.stop (hT W6 B6)))
  have e0 : a6.tmps[0]? = some (.bool true) := s6.get (by simp)
  refine ⟨rfl, s6.defers, rfl, _, Tryd.func10, ?_⟩
  simp [results, Tryd.f10, Frame.at, e0]

/-- ████ wakes, beside leavers. ████ -/
theorem wakes_comp {cs : List Frame} {cf : Frame} {A : World} {m : Machine} {t : Trace} (hc : NF Tryd.prog cf) (hT : Tops A) (h : St (QL Tryd.prog) (Frame.enter Tryd.prog 10 #[] .normal) (cf :: cs) A m t) :
    Run Tryd.prog m t (To (QL Tryd.prog) fun f' cs' A' => cs' = cs ∧ f' = cf.finish (.bool true) ∧ Below A.heap.size A A') := by
  have hnf : NF Tryd.prog (Frame.enter Tryd.prog 10 #[] .normal) := NF.enter (fit (fun _ => False)).nice (by decide) _
  refine (lone_run0 (bad := 14) (fun Z => fit Z) (aim_all10 (scrub (Zset (fun _ => False) A) A)) (fs := []) ⟨by simp, .inl hnf⟩ (fun τ d => ?_) h).bind ?_
  · have hTG := (Sees.down A).tops hT
    refine wakes_wins [] _ (Tops.mk hTG.c0 hTG.c1 hTG.sz) fun f fr W h => ?_
    obtain ⟨a, gv, g1, g2, g3, g5, g8, g17, A1, c1, A2, c2, A3, c3, h1, h2, h3, h4, h5, h6, h7⟩ := h
    exact ⟨a, gv, g1, g2, g3, g5, g8, g17, A1, c1, A2, c2, A3, c3, h1, h2, h3, h4, h5, h6, ⟨h7.os, h7.output, h7.size, h7.block⟩⟩
  rintro m1 t1 ⟨f1, cs1, A1', ⟨fs1, G1, rfl, ⟨a, gv, g1, g2, g3, g5, g8, g17, A1, c1, A2, c2, A3, c3, rfl, rfl, h3, h4, h5, h6, h7⟩, hgood, hR, hsz, ht, hV⟩, hSt⟩
  have su := Sees.up hR
  have H1 := su.wm h4
  have b1 : Below A.heap.size A A1' := by
    have h8 := h7
    rw [scrub_size] at h8
    exact h8.lift hR ht (V := fun _ => False) (fun i hi _ => hV i hi) fun _ h => h.elim
  have hfr := hgood.1 _ (List.mem_singleton.2 rfl)
  refine (all_comp (cs := cf :: cs) (-1, 65535, 0) 2 (.slice (some ⟨gv, 0, none⟩) 4 4) [.slice A1 (panelV 1#8).length c1, .slice A2 (panelV 1#8).length c2, .slice none 0 0, .slice A3 (panelV 2#8).length c3] _ hfr H1.t (su.sl h5) (su.els h6) (by simp) hSt).bind ?_
  rintro m2 t2 ⟨f2, cs2, A2', ⟨rfl, rv, rfl, hF, b2⟩, hSt2⟩
  rw [all10_V] at hF hSt2
  have B2 : Below A.heap.size A A2' := b1.trans (b2.mono b1.size)
  obtain ⟨xs, hsl, _⟩ := hF
  obtain ⟨Ar, cr, rfl, _⟩ := hsl.form
  have H2 := H1.later b2
  refine (lone_run0 (bad := 14) (fun Z => fit Z) (aim_true (scrub (Zset (fun _ => False) A2') A2') cf hc) (fs := [cf]) ⟨by simpa using hc, .inl (hfr.finish _)⟩ (fun τ d => ?_) hSt2).mono ?_
  · refine rest_wins a g1 g2 g3 g5 g8 g17 Ar cr h3 cf [] _ ((Sees.heap (A := scrub (Zset (fun _ => False) A2') A2') (G := re (scrub (Zset (fun _ => False) A2') A2') τ d) rfl).wm ((Sees.down A2').wm H2)) fun W hb => ⟨rfl, rfl, ?_⟩
    exact ⟨hb.os, hb.output, hb.size, hb.block⟩
  · rintro _ _ ⟨f', cs', A', ⟨fs', G', rfl, ⟨rfl, rfl, hU⟩, _, hR', _, ht', hV'⟩, hSt3⟩
    refine ⟨_, _, A', ⟨rfl, rfl, ?_⟩, hSt3⟩
    have hU2 := hU
    rw [scrub_size] at hU2
    have b3 := hU2.lift hR' ht' (V := fun _ => False) (fun i hi _ => hV' i hi) fun _ h => h.elim
    exact B2.trans (b3.mono B2.size)
end Go.Proofs.YtlanlkpamnoekaaDoor.Lk
namespace Go.Proofs.YtlanlkpamnoekaaDoor.Lk
open Go Go.Conc Go.RowKit Rf Mem Bv Crc Str Bits
set_option maxRecDepth 100000

/-- From wakes' return on the frame comes to its end, true in slot r; nothing is turned. -/
def Cont (F : FuncId) (r : Nat) (fr : Frame) : Prop := ∀ (T : Frame → List Frame → World → Prop) (fs : List Frame) (w : World),
  (∀ (a : Act) (todo : List Item) (w' : World), a.defers = [] → a.tmps[r]? = some (.bool true) → w'.heap = w.heap → w'.os = w.os → w'.output = w.output → T { (base F).at a todo with mode := .returning } fs w') → Wins Tryd.prog T (fr.finish (.bool true)) fs w
/-- The law calls wakes; what it tells is what wakes tells. -/
def AtWakes (F : FuncId) (r : Nat) (G0 : World) (f : Frame) (fs : List Frame) (W : World) : Prop := ∃ fr, fs = [fr] ∧ f = Frame.enter Tryd.prog 10 #[] .normal ∧ Cont F r fr ∧ Tops W ∧ Under G0.heap.size G0 W
theorem aim_wakes (F : FuncId) (r : Nat) (G0 : World) : Aim (AtWakes F r G0) :=
  ⟨fun _ _ _ τ d ⟨fr, h1, h2, h3, h4, h5⟩ => ⟨fr, h1, h2, h3, ⟨h4.c0, h4.c1, h4.sz⟩, h5.re τ d⟩, fun f fs w ⟨fr, _, h2, _⟩ ch hm => by
    rw [h2] at hm
    simp [Frame.enter] at hm⟩
/-- The law's end. -/
def DoneF (F : FuncId) (r : Nat) (f : Frame) : Prop := ∃ (a : Act) (todo : List Item), f = { (base F).at a todo with mode := .returning } ∧ a.defers = [] ∧ a.tmps[r]? = some (.bool true)
def AtDone (F : FuncId) (r : Nat) (G0 : World) (f : Frame) (fs : List Frame) (W : World) : Prop := fs = [] ∧ DoneF F r f ∧ Under G0.heap.size G0 W
theorem aim_done (F : FuncId) (r : Nat) (G0 : World) : Aim (AtDone F r G0) :=
  ⟨fun _ _ _ τ d ⟨h1, h2, h3⟩ => ⟨h1, h2, h3.re τ d⟩, fun f fs w ⟨_, ⟨a, todo, h2, _⟩, _⟩ ch hm => by rw [h2] at hm; cases hm⟩

theorem done_run {F : FuncId} {r : Nat} {fr : Frame} {A : World} {m : Machine} {t : Trace} (hc : NF Tryd.prog fr) (hC : Cont F r fr) (hT : Tops A) (h : St (QL Tryd.prog) (Frame.enter Tryd.prog 10 #[] .normal) [fr] A m t) :
    Run Tryd.prog m t (To (QL Tryd.prog) fun f' cs' A' => cs' = [] ∧ DoneF F r f' ∧ Below A.heap.size A A') := by
  refine (wakes_comp hc hT h).bind ?_
  rintro m1 t1 ⟨f1, cs1, A1, ⟨rfl, rfl, b1⟩, hSt⟩
  refine (lone_run0 (bad := 14) (cs := []) (fun Z => fit Z) (aim_done F r (scrub (Zset (fun _ => False) A1) A1)) (fs := []) ⟨by simp, .inl (hc.finish _)⟩ (fun τ d => ?_) (by simpa using hSt)).mono ?_
  · exact hC _ [] _ fun a todo w' h1 h2 h3 h4 h5 => ⟨rfl, ⟨a, todo, rfl, h1, h2⟩, ⟨h4, h5, by rw [h3]; exact Nat.le_refl _, fun k _ => by rw [h3]; rfl⟩⟩
  · rintro _ _ ⟨f', cs', A', ⟨fs', G', rfl, ⟨rfl, hD, hU⟩, _, hR', _, ht', hV'⟩, hSt3⟩
    refine ⟨_, _, A', ⟨rfl, hD, ?_⟩, hSt3⟩
    have hU2 := hU
    rw [scrub_size] at hU2
    have b3 := hU2.lift hR' ht' (V := fun _ => False) (fun i hi _ => hV' i hi) fun _ h => h.elim
    exact b1.trans (b3.mono b1.size)

/-- From where a lone stretch leads to wakes. -/
theorem wakes_run {F : FuncId} {r : Nat} {f : Frame} {A : World} {m : Machine} {t : Trace} (hf : NF Tryd.prog f) (hw : ∀ τ d, Wins Tryd.prog (AtWakes F r (scrub (Zset (fun _ => False) A) A)) f [] (re (scrub (Zset (fun _ => False) A) A) τ d)) (h : St (QL Tryd.prog) f [] A m t) :
    Run Tryd.prog m t (To (QL Tryd.prog) fun f' cs' A' => cs' = [] ∧ DoneF F r f' ∧ Below A.heap.size A A') := by
  refine (lone_run0 (bad := 14) (cs := []) (fun Z => fit Z) (aim_wakes F r _) (fs := []) ⟨by simp, .inl hf⟩ hw (by simpa using h)).bind ?_
  rintro m1 t1 ⟨f1, cs1, A1, ⟨fs1, G1, rfl, ⟨fr, rfl, rfl, hC, hT, hU⟩, hgood, hR, hsz, ht, hV⟩, hSt⟩
  have b1 : Below A.heap.size A A1 := by
    rw [scrub_size] at hU
    exact hU.lift hR ht (V := fun _ => False) (fun i hi _ => hV i hi) fun _ h => h.elim
  refine (done_run (hgood.1 _ (List.mem_singleton.2 rfl)) hC ((Sees.up hR).tops hT) (by simpa using hSt)).mono ?_
  rintro m2 t2 ⟨f2, cs2, A2, ⟨rfl, hD, b2⟩, hSt2⟩
  exact ⟨_, _, A2, ⟨rfl, hD, b1.trans (b2.mono b1.size)⟩, hSt2⟩

/-- The start: goroutine 0 alone. -/
theorem start_st (f : Frame) (A : World) : St (QL Tryd.prog) f [] A (crowd #[Conc.G f []] A none) #[] :=
  ⟨_, _, none, rfl, rfl, _, 0, leavers_one Tryd.prog _, past_nil, rfl⟩

/-- ████ From a run to the law's end: it ends well. ████ -/
theorem law_ends {F : FuncId} {fn : Func} {r : Nat} {f : Frame} {A : World} (hfn : Tryd.prog.funcs[F]? = some fn) (hr : fn.results = #[.tmp r]) (hk : 2 ≠ F)
    (h : ∀ m t, St (QL Tryd.prog) f [] A m t → Run Tryd.prog m t (To (QL Tryd.prog) fun f' cs' A' => cs' = [] ∧ DoneF F r f' ∧ Below A.heap.size A A')) :
    ∃ M last o w' t', runNT Tryd.prog (M + 1) (crowd #[Conc.G f []] A none) #[] = (.ended o w', t') ∧ runN Tryd.prog M (crowd #[Conc.G f []] A none) = .next last ∧ step Tryd.prog last = .ended o w' ∧ Conc.Good Tryd.prog (fun v W' => v = .bool true ∧ Below A.heap.size A W') last o w' t' := by
  obtain ⟨N, m1, t1, h1, f1, cs1, A1, ⟨rfl, ⟨a, todo, rfl, hd, hv⟩, hb⟩, μ, gs, sl, rfl, h0, q, B, hL, hP, _⟩ := h _ _ (start_st f A)
  have hstep : ∀ w : World, stepG Tryd.prog true (Conc.G { (base F).at a todo with mode := .returning } []) w = .ended (.done (.bool true)) w #[] := by
    intro w
    have h2 : a.tmps[r]?.getD undef = .bool true := by rw [hv]; rfl
    simp [Conc.G, stepG, unwind, doReturn, results, Frame.at, base, hfn, hr, hd, h2, hk, seen, GStep.after]
  obtain ⟨M, last, o, w', t', e1, e2, e3, e4⟩ := beside_ends (P := Tryd.prog) (Shun := fun _ => False) (B := B) (D := fun _ _ _ => False) (Post := fun v W' => v = .bool true ∧ Below A.heap.size A W') (sl := sl) (n := 0) (w := A1) (t := t1) (fun _ _ _ h => h.elim) h0 hL hP
    (fun w₁ ⟨d, hw⟩ => ⟨rfl, .bool true, #[], by rw [hstep], by simp, rfl, by rw [hw]; exact below_at_d hb d⟩)
  refine ⟨N + M, last, o, w', t', ?_, ?_, e3, e4⟩
  · rw [Nat.add_assoc, runNT_add, h1]
    exact e1
  · have h1' : runN Tryd.prog N (crowd #[Conc.G f []] A none) = .next (crowd gs A1 sl) := by rw [← runNT_fst _ _ _ #[], h1]
    rw [runN_add, h1']
    exact e2
end Go.Proofs.YtlanlkpamnoekaaDoor.Lk
namespace Go.Proofs.YtlanlkpamnoekaaDoor.Lk
open Go Go.Conc Go.RowKit Rf Mem Bv Crc Str Bits
set_option maxRecDepth 100000

theorem wanted_none {o : Oper} {y : Nat → Option Bool} (h : o.guard = none) : Region.wanted o y = true := by rw [Region.wanted, h]
theorem wanted_some {ops : Array Oper} {o : Oper} {tm : Array Value} {g d : Nat} {b : Bool} (h : o.guard = some (g, b)) (hd : (ops[g]?.bind (·.dst)) = some d) (hv : tm[d]? = some (.bool b)) : Region.wanted o (yielded ops tm) = true := by
  rw [Region.wanted, h]
  simp [yielded, hd, hv]
theorem cont_of {F : FuncId} {r d i : Nat} {ops : Array Oper} {rest : List Nat} {a : Act} {k : List Item} (hdst : (ops[i]?.bind (·.dst)) = some d) (h : ∀ w, wpOps Tryd.prog ops (nrm fun a' w' => a'.defers = [] ∧ a'.tmps[r]? = some (.bool true) ∧ w' = w) rest (a.put (some d) (.bool true)) w) :
    Cont F r ((base F).at a (.inRegion ops (i :: rest) :: .code .ret :: k)) := by
  intro T fs w hT
  rw [Frame.finish_at, hdst]
  refine Wins.ops rest [] (by simp) (h w) fun a' w' ⟨h1, h2, h3⟩ => Wins.regionEnd (Wins.ret (Wins.stop ?_))
  subst h3
  exact hT a' _ w' h1 h2 rfl rfl rfl
theorem cont_two {F : FuncId} {r d i j : Nat} {ops : Array Oper} {o : Oper} {a : Act} {k : List Item} (hdst : (ops[i]?.bind (·.dst)) = some d) (ho : ops[j]? = some o) (hop : o.op = .assign (.tmp d)) (hdo : o.dst = some r) (hg : o.guard = none) (hd : a.defers = []) (hsz : d < a.tmps.size) (hr : r < a.tmps.size) :
    Cont F r ((base F).at a (.inRegion ops [i, j] :: .code .ret :: k)) := by
  refine cont_of hdst fun w => ?_
  simp only [wpOps, ho]
  rw [if_pos (wanted_none hg)]
  refine .inl ?_
  have he : (execOp (a.put (some d) (.bool true)).eval o).run Tryd.prog w = .ok (.value (.bool true)) w := by
    unfold execOp
    simp [hop, Act.eval, Act.put, hsz]
  refine Node.wp_val _ he ?_
  rw [hdo]
  refine ⟨hd, ?_, rfl⟩
  simp [Act.put, hr]
/-- The call of wakes. -/
theorem wins_wakes {T : Frame → List Frame → World → Prop} {b : Frame} {a : Act} {ops : Array Oper} {i : Nat} {rest : List Nat} {k : List Item} {fs : List Frame} {w : World} {o : Oper} {ts : Array TypeId} (ho : ops[i]? = some o) (hw : Region.wanted o (yielded ops a.tmps) = true) (hop : o.op = .call { callee := .value (.func 10), args := #[], argTypes := ts })
    (h : T (Frame.enter Tryd.prog 10 #[] .normal) (b.at a (.inRegion ops (i :: rest) :: k) :: fs) w) : Wins Tryd.prog T (b.at a (.inRegion ops (i :: rest) :: k)) fs w := by
  have hcall : ∀ args w, (callFunc 10 args).run Tryd.prog w = .ok (.enter 10 args) w := enters Tryd.func10 (by kernel_rfl) rfl
  refine Wins.call ho hw (g := 10) (args := #[]) (w' := w) ?_ (Wins.stop h)
  unfold execOp
  simp [hop, resolve, invoke, Act.eval, Deferred.ofValue, hcall]
theorem AtWakes.mk {F : FuncId} {r : Nat} {G0 W : World} {fr : Frame} (hC : Cont F r fr) (hT : Tops W) (hb : Below G0.heap.size G0 W) : AtWakes F r G0 (Frame.enter Tryd.prog 10 #[] .normal) [fr] W := ⟨fr, rfl, rfl, hC, hT, .of hb⟩
theorem Wins.mono {T T' : Frame → List Frame → World → Prop} {f : Frame} {fs : List Frame} {w : World} (h : Wins Tryd.prog T f fs w) (hT : ∀ f fs w, T f fs w → T' f fs w) : Wins Tryd.prog T' f fs w := by
  obtain ⟨n, g, gs, x, h1, h2⟩ := h
  exact ⟨n, g, gs, x, h1, hT _ _ _ h2⟩
theorem AtWakes.blind {F : FuncId} {r : Nat} {G : World} {τ : Tape} {d : Nat} {f : Frame} {fs : List Frame} {W : World} (h : AtWakes F r (re G τ d) f fs W) : AtWakes F r G f fs W := by
  obtain ⟨fr, h1, h2, h3, h4, h5⟩ := h
  exact ⟨fr, h1, h2, h3, h4, ⟨h5.os, h5.output, h5.size, h5.block⟩⟩
end Go.Proofs.YtlanlkpamnoekaaDoor.Lk
namespace Go.Proofs.YtlanlkpamnoekaaDoor
open Go Go.RowKit Rf Mem Bv Crc Str Lk
set_option maxRecDepth 100000

/-! ### the plain law -/
theorem right_e {x : Lst} (h : rightL x.1 x.2.1 x.2.2 = true) : 0 ≤ x.2.2 ∧ x.2.2 ≤ 65535 ∧ 0 ≤ x.2.1 ∧ x.2.1 ≤ 65535 ∧ -1 ≤ x.1 ∧ x.1 < 256 := by
  unfold rightL clamp at h
  simp only [Bool.and_eq_true, decide_eq_true_eq] at h
  omega
theorem right_of {s q e : Int} (h : 0 ≤ e ∧ e ≤ 65535 ∧ 0 ≤ q ∧ q ≤ 65535 ∧ -1 ≤ s ∧ s < 256) : rightL s q e = true := by
  unfold rightL clamp
  simp only [Bool.and_eq_true, decide_eq_true_eq]
  omega
/-- What is refused: the count of errors alone. -/
theorem hear_no {kd : Int} {y : List (BitVec 8)} {x : Lst} (h : rightL x.1 x.2.1 x.2.2 = true) (he : (hearV kd y x).2.1 ≠ 0) : (hearV kd y x).1 = (x.1, x.2.1, onV x.2.2 1 65535) ∧ (hearV kd y x).2.2 = noF := by
  have hr : ¬ rightL x.1 x.2.1 x.2.2 = false := by rw [h]; decide
  by_cases h1 : (takeV y).2.2.2 ≠ 0
  · unfold hearV; rw [if_neg hr, if_pos h1]; exact ⟨rfl, rfl⟩
  by_cases h2 : ((takeV y).1.toNat : Int) ≠ kd
  · unfold hearV; rw [if_neg hr, if_neg h1, if_pos h2]; exact ⟨rfl, rfl⟩
  by_cases h3 : 0 ≤ x.1 ∧ newer ((takeV y).2.1.toNat : Int) x.1 = false
  · unfold hearV; rw [if_neg hr, if_neg h1, if_neg h2, if_pos h3]; exact ⟨rfl, rfl⟩
  unfold hearV at he
  rw [if_neg hr, if_neg h1, if_neg h2, if_neg h3] at he
  exact absurd rfl he
/-- What is accepted. -/
theorem hear_yes {kd : Int} {y : List (BitVec 8)} {x : Lst} (h : rightL x.1 x.2.1 x.2.2 = true) (he : (hearV kd y x).2.1 = 0) :
    (takeV y).2.2.2 = 0 ∧ ((takeV y).1.toNat : Int) = kd ∧ ¬ (0 ≤ x.1 ∧ newer ((takeV y).2.1.toNat : Int) x.1 = false) ∧ hearV kd y x = ((((takeV y).2.1.toNat : Int), 0, x.2.2), 0, ((takeV y).1, (takeV y).2.1, (takeV y).2.2.1)) := by
  have hr : ¬ rightL x.1 x.2.1 x.2.2 = false := by rw [h]; decide
  by_cases h1 : (takeV y).2.2.2 ≠ 0
  · unfold hearV at he; rw [if_neg hr, if_pos h1] at he; exact absurd he h1
  by_cases h2 : ((takeV y).1.toNat : Int) ≠ kd
  · unfold hearV at he; rw [if_neg hr, if_neg h1, if_pos h2] at he; simp only at he; omega
  by_cases h3 : 0 ≤ x.1 ∧ newer ((takeV y).2.1.toNat : Int) x.1 = false
  · unfold hearV at he; rw [if_neg hr, if_neg h1, if_neg h2, if_pos h3] at he; simp only at he; omega
  refine ⟨by omega, by omega, h3, ?_⟩
  unfold hearV
  rw [if_neg hr, if_neg h1, if_neg h2, if_neg h3]
theorem onV_one {e : Int} (h : 0 ≤ e ∧ e ≤ 65535) : onV e 1 65535 = min (e + 1) 65535 := by
  unfold onV clamp; omega
theorem hear_right {kd : Int} {y : List (BitVec 8)} {x : Lst} (h : rightL x.1 x.2.1 x.2.2 = true) : rightL (hearV kd y x).1.1 (hearV kd y x).1.2.1 (hearV kd y x).1.2.2 = true := by
  have hx := right_e h
  by_cases he : (hearV kd y x).2.1 = 0
  · rw [(hear_yes h he).2.2.2]
    have := (takeV y).2.1.isLt
    exact right_of (by simp only; omega)
  · rw [(hear_no h he).1]
    exact right_of (by simp only [onV_one ⟨hx.1, hx.2.1⟩]; omega)

theorem allV_snoc {kd : Int} {st : Lst × List Frm} {xs : List (List (BitVec 8))} {i : Nat} {y : List (BitVec 8)} (h : xs[i]? = some y) : allV kd st (xs.take (i + 1)) = stepV kd (allV kd st (xs.take i)) y := by
  unfold allV
  rw [List.take_add_one, h]
  simp [List.foldl_append]
/-- What is held of the first ones. -/
structure AllIs (kd : Int) (x : Lst) (xs : List (List (BitVec 8))) (i mm rf : Nat) (z : Lst × List Frm) : Prop where
  is : z = allV kd (x, []) (xs.take i)
  len : z.2.length = mm
  sum : mm + rf = i
  err : z.1.2.2 = min (x.2.2 + rf) 65535
  right : rightL z.1.1 z.1.2.1 z.1.2.2 = true
theorem AllIs.zero {kd : Int} {x : Lst} {xs : List (List (BitVec 8))} (h : rightL x.1 x.2.1 x.2.2 = true) : AllIs kd x xs 0 0 0 (x, []) :=
  ⟨by simp [allV], rfl, rfl, by have := right_e h; simp only; omega, h⟩
theorem AllIs.no {kd : Int} {x : Lst} {xs : List (List (BitVec 8))} {i mm rf : Nat} {z : Lst × List Frm} {y : List (BitVec 8)} (hx : rightL x.1 x.2.1 x.2.2 = true) (h : AllIs kd x xs i mm rf z) (hy : xs[i]? = some y) (he : (hearV kd y z.1).2.1 ≠ 0) : AllIs kd x xs (i + 1) mm (rf + 1) ((hearV kd y z.1).1, z.2) := by
  have h1 := (hear_no h.right he).1
  have h2 := right_e h.right
  have h3 := right_e hx
  refine ⟨by rw [allV_snoc hy, ← h.is]; unfold stepV; rw [if_neg he], h.len, by have := h.sum; omega, ?_, hear_right h.right⟩
  have h4 := h.err
  simp only [h1, onV_one ⟨h2.1, h2.2.1⟩]
  omega
/-! ### memory -/
theorem keep3 (W : World) (g : Nat) (x y z : Value) : Keep (fun q => q ≠ g) W (((W.setCell ⟨g, 0, none⟩ x).setCell ⟨g, 1, none⟩ y).setCell ⟨g, 2, none⟩ z) :=
  (((Keep.refl _ W).setCell (p := ⟨g, 0, none⟩) (fun _ h => h rfl) x).setCell (p := ⟨g, 1, none⟩) (fun _ h => h rfl) y).setCell (p := ⟨g, 2, none⟩) (fun _ h => h rfl) z
/-- A frame's variable, written. -/
theorem FV.put3 {W : World} {g : Nat} {f : Frm} {A : Option Addr} {c : Nat} {f0 f1 f2 : Value} (h : W.heap[g]? = some (.cells #[f0, f1, f2] 41 (0, 0))) (hs : SliceAt W 1 (.slice A f.2.2.length c) f.2.2.length (u8s f.2.2)) (h0 : ∀ q, VB (.slice A f.2.2.length c) f.2.2.length q → q ≠ g) :
    FV (((W.setCell ⟨g, 0, none⟩ (.int .u8 (f.1.toNat : Int))).setCell ⟨g, 1, none⟩ (.int .u8 (f.2.1.toNat : Int))).setCell ⟨g, 2, none⟩ (.slice A f.2.2.length c)) g f :=
  ⟨A, c, by rw [set_at (set_at (set_at h 0 _) 1 _) 2 _]; simp, slice_keep hs (keep3 W g _ _ _) h0⟩
/-- Bytes do not lie in a link. -/
theorem bytes_far {W : World} {g : Nat} {s q e : Int} {v : Value} {p : List (BitVec 8)} (h : SliceAt W 1 v p.length (u8s p)) (hl : LVar W g s q e) (x y z : Value) : SliceAt (((W.setCell ⟨g, 0, none⟩ x).setCell ⟨g, 1, none⟩ y).setCell ⟨g, 2, none⟩ z) 1 v p.length (u8s p) :=
  Mem.SliceAt.beside h hl (by simp) fun i hi => far3 hi x y z
/-- A slice of bytes out of a cell. -/
theorem run_el {w : World} {a : Act} {o : Oper} {x : Operand} {p : Addr} {v : Value} (h : w.cell? p = some v) (ho : o.op = .load 36 x) (hx : a.eval x = .pointer (some p)) : (execOp a.eval o).run Tryd.prog w = .ok (.value v) w := by
  generalize a.eval = ρ at *
  unfold execOp
  simp [ho, hx, go_sem, h]
/-- A frame out of three cells. -/
theorem run_fr {w : World} {a : Act} {o : Oper} {x : Operand} {g k : Nat} {u v z : Value} (h0 : w.cell? ⟨g, k, none⟩ = some u) (h1 : w.cell? ⟨g, k + 1, none⟩ = some v) (h2 : w.cell? ⟨g, k + 2, none⟩ = some z) (ho : o.op = .load 41 x) (hx : a.eval x = .pointer (some ⟨g, k, none⟩)) : (execOp a.eval o).run Tryd.prog w = .ok (.value (.agg #[u, v, z])) w := by
  generalize a.eval = ρ at *
  unfold execOp
  simp [ho, hx, go_sem, h0, h1, h2]

/-- A slice's cell. -/
theorem slice_cell {w : World} {b o n c i : Nat} {us : List Value} {u : Value} (h : SliceAt w 1 (.slice (some ⟨b, o, none⟩) n c) n us) (hu : us[i]? = some u) : w.cell? ⟨b, o + i, none⟩ = some u := by
  obtain ⟨A, c', e, _, _, hl, h4⟩ := h
  have hi := (List.getElem?_eq_some_iff.1 hu).1
  rcases h4 with h4 | ⟨b', o', e', _, hc⟩
  · omega
  · obtain ⟨rfl, _, _⟩ := Value.slice.inj e
    cases e'
    exact hc i u hu
theorem slice_far {W : World} {g b o n c : Nat} {us : List Value} (h : SliceAt W 1 (.slice (some ⟨b, o, none⟩) n c) n us) (hn : b ≠ g) (x y z : Value) : SliceAt (((W.setCell ⟨g, 0, none⟩ x).setCell ⟨g, 1, none⟩ y).setCell ⟨g, 2, none⟩ z) 1 (.slice (some ⟨b, o, none⟩) n c) n us :=
  slice_keep h (keep3 W g x y z) fun q hq => by cases hq.2; exact hn

theorem below_cell' {w W : World} (h : Below w.heap.size w W) {g k : Nat} {u : Value} (hg : g < w.heap.size) (hc : w.cell? ⟨g, k, none⟩ = some u) : W.cell? ⟨g, k, none⟩ = some u :=
  (World.cell?_of_block (a := ⟨g, k, none⟩) (h.block g hg)).trans hc

/-! ### parts of code -/
def cfst : Code → Code | .seq a _ => a | c => c
def csnd : Code → Code | .seq _ b => b | c => c
def cyes : Code → Code | .cond _ a _ => a | c => c
def copsOf : Code → Array Oper | .region _ o _ => o | _ => #[]
section
open Go.Conc
variable {P : Program} {T : Frame → List Frame → World → Prop} {b : Frame} {fs : List Frame} {a : Act} {w : World} {k : List Item}
theorem Lk.Wins.exit {id : Nat} {k' : List Item} (h : exitTo id k = some k') (hk : Wins P T (b.at a k') fs w) : Wins P T (b.at a (.code (.exit id) :: k)) fs w := .steps (.one (step_exit h)) hk
end
end Go.Proofs.YtlanlkpamnoekaaDoor
namespace Go.Proofs.YtlanlkpamnoekaaDoor
open Go Go.RowKit Rf Mem Bv Crc Str Lk Go.ChangeShapes Go.WideShapes
set_option maxRecDepth 100000
attribute [local go_sem ↓] run_max2 run_min2
/-- Rows of bytes, of any length. -/
structure ElsW (W : World) (us : List Value) (xs : List (List (BitVec 8))) : Prop where
  len : us.length = xs.length
  at_ : ∀ (i : Nat) (x : List (BitVec 8)), xs[i]? = some x → ∃ A c, us[i]? = some (.slice A x.length c) ∧ SliceAt W 1 (.slice A x.length c) x.length (u8s x)
theorem ElsW.later {W W' : World} {us : List Value} {xs : List (List (BitVec 8))} (h : ElsW W us xs) (hb : Below W.heap.size W W') : ElsW W' us xs := ⟨h.len, fun i x hx => by
  obtain ⟨A, c, h1, h2⟩ := h.at_ i x hx
  exact ⟨A, c, h1, h2.later hb⟩⟩
theorem ElsW.see {A G : World} (s : Sees A G) {us : List Value} {xs : List (List (BitVec 8))} (h : ElsW A us xs) : ElsW G us xs := ⟨h.len, fun i x hx => by
  obtain ⟨A, c, h1, h2⟩ := h.at_ i x hx
  exact ⟨A, c, h1, s.sl h2⟩⟩
theorem ElsW.els {W : World} : ∀ {us : List Value} {xs : List (List (BitVec 8))}, ElsW W us xs → (∀ x ∈ xs, x.length ≤ 200) → Els W us xs
  | [], [], _, _ => trivial
  | [], _ :: _, h, _ => by have := h.len; simp at this
  | _ :: _, [], h, _ => by have := h.len; simp at this
  | u :: us, x :: xs, h, hl => by
    obtain ⟨A, c, h1, h2⟩ := h.at_ 0 x rfl
    simp only [List.getElem?_cons_zero, Option.some.injEq] at h1
    subst h1
    refine ⟨h2, by have := hl x List.mem_cons_self; omega, ElsW.els ⟨by have := h.len; simp at this; exact this, fun i y hy => ?_⟩ fun y hy => hl y (List.mem_cons_of_mem _ hy)⟩
    obtain ⟨A', c', h3, h4⟩ := h.at_ (i + 1) y (by simpa using hy)
    exact ⟨A', c', by simpa using h3, h4⟩
set_option maxHeartbeats 1000000 in
theorem great_w (lv : Value) (vs : List Value) (xs : List (List (BitVec 8))) (w : World) (hs : SliceAt w 1 lv vs.length vs) (hE : ElsW w vs xs) : Calls Tryd.prog 9 #[lv] w fun e w' => Gr29 xs e ∧ w = w' := by
  obtain ⟨n, hn⟩ : ∃ n, vs.length = n := ⟨_, rfl⟩
  have hxn : xs.length = n := by rw [← hE.len]; exact hn
  rw [hn] at hs
  obtain ⟨A, c, rfl, hnc, hc⟩ := hs.form
  have HX := Lib.hid hxn
  have HE := Lib.hid hE
  have HS := Lib.hid hs
  clear hn hxn hE hs
  go_enter Tryd.func9, Tryd.ntmps9
  go_wp2
  go_loopw [3] (fun i wr => ∃ k : Nat, k ≤ n ∧ k ≤ 61 ∧ i = .int .i64 k ∧ Hid (∀ j x, j < k → xs[j]? = some x → x.length ≤ 200) ∧ wr = w) (fun i _ => n - (intOf i).toNat)
  case atStart => exact ⟨0, Nat.zero_le _, by omega, rfl, Lib.hid (fun j x hj => by omega), rfl⟩
  case round =>
    obtain ⟨k, hk, hk61, rfl, hle, rfl⟩ := hrel
    by_cases hlt : k < n
    · by_cases h60 : k ≤ 60
      · obtain ⟨x, hx⟩ : ∃ x, xs[k]? = some x := ⟨_, List.getElem?_eq_getElem (by rw [HX.out]; exact hlt)⟩
        obtain ⟨A1, c1, h1, h2⟩ := HE.out.at_ k x hx
        obtain ⟨b, off, c', e, _, _, hbl, hcell⟩ := HS.out.pos (by omega)
        obtain ⟨rfl, _, rfl⟩ := Value.slice.inj e
        have hcell' := hcell k _ h1
        have HC := Lib.hid h2.form
        have HXX := Lib.hid hx
        clear hx h1 h2 e hcell
        by_cases hbig : x.length ≤ 200
        · have hle' : ∀ j x, j < k + 1 → xs[j]? = some x → x.length ≤ 200 := fun j y hj hy => by
            rcases Nat.lt_or_ge j k with h | h
            · exact hle.out j y h hy
            · obtain rfl : j = k := by omega
              rw [HXX.out] at hy
              cases hy
              exact hbig
          have HL := Lib.hid hle'
          clear hle'
          go_wp2
          exact ⟨⟨k + 1, by omega, by omega, by go_num, HL, trivial⟩, by simp [intOf]; omega⟩
        · go_wp2
          go_ret
          exact ⟨⟨true, rfl, fun h => by cases h⟩, rfl⟩
      · obtain rfl : k = 61 := by omega
        have q1 : decide ((60 : Int) < (n : Int)) = true := decide_eq_true (by omega)
        go_wp2
        go_ret
        exact ⟨⟨_, rfl, fun h => by cases h⟩, rfl⟩
    · obtain rfl : k = n := by omega
      go_wp2
      go_ret
      refine ⟨⟨_, rfl, fun h => ⟨by have := of_decide_eq_false h; rw [HX.out]; omega, fun x hx => ?_⟩⟩, rfl⟩
      obtain ⟨j, hj⟩ := List.getElem?_of_mem hx
      exact hle.out j x (by have := (List.getElem?_eq_some_iff.1 hj).1; rw [HX.out] at this; exact this) hj

section
variable {H : Type} {enc : TypeId × Value → H} {w : World}
theorem open_link {base : Nat} {v : Value} {d : DataW H} {p : List MemPlace} (hv : Value.okWide Tryd.prog w .any base 31 v) (h : DataW.Trod enc Tryd.prog w 0 (fun _ => true) true 31 v d p) :
    ∃ s q e : Int, v = lk s q e := by
  obtain ⟨v0, v1, v2, y0, y1, y2, n, rfl, _, _, h0, h1, h2⟩ := Joins.open_agg3 (P := Tryd.prog) (t := 31) Tryd.underlying31 (by kernel_rfl) (by kernel_rfl) hv h
  obtain ⟨N, hN, _, _⟩ := DataW.trod_int Tryd.underlying3 h0
  obtain ⟨M, hM, _, _⟩ := DataW.trod_int Tryd.underlying3 h1
  obtain ⟨K, hK, _, _⟩ := DataW.trod_int Tryd.underlying3 h2
  obtain rfl := List.cons.inj hN |>.1
  obtain rfl := List.cons.inj hM |>.1
  obtain rfl := List.cons.inj hK |>.1
  exact ⟨_, _, _, rfl⟩
theorem open_rows {base : Nat} {v : Value} {d : DataW H} {p : List MemPlace} (hv : Value.okWide Tryd.prog w .any base 32 v) (h : DataW.Trod enc Tryd.prog w 0 (fun _ => true) true 32 v d p) :
    ∃ (us : List Value) (xs : List (List (BitVec 8))), SliceAt w 1 v us.length us ∧ ElsW w us xs := by
  obtain ⟨us, h1, h2⟩ := open_arg (sz := 1) (fun u : Value => [u]) (fun u => ∃ x : List (BitVec 8), SliceAt w 1 u x.length (u8s x)) (fun _ => rfl) (by omega) Tryd.underlying32 (by kernel_rfl)
    (fun m cs y hl ht => by
      obtain ⟨u, B, hu, hB⟩ := open_bytes_cs Tryd.underlying36 Tryd.underlying5 (by kernel_rfl) ht
      exact ⟨u, ⟨B, hB⟩, hu⟩) hv h
  have e : us.flatMap (fun u : Value => [u]) = us := by simp
  rw [e] at h1
  have hx : ∀ (us : List Value), (∀ a ∈ us, ∃ x : List (BitVec 8), SliceAt w 1 a x.length (u8s x)) → ∃ xs, ElsW w us xs := by
    intro us
    induction us with
    | nil => exact fun _ => ⟨[], rfl, fun i x hx => by simp at hx⟩
    | cons u us ih =>
      intro h
      obtain ⟨x, hx⟩ := h u List.mem_cons_self
      obtain ⟨xs, hxs⟩ := ih fun a ha => h a (List.mem_cons_of_mem _ ha)
      refine ⟨x :: xs, by simp [hxs.len], fun i y hy => ?_⟩
      cases i with
      | zero =>
        simp only [List.getElem?_cons_zero, Option.some.injEq] at hy
        subst hy
        obtain ⟨A, c, e, _⟩ := hx.form
        exact ⟨A, c, by rw [e]; rfl, e ▸ hx⟩
      | succ i =>
        obtain ⟨A, c, h3, h4⟩ := hxs.at_ i y (by simpa using hy)
        exact ⟨A, c, by simpa using h3, h4⟩
  obtain ⟨xs, hxs⟩ := hx us h2
  exact ⟨us, xs, h1, hxs⟩
end
end Go.Proofs.YtlanlkpamnoekaaDoor
