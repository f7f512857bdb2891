/- Link, in company. Nothing that was there is turned. -/
import Derived.Test.YtlanlkpamnoekaaDoorZD17
import Derived.Test.YtlanlkpamnoekaaDoorZD11
import Derived.Lib.LaidTab
import Derived.OpenShut
set_option linter.unusedSimpArgs false
set_option linter.unusedVariables false
namespace Go.Proofs.YtlanlkpamnoekaaDoor
open Go Go.RowKit Rf Mem Bv Crc Str Lk
set_option maxRecDepth 100000
attribute [local go_sem ↓] run_max2 run_min2
theorem ld7a (a : Act) (tk s1 s2 : Int) (g7 g8 g12 g13 : Nat) (n2 : BitVec 8) (hn2 : s2 = n2.toNat) (h1t : 1 ≤ tk ∧ tk ≤ 50) (hS : Sl a 104 [(0, .int .i64 tk), (1, .int .u8 s1), (2, .int .u8 s2), (6, .bool false), (7, .pointer (some ⟨g7, 0, none⟩)), (8, .pointer (some ⟨g8, 0, none⟩)), (10, .int .i64 0), (12, .pointer (some ⟨g12, 0, none⟩)), (13, .pointer (some ⟨g13, 0, none⟩)), (14, .int .i64 0)]) (w : World) (hY : LY w g7 y1 tk) (hL : LVar w g8 (-1) (tk + 1) 0) (hO : LVar w g12 s2 0 0) (hF : FV w g13 (fD n2)) : wpOps Tryd.prog opsD14 (nrm fun a' w' => Sl a' 104 [(101, .bool true)] ∧ Below w.heap.size w w') [0, 1, 2, 3, 4, 5, 6, 7, 8, 9, 10, 11, 12, 13, 14, 15, 16, 17, 18, 19] a w := by
  have h4 := fun Q => wpOps_some (P := Tryd.prog) (Q := Q) ((opsD14.toList.drop 0).take 20) 0 (opsD14_from 0 20)
  have h5 : ((opsD14.toList.drop 0).take 20).length = 20 := by kernel_rfl
  rw [h5] at h4
  show wpOps _ _ _ (List.range' 0 20) _ _
  rw [h4]
  clear h4 h5
  have f1 : w.cell? ⟨g13, 1, none⟩ = some (.int .u8 s2) := by rw [hF.c1, hn2]; rfl
  have d2 : false = decide (tk < 0) := (decide_eq_false (by omega)).symm
  have D2 := Lib.hid d2
  clear hn2 h1t d2 hF
  obtain ⟨j, rfl, hj⟩ := hS.lit104
  have h0 : j 0 = .int .i64 tk := hj (0, _) (by simp)
  have h1 : j 1 = .int .u8 s1 := hj (1, _) (by simp)
  have h2 : j 2 = .int .u8 s2 := hj (2, _) (by simp)
  have h6 : j 6 = .bool false := hj (6, _) (by simp)
  have h7 : j 7 = .pointer (some ⟨g7, 0, none⟩) := hj (7, _) (by simp)
  have h8 : j 8 = .pointer (some ⟨g8, 0, none⟩) := hj (8, _) (by simp)
  have h10 : j 10 = .int .i64 0 := hj (10, _) (by simp)
  have h12 : j 12 = .pointer (some ⟨g12, 0, none⟩) := hj (12, _) (by simp)
  have h13 : j 13 = .pointer (some ⟨g13, 0, none⟩) := hj (13, _) (by simp)
  have h14 : j 14 = .int .i64 0 := hj (14, _) (by simp)
  clear hj hS
  unfold opsD14 rgD bodyD
  simp only [Tryd.f6, Option.getD_some, nthSeq, lit104, List.cons_append, List.nil_append, h0, h1, h2, h6, h7, h8, h10, h12, h13, h14]
  simp only [List.drop_zero, List.take_succ_cons, List.take_zero]
  have x0 := hL.c0
  have o0 := hO.c0
  have o1 := hO.c1
  have o2 := hO.c2
  obtain ⟨y0, y1', y2, y3, y4, y5, y6, y7, y8, y9, y10⟩ := hY.cells
  go_wp2_with fail
  clear y0 y1' y2 y3 y4 y5 y6 y7 y8 y9 y10 x0 o0 o1 o2 f1
  refine (Dead_c y1 tk s2 0 0 false D2.out w).mono ?_
  rintro e W ⟨rfl, b⟩
  go_wp2
  exact ⟨⟨rfl, rfl, by simp⟩, b⟩
theorem ld7b (a : Act) (hS : Sl a 104 [(101, .bool true), (102, .bool true)]) (w : World) : wpOps Tryd.prog opsD14 (nrm fun a' w' => a'.defers = [] ∧ a'.tmps[6]? = some (.bool true) ∧ w' = w) [21, 22] a w := by
  have h4 := fun Q => wpOps_some (P := Tryd.prog) (Q := Q) ((opsD14.toList.drop 21).take 2) 21 (opsD14_from 21 2)
  have h5 : ((opsD14.toList.drop 21).take 2).length = 2 := by kernel_rfl
  rw [h5] at h4
  show wpOps _ _ _ (List.range' 21 2) _ _
  rw [h4]
  clear h4 h5
  obtain ⟨j, rfl, hj⟩ := hS.lit104
  have h101 : j 101 = .bool true := hj (101, _) (by simp)
  have h102 : j 102 = .bool true := hj (102, _) (by simp)
  clear hj hS
  unfold opsD14 rgD bodyD
  simp only [Tryd.f6, Option.getD_some, nthSeq, lit104, List.cons_append, List.nil_append, h101, h102]
  simp only [List.drop_succ_cons, List.drop_zero, List.take_succ_cons, List.take_zero]
  go_wp2
  exact ⟨rfl, rfl, rfl⟩

namespace Lk
open Go.Conc
theorem enterD (tk s1 s2 : Int) : Frame.enter Tryd.prog 6 #[.int .i64 tk, .int .u8 s1, .int .u8 s2] .normal = (base 6).at ⟨#[.int .i64 tk, .int .u8 s1, .int .u8 s2] ++ Array.replicate 101 undef, []⟩ [.code bodyD] := by
  rw [enter_at (c := bodyD) _ Tryd.func6 rfl, Tryd.ntmps6]
  rfl
/-- LinkDead comes to wakes, alone. -/
theorem dead_wins (tk s1 s2 : Int) (n1 n2 : BitVec 8) (hn1 : s1 = n1.toNat) (hn2 : s2 = n2.toNat) (G : World) (hT : Tops G) : Wins Tryd.prog (AtWakes 6 6 G) (Frame.enter Tryd.prog 6 #[.int .i64 tk, .int .u8 s1, .int .u8 s2] .normal) [] G := by
  rw [enterD, bodyD_eq]
  refine Wins.seq (Wins.wp (ld0 _ tk s1 s2 ⟨rfl, by simp, by simp⟩ G) fun a0 W0 ⟨t0, e0⟩ => ?_)
  subst e0
  refine Wins.seq ?_
  rw [rgD1_eq]
  obtain ⟨b, hb⟩ : ∃ b, b = (decide (tk < 1) || decide (50 < tk)) := ⟨_, rfl⟩
  refine Wins.seq (Wins.wp (ld1 a0 tk s1 s2 b hb t0 W0) fun a1 W1 ⟨t1, e1⟩ => ?_)
  subst e1
  have e20 : a1.tmps[20]? = some (.bool b) := t1.get (by simp)
  refine Wins.cond b (by simp [Act.eval, e20]) ?_
  cases b with
  | true =>
    refine Wins.seq (Wins.region ?_)
    rw [sizeD2]
    obtain ⟨o, ho, hg, hop⟩ : ∃ o, opsD2[0]? = some o ∧ o.guard = none ∧ o.op = .call { callee := .value (.func 10), args := #[], argTypes := #[] } := ⟨_, rfl, rfl, rfl⟩
    refine wins_wakes ho (wanted_none hg) hop (AtWakes.mk ?_ hT (Below.refl _ _))
    obtain ⟨o2, ho2, hop2, hd2, hg2⟩ : ∃ o, opsD2[1]? = some o ∧ o.op = .assign (.tmp 21) ∧ o.dst = some 6 ∧ o.guard = none := ⟨_, rfl, rfl, rfl, rfl⟩
    exact cont_two rfl ho2 hop2 hd2 hg2 t1.defers (by rw [t1.size]; omega) (by rw [t1.size]; omega)
  | false =>
    have hr : 1 ≤ tk ∧ tk ≤ 50 := by
      have := hb.symm
      simp at this
      omega
    have hs1 : 0 ≤ s1 ∧ s1 < 256 := by have := n1.isLt; omega
    refine Wins.skip ?_
    refine Wins.seq (Wins.wp (ld2 a1 tk s1 s2 (t1.sub (by simp)) W1) fun a2 W2 ⟨g7, t2, y2, b2⟩ => ?_)
    have hT2 := hT.below b2
    refine Wins.seq (Wins.wp (ld3 a2 tk s1 s2 g7 n1 hn1 t2 W2 hT2) fun a3 W3 ⟨g8, t3, l3, hg8, b3⟩ => ?_)
    have B3 := below_step b2 b3
    have hT3 := hT.below B3
    have y3 := y2.later b3
    refine Wins.seq (Wins.wp (ld4 a3 tk s1 s2 g7 g8 hr t3 W3 y3 l3) fun a4 W4 ⟨t4, b4⟩ => ?_)
    have B4 := below_step B3 b4
    have hT4 := hT.below B4
    have hne : g7 ≠ g8 := fun e => by
      have h1 := y3.at_
      rw [e, l3.at_] at h1
      simp at h1
    refine Wins.seq (Wins.wp (ld5 a4 tk s1 s2 g7 g8 hr hs1 t4 W4 hT4 hT4.sz (y3.later b4) (l3.later b4) hne W1.heap.size (Nat.le_trans b2.size hg8) hT.sz) fun a5 W5 ⟨t5, y5, l5, b5⟩ => ?_)
    have B5 := B4.trans b5
    have hT5 := hT.below B5
    refine Wins.seq (Wins.wp (ld6 a5 tk s1 s2 g7 g8 n2 hn2 hr t5 W5 hT5 l5) fun a6 W6 ⟨g12, g13, t6, l6, f6, b6⟩ => ?_)
    have B6 := B5.trans (b6.mono B5.size)
    have hT6 := hT.below B6
    refine Wins.seq ?_
    rw [rgD7_eq]
    refine Wins.region (Wins.ops _ [20, 21, 22] sizeD14 (ld7a a6 tk s1 s2 g7 g8 g12 g13 n2 hn2 hr t6 W6 (y5.later b6) (l5.later b6) l6 f6) fun a7 W7 ⟨t7, b7⟩ => ?_)
    have B7 := B6.trans (b7.mono B6.size)
    have hT7 := hT.below B7
    obtain ⟨o, ho, hg, hop⟩ : ∃ o, opsD14[20]? = some o ∧ o.guard = some (19, true) ∧ o.op = .call { callee := .value (.func 10), args := #[], argTypes := #[] } := ⟨_, rfl, rfl, rfl⟩
    refine wins_wakes ho (wanted_some (d := 101) hg rfl (t7.get (by simp))) hop (AtWakes.mk ?_ hT7 B7)
    refine cont_of (d := 102) rfl fun w => ld7b _ ((t7.put 102 (.bool true) (by omega) (by simp)).sub (by simp)) w

/-- ████ LinkDead in company. ████ -/
theorem dead_runs (tk s1 s2 : Int) (n1 n2 : BitVec 8) (hn1 : s1 = n1.toNat) (hn2 : s2 = n2.toNat) (A : World) (hT : Tops A) (m : Machine) (t : Trace) (h : St (QL Tryd.prog) (Frame.enter Tryd.prog 6 #[.int .i64 tk, .int .u8 s1, .int .u8 s2] .normal) [] A m t) :
    Run Tryd.prog m t (To (QL Tryd.prog) fun f' cs' A' => cs' = [] ∧ DoneF 6 6 f' ∧ Below A.heap.size A A') := by
  refine wakes_run (NF.enter (fit (fun _ => False)).nice (by decide) _) (fun τ d => ?_) h
  have hTG := (Sees.down A).tops hT
  refine Wins.mono (dead_wins tk s1 s2 n1 n2 hn1 hn2 (re (scrub (Zset (fun _ => False) A) A) τ d) ⟨hTG.c0, hTG.c1, hTG.sz⟩) fun _ _ _ h => h.blind
end Lk
end Go.Proofs.YtlanlkpamnoekaaDoor
namespace Go.Proofs.YtlanlkpamnoekaaDoor
open Go.RowKit Rf Mem Go.ChangeAt
theorem tops_of_laid {W : World} (h : laidMetH Tryd.prog [("lockbar/tick.tops", Rows.laid_lockbar_tick_tops)] W) : Tops W := by
  have hg : Tryd.prog.globalNamed "lockbar/tick.tops" = some 0 := by kernel_rfl
  have t : Lib.TabIs Tryd.prog W "lockbar/tick.tops" .i64 [1073741824, 65535] := Lib.tabIs_of_head (rest := []) hg (t := 116) (by kernel_rfl) Tryd.underlying116 Tryd.underlying3 (by kernel_rfl) (by kernel_rfl) h
  have c0 := t.cell hg 0 (by decide)
  refine ⟨c0, t.cell hg 1 (by decide), ?_⟩
  unfold World.cell? at c0
  cases ho : W.heap[0]? with
  | none => simp [ho] at c0
  | some o => exact (Array.getElem?_eq_some_iff.1 ho).1
theorem byte_of {n : Int} (h : (Lit.int .u8 n).wf = true) : ∃ b : BitVec 8, n = (b.toNat : Int) := by
  have := bounds_u8 h
  exact ⟨BitVec.ofNat 8 n.toNat, by rw [BitVec.toNat_ofNat, Nat.mod_eq_of_lt (by omega)]; omega⟩
end Go.Proofs.YtlanlkpamnoekaaDoor
