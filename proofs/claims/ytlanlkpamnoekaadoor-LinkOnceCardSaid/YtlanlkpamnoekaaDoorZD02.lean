/- Contracts of functions and words for memory. Nothing that was there is turned. -/
import Derived.Test.YtlanlkpamnoekaaDoorZD01
import Derived.StillTailTactics
import Derived.Lib.Hide
import Derived.Deep.CutRange
import Derived.Test.YtlanlkpamnoekaaDoorZD00
set_option linter.unusedSimpArgs false
set_option linter.unusedVariables false
namespace Go.Proofs.YtlanlkpamnoekaaDoor
open Go.RowKit Rf Mem Bv Crc Str
set_option maxRecDepth 100000
attribute [local go_sem ↓] run_max2 run_min2

theorem load_lk {W : World} {g : Nat} {x y z : Value} {f : Nat × Nat} (hg : W.heap[g]? = some (.cells #[x, y, z] 31 f)) : (loadVar 31 ⟨g, 0, none⟩).run Tryd.prog W = .ok (.agg #[x, y, z]) W := by
  have c0 := cell_at hg 0
  have c1 := cell_at hg 1
  have c2 := cell_at hg 2
  simp only [List.getElem?_toArray, List.getElem?_cons_zero, List.getElem?_cons_succ] at c0 c1 c2
  simp [go_sem, c0, c1, c2]
theorem res_hear {fn : Func} {t u v : Tmp} (hf : fn.results = #[.cell t 31, .cell u 41, .tmp v]) {tmps : Array Value} {W : World} {g g' : Nat} {x y z x' y' z' : Value} {f f' : Nat × Nat} (hs : tmps.getD t undef = .pointer (some ⟨g, 0, none⟩)) (hs' : tmps.getD u undef = .pointer (some ⟨g', 0, none⟩))
    (hg : W.heap[g]? = some (.cells #[x, y, z] 31 f)) (hg' : W.heap[g']? = some (.cells #[x', y', z'] 41 f')) :
    (results fn tmps).run Tryd.prog W = .ok (.tuple #[.agg #[x, y, z], .agg #[x', y', z'], tmps.getD v undef]) W := by
  have h1 : tmps[t]?.getD undef = .pointer (some ⟨g, 0, none⟩) := by simpa using hs
  have h2 : tmps[u]?.getD undef = .pointer (some ⟨g', 0, none⟩) := by simpa using hs'
  simp [results, hf, h1, h2, asAddr, load_lk hg, load_frm hg']

theorem LVar.set3 {W : World} {g : Nat} {s q e : Int} (h : LVar W g s q e) (s' q' e' : Int) : LVar (((W.setCell ⟨g, 0, none⟩ (.int .i64 s')).setCell ⟨g, 1, none⟩ (.int .i64 q')).setCell ⟨g, 2, none⟩ (.int .i64 e')) g s' q' e' := ⟨by
  have := set_at (set_at (set_at h.at_ 0 (.int .i64 s')) 1 (.int .i64 q')) 2 (.int .i64 e')
  simpa using this⟩
theorem far3 {W : World} {g g' : Nat} (h : g ≠ g') (x y z : Value) : (((W.setCell ⟨g', 0, none⟩ x).setCell ⟨g', 1, none⟩ y).setCell ⟨g', 2, none⟩ z).heap[g]? = W.heap[g]? := by
  rw [Below.heap_setCell _ _ _ _ h, Below.heap_setCell _ _ _ _ h, Below.heap_setCell _ _ _ _ h]
theorem LVar.far3 {W : World} {g g' : Nat} {s q e : Int} (h : LVar W g s q e) (hn : g ≠ g') (s' q' e' : Int) : LVar (((W.setCell ⟨g', 0, none⟩ (.int .i64 s')).setCell ⟨g', 1, none⟩ (.int .i64 q')).setCell ⟨g', 2, none⟩ (.int .i64 e')) g s q e := ⟨(Go.Proofs.YtlanlkpamnoekaaDoor.far3 hn _ _ _).trans h.at_⟩
theorem frame_far3 {W : World} {g g' : Nat} {o : Obj} (h : W.heap[g]? = some o) (hn : g ≠ g') (s' q' e' : Int) : (((W.setCell ⟨g', 0, none⟩ (.int .i64 s')).setCell ⟨g', 1, none⟩ (.int .i64 q')).setCell ⟨g', 2, none⟩ (.int .i64 e')).heap[g]? = some o := (Go.Proofs.YtlanlkpamnoekaaDoor.far3 hn _ _ _).trans h

/-- what Hear tells -/
def HearOut (n0 : Nat) (s q e kind : Int) (b : List (BitVec 8)) (x : Ending) (w' : World) : Prop :=
  if rightL s q e = false then x = .returned (.tuple #[lk s q e, fv 0 0 (.slice none 0 0), .int .i64 2])
  else if (takeV b).2.2.2 ≠ 0 then x = .returned (.tuple #[lk s q (onV e 1 65535), fv 0 0 (.slice none 0 0), .int .i64 (takeV b).2.2.2])
  else if ((takeV b).1.toNat : Int) ≠ kind then x = .returned (.tuple #[lk s q (onV e 1 65535), fv 0 0 (.slice none 0 0), .int .i64 41])
  else if 0 ≤ s ∧ newer ((takeV b).2.1.toNat : Int) s = false then x = .returned (.tuple #[lk s q (onV e 1 65535), fv 0 0 (.slice none 0 0), .int .i64 290])
  else ∃ A c, x = .returned (.tuple #[lk ((takeV b).2.1.toNat : Int) 0 e, fv ((takeV b).1.toNat : Int) ((takeV b).2.1.toNat : Int) (.slice A (takeV b).2.2.1.length c), .int .i64 0]) ∧ SliceAt w' 1 (.slice A (takeV b).2.2.1.length c) (takeV b).2.2.1.length (u8s (takeV b).2.2.1) ∧ ∀ q, VB (.slice A (takeV b).2.2.1.length c) (takeV b).2.2.1.length q → n0 ≤ q

set_option maxHeartbeats 1000000 in
theorem Hear_arg (s q e kind : Int) (v : Value) (b : List (BitVec 8)) (w : World) (hT : Tops w) (hs : SliceAt w 1 v b.length (u8s b)) (hl2 : b.length ≤ 140737488355328) (hr : rightL s q e = false) :
    Calls Tryd.prog 11 #[lk s q e, .int .u8 kind, v] w fun x w' => Below w.heap.size w w' ∧ HearOut w.heap.size s q e kind b x w' := by
  have b1 := below_new w (.cells #[.int .i64 s, .int .i64 q, .int .i64 e] 31)
  have V0 := LVar.new w s q e
  have x0 := V0.c0
  have x1 := V0.c1
  have x2 := V0.c2
  go_enter Tryd.func11, Tryd.ntmps11
  go_wp2_with fail
  have b2 := below_new (w.alloc (.cells #[.int .i64 s, .int .i64 q, .int .i64 e] 31)) (.cells #[.int .i64 0, .int .i64 0, .int .i64 0] 31)
  have R0 := LVar.new (w.alloc (.cells #[.int .i64 s, .int .i64 q, .int .i64 e] 31)) 0 0 0
  have V1 := V0.later b2
  have B1 := below_step b1 b2
  simp only [World.size_alloc] at R0
  clear x0 x1 x2 V0 b1 b2
  generalize hw1 : (w.alloc (.cells #[.int .i64 s, .int .i64 q, .int .i64 e] 31)).alloc (.cells #[.int .i64 0, .int .i64 0, .int .i64 0] 31) = w1 at *
  have hs1 : w1.heap.size = w.heap.size + 1 + 1 := by rw [← hw1]; simp
  clear hw1
  have b3 := below_new w1 (.cells #[.int .u8 0, .int .u8 0, .slice none 0 0] 41)
  have g2 : (w1.alloc (.cells #[.int .u8 0, .int .u8 0, .slice none 0 0] 41)).heap[w1.heap.size]? = some _ := new_at rfl _
  rw [hs1] at g2
  have V2 := V1.later b3
  have R2 := R0.later b3
  have B2 := below_step B1 b3
  have hs2 : (w1.alloc (.cells #[.int .u8 0, .int .u8 0, .slice none 0 0] 41)).heap.size = w.heap.size + 1 + 1 + 1 := by simp [hs1]
  have hT2 := hT.below B2
  clear V1 R0 B1 b3
  generalize hw2 : w1.alloc (.cells #[.int .u8 0, .int .u8 0, .slice none 0 0] 41) = W at *
  clear hw2 hs1
  have HS := Lib.hid hs2
  clear hs2
  have v0 := V2.c0
  have v1 := V2.c1
  have v2 := V2.c2
  have r0 := R2.c0
  have r1 := R2.c1
  have r2 := R2.c2
  have f0 := cell_at g2 0
  have f1 := cell_at g2 1
  have f2 := cell_at g2 2
  have e0 := free_at R2.at_ 0
  have e1 := free_at R2.at_ 1
  have e2 := free_at R2.at_ 2
  refine wp_scope_fwd 0 (by simp only [findLabel]; rfl) ?_
  go_wp2_with fail
  have R3 := R2.set3 s q e
  have B3 := ((B2.setCell (p := ⟨w.heap.size + 1, 0, none⟩) (by simp) (.int .i64 s)).setCell (p := ⟨w.heap.size + 1, 1, none⟩) (by simp) (.int .i64 q)).setCell (p := ⟨w.heap.size + 1, 2, none⟩) (by simp) (.int .i64 e)
  have V3 := V2.far3 (g' := w.heap.size + 1) (by omega) s q e
  have g3 := frame_far3 g2 (g' := w.heap.size + 1) (by omega) s q e
  have hT3 := hT.below B3
  have hs3 : (((W.setCell ⟨w.heap.size + 1, 0, none⟩ (.int .i64 s)).setCell ⟨w.heap.size + 1, 1, none⟩ (.int .i64 q)).setCell ⟨w.heap.size + 1, 2, none⟩ (.int .i64 e)).heap.size = w.heap.size + 1 + 1 + 1 := by simpa using HS.out
  clear v0 v1 v2 r0 r1 r2 f0 f1 f2 e0 e1 e2 g2 V2 R2 B2 hT2 HS
  generalize ((W.setCell ⟨w.heap.size + 1, 0, none⟩ (.int .i64 s)).setCell ⟨w.heap.size + 1, 1, none⟩ (.int .i64 q)).setCell ⟨w.heap.size + 1, 2, none⟩ (.int .i64 e) = W3 at *
  clear W
  refine (link_Right_c s q e W3 false hr.symm hT3).mono ?_
  rintro x W4 ⟨rfl, b4⟩
  have V := V3.later b4
  have R := R3.later b4
  have g := below_at b4 g3 (by omega)
  have B := B3.trans (b4.mono (by omega))
  clear V3 R3 g3 B3 hT3 hs3 b4
  have v0 := V.c0
  have v1 := V.c1
  have v2 := V.c2
  have r0 := R.c0
  have r1 := R.c1
  have r2 := R.c2
  have f0 := cell_at g 0
  have f1 := cell_at g 1
  have f2 := cell_at g 2
  have e0 := free_at R.at_ 0
  have e1 := free_at R.at_ 1
  have e2 := free_at R.at_ 2
  have h0 := free_at g 0
  have h1 := free_at g 1
  have h2 := free_at g 2
  go_wp2_with fail
  have RR := R.set3 s q e
  have BB := ((B.setCell (p := ⟨w.heap.size + 1, 0, none⟩) (by simp) (.int .i64 s)).setCell (p := ⟨w.heap.size + 1, 1, none⟩) (by simp) (.int .i64 q)).setCell (p := ⟨w.heap.size + 1, 2, none⟩) (by simp) (.int .i64 e)
  have gg := frame_far3 g (g' := w.heap.size + 1) (by omega) s q e
  have RR' := (Go.Proofs.YtlanlkpamnoekaaDoor.far3 (W := ((W4.setCell ⟨w.heap.size + 1, 0, none⟩ (.int .i64 s)).setCell ⟨w.heap.size + 1, 1, none⟩ (.int .i64 q)).setCell ⟨w.heap.size + 1, 2, none⟩ (.int .i64 e)) (g := w.heap.size + 1) (g' := w.heap.size + 1 + 1) (by omega) (.int .u8 0) (.int .u8 0) (.slice none 0 0)).trans RR.at_
  have gg' := set_at (set_at (set_at gg 0 (.int .u8 0)) 1 (.int .u8 0)) 2 (.slice none 0 0)
  have BB' := ((BB.setCell (p := ⟨w.heap.size + 1 + 1, 0, none⟩) (by simp; omega) (.int .u8 0)).setCell (p := ⟨w.heap.size + 1 + 1, 1, none⟩) (by simp; omega) (.int .u8 0)).setCell (p := ⟨w.heap.size + 1 + 1, 2, none⟩) (by simp; omega) (.slice none 0 0)
  have HR := Lib.hid RR'
  have HG := Lib.hid gg'
  have HB := Lib.hid BB'
  clear RR BB gg RR' gg' BB'
  go_region
  go_wp2
  rw [jump_ret]
  generalize (((((W4.setCell ⟨w.heap.size + 1, 0, none⟩ (.int .i64 s)).setCell ⟨w.heap.size + 1, 1, none⟩ (.int .i64 q)).setCell ⟨w.heap.size + 1, 2, none⟩ (.int .i64 e)).setCell ⟨w.heap.size + 1 + 1, 0, none⟩ (.int .u8 0)).setCell ⟨w.heap.size + 1 + 1, 1, none⟩ (.int .u8 0)).setCell ⟨w.heap.size + 1 + 1, 2, none⟩ (.slice none 0 0) = W5 at *
  clear v0 v1 v2 r0 r1 r2 f0 f1 f2 e0 e1 e2 h0 h1 h2 V R g
  have x1 := HR.out
  have x2 := HG.out
  have x3 := HB.out
  clear HR HG HB
  exact bodyPost_ret (res_hear (t := 6) (u := 7) (v := 8) (W := W5.drew) (g := w.heap.size + 1) (g' := w.heap.size + 1 + 1) rfl rfl rfl x1 x2) rfl ⟨x3.drew, by unfold HearOut; rw [if_pos hr]; rfl⟩
theorem LVar.set1 {W : World} {g : Nat} {s q e : Int} (h : LVar W g s q e) (e' : Int) : LVar (W.setCell ⟨g, 2, none⟩ (.int .i64 e')) g s q e' := ⟨by
  have := set_at h.at_ 2 (.int .i64 e')
  simpa using this⟩
theorem LVar.set01 {W : World} {g : Nat} {s q e : Int} (h : LVar W g s q e) (s' q' : Int) : LVar ((W.setCell ⟨g, 0, none⟩ (.int .i64 s')).setCell ⟨g, 1, none⟩ (.int .i64 q')) g s' q' e := ⟨by
  have := set_at (set_at h.at_ 0 (.int .i64 s')) 1 (.int .i64 q')
  simpa using this⟩
theorem frame_far1 {W : World} {g g' i : Nat} {o : Obj} (h : W.heap[g]? = some o) (hn : g ≠ g') (x : Value) : (W.setCell ⟨g', i, none⟩ x).heap[g]? = some o := (Below.heap_setCell _ _ _ _ hn).trans h
theorem lt_of_at {W : World} {g : Nat} {o : Obj} (h : W.heap[g]? = some o) : g < W.heap.size := (Array.getElem?_eq_some_iff.1 h).1
set_option maxHeartbeats 1000000 in
theorem Hear_take (s q e kind : Int) (v : Value) (b : List (BitVec 8)) (w : World) (hT : Tops w) (hs : SliceAt w 1 v b.length (u8s b)) (hl2 : b.length ≤ 140737488355328) (hr : rightL s q e = true) (he : (takeV b).2.2.2 ≠ 0) :
    Calls Tryd.prog 11 #[lk s q e, .int .u8 kind, v] w fun x w' => Below w.heap.size w w' ∧ HearOut w.heap.size s q e kind b x w' := by
  have b1 := below_new w (.cells #[.int .i64 s, .int .i64 q, .int .i64 e] 31)
  have V0 := LVar.new w s q e
  have x0 := V0.c0
  have x1 := V0.c1
  have x2 := V0.c2
  go_enter Tryd.func11, Tryd.ntmps11
  go_wp2_with fail
  have b2 := below_new (w.alloc (.cells #[.int .i64 s, .int .i64 q, .int .i64 e] 31)) (.cells #[.int .i64 0, .int .i64 0, .int .i64 0] 31)
  have R0 := LVar.new (w.alloc (.cells #[.int .i64 s, .int .i64 q, .int .i64 e] 31)) 0 0 0
  have V1 := V0.later b2
  have B1 := below_step b1 b2
  simp only [World.size_alloc] at R0
  clear x0 x1 x2 V0 b1 b2
  generalize hw1 : (w.alloc (.cells #[.int .i64 s, .int .i64 q, .int .i64 e] 31)).alloc (.cells #[.int .i64 0, .int .i64 0, .int .i64 0] 31) = w1 at *
  have hs1 : w1.heap.size = w.heap.size + 1 + 1 := by rw [← hw1]; simp
  clear hw1
  have b3 := below_new w1 (.cells #[.int .u8 0, .int .u8 0, .slice none 0 0] 41)
  have g2 : (w1.alloc (.cells #[.int .u8 0, .int .u8 0, .slice none 0 0] 41)).heap[w1.heap.size]? = some _ := new_at rfl _
  rw [hs1] at g2
  have V2 := V1.later b3
  have R2 := R0.later b3
  have B2 := below_step B1 b3
  have hs2 : (w1.alloc (.cells #[.int .u8 0, .int .u8 0, .slice none 0 0] 41)).heap.size = w.heap.size + 1 + 1 + 1 := by simp [hs1]
  have hT2 := hT.below B2
  clear V1 R0 B1 b3
  generalize hw2 : w1.alloc (.cells #[.int .u8 0, .int .u8 0, .slice none 0 0] 41) = W at *
  clear hw2 hs1
  have HS := Lib.hid hs2
  clear hs2
  have v0 := V2.c0
  have v1 := V2.c1
  have v2 := V2.c2
  have r0 := R2.c0
  have r1 := R2.c1
  have r2 := R2.c2
  have f0 := cell_at g2 0
  have f1 := cell_at g2 1
  have f2 := cell_at g2 2
  have e0 := free_at R2.at_ 0
  have e1 := free_at R2.at_ 1
  have e2 := free_at R2.at_ 2
  refine wp_scope_fwd 0 (by simp only [findLabel]; rfl) ?_
  go_wp2_with fail
  have R3 := R2.set3 s q e
  have B3 := ((B2.setCell (p := ⟨w.heap.size + 1, 0, none⟩) (by simp) (.int .i64 s)).setCell (p := ⟨w.heap.size + 1, 1, none⟩) (by simp) (.int .i64 q)).setCell (p := ⟨w.heap.size + 1, 2, none⟩) (by simp) (.int .i64 e)
  have V3 := V2.far3 (g' := w.heap.size + 1) (by omega) s q e
  have g3 := frame_far3 g2 (g' := w.heap.size + 1) (by omega) s q e
  have hT3 := hT.below B3
  have hs3 : (((W.setCell ⟨w.heap.size + 1, 0, none⟩ (.int .i64 s)).setCell ⟨w.heap.size + 1, 1, none⟩ (.int .i64 q)).setCell ⟨w.heap.size + 1, 2, none⟩ (.int .i64 e)).heap.size = w.heap.size + 1 + 1 + 1 := by simpa using HS.out
  clear v0 v1 v2 r0 r1 r2 f0 f1 f2 e0 e1 e2 g2 V2 R2 B2 hT2 HS
  generalize ((W.setCell ⟨w.heap.size + 1, 0, none⟩ (.int .i64 s)).setCell ⟨w.heap.size + 1, 1, none⟩ (.int .i64 q)).setCell ⟨w.heap.size + 1, 2, none⟩ (.int .i64 e) = W3 at *
  clear W
  refine (link_Right_c s q e W3 true hr.symm hT3).mono ?_
  rintro x W4 ⟨rfl, b4⟩
  have V := V3.later b4
  have R := R3.later b4
  have g := below_at b4 g3 (by omega)
  have B := B3.trans (b4.mono (by omega))
  clear V3 R3 g3 B3 hT3 hs3 b4
  have v0 := V.c0
  have v1 := V.c1
  have v2 := V.c2
  have r0 := R.c0
  have r1 := R.c1
  have r2 := R.c2
  have f0 := cell_at g 0
  have f1 := cell_at g 1
  have f2 := cell_at g 2
  have e0 := free_at R.at_ 0
  have e1 := free_at R.at_ 1
  have e2 := free_at R.at_ 2
  have h0 := free_at g 0
  have h1 := free_at g 1
  have h2 := free_at g 2
  have hsl := hs.later B
  go_wp2_with fail
  refine (Take_no v b _ W4 hsl rfl he hl2).mono ?_
  rintro x W5 ⟨b5, rfl⟩
  have V := V.later b5
  have R := R.later b5
  have g := below_at b5 g (lt_of_at g)
  have B := below_step B b5
  have v0 := V.c0
  have v1 := V.c1
  have v2 := V.c2
  have r0 := R.c0
  have r1 := R.c1
  have r2 := R.c2
  have f0 := cell_at g 0
  have f1 := cell_at g 1
  have f2 := cell_at g 2
  have e0 := free_at R.at_ 0
  have e1 := free_at R.at_ 1
  have e2 := free_at R.at_ 2
  have h0 := free_at g 0
  have h1 := free_at g 1
  have h2 := free_at g 2
  have R' := (Go.Proofs.YtlanlkpamnoekaaDoor.far3 (g := w.heap.size + 1) (g' := w.heap.size + 1 + 1) (by omega) (.int .u8 0) (.int .u8 0) (.slice none 0 0)).trans R.at_
  have V' := (Go.Proofs.YtlanlkpamnoekaaDoor.far3 (g := w.heap.size) (g' := w.heap.size + 1 + 1) (by omega) (.int .u8 0) (.int .u8 0) (.slice none 0 0)).trans V.at_
  have g' := set_at (set_at (set_at g 0 (.int .u8 0)) 1 (.int .u8 0)) 2 (.slice none 0 0)
  have B' := ((B.setCell (p := ⟨w.heap.size + 1 + 1, 0, none⟩) (by simp; omega) (.int .u8 0)).setCell (p := ⟨w.heap.size + 1 + 1, 1, none⟩) (by simp; omega) (.int .u8 0)).setCell (p := ⟨w.heap.size + 1 + 1, 2, none⟩) (by simp; omega) (.slice none 0 0)
  have q2 : ((takeV b).2.2.2 != 0) = true := by simpa using he
  have he0 := he
  generalize her : (takeV b).2.2.2 = er at he q2
  clear V
  have HV := Lib.hid V'
  have HR := Lib.hid R'
  have HG := Lib.hid g'
  have HB := Lib.hid B'
  clear V' R' g' B' R g B
  go_wp2
  go_step3
  go_wp2
  clear v0 v1 v2 r0 r1 r2 f0 f1 f2 e0 e1 e2 h0 h1 h2
  generalize ((W5.setCell ⟨w.heap.size + 1 + 1, 0, none⟩ (.int .u8 0)).setCell ⟨w.heap.size + 1 + 1, 1, none⟩ (.int .u8 0)).setCell ⟨w.heap.size + 1 + 1, 2, none⟩ (.slice none 0 0) = W9 at *
  have V : LVar W9 w.heap.size s q e := ⟨HV.out⟩
  have R : LVar W9 (w.heap.size + 1) s q e := ⟨HR.out⟩
  have g := HG.out
  have B := HB.out
  simp only [List.setIfInBounds_toArray, List.set_cons_zero, List.set_cons_succ] at g
  clear HV HR HG HB
  have hT9 := hT.below B
  have r2 := R.c2
  rw [jump_goto]
  go_wp2_with fail
  refine (More_c e 1 _ hT9).mono ?_
  rintro x W6 ⟨rfl, b6⟩
  have R6 := R.later b6
  have g6 := below_at b6 g (lt_of_at g)
  have B6 := below_step B b6
  clear r2 R g B hT9 b6
  generalize hE : onV e 1 65535 = E at *
  have R7 := R6.set1 E
  have g7 := frame_far1 g6 (i := 2) (g' := w.heap.size + 1) (by omega) (.int .i64 E)
  have B7 := B6.setCell (p := ⟨w.heap.size + 1, 2, none⟩) (by simp) (.int .i64 E)
  have k2 := free_at R6.at_ 2
  have r0 := R6.c0
  have r1 := R6.c1
  have r2 := R6.c2
  have e0 := free_at R6.at_ 0
  have e1 := free_at R6.at_ 1
  have h0 := free_at g6 0
  have h1 := free_at g6 1
  have h2 := free_at g6 2
  have f0 := cell_at g6 0
  have f1 := cell_at g6 1
  have f2 := cell_at g6 2
  have R8 := (Go.Proofs.YtlanlkpamnoekaaDoor.far3 (g := w.heap.size + 1) (g' := w.heap.size + 1 + 1) (by omega) (.int .u8 0) (.int .u8 0) (.slice none 0 0)).trans (R7.set3 s q E).at_
  have g8 := set_at (set_at (set_at (frame_far3 g7 (g' := w.heap.size + 1) (by omega) s q E) 0 (.int .u8 0)) 1 (.int .u8 0)) 2 (.slice none 0 0)
  have B8 := (((((B7.setCell (p := ⟨w.heap.size + 1, 0, none⟩) (by simp) (.int .i64 s)).setCell (p := ⟨w.heap.size + 1, 1, none⟩) (by simp) (.int .i64 q)).setCell (p := ⟨w.heap.size + 1, 2, none⟩) (by simp) (.int .i64 E)).setCell (p := ⟨w.heap.size + 1 + 1, 0, none⟩) (by simp; omega) (.int .u8 0)).setCell (p := ⟨w.heap.size + 1 + 1, 1, none⟩) (by simp; omega) (.int .u8 0)).setCell (p := ⟨w.heap.size + 1 + 1, 2, none⟩) (by simp; omega) (.slice none 0 0)
  have HR := Lib.hid R8
  have HG := Lib.hid g8
  have HB := Lib.hid B8
  clear R8 g8 B8 R7 g7 B7 R6 g6 B6
  go_wp2
  rw [Exit.noGoto_ret]
  have x1 := HR.out
  have x2 := HG.out
  have x3 := HB.out
  clear HR HG HB
  exact bodyPost_ret (res_hear (t := 6) (u := 7) (v := 8) (g := w.heap.size + 1) (g' := w.heap.size + 1 + 1) rfl rfl rfl x1 x2) rfl ⟨x3, by unfold HearOut; rw [if_neg (by rw [hr]; simp), if_pos he0, her, hE]; rfl⟩
set_option maxHeartbeats 1000000 in
theorem Hear_form (s q e kind : Int) (v : Value) (b : List (BitVec 8)) (k n : BitVec 8) (p : List (BitVec 8)) (k' n' : Int) (w : World) (hT : Tops w) (hs : SliceAt w 1 v b.length (u8s b)) (hl2 : b.length ≤ 140737488355328) (hr : rightL s q e = true) (hb : takeV b = (k, n, p, 0)) (hk' : k' = k.toNat) (hn' : n' = n.toNat) (hkk : k' ≠ kind) :
    Calls Tryd.prog 11 #[lk s q e, .int .u8 kind, v] w fun x w' => Below w.heap.size w w' ∧ HearOut w.heap.size s q e kind b x w' := by
  have b1 := below_new w (.cells #[.int .i64 s, .int .i64 q, .int .i64 e] 31)
  have V0 := LVar.new w s q e
  have x0 := V0.c0
  have x1 := V0.c1
  have x2 := V0.c2
  go_enter Tryd.func11, Tryd.ntmps11
  go_wp2_with fail
  have b2 := below_new (w.alloc (.cells #[.int .i64 s, .int .i64 q, .int .i64 e] 31)) (.cells #[.int .i64 0, .int .i64 0, .int .i64 0] 31)
  have R0 := LVar.new (w.alloc (.cells #[.int .i64 s, .int .i64 q, .int .i64 e] 31)) 0 0 0
  have V1 := V0.later b2
  have B1 := below_step b1 b2
  simp only [World.size_alloc] at R0
  clear x0 x1 x2 V0 b1 b2
  generalize hw1 : (w.alloc (.cells #[.int .i64 s, .int .i64 q, .int .i64 e] 31)).alloc (.cells #[.int .i64 0, .int .i64 0, .int .i64 0] 31) = w1 at *
  have hs1 : w1.heap.size = w.heap.size + 1 + 1 := by rw [← hw1]; simp
  clear hw1
  have b3 := below_new w1 (.cells #[.int .u8 0, .int .u8 0, .slice none 0 0] 41)
  have g2 : (w1.alloc (.cells #[.int .u8 0, .int .u8 0, .slice none 0 0] 41)).heap[w1.heap.size]? = some _ := new_at rfl _
  rw [hs1] at g2
  have V2 := V1.later b3
  have R2 := R0.later b3
  have B2 := below_step B1 b3
  have hs2 : (w1.alloc (.cells #[.int .u8 0, .int .u8 0, .slice none 0 0] 41)).heap.size = w.heap.size + 1 + 1 + 1 := by simp [hs1]
  have hT2 := hT.below B2
  clear V1 R0 B1 b3
  generalize hw2 : w1.alloc (.cells #[.int .u8 0, .int .u8 0, .slice none 0 0] 41) = W at *
  clear hw2 hs1
  have HS := Lib.hid hs2
  clear hs2
  have v0 := V2.c0
  have v1 := V2.c1
  have v2 := V2.c2
  have r0 := R2.c0
  have r1 := R2.c1
  have r2 := R2.c2
  have f0 := cell_at g2 0
  have f1 := cell_at g2 1
  have f2 := cell_at g2 2
  have e0 := free_at R2.at_ 0
  have e1 := free_at R2.at_ 1
  have e2 := free_at R2.at_ 2
  refine wp_scope_fwd 0 (by simp only [findLabel]; rfl) ?_
  go_wp2_with fail
  have R3 := R2.set3 s q e
  have B3 := ((B2.setCell (p := ⟨w.heap.size + 1, 0, none⟩) (by simp) (.int .i64 s)).setCell (p := ⟨w.heap.size + 1, 1, none⟩) (by simp) (.int .i64 q)).setCell (p := ⟨w.heap.size + 1, 2, none⟩) (by simp) (.int .i64 e)
  have V3 := V2.far3 (g' := w.heap.size + 1) (by omega) s q e
  have g3 := frame_far3 g2 (g' := w.heap.size + 1) (by omega) s q e
  have hT3 := hT.below B3
  have hs3 : (((W.setCell ⟨w.heap.size + 1, 0, none⟩ (.int .i64 s)).setCell ⟨w.heap.size + 1, 1, none⟩ (.int .i64 q)).setCell ⟨w.heap.size + 1, 2, none⟩ (.int .i64 e)).heap.size = w.heap.size + 1 + 1 + 1 := by simpa using HS.out
  clear v0 v1 v2 r0 r1 r2 f0 f1 f2 e0 e1 e2 g2 V2 R2 B2 hT2 HS
  generalize ((W.setCell ⟨w.heap.size + 1, 0, none⟩ (.int .i64 s)).setCell ⟨w.heap.size + 1, 1, none⟩ (.int .i64 q)).setCell ⟨w.heap.size + 1, 2, none⟩ (.int .i64 e) = W3 at *
  clear W
  refine (link_Right_c s q e W3 true hr.symm hT3).mono ?_
  rintro x W4 ⟨rfl, b4⟩
  have V := V3.later b4
  have R := R3.later b4
  have g := below_at b4 g3 (by omega)
  have B := B3.trans (b4.mono (by omega))
  clear V3 R3 g3 B3 hT3 hs3 b4
  have v0 := V.c0
  have v1 := V.c1
  have v2 := V.c2
  have r0 := R.c0
  have r1 := R.c1
  have r2 := R.c2
  have f0 := cell_at g 0
  have f1 := cell_at g 1
  have f2 := cell_at g 2
  have e0 := free_at R.at_ 0
  have e1 := free_at R.at_ 1
  have e2 := free_at R.at_ 2
  have h0 := free_at g 0
  have h1 := free_at g 1
  have h2 := free_at g 2
  have hsl := hs.later B
  go_wp2_with fail
  have hg4 := lt_of_at g
  refine (Take_yesF k n k' n' v p b W4 hk' hn' hsl hb hl2).mono ?_
  rintro x W5 ⟨b5, A, c, rfl, hp5, hf5⟩
  have V := V.later b5
  have R := R.later b5
  have g := below_at b5 g (lt_of_at g)
  have B := below_step B b5
  have v0 := V.c0
  have v1 := V.c1
  have v2 := V.c2
  have r0 := R.c0
  have r1 := R.c1
  have r2 := R.c2
  have f0 := cell_at g 0
  have f1 := cell_at g 1
  have f2 := cell_at g 2
  have e0 := free_at R.at_ 0
  have e1 := free_at R.at_ 1
  have e2 := free_at R.at_ 2
  have h0 := free_at g 0
  have h1 := free_at g 1
  have h2 := free_at g 2
  have R' := (Go.Proofs.YtlanlkpamnoekaaDoor.far3 (g := w.heap.size + 1) (g' := w.heap.size + 1 + 1) (by omega) (.int .u8 k') (.int .u8 n') (.slice A p.length c)).trans R.at_
  have V' := (Go.Proofs.YtlanlkpamnoekaaDoor.far3 (g := w.heap.size) (g' := w.heap.size + 1 + 1) (by omega) (.int .u8 k') (.int .u8 n') (.slice A p.length c)).trans V.at_
  have g' := set_at (set_at (set_at g 0 (.int .u8 k')) 1 (.int .u8 n')) 2 (.slice A p.length c)
  have B' := ((B.setCell (p := ⟨w.heap.size + 1 + 1, 0, none⟩) (by simp; omega) (.int .u8 k')).setCell (p := ⟨w.heap.size + 1 + 1, 1, none⟩) (by simp; omega) (.int .u8 n')).setCell (p := ⟨w.heap.size + 1 + 1, 2, none⟩) (by simp; omega) (.slice A p.length c)
  have hp' : SliceAt (((W5.setCell ⟨w.heap.size + 1 + 1, 0, none⟩ (.int .u8 k')).setCell ⟨w.heap.size + 1 + 1, 1, none⟩ (.int .u8 n')).setCell ⟨w.heap.size + 1 + 1, 2, none⟩ (.slice A p.length c)) 1 (.slice A p.length c) p.length (u8s p) := slice_keep hp5 ((((Keep.refl (fun q => q ≠ w.heap.size + 1 + 1) W5).setCell (fun _ h => h rfl) _).setCell (fun _ h => h rfl) _).setCell (fun _ h => h rfl) _) (fun q hq => by have := hf5 q hq; omega)
  clear V
  have HV := Lib.hid V'
  have HR := Lib.hid R'
  have HG := Lib.hid g'
  have HB := Lib.hid B'
  have HP := Lib.hid hp'
  have hf6 : ∀ q', VB (.slice A p.length c) p.length q' → w.heap.size + 1 + 1 < q' := fun q' hq => by have := hf5 q' hq; omega
  have HF := Lib.hid hf6
  clear hf6
  have HK := Lib.hid hk'
  have HN := Lib.hid hn'
  clear V' R' g' B' hp' hp5 hf5 hg4 R g B hk' hn'
  have q3 : (k' != kind) = true := by simpa using hkk
  go_wp2
  go_step3
  go_wp2
  clear v0 v1 v2 r0 r1 r2 f0 f1 f2 e0 e1 e2 h0 h1 h2
  generalize ((W5.setCell ⟨w.heap.size + 1 + 1, 0, none⟩ (.int .u8 k')).setCell ⟨w.heap.size + 1 + 1, 1, none⟩ (.int .u8 n')).setCell ⟨w.heap.size + 1 + 1, 2, none⟩ (.slice A p.length c) = W9 at *
  have V : LVar W9 w.heap.size s q e := ⟨HV.out⟩
  have R : LVar W9 (w.heap.size + 1) s q e := ⟨HR.out⟩
  have g := HG.out
  have B := HB.out
  simp only [List.setIfInBounds_toArray, List.set_cons_zero, List.set_cons_succ] at g
  clear HV HR HG HB
  have hp := HP.out
  clear HP
  clear v0 v1 v2 r0 r1 r2 f0 f1 f2 e0 e1 e2 h0 h1 h2
  have hT9 := hT.below B
  have r2 := R.c2
  rw [jump_goto]
  go_wp2_with fail
  refine (More_c e 1 _ hT9).mono ?_
  rintro x W6 ⟨rfl, b6⟩
  have R6 := R.later b6
  have g6 := below_at b6 g (lt_of_at g)
  have B6 := below_step B b6
  clear r2 R g B hT9 b6
  generalize hE : onV e 1 65535 = E at *
  have R7 := R6.set1 E
  have g7 := frame_far1 g6 (i := 2) (g' := w.heap.size + 1) (by omega) (.int .i64 E)
  have B7 := B6.setCell (p := ⟨w.heap.size + 1, 2, none⟩) (by simp) (.int .i64 E)
  have k2 := free_at R6.at_ 2
  have r0 := R6.c0
  have r1 := R6.c1
  have r2 := R6.c2
  have e0 := free_at R6.at_ 0
  have e1 := free_at R6.at_ 1
  have h0 := free_at g6 0
  have h1 := free_at g6 1
  have h2 := free_at g6 2
  have f0 := cell_at g6 0
  have f1 := cell_at g6 1
  have f2 := cell_at g6 2
  have R8 := (Go.Proofs.YtlanlkpamnoekaaDoor.far3 (g := w.heap.size + 1) (g' := w.heap.size + 1 + 1) (by omega) (.int .u8 0) (.int .u8 0) (.slice none 0 0)).trans (R7.set3 s q E).at_
  have g8 := set_at (set_at (set_at (frame_far3 g7 (g' := w.heap.size + 1) (by omega) s q E) 0 (.int .u8 0)) 1 (.int .u8 0)) 2 (.slice none 0 0)
  have B8 := (((((B7.setCell (p := ⟨w.heap.size + 1, 0, none⟩) (by simp) (.int .i64 s)).setCell (p := ⟨w.heap.size + 1, 1, none⟩) (by simp) (.int .i64 q)).setCell (p := ⟨w.heap.size + 1, 2, none⟩) (by simp) (.int .i64 E)).setCell (p := ⟨w.heap.size + 1 + 1, 0, none⟩) (by simp; omega) (.int .u8 0)).setCell (p := ⟨w.heap.size + 1 + 1, 1, none⟩) (by simp; omega) (.int .u8 0)).setCell (p := ⟨w.heap.size + 1 + 1, 2, none⟩) (by simp; omega) (.slice none 0 0)
  have HR := Lib.hid R8
  have HG := Lib.hid g8
  have HB := Lib.hid B8
  clear R8 g8 B8 R7 g7 B7 R6 g6 B6
  go_wp2
  rw [Exit.noGoto_ret]
  have x1 := HR.out
  have x2 := HG.out
  have x3 := HB.out
  clear HR HG HB
  exact bodyPost_ret (res_hear (t := 6) (u := 7) (v := 8) (g := w.heap.size + 1) (g' := w.heap.size + 1 + 1) rfl rfl rfl x1 x2) rfl ⟨x3, by unfold HearOut; rw [if_neg (by rw [hr]; simp), if_neg (by rw [hb]; simp), if_pos (by rw [hb, ← HK.out]; exact hkk), hE]; rfl⟩
set_option maxHeartbeats 1000000 in
theorem Hear_seq (s q e kind : Int) (v : Value) (b : List (BitVec 8)) (k n : BitVec 8) (p : List (BitVec 8)) (k' n' : Int) (w : World) (hT : Tops w) (hs : SliceAt w 1 v b.length (u8s b)) (hl2 : b.length ≤ 140737488355328) (hr : rightL s q e = true) (hb : takeV b = (k, n, p, 0)) (hk' : k' = k.toNat) (hn' : n' = n.toNat) (hkk : k' = kind) (hs0 : 0 ≤ s) (hnew : newer n' s = false) :
    Calls Tryd.prog 11 #[lk s q e, .int .u8 kind, v] w fun x w' => Below w.heap.size w w' ∧ HearOut w.heap.size s q e kind b x w' := by
  have hs256 : s < 256 := by unfold rightL at hr; simp at hr; omega
  have hn0 : 0 ≤ n' ∧ n' < 256 := by have := n.isLt; omega
  have b1 := below_new w (.cells #[.int .i64 s, .int .i64 q, .int .i64 e] 31)
  have V0 := LVar.new w s q e
  have x0 := V0.c0
  have x1 := V0.c1
  have x2 := V0.c2
  go_enter Tryd.func11, Tryd.ntmps11
  go_wp2_with fail
  have b2 := below_new (w.alloc (.cells #[.int .i64 s, .int .i64 q, .int .i64 e] 31)) (.cells #[.int .i64 0, .int .i64 0, .int .i64 0] 31)
  have R0 := LVar.new (w.alloc (.cells #[.int .i64 s, .int .i64 q, .int .i64 e] 31)) 0 0 0
  have V1 := V0.later b2
  have B1 := below_step b1 b2
  simp only [World.size_alloc] at R0
  clear x0 x1 x2 V0 b1 b2
  generalize hw1 : (w.alloc (.cells #[.int .i64 s, .int .i64 q, .int .i64 e] 31)).alloc (.cells #[.int .i64 0, .int .i64 0, .int .i64 0] 31) = w1 at *
  have hs1 : w1.heap.size = w.heap.size + 1 + 1 := by rw [← hw1]; simp
  clear hw1
  have b3 := below_new w1 (.cells #[.int .u8 0, .int .u8 0, .slice none 0 0] 41)
  have g2 : (w1.alloc (.cells #[.int .u8 0, .int .u8 0, .slice none 0 0] 41)).heap[w1.heap.size]? = some _ := new_at rfl _
  rw [hs1] at g2
  have V2 := V1.later b3
  have R2 := R0.later b3
  have B2 := below_step B1 b3
  have hs2 : (w1.alloc (.cells #[.int .u8 0, .int .u8 0, .slice none 0 0] 41)).heap.size = w.heap.size + 1 + 1 + 1 := by simp [hs1]
  have hT2 := hT.below B2
  clear V1 R0 B1 b3
  generalize hw2 : w1.alloc (.cells #[.int .u8 0, .int .u8 0, .slice none 0 0] 41) = W at *
  clear hw2 hs1
  have HS := Lib.hid hs2
  clear hs2
  have v0 := V2.c0
  have v1 := V2.c1
  have v2 := V2.c2
  have r0 := R2.c0
  have r1 := R2.c1
  have r2 := R2.c2
  have f0 := cell_at g2 0
  have f1 := cell_at g2 1
  have f2 := cell_at g2 2
  have e0 := free_at R2.at_ 0
  have e1 := free_at R2.at_ 1
  have e2 := free_at R2.at_ 2
  refine wp_scope_fwd 0 (by simp only [findLabel]; rfl) ?_
  go_wp2_with fail
  have R3 := R2.set3 s q e
  have B3 := ((B2.setCell (p := ⟨w.heap.size + 1, 0, none⟩) (by simp) (.int .i64 s)).setCell (p := ⟨w.heap.size + 1, 1, none⟩) (by simp) (.int .i64 q)).setCell (p := ⟨w.heap.size + 1, 2, none⟩) (by simp) (.int .i64 e)
  have V3 := V2.far3 (g' := w.heap.size + 1) (by omega) s q e
  have g3 := frame_far3 g2 (g' := w.heap.size + 1) (by omega) s q e
  have hT3 := hT.below B3
  have hs3 : (((W.setCell ⟨w.heap.size + 1, 0, none⟩ (.int .i64 s)).setCell ⟨w.heap.size + 1, 1, none⟩ (.int .i64 q)).setCell ⟨w.heap.size + 1, 2, none⟩ (.int .i64 e)).heap.size = w.heap.size + 1 + 1 + 1 := by simpa using HS.out
  clear v0 v1 v2 r0 r1 r2 f0 f1 f2 e0 e1 e2 g2 V2 R2 B2 hT2 HS
  generalize ((W.setCell ⟨w.heap.size + 1, 0, none⟩ (.int .i64 s)).setCell ⟨w.heap.size + 1, 1, none⟩ (.int .i64 q)).setCell ⟨w.heap.size + 1, 2, none⟩ (.int .i64 e) = W3 at *
  clear W
  refine (link_Right_c s q e W3 true hr.symm hT3).mono ?_
  rintro x W4 ⟨rfl, b4⟩
  have V := V3.later b4
  have R := R3.later b4
  have g := below_at b4 g3 (by omega)
  have B := B3.trans (b4.mono (by omega))
  clear V3 R3 g3 B3 hT3 hs3 b4
  have v0 := V.c0
  have v1 := V.c1
  have v2 := V.c2
  have r0 := R.c0
  have r1 := R.c1
  have r2 := R.c2
  have f0 := cell_at g 0
  have f1 := cell_at g 1
  have f2 := cell_at g 2
  have e0 := free_at R.at_ 0
  have e1 := free_at R.at_ 1
  have e2 := free_at R.at_ 2
  have h0 := free_at g 0
  have h1 := free_at g 1
  have h2 := free_at g 2
  have hsl := hs.later B
  go_wp2_with fail
  have hg4 := lt_of_at g
  refine (Take_yesF k n k' n' v p b W4 hk' hn' hsl hb hl2).mono ?_
  rintro x W5 ⟨b5, A, c, rfl, hp5, hf5⟩
  have V := V.later b5
  have R := R.later b5
  have g := below_at b5 g (lt_of_at g)
  have B := below_step B b5
  have v0 := V.c0
  have v1 := V.c1
  have v2 := V.c2
  have r0 := R.c0
  have r1 := R.c1
  have r2 := R.c2
  have f0 := cell_at g 0
  have f1 := cell_at g 1
  have f2 := cell_at g 2
  have e0 := free_at R.at_ 0
  have e1 := free_at R.at_ 1
  have e2 := free_at R.at_ 2
  have h0 := free_at g 0
  have h1 := free_at g 1
  have h2 := free_at g 2
  have R' := (Go.Proofs.YtlanlkpamnoekaaDoor.far3 (g := w.heap.size + 1) (g' := w.heap.size + 1 + 1) (by omega) (.int .u8 k') (.int .u8 n') (.slice A p.length c)).trans R.at_
  have V' := (Go.Proofs.YtlanlkpamnoekaaDoor.far3 (g := w.heap.size) (g' := w.heap.size + 1 + 1) (by omega) (.int .u8 k') (.int .u8 n') (.slice A p.length c)).trans V.at_
  have g' := set_at (set_at (set_at g 0 (.int .u8 k')) 1 (.int .u8 n')) 2 (.slice A p.length c)
  have B' := ((B.setCell (p := ⟨w.heap.size + 1 + 1, 0, none⟩) (by simp; omega) (.int .u8 k')).setCell (p := ⟨w.heap.size + 1 + 1, 1, none⟩) (by simp; omega) (.int .u8 n')).setCell (p := ⟨w.heap.size + 1 + 1, 2, none⟩) (by simp; omega) (.slice A p.length c)
  have hp' : SliceAt (((W5.setCell ⟨w.heap.size + 1 + 1, 0, none⟩ (.int .u8 k')).setCell ⟨w.heap.size + 1 + 1, 1, none⟩ (.int .u8 n')).setCell ⟨w.heap.size + 1 + 1, 2, none⟩ (.slice A p.length c)) 1 (.slice A p.length c) p.length (u8s p) := slice_keep hp5 ((((Keep.refl (fun q => q ≠ w.heap.size + 1 + 1) W5).setCell (fun _ h => h rfl) _).setCell (fun _ h => h rfl) _).setCell (fun _ h => h rfl) _) (fun q hq => by have := hf5 q hq; omega)
  clear V
  have HV := Lib.hid V'
  have HR := Lib.hid R'
  have HG := Lib.hid g'
  have HB := Lib.hid B'
  have HP := Lib.hid hp'
  have hf6 : ∀ q', VB (.slice A p.length c) p.length q' → w.heap.size + 1 + 1 < q' := fun q' hq => by have := hf5 q' hq; omega
  have HF := Lib.hid hf6
  clear hf6
  have HK := Lib.hid hk'
  have HN := Lib.hid hn'
  clear V' R' g' B' hp' hp5 hf5 hg4 R g B hk' hn'
  have q3 : (k' != kind) = false := by simpa using hkk
  have q4 : decide (0 ≤ s) = true := decide_eq_true hs0
  have q5 : IntKind.u8.wrap s = s := by unfold IntKind.wrap; simp [IntKind.signed, IntKind.bits]; omega
  have HN2 := Lib.hid hnew
  have HKK := Lib.hid hkk
  have HS0 := Lib.hid hs0
  clear hnew hkk hs0
  go_wp2_with fail
  refine (Newer_g n' s false _ HN2.out.symm hn0.1 hn0.2 HS0.out hs256).mono ?_
  rintro x W6 ⟨rfl, rfl⟩
  have hnew := HN2.out
  have hkk := HKK.out
  have hs0 := HS0.out
  clear HN2 HKK HS0
  have HN2 := Lib.hid hnew
  have HKK := Lib.hid hkk
  have HS0 := Lib.hid hs0
  clear hnew hkk hs0
  go_wp2
  go_step3
  go_wp2
  have hnew := HN2.out
  have hs0 := HS0.out
  clear v0 v1 v2 r0 r1 r2 f0 f1 f2 e0 e1 e2 h0 h1 h2
  generalize ((W5.setCell ⟨w.heap.size + 1 + 1, 0, none⟩ (.int .u8 k')).setCell ⟨w.heap.size + 1 + 1, 1, none⟩ (.int .u8 n')).setCell ⟨w.heap.size + 1 + 1, 2, none⟩ (.slice A p.length c) = W9 at *
  have V : LVar W9 w.heap.size s q e := ⟨HV.out⟩
  have R : LVar W9 (w.heap.size + 1) s q e := ⟨HR.out⟩
  have g := HG.out
  have B := HB.out
  simp only [List.setIfInBounds_toArray, List.set_cons_zero, List.set_cons_succ] at g
  clear HV HR HG HB
  have hp := HP.out
  clear HP
  have hkk := HKK.out
  have HS0 := Lib.hid hs0
  have HN2 := Lib.hid hnew
  clear hkk hs0 hnew
  clear v0 v1 v2 r0 r1 r2 f0 f1 f2 e0 e1 e2 h0 h1 h2
  have hT9 := hT.below B
  have r2 := R.c2
  rw [jump_goto]
  go_wp2_with fail
  refine (More_c e 1 _ hT9).mono ?_
  rintro x W6 ⟨rfl, b6⟩
  have R6 := R.later b6
  have g6 := below_at b6 g (lt_of_at g)
  have B6 := below_step B b6
  clear r2 R g B hT9 b6
  generalize hE : onV e 1 65535 = E at *
  have R7 := R6.set1 E
  have g7 := frame_far1 g6 (i := 2) (g' := w.heap.size + 1) (by omega) (.int .i64 E)
  have B7 := B6.setCell (p := ⟨w.heap.size + 1, 2, none⟩) (by simp) (.int .i64 E)
  have k2 := free_at R6.at_ 2
  have r0 := R6.c0
  have r1 := R6.c1
  have r2 := R6.c2
  have e0 := free_at R6.at_ 0
  have e1 := free_at R6.at_ 1
  have h0 := free_at g6 0
  have h1 := free_at g6 1
  have h2 := free_at g6 2
  have f0 := cell_at g6 0
  have f1 := cell_at g6 1
  have f2 := cell_at g6 2
  have R8 := (Go.Proofs.YtlanlkpamnoekaaDoor.far3 (g := w.heap.size + 1) (g' := w.heap.size + 1 + 1) (by omega) (.int .u8 0) (.int .u8 0) (.slice none 0 0)).trans (R7.set3 s q E).at_
  have g8 := set_at (set_at (set_at (frame_far3 g7 (g' := w.heap.size + 1) (by omega) s q E) 0 (.int .u8 0)) 1 (.int .u8 0)) 2 (.slice none 0 0)
  have B8 := (((((B7.setCell (p := ⟨w.heap.size + 1, 0, none⟩) (by simp) (.int .i64 s)).setCell (p := ⟨w.heap.size + 1, 1, none⟩) (by simp) (.int .i64 q)).setCell (p := ⟨w.heap.size + 1, 2, none⟩) (by simp) (.int .i64 E)).setCell (p := ⟨w.heap.size + 1 + 1, 0, none⟩) (by simp; omega) (.int .u8 0)).setCell (p := ⟨w.heap.size + 1 + 1, 1, none⟩) (by simp; omega) (.int .u8 0)).setCell (p := ⟨w.heap.size + 1 + 1, 2, none⟩) (by simp; omega) (.slice none 0 0)
  have HR := Lib.hid R8
  have HG := Lib.hid g8
  have HB := Lib.hid B8
  clear R8 g8 B8 R7 g7 B7 R6 g6 B6
  go_wp2
  rw [Exit.noGoto_ret]
  have x1 := HR.out
  have x2 := HG.out
  have x3 := HB.out
  clear HR HG HB
  exact bodyPost_ret (res_hear (t := 6) (u := 7) (v := 8) (g := w.heap.size + 1) (g' := w.heap.size + 1 + 1) rfl rfl rfl x1 x2) rfl ⟨x3, by unfold HearOut; rw [if_neg (by rw [hr]; simp), if_neg (by rw [hb]; simp), if_neg (by rw [hb, ← HK.out]; simpa using HKK.out), if_pos (by rw [hb, ← HN.out]; exact ⟨HS0.out, HN2.out⟩), hE]; rfl⟩
set_option maxHeartbeats 1000000 in
theorem Hear_yes (s q e kind : Int) (v : Value) (b : List (BitVec 8)) (k n : BitVec 8) (p : List (BitVec 8)) (k' n' : Int) (w : World) (hT : Tops w) (hs : SliceAt w 1 v b.length (u8s b)) (hl2 : b.length ≤ 140737488355328) (hr : rightL s q e = true) (hb : takeV b = (k, n, p, 0)) (hk' : k' = k.toNat) (hn' : n' = n.toNat) (hkk : k' = kind) (hnew : ¬ (0 ≤ s ∧ newer n' s = false)) :
    Calls Tryd.prog 11 #[lk s q e, .int .u8 kind, v] w fun x w' => Below w.heap.size w w' ∧ HearOut w.heap.size s q e kind b x w' := by
  have hs256 : s < 256 := by unfold rightL at hr; simp at hr; omega
  have hn0 : 0 ≤ n' ∧ n' < 256 := by have := n.isLt; omega
  have b1 := below_new w (.cells #[.int .i64 s, .int .i64 q, .int .i64 e] 31)
  have V0 := LVar.new w s q e
  have x0 := V0.c0
  have x1 := V0.c1
  have x2 := V0.c2
  go_enter Tryd.func11, Tryd.ntmps11
  go_wp2_with fail
  have b2 := below_new (w.alloc (.cells #[.int .i64 s, .int .i64 q, .int .i64 e] 31)) (.cells #[.int .i64 0, .int .i64 0, .int .i64 0] 31)
  have R0 := LVar.new (w.alloc (.cells #[.int .i64 s, .int .i64 q, .int .i64 e] 31)) 0 0 0
  have V1 := V0.later b2
  have B1 := below_step b1 b2
  simp only [World.size_alloc] at R0
  clear x0 x1 x2 V0 b1 b2
  generalize hw1 : (w.alloc (.cells #[.int .i64 s, .int .i64 q, .int .i64 e] 31)).alloc (.cells #[.int .i64 0, .int .i64 0, .int .i64 0] 31) = w1 at *
  have hs1 : w1.heap.size = w.heap.size + 1 + 1 := by rw [← hw1]; simp
  clear hw1
  have b3 := below_new w1 (.cells #[.int .u8 0, .int .u8 0, .slice none 0 0] 41)
  have g2 : (w1.alloc (.cells #[.int .u8 0, .int .u8 0, .slice none 0 0] 41)).heap[w1.heap.size]? = some _ := new_at rfl _
  rw [hs1] at g2
  have V2 := V1.later b3
  have R2 := R0.later b3
  have B2 := below_step B1 b3
  have hs2 : (w1.alloc (.cells #[.int .u8 0, .int .u8 0, .slice none 0 0] 41)).heap.size = w.heap.size + 1 + 1 + 1 := by simp [hs1]
  have hT2 := hT.below B2
  clear V1 R0 B1 b3
  generalize hw2 : w1.alloc (.cells #[.int .u8 0, .int .u8 0, .slice none 0 0] 41) = W at *
  clear hw2 hs1
  have HS := Lib.hid hs2
  clear hs2
  have v0 := V2.c0
  have v1 := V2.c1
  have v2 := V2.c2
  have r0 := R2.c0
  have r1 := R2.c1
  have r2 := R2.c2
  have f0 := cell_at g2 0
  have f1 := cell_at g2 1
  have f2 := cell_at g2 2
  have e0 := free_at R2.at_ 0
  have e1 := free_at R2.at_ 1
  have e2 := free_at R2.at_ 2
  refine wp_scope_fwd 0 (by simp only [findLabel]; rfl) ?_
  go_wp2_with fail
  have R3 := R2.set3 s q e
  have B3 := ((B2.setCell (p := ⟨w.heap.size + 1, 0, none⟩) (by simp) (.int .i64 s)).setCell (p := ⟨w.heap.size + 1, 1, none⟩) (by simp) (.int .i64 q)).setCell (p := ⟨w.heap.size + 1, 2, none⟩) (by simp) (.int .i64 e)
  have V3 := V2.far3 (g' := w.heap.size + 1) (by omega) s q e
  have g3 := frame_far3 g2 (g' := w.heap.size + 1) (by omega) s q e
  have hT3 := hT.below B3
  have hs3 : (((W.setCell ⟨w.heap.size + 1, 0, none⟩ (.int .i64 s)).setCell ⟨w.heap.size + 1, 1, none⟩ (.int .i64 q)).setCell ⟨w.heap.size + 1, 2, none⟩ (.int .i64 e)).heap.size = w.heap.size + 1 + 1 + 1 := by simpa using HS.out
  clear v0 v1 v2 r0 r1 r2 f0 f1 f2 e0 e1 e2 g2 V2 R2 B2 hT2 HS
  generalize ((W.setCell ⟨w.heap.size + 1, 0, none⟩ (.int .i64 s)).setCell ⟨w.heap.size + 1, 1, none⟩ (.int .i64 q)).setCell ⟨w.heap.size + 1, 2, none⟩ (.int .i64 e) = W3 at *
  clear W
  refine (link_Right_c s q e W3 true hr.symm hT3).mono ?_
  rintro x W4 ⟨rfl, b4⟩
  have V := V3.later b4
  have R := R3.later b4
  have g := below_at b4 g3 (by omega)
  have B := B3.trans (b4.mono (by omega))
  clear V3 R3 g3 B3 hT3 hs3 b4
  have v0 := V.c0
  have v1 := V.c1
  have v2 := V.c2
  have r0 := R.c0
  have r1 := R.c1
  have r2 := R.c2
  have f0 := cell_at g 0
  have f1 := cell_at g 1
  have f2 := cell_at g 2
  have e0 := free_at R.at_ 0
  have e1 := free_at R.at_ 1
  have e2 := free_at R.at_ 2
  have h0 := free_at g 0
  have h1 := free_at g 1
  have h2 := free_at g 2
  have hsl := hs.later B
  go_wp2_with fail
  have hg4 := lt_of_at g
  refine (Take_yesF k n k' n' v p b W4 hk' hn' hsl hb hl2).mono ?_
  rintro x W5 ⟨b5, A, c, rfl, hp5, hf5⟩
  have V := V.later b5
  have R := R.later b5
  have g := below_at b5 g (lt_of_at g)
  have B := below_step B b5
  have v0 := V.c0
  have v1 := V.c1
  have v2 := V.c2
  have r0 := R.c0
  have r1 := R.c1
  have r2 := R.c2
  have f0 := cell_at g 0
  have f1 := cell_at g 1
  have f2 := cell_at g 2
  have e0 := free_at R.at_ 0
  have e1 := free_at R.at_ 1
  have e2 := free_at R.at_ 2
  have h0 := free_at g 0
  have h1 := free_at g 1
  have h2 := free_at g 2
  have R' := (Go.Proofs.YtlanlkpamnoekaaDoor.far3 (g := w.heap.size + 1) (g' := w.heap.size + 1 + 1) (by omega) (.int .u8 k') (.int .u8 n') (.slice A p.length c)).trans R.at_
  have V' := (Go.Proofs.YtlanlkpamnoekaaDoor.far3 (g := w.heap.size) (g' := w.heap.size + 1 + 1) (by omega) (.int .u8 k') (.int .u8 n') (.slice A p.length c)).trans V.at_
  have g' := set_at (set_at (set_at g 0 (.int .u8 k')) 1 (.int .u8 n')) 2 (.slice A p.length c)
  have B' := ((B.setCell (p := ⟨w.heap.size + 1 + 1, 0, none⟩) (by simp; omega) (.int .u8 k')).setCell (p := ⟨w.heap.size + 1 + 1, 1, none⟩) (by simp; omega) (.int .u8 n')).setCell (p := ⟨w.heap.size + 1 + 1, 2, none⟩) (by simp; omega) (.slice A p.length c)
  have hp' : SliceAt (((W5.setCell ⟨w.heap.size + 1 + 1, 0, none⟩ (.int .u8 k')).setCell ⟨w.heap.size + 1 + 1, 1, none⟩ (.int .u8 n')).setCell ⟨w.heap.size + 1 + 1, 2, none⟩ (.slice A p.length c)) 1 (.slice A p.length c) p.length (u8s p) := slice_keep hp5 ((((Keep.refl (fun q => q ≠ w.heap.size + 1 + 1) W5).setCell (fun _ h => h rfl) _).setCell (fun _ h => h rfl) _).setCell (fun _ h => h rfl) _) (fun q hq => by have := hf5 q hq; omega)
  clear V
  have HV := Lib.hid V'
  have HR := Lib.hid R'
  have HG := Lib.hid g'
  have HB := Lib.hid B'
  have HP := Lib.hid hp'
  have hf6 : ∀ q', VB (.slice A p.length c) p.length q' → w.heap.size + 1 + 1 < q' := fun q' hq => by have := hf5 q' hq; omega
  have HF := Lib.hid hf6
  clear hf6
  have HK := Lib.hid hk'
  have HN := Lib.hid hn'
  clear V' R' g' B' hp' hp5 hf5 hg4 R g B hk' hn'
  have q3 : (k' != kind) = false := by simpa using hkk
  have q5 : 0 ≤ s → IntKind.u8.wrap s = s := fun h => by unfold IntKind.wrap; simp [IntKind.signed, IntKind.bits]; omega
  have q6 : IntKind.i64.wrap n' = n' := IntWalk.i64_in _ (by omega)
  have HN2 := Lib.hid hnew
  have HKK := Lib.hid hkk
  have HQ5 := Lib.hid q5
  clear hkk q5
  rcases (show s < 0 ∨ 0 ≤ s by omega) with hs0 | hs0
  · have q4 : decide (0 ≤ s) = false := decide_eq_false (by omega)
    have HS0 := Lib.hid hs0
    clear hnew hs0
    go_wp2_with fail
    clear v0 v1 v2 r0 r1 r2 f0 f1 f2 e0 e1 e2 h0 h1 h2
    generalize ((W5.setCell ⟨w.heap.size + 1 + 1, 0, none⟩ (.int .u8 k')).setCell ⟨w.heap.size + 1 + 1, 1, none⟩ (.int .u8 n')).setCell ⟨w.heap.size + 1 + 1, 2, none⟩ (.slice A p.length c) = W9 at *
    have V : LVar W9 w.heap.size s q e := ⟨HV.out⟩
    have R : LVar W9 (w.heap.size + 1) s q e := ⟨HR.out⟩
    have g := HG.out
    have B := HB.out
    simp only [List.setIfInBounds_toArray, List.set_cons_zero, List.set_cons_succ] at g
    clear HV HR HG HB
    have hf := HF.out
    have hp := HP.out
    clear HP
    clear V
    have R7 := R.set01 n' 0
    have g7 := frame_far1 (i := 1) (frame_far1 (i := 0) g (g' := w.heap.size + 1) (by omega) (.int .i64 n')) (g' := w.heap.size + 1) (by omega) (.int .i64 0)
    have B7 := (B.setCell (p := ⟨w.heap.size + 1, 0, none⟩) (by simp) (.int .i64 n')).setCell (p := ⟨w.heap.size + 1, 1, none⟩) (by simp) (.int .i64 0)
    have p7 := slice_keep hp (((Keep.refl (fun q => q ≠ w.heap.size + 1) W9).setCell (p := ⟨w.heap.size + 1, 0, none⟩) (fun _ h => h rfl) (.int .i64 n')).setCell (p := ⟨w.heap.size + 1, 1, none⟩) (fun _ h => h rfl) (.int .i64 0)) (fun q hq => by have := hf q hq; omega)
    clear R g B hp
    generalize (W9.setCell ⟨w.heap.size + 1, 0, none⟩ (.int .i64 n')).setCell ⟨w.heap.size + 1, 1, none⟩ (.int .i64 0) = W7 at *
    have r0 := R7.c0
    have r1 := R7.c1
    have r2 := R7.c2
    have f0 := cell_at g7 0
    have f1 := cell_at g7 1
    have f2 := cell_at g7 2
    have e0 := free_at R7.at_ 0
    have e1 := free_at R7.at_ 1
    have e2 := free_at R7.at_ 2
    have h0 := free_at g7 0
    have h1 := free_at g7 1
    have h2 := free_at g7 2
    have RR := R7.set3 n' 0 e
    have BB := ((B7.setCell (p := ⟨w.heap.size + 1, 0, none⟩) (by simp) (.int .i64 n')).setCell (p := ⟨w.heap.size + 1, 1, none⟩) (by simp) (.int .i64 0)).setCell (p := ⟨w.heap.size + 1, 2, none⟩) (by simp) (.int .i64 e)
    have gg := frame_far3 g7 (g' := w.heap.size + 1) (by omega) n' 0 e
    have RR' := (Go.Proofs.YtlanlkpamnoekaaDoor.far3 (g := w.heap.size + 1) (g' := w.heap.size + 1 + 1) (by omega) (.int .u8 k') (.int .u8 n') (.slice A p.length c)).trans RR.at_
    have gg' := set_at (set_at (set_at gg 0 (.int .u8 k')) 1 (.int .u8 n')) 2 (.slice A p.length c)
    have BB' := ((BB.setCell (p := ⟨w.heap.size + 1 + 1, 0, none⟩) (by simp; omega) (.int .u8 k')).setCell (p := ⟨w.heap.size + 1 + 1, 1, none⟩) (by simp; omega) (.int .u8 n')).setCell (p := ⟨w.heap.size + 1 + 1, 2, none⟩) (by simp; omega) (.slice A p.length c)
    have pp' := slice_keep p7 ((((((((Keep.refl (fun q => w.heap.size + 1 + 1 < q) W7).setCell (p := ⟨w.heap.size + 1, 0, none⟩) (fun _ h => by simp at h; omega) (.int .i64 n')).setCell (p := ⟨w.heap.size + 1, 1, none⟩) (fun _ h => by simp at h; omega) (.int .i64 0)).setCell (p := ⟨w.heap.size + 1, 2, none⟩) (fun _ h => by simp at h; omega) (.int .i64 e)).setCell (p := ⟨w.heap.size + 1 + 1, 0, none⟩) (fun _ h => by simp at h) (.int .u8 k')).setCell (p := ⟨w.heap.size + 1 + 1, 1, none⟩) (fun _ h => by simp at h) (.int .u8 n')).setCell (p := ⟨w.heap.size + 1 + 1, 2, none⟩) (fun _ h => by simp at h) (.slice A p.length c))) hf
    have HR := Lib.hid RR'
    have HG := Lib.hid gg'
    have HB := Lib.hid BB'
    have HP := Lib.hid pp'
    clear RR BB gg RR' gg' BB' pp' hf R7 g7 B7 p7
    go_region
    go_wp2
    rw [jump_ret]
    generalize (((((W7.setCell ⟨w.heap.size + 1, 0, none⟩ (.int .i64 n')).setCell ⟨w.heap.size + 1, 1, none⟩ (.int .i64 0)).setCell ⟨w.heap.size + 1, 2, none⟩ (.int .i64 e)).setCell ⟨w.heap.size + 1 + 1, 0, none⟩ (.int .u8 k')).setCell ⟨w.heap.size + 1 + 1, 1, none⟩ (.int .u8 n')).setCell ⟨w.heap.size + 1 + 1, 2, none⟩ (.slice A p.length c) = W8 at *
    clear r0 r1 r2 f0 f1 f2 e0 e1 e2 h0 h1 h2
    have x1 := HR.out
    have x2 := HG.out
    have x3 := HB.out
    have y3 := HP.out
    clear HR HG HB HP
    have y4 : SliceAt W8.drew 1 (.slice A p.length c) p.length (u8s p) := y3.later (Below.refl _ _).drew
    exact bodyPost_ret (res_hear (t := 6) (u := 7) (v := 8) (W := W8.drew) (g := w.heap.size + 1) (g' := w.heap.size + 1 + 1) rfl rfl rfl x1 x2) rfl ⟨x3.drew, by unfold HearOut; rw [if_neg (by rw [hr]; simp), if_neg (by rw [hb]; simp), if_neg (by rw [hb, ← HK.out]; simpa using HKK.out), if_neg (by rw [hb, ← HN.out]; exact HN2.out)]; rw [hb, ← HK.out, ← HN.out]; exact ⟨A, c, rfl, y4, fun q' hq => by have := HF.out q' hq; omega⟩⟩
  · have q4 : decide (0 ≤ s) = true := decide_eq_true hs0
    have q5 := HQ5.out hs0
    have hnw : newer n' s = true := by cases h : newer n' s <;> simp_all
    have HS0 := Lib.hid hs0
    have HNW := Lib.hid hnw
    clear hnew hs0 hnw
    go_wp2_with fail
    refine (Newer_g n' s true _ HNW.out.symm hn0.1 hn0.2 HS0.out hs256).mono ?_
    rintro x W6 ⟨rfl, rfl⟩
    go_wp2_with fail
    clear v0 v1 v2 r0 r1 r2 f0 f1 f2 e0 e1 e2 h0 h1 h2
    generalize ((W5.setCell ⟨w.heap.size + 1 + 1, 0, none⟩ (.int .u8 k')).setCell ⟨w.heap.size + 1 + 1, 1, none⟩ (.int .u8 n')).setCell ⟨w.heap.size + 1 + 1, 2, none⟩ (.slice A p.length c) = W9 at *
    have V : LVar W9 w.heap.size s q e := ⟨HV.out⟩
    have R : LVar W9 (w.heap.size + 1) s q e := ⟨HR.out⟩
    have g := HG.out
    have B := HB.out
    simp only [List.setIfInBounds_toArray, List.set_cons_zero, List.set_cons_succ] at g
    clear HV HR HG HB
    have hf := HF.out
    have hp := HP.out
    clear HP
    clear V
    have R7 := R.set01 n' 0
    have g7 := frame_far1 (i := 1) (frame_far1 (i := 0) g (g' := w.heap.size + 1) (by omega) (.int .i64 n')) (g' := w.heap.size + 1) (by omega) (.int .i64 0)
    have B7 := (B.setCell (p := ⟨w.heap.size + 1, 0, none⟩) (by simp) (.int .i64 n')).setCell (p := ⟨w.heap.size + 1, 1, none⟩) (by simp) (.int .i64 0)
    have p7 := slice_keep hp (((Keep.refl (fun q => q ≠ w.heap.size + 1) W9).setCell (p := ⟨w.heap.size + 1, 0, none⟩) (fun _ h => h rfl) (.int .i64 n')).setCell (p := ⟨w.heap.size + 1, 1, none⟩) (fun _ h => h rfl) (.int .i64 0)) (fun q hq => by have := hf q hq; omega)
    clear R g B hp
    generalize (W9.setCell ⟨w.heap.size + 1, 0, none⟩ (.int .i64 n')).setCell ⟨w.heap.size + 1, 1, none⟩ (.int .i64 0) = W7 at *
    have r0 := R7.c0
    have r1 := R7.c1
    have r2 := R7.c2
    have f0 := cell_at g7 0
    have f1 := cell_at g7 1
    have f2 := cell_at g7 2
    have e0 := free_at R7.at_ 0
    have e1 := free_at R7.at_ 1
    have e2 := free_at R7.at_ 2
    have h0 := free_at g7 0
    have h1 := free_at g7 1
    have h2 := free_at g7 2
    have RR := R7.set3 n' 0 e
    have BB := ((B7.setCell (p := ⟨w.heap.size + 1, 0, none⟩) (by simp) (.int .i64 n')).setCell (p := ⟨w.heap.size + 1, 1, none⟩) (by simp) (.int .i64 0)).setCell (p := ⟨w.heap.size + 1, 2, none⟩) (by simp) (.int .i64 e)
    have gg := frame_far3 g7 (g' := w.heap.size + 1) (by omega) n' 0 e
    have RR' := (Go.Proofs.YtlanlkpamnoekaaDoor.far3 (g := w.heap.size + 1) (g' := w.heap.size + 1 + 1) (by omega) (.int .u8 k') (.int .u8 n') (.slice A p.length c)).trans RR.at_
    have gg' := set_at (set_at (set_at gg 0 (.int .u8 k')) 1 (.int .u8 n')) 2 (.slice A p.length c)
    have BB' := ((BB.setCell (p := ⟨w.heap.size + 1 + 1, 0, none⟩) (by simp; omega) (.int .u8 k')).setCell (p := ⟨w.heap.size + 1 + 1, 1, none⟩) (by simp; omega) (.int .u8 n')).setCell (p := ⟨w.heap.size + 1 + 1, 2, none⟩) (by simp; omega) (.slice A p.length c)
    have pp' := slice_keep p7 ((((((((Keep.refl (fun q => w.heap.size + 1 + 1 < q) W7).setCell (p := ⟨w.heap.size + 1, 0, none⟩) (fun _ h => by simp at h; omega) (.int .i64 n')).setCell (p := ⟨w.heap.size + 1, 1, none⟩) (fun _ h => by simp at h; omega) (.int .i64 0)).setCell (p := ⟨w.heap.size + 1, 2, none⟩) (fun _ h => by simp at h; omega) (.int .i64 e)).setCell (p := ⟨w.heap.size + 1 + 1, 0, none⟩) (fun _ h => by simp at h) (.int .u8 k')).setCell (p := ⟨w.heap.size + 1 + 1, 1, none⟩) (fun _ h => by simp at h) (.int .u8 n')).setCell (p := ⟨w.heap.size + 1 + 1, 2, none⟩) (fun _ h => by simp at h) (.slice A p.length c))) hf
    have HR := Lib.hid RR'
    have HG := Lib.hid gg'
    have HB := Lib.hid BB'
    have HP := Lib.hid pp'
    clear RR BB gg RR' gg' BB' pp' hf R7 g7 B7 p7
    go_region
    go_wp2
    rw [jump_ret]
    generalize (((((W7.setCell ⟨w.heap.size + 1, 0, none⟩ (.int .i64 n')).setCell ⟨w.heap.size + 1, 1, none⟩ (.int .i64 0)).setCell ⟨w.heap.size + 1, 2, none⟩ (.int .i64 e)).setCell ⟨w.heap.size + 1 + 1, 0, none⟩ (.int .u8 k')).setCell ⟨w.heap.size + 1 + 1, 1, none⟩ (.int .u8 n')).setCell ⟨w.heap.size + 1 + 1, 2, none⟩ (.slice A p.length c) = W8 at *
    clear r0 r1 r2 f0 f1 f2 e0 e1 e2 h0 h1 h2
    have x1 := HR.out
    have x2 := HG.out
    have x3 := HB.out
    have y3 := HP.out
    clear HR HG HB HP
    have y4 : SliceAt W8.drew 1 (.slice A p.length c) p.length (u8s p) := y3.later (Below.refl _ _).drew
    exact bodyPost_ret (res_hear (t := 6) (u := 7) (v := 8) (W := W8.drew) (g := w.heap.size + 1) (g' := w.heap.size + 1 + 1) rfl rfl rfl x1 x2) rfl ⟨x3.drew, by unfold HearOut; rw [if_neg (by rw [hr]; simp), if_neg (by rw [hb]; simp), if_neg (by rw [hb, ← HK.out]; simpa using HKK.out), if_neg (by rw [hb, ← HN.out]; exact HN2.out)]; rw [hb, ← HK.out, ← HN.out]; exact ⟨A, c, rfl, y4, fun q' hq => by have := HF.out q' hq; omega⟩⟩
/-- what Hear tells, whatever comes -/
theorem Hear_c (s q e kind : Int) (v : Value) (b : List (BitVec 8)) (w : World) (hT : Tops w) (hs : SliceAt w 1 v b.length (u8s b)) (hl2 : b.length ≤ 140737488355328) :
    Calls Tryd.prog 11 #[lk s q e, .int .u8 kind, v] w fun x w' => Below w.heap.size w w' ∧ HearOut w.heap.size s q e kind b x w' := by
  rcases hr : rightL s q e with _ | _
  · exact Hear_arg s q e kind v b w hT hs hl2 hr
  by_cases he : (takeV b).2.2.2 = 0
  · obtain ⟨k, n, p, er, hb⟩ : ∃ k n p er, takeV b = (k, n, p, er) := ⟨_, _, _, _, rfl⟩
    rw [hb] at he
    obtain rfl : er = 0 := he
    by_cases hk : ((k.toNat : Nat) : Int) = kind
    · by_cases hn : 0 ≤ s ∧ newer ((n.toNat : Nat) : Int) s = false
      · exact Hear_seq s q e kind v b k n p _ _ w hT hs hl2 hr hb rfl rfl hk hn.1 hn.2
      · exact Hear_yes s q e kind v b k n p _ _ w hT hs hl2 hr hb rfl rfl hk hn
    · exact Hear_form s q e kind v b k n p _ _ w hT hs hl2 hr hb rfl rfl hk
  · exact Hear_take s q e kind v b w hT hs hl2 hr he
end Go.Proofs.YtlanlkpamnoekaaDoor
namespace Go.Proofs.YtlanlkpamnoekaaDoor
open Go.RowKit Rf Mem Bv Crc Str
set_option maxRecDepth 100000

abbrev Lst := Int × Int × Int
abbrev Frm := BitVec 8 × BitVec 8 × List (BitVec 8)
def noF : Frm := (0, 0, [])
/-- what Hear tells: the link behind it, the error, the frame -/
def hearV (kind : Int) (b : List (BitVec 8)) (x : Lst) : Lst × Int × Frm :=
  if rightL x.1 x.2.1 x.2.2 = false then (x, 2, noF)
  else if (takeV b).2.2.2 ≠ 0 then ((x.1, x.2.1, onV x.2.2 1 65535), (takeV b).2.2.2, noF)
  else if ((takeV b).1.toNat : Int) ≠ kind then ((x.1, x.2.1, onV x.2.2 1 65535), 41, noF)
  else if 0 ≤ x.1 ∧ newer ((takeV b).2.1.toNat : Int) x.1 = false then ((x.1, x.2.1, onV x.2.2 1 65535), 290, noF)
  else ((((takeV b).2.1.toNat : Int), 0, x.2.2), 0, ((takeV b).1, (takeV b).2.1, (takeV b).2.2.1))
def stepV (kind : Int) (st : Lst × List Frm) (b : List (BitVec 8)) : Lst × List Frm :=
  ((hearV kind b st.1).1, if (hearV kind b st.1).2.1 = 0 then st.2 ++ [(hearV kind b st.1).2.2] else st.2)
def allV (kind : Int) (st : Lst × List Frm) (bs : List (List (BitVec 8))) : Lst × List Frm := bs.foldl (stepV kind) st

/-- a frame's value -/
abbrev fval (f : Frm) (sv : Value) : Value := fv (f.1.toNat : Int) (f.2.1.toNat : Int) sv
abbrev lkv (x : Lst) : Value := lk x.1 x.2.1 x.2.2
theorem Hear_v (x : Lst) (kind : Int) (v : Value) (b : List (BitVec 8)) (w : World) (r : Lst × Int × Frm) (hr : r = hearV kind b x) (hT : Tops w) (hs : SliceAt w 1 v b.length (u8s b)) (hl2 : b.length ≤ 140737488355328) :
    Calls Tryd.prog 11 #[lkv x, .int .u8 kind, v] w fun y w' => ∃ A c, y = .returned (.tuple #[lkv r.1, fval r.2.2 (.slice A r.2.2.2.2.length c), .int .i64 r.2.1]) ∧ Below w.heap.size w w' ∧ SliceAt w' 1 (.slice A r.2.2.2.2.length c) r.2.2.2.2.length (u8s r.2.2.2.2) ∧ ∀ q, VB (.slice A r.2.2.2.2.length c) r.2.2.2.2.length q → w.heap.size ≤ q := by
  subst hr
  refine (Hear_c x.1 x.2.1 x.2.2 kind v b w hT hs hl2).mono ?_
  rintro y w' ⟨hb, ho⟩
  unfold HearOut at ho
  unfold hearV
  split at ho
  · rename_i h
    rw [if_pos h]
    exact ⟨none, 0, ho, hb, SliceAt.nil_ _ _, fun q hq => absurd hq.1 (by simp [noF])⟩
  rename_i h
  rw [if_neg h]
  split at ho
  · rename_i h
    rw [if_pos h]
    exact ⟨none, 0, ho, hb, SliceAt.nil_ _ _, fun q hq => absurd hq.1 (by simp [noF])⟩
  rename_i h
  rw [if_neg h]
  split at ho
  · rename_i h
    rw [if_pos h]
    exact ⟨none, 0, ho, hb, SliceAt.nil_ _ _, fun q hq => absurd hq.1 (by simp [noF])⟩
  rename_i h
  rw [if_neg h]
  split at ho
  · rename_i h
    rw [if_pos h]
    exact ⟨none, 0, ho, hb, SliceAt.nil_ _ _, fun q hq => absurd hq.1 (by simp [noF])⟩
  rename_i h
  rw [if_neg h]
  obtain ⟨A, c, h1, h2, h3⟩ := ho
  exact ⟨A, c, h1, hb, h2, h3⟩

/-! ### rows of frames -/
/-- the cells of a row of frames; S: where their payloads may lie -/
def FCells (S : Nat → Prop) (w : World) : List Frm → List Value → Prop
  | [], xs => xs = []
  | f :: l, xs => ∃ A c ys, xs = .int .u8 (f.1.toNat : Int) :: .int .u8 (f.2.1.toNat : Int) :: .slice A f.2.2.length c :: ys ∧ SliceAt w 1 (.slice A f.2.2.length c) f.2.2.length (u8s f.2.2) ∧ (∀ q, VB (.slice A f.2.2.length c) f.2.2.length q → S q) ∧ FCells S w l ys
theorem FCells.map {S S' : Nat → Prop} {w w' : World} (h : ∀ v (p : List (BitVec 8)), SliceAt w 1 v p.length (u8s p) → (∀ q, VB v p.length q → S q) → SliceAt w' 1 v p.length (u8s p) ∧ ∀ q, VB v p.length q → S' q) : ∀ {l : List Frm} {xs : List Value}, FCells S w l xs → FCells S' w' l xs
  | [], _, hx => hx
  | f :: l, _, ⟨A, c, ys, e, h1, h2, h3⟩ => ⟨A, c, ys, e, (h _ _ h1 h2).1, (h _ _ h1 h2).2, h3.map h⟩
theorem FCells.later {S : Nat → Prop} {w w' : World} {l : List Frm} {xs : List Value} (h : FCells S w l xs) (hb : Below w.heap.size w w') : FCells S w' l xs := h.map fun _ _ hs hq => ⟨hs.later hb, hq⟩
theorem FCells.any {S : Nat → Prop} {w : World} {l : List Frm} {xs : List Value} (h : FCells S w l xs) : FCells (fun _ => True) w l xs := h.map fun _ _ hs _ => ⟨hs, fun _ _ => trivial⟩
theorem FCells.snoc {S : Nat → Prop} {w : World} {f : Frm} {A : Option Addr} {c : Nat} (hs : SliceAt w 1 (.slice A f.2.2.length c) f.2.2.length (u8s f.2.2)) (hq : ∀ q, VB (.slice A f.2.2.length c) f.2.2.length q → S q) : ∀ {l : List Frm} {xs : List Value}, FCells S w l xs → FCells S w (l ++ [f]) (xs ++ [.int .u8 (f.1.toNat : Int), .int .u8 (f.2.1.toNat : Int), .slice A f.2.2.length c])
  | [], _, rfl => ⟨A, c, [], rfl, hs, hq, rfl⟩
  | g :: l, _, ⟨A', c', ys, e, h1, h2, h3⟩ => ⟨A', c', ys ++ _, by rw [e]; rfl, h1, h2, h3.snoc hs hq⟩
theorem FCells.len {S : Nat → Prop} {w : World} : ∀ {l : List Frm} {xs : List Value}, FCells S w l xs → xs.length = l.length * 3
  | [], _, rfl => rfl
  | _ :: l, _, ⟨_, _, ys, e, _, _, h2⟩ => by rw [e]; simp [h2.len]; omega
theorem FCells.one {S : Nat → Prop} {w : World} : ∀ {l : List Frm} {xs : List Value}, FCells S w l xs → ∀ u ∈ xs, u.oneCell' = true
  | [], _, rfl => by simp
  | _ :: l, _, ⟨_, _, ys, e, _, _, h2⟩ => by
    rw [e]
    intro u hu
    simp only [List.mem_cons] at hu
    rcases hu with rfl | rfl | rfl | hu
    · rfl
    · rfl
    · rfl
    · exact h2.one u hu
theorem FCells.get {S : Nat → Prop} {w : World} : ∀ {l : List Frm} {xs : List Value} (_ : FCells S w l xs) (i : Nat) (f : Frm), l[i]? = some f →
    xs[i * 3]? = some (.int .u8 (f.1.toNat : Int)) ∧ xs[i * 3 + 1]? = some (.int .u8 (f.2.1.toNat : Int)) ∧ ∃ A c, xs[i * 3 + 2]? = some (.slice A f.2.2.length c) ∧ SliceAt w 1 (.slice A f.2.2.length c) f.2.2.length (u8s f.2.2)
  | [], _, _, i, f, h => by simp at h
  | g :: l, _, ⟨A, c, ys, e, h1, _, h2⟩, 0, f, h => by
    simp only [List.getElem?_cons_zero, Option.some.injEq] at h
    subst h
    rw [e]
    exact ⟨rfl, rfl, A, c, rfl, h1⟩
  | g :: l, _, ⟨A, c, ys, e, h1, _, h2⟩, i + 1, f, h => by
    have := h2.get i f (by simpa using h)
    rw [e]
    have e1 : (i + 1) * 3 = i * 3 + 1 + 1 + 1 := by omega
    have e2 : i * 3 + 1 + 1 + 1 + 1 = (i * 3 + 1) + 1 + 1 + 1 := by omega
    have e3 : i * 3 + 1 + 1 + 1 + 2 = (i * 3 + 2) + 1 + 1 + 1 := by omega
    rw [e1, e2, e3]
    simpa using this
/-- a row of frames that was told -/
def FrsAt (w : World) (v : Value) (l : List Frm) : Prop := ∃ xs, SliceAt w 3 v l.length xs ∧ FCells (fun _ => True) w l xs
theorem FrsAt.later {w w' : World} {v : Value} {l : List Frm} (h : FrsAt w v l) (hb : Below w.heap.size w w') : FrsAt w' v l := by
  obtain ⟨xs, h1, h2⟩ := h
  exact ⟨xs, h1.later hb, h2.later hb⟩

/-- a row of rows of bytes -/
def Els (W : World) : List Value → List (List (BitVec 8)) → Prop
  | [], [] => True
  | u :: us, x :: xs => SliceAt W 1 u x.length (u8s x) ∧ x.length ≤ 140737488355328 ∧ Els W us xs
  | _, _ => False
theorem Els.len {W : World} : ∀ {us : List Value} {xs : List (List (BitVec 8))}, Els W us xs → us.length = xs.length
  | [], [], _ => rfl
  | _ :: _, _ :: _, h => by simp [Els.len h.2.2]
theorem Els.later {W W' : World} (hb : Below W.heap.size W W') : ∀ {us : List Value} {xs : List (List (BitVec 8))}, Els W us xs → Els W' us xs
  | [], [], _ => trivial
  | _ :: _, _ :: _, h => ⟨h.1.later hb, h.2.1, Els.later hb h.2.2⟩
theorem Els.get {W : World} : ∀ {us : List Value} {xs : List (List (BitVec 8))} (_ : Els W us xs) (i : Nat) (x : List (BitVec 8)), xs[i]? = some x → ∃ A c, us[i]? = some (.slice A x.length c) ∧ SliceAt W 1 (.slice A x.length c) x.length (u8s x) ∧ x.length ≤ 140737488355328
  | [], [], _, i, x, h => by simp at h
  | u :: us, y :: ys, h, 0, x, hx => by
    simp only [List.getElem?_cons_zero, Option.some.injEq] at hx
    subst hx
    obtain ⟨A, c, e, _⟩ := h.1.form
    exact ⟨A, c, by rw [e]; rfl, e ▸ h.1, h.2.1⟩
  | u :: us, y :: ys, h, i + 1, x, hx => by
    obtain ⟨A, c, h1, h2⟩ := Els.get h.2.2 i x (by simpa using hx)
    exact ⟨A, c, by simpa using h1, h2⟩

/-! ### bytes do not lie in a link's block -/
/-- Whatever is turned in a link's block: bytes stay. -/
theorem Mem.SliceAt.beside {w w' : World} {g : Nat} {s q e : Int} {v : Value} {p : List (BitVec 8)} (h : SliceAt w 1 v p.length (u8s p)) (hl : LVar w g s q e) (hsz : w.heap.size ≤ w'.heap.size) (hk : ∀ i : Nat, i ≠ g → w'.heap[i]? = w.heap[i]?) : SliceAt w' 1 v p.length (u8s p) := by
  obtain ⟨A, c, rfl, h1, h2, h3, h4⟩ := h
  refine ⟨A, c, rfl, h1, h2, h3, ?_⟩
  rcases h4 with h4 | ⟨b, off, rfl, hlt, hc⟩
  · exact .inl h4
  rcases Nat.eq_zero_or_pos p.length with h0 | h0
  · exact .inl h0
  right
  have hne : b ≠ g := by
    rintro rfl
    obtain ⟨x, xs, rfl⟩ := List.exists_cons_of_length_pos h0
    have := hc 0 (.int .u8 (x.toNat : Int)) (by simp [u8s])
    rw [cell_at hl.at_] at this
    rcases off with _ | _ | _ | off <;> simp at this
  exact ⟨b, off, rfl, Nat.lt_of_lt_of_le hlt hsz, fun i u' hu => (World.cell?_of_block (hk b hne)).trans (hc i u' hu)⟩
theorem FCells.beside {S : Nat → Prop} {w w' : World} {g : Nat} {s q e : Int} {l : List Frm} {xs : List Value} (h : FCells S w l xs) (hl : LVar w g s q e) (hsz : w.heap.size ≤ w'.heap.size) (hk : ∀ i : Nat, i ≠ g → w'.heap[i]? = w.heap[i]?) : FCells S w' l xs := h.map fun _ _ hs hq => ⟨hs.beside hl hsz hk, hq⟩
/-- Behind an append to the row. -/
theorem FCells.grow {w w' : World} {v v' : Value} {l : List Frm} {xs : List Value} (h : FCells (fun q => v.ownBlock ≠ some q) w l xs) (hg : w.grownBy w' v.ownBlock) (hv : v'.ownBlock = v.ownBlock ∨ v'.ownBlock = some w.heap.size) : FCells (fun q => v'.ownBlock ≠ some q) w' l xs :=
  h.map fun u p hs hq => ⟨slice_keep hs (S := fun q => v.ownBlock ≠ some q) ⟨hg.os, hg.tape, hg.output, hg.size, fun k hk hne => hg.block k hk (fun e => hne e.symm)⟩ hq, fun q hb e => by
    rcases hv with h1 | h1
    · exact hq q hb (h1 ▸ e)
    · have := vblock_lt hs hb
      rw [h1] at e
      injection e with e
      omega⟩
theorem LVar.not_own {w : World} {g B n : Nat} {s q e : Int} {v : Value} {xs : List Value} (h : LVar w g s q e) (ho : w.ownsRow B 41 3 v n xs) : v.ownBlock ≠ some g := by
  intro hv
  rcases ho.2 with ⟨rfl, _⟩ | ⟨g', cap, cur, rfl, _, hg, _⟩
  · cases hv
  · simp only [Value.ownBlock, Option.some.injEq] at hv
    subst hv
    rw [h.at_] at hg
    simp at hg
theorem Tops.belowB {B : Nat} {w w' : World} (h : Tops w) (hb : Below B w w') (hg : 0 < B) : Tops w' :=
  ⟨(hb.cell (p := ⟨0,0,none⟩) hg).trans h.c0, (hb.cell (p := ⟨0,1,none⟩) hg).trans h.c1, Nat.lt_of_lt_of_le h.sz hb.size⟩
theorem set3_off (W : World) (g : Nat) (x y z : Value) (i : Nat) (h : i ≠ g) : (((W.setCell ⟨g, 0, none⟩ x).setCell ⟨g, 1, none⟩ y).setCell ⟨g, 2, none⟩ z).heap[i]? = W.heap[i]? := far3 h x y z
end Go.Proofs.YtlanlkpamnoekaaDoor
namespace Go.Proofs.YtlanlkpamnoekaaDoor
open Go.RowKit Rf Mem Bv Crc Str
set_option maxRecDepth 100000
attribute [local go_sem ↓] run_max2 run_min2

/-- a layout: its cells; the last one is Times.Link -/
abbrev lyc (y : Nat → Value) (tl : Int) : Array Value := #[y 0, y 1, y 2, y 3, y 4, y 5, y 6, y 7, y 8, y 9, .int .i64 tl]
abbrev ly (y : Nat → Value) (tl : Int) : Value := .agg (lyc y tl)
structure LY (W : World) (g : Nat) (y : Nat → Value) (tl : Int) : Prop where
  at_ : W.heap[g]? = some (.cells (lyc y tl) 29 (0, 0))
theorem LY.later {W W' : World} {g : Nat} {y : Nat → Value} {tl : Int} (h : LY W g y tl) (hb : Below W.heap.size W W') : LY W' g y tl := ⟨below_at hb h.at_ (Array.getElem?_eq_some_iff.1 h.at_).1⟩
theorem LY.cells {W : World} {g : Nat} {y : Nat → Value} {tl : Int} (h : LY W g y tl) : W.cell? ⟨g, 0, none⟩ = some (y 0) ∧ W.cell? ⟨g, 1, none⟩ = some (y 1) ∧ W.cell? ⟨g, 2, none⟩ = some (y 2) ∧ W.cell? ⟨g, 3, none⟩ = some (y 3) ∧ W.cell? ⟨g, 4, none⟩ = some (y 4) ∧ W.cell? ⟨g, 5, none⟩ = some (y 5) ∧
    W.cell? ⟨g, 6, none⟩ = some (y 6) ∧ W.cell? ⟨g, 7, none⟩ = some (y 7) ∧ W.cell? ⟨g, 8, none⟩ = some (y 8) ∧ W.cell? ⟨g, 9, none⟩ = some (y 9) ∧ W.cell? ⟨g, 10, none⟩ = some (.int .i64 tl) := by
  refine ⟨?_, ?_, ?_, ?_, ?_, ?_, ?_, ?_, ?_, ?_, ?_⟩ <;> (rw [cell_at h.at_]; rfl)

theorem res_lk {fn : Func} {t : Tmp} (hf : fn.results = #[.cell t 31]) {tmps : Array Value} {W : World} {g : Nat} {s q e : Int} (hs : tmps.getD t undef = .pointer (some ⟨g, 0, none⟩)) (h : LVar W g s q e) :
    (results fn tmps).run Tryd.prog W = .ok (lk s q e) W := by
  have h1 : tmps[t]?.getD undef = .pointer (some ⟨g, 0, none⟩) := by simpa using hs
  simp [results, hf, h1, asAddr, load_lk h.at_]

theorem New_c (w : World) : Calls Tryd.prog 19 #[] w fun e w' => e = .returned (lk (-1) 65535 0) ∧ Below w.heap.size w w' := by
  have b1 := below_new w (.cells #[.int .i64 (-1), .int .i64 65535, .int .i64 0] 31)
  have V := LVar.new w (-1) 65535 0
  go_enter Tryd.func19, Tryd.ntmps19
  go_wp2
  exact bodyPost_ret (res_lk (t := 0) rfl rfl V) rfl ⟨rfl, b1⟩
theorem r29New_c (w : World) : Calls Tryd.prog 20 #[] w fun e w' => e = .returned (lk (-1) 65535 0) ∧ Below w.heap.size w w' := by
  have b1 := below_new w (.cells #[.int .i64 (-1), .int .i64 65535, .int .i64 0] 31)
  have V := LVar.new w (-1) 65535 0
  go_enter Tryd.func20, Tryd.ntmps20
  go_wp2
  exact bodyPost_ret (res_lk (t := 0) rfl rfl V) rfl ⟨rfl, b1⟩

theorem Dead_c (y : Nat → Value) (tl s q e : Int) (r : Bool) (hr : r = decide (tl < q)) (w : World) : Calls Tryd.prog 23 #[ly y tl, lk s q e] w fun x w' => x = .returned (.bool r) ∧ Below w.heap.size w w' := by
  have b1 := below_new w (.cells (lyc y tl) 29)
  have Y : LY (w.alloc (.cells (lyc y tl) 29)) w.heap.size y tl := ⟨new_at rfl _⟩
  have b2 := below_new (w.alloc (.cells (lyc y tl) 29)) (.cells #[.int .i64 s, .int .i64 q, .int .i64 e] 31)
  have V := LVar.new (w.alloc (.cells (lyc y tl) 29)) s q e
  have Y2 := (Y.later b2).cells.2.2.2.2.2.2.2.2.2.2
  have x1 := V.c1
  have B := below_step b1 b2
  subst hr
  clear V Y b1 b2
  simp only [World.size_alloc] at x1
  go_enter Tryd.func23, Tryd.ntmps23
  go_wp2_with fail
  refine (Late_c q tl _).mono ?_
  rintro x W ⟨rfl, rfl⟩
  go_wp2
  go_ret
  exact ⟨rfl, B⟩
theorem r29Dead_c (y : Nat → Value) (tl s q e : Int) (r : Bool) (hr : r = decide (tl < q)) (w : World) : Calls Tryd.prog 24 #[ly y tl, lk s q e] w fun x w' => x = .returned (.bool r) ∧ Below w.heap.size w w' := by
  have b1 := below_new w (.cells (lyc y tl) 29)
  have Y : LY (w.alloc (.cells (lyc y tl) 29)) w.heap.size y tl := ⟨new_at rfl _⟩
  have b2 := below_new (w.alloc (.cells (lyc y tl) 29)) (.cells #[.int .i64 s, .int .i64 q, .int .i64 e] 31)
  have V := LVar.new (w.alloc (.cells (lyc y tl) 29)) s q e
  have Y2 := (Y.later b2).cells.2.2.2.2.2.2.2.2.2.2
  have x1 := V.c1
  have B := below_step b1 b2
  subst hr
  clear V Y b1 b2
  simp only [World.size_alloc] at x1
  go_enter Tryd.func24, Tryd.ntmps24
  go_wp2
  go_ret
  exact ⟨rfl, B⟩
end Go.Proofs.YtlanlkpamnoekaaDoor
namespace Go.Proofs.YtlanlkpamnoekaaDoor
open Go.RowKit Rf Mem Bv Crc Str
set_option maxRecDepth 100000
attribute [local go_sem ↓] run_max2 run_min2

def tickV (tl : Int) (x : Lst) : Lst := if rightL x.1 x.2.1 x.2.2 = false then x else if tl < onV x.2.1 1 65535 then (-1, onV x.2.1 1 65535, x.2.2) else (x.1, onV x.2.1 1 65535, x.2.2)

theorem r3More_v (q : Int) (w : World) : Calls Tryd.prog 35 #[.int .i64 q, .int .i64 1] w fun z w' => z = .returned (.int .i64 (onV q 1 65535)) ∧ Below w.heap.size w w' :=
  (r3More_c q 1 w).mono fun z w' h => ⟨by rw [h.1]; congr 3; unfold clamp; omega, h.2 ▸ Below.refl _ _⟩
theorem counter_c (n : Int) (r : Bool) (hr : r = (n == clamp n 65535)) (w : World) : Calls Tryd.prog 43 #[.int .i64 n] w fun x w' => x = .returned (.bool r) ∧ Below w.heap.size w w' := by
  have h1 : (n == clamp n 65535) = (decide (0 ≤ n) && decide (n ≤ 65535)) := by
    rw [Bool.eq_iff_iff]
    simp [clamp]
    omega
  rw [h1] at hr
  clear h1
  by_cases h0 : 0 ≤ n
  · have d0 : decide (0 ≤ n) = true := decide_eq_true h0
    rw [d0, Bool.true_and] at hr
    subst hr
    go_enter Tryd.func43, Tryd.ntmps43
    go_wp2
    go_ret
    exact ⟨rfl, Below.refl _ _⟩
  · have d0 : decide (0 ≤ n) = false := decide_eq_false h0
    rw [d0, Bool.false_and] at hr
    subst hr
    go_enter Tryd.func43, Tryd.ntmps43
    go_wp2
    go_ret
    exact ⟨rfl, Below.refl _ _⟩

theorem r29Right_c (s q e : Int) (r : Bool) (hr : r = rightL s q e) (w : World) : Calls Tryd.prog 22 #[lk s q e] w fun x w' => x = .returned (.bool r) ∧ Below w.heap.size w w' := by
  have b1 := below_new w (.cells #[.int .i64 s, .int .i64 q, .int .i64 e] 31)
  have V := LVar.new w s q e
  have x0 := V.c0
  have x1 := V.c1
  have x2 := V.c2
  obtain ⟨a, ha⟩ : ∃ a, a = decide (-1 ≤ s) := ⟨_, rfl⟩
  obtain ⟨b, hb⟩ : ∃ b, b = decide (s ≤ 255) := ⟨_, rfl⟩
  obtain ⟨c, hc⟩ : ∃ c, c = (q == clamp q 65535) := ⟨_, rfl⟩
  obtain ⟨d, hd⟩ : ∃ d, d = (e == clamp e 65535) := ⟨_, rfl⟩
  have hr' : r = (a && b && c && d) := by
    rw [hr, ha, hb, hc, hd, rightL, Bool.eq_iff_iff]
    simp
    omega
  clear hr
  have HC := Lib.hid hc
  have HD := Lib.hid hd
  clear hc hd
  go_enter Tryd.func22, Tryd.ntmps22
  go_upto_region 1 with (fail)
  generalize w.alloc (.cells #[.int .i64 s, .int .i64 q, .int .i64 e] 31) = W at *
  have HB := Lib.hid b1
  clear b1 V
  have ha' := ha.symm
  have hb' := hb.symm
  clear ha hb
  cases a
  · have hr2 : r = false := by simpa using hr'
    clear hr'
    subst hr2
    go_wp2
    go_ret
    exact ⟨rfl, HB.out⟩
  cases b
  · have hr2 : r = false := by simpa using hr'
    clear hr'
    subst hr2
    go_wp2
    go_ret
    exact ⟨rfl, HB.out⟩
  go_wp2_with fail
  refine (counter_c q c HC.out W).mono ?_
  rintro x W1 ⟨rfl, b1⟩
  have x2' := (b1.cell (p := ⟨w.heap.size, 2, none⟩) (by exact lt_of_cell (p := ⟨w.heap.size, 2, none⟩) x2)).trans x2
  have HB1 := Lib.hid (below_step HB.out b1)
  clear x0 x1 x2 b1 HB
  cases c
  · have hr2 : r = false := by simpa using hr'
    clear hr'
    subst hr2
    go_wp2
    go_ret
    exact ⟨rfl, HB1.out⟩
  go_wp2_with fail
  refine (counter_c e d HD.out W1).mono ?_
  rintro x W2 ⟨rfl, b2⟩
  have HB2 := Lib.hid (below_step HB1.out b2)
  clear b2 HB1 x2'
  have hr2 : r = d := by simpa using hr'
  clear hr'
  subst hr2
  go_wp2
  go_ret
  exact ⟨rfl, HB2.out⟩

theorem Tick_c (y : Nat → Value) (tl : Int) (x r : Lst) (hr : r = tickV tl x) (w : World) (hT : Tops w) : Calls Tryd.prog 25 #[ly y tl, lkv x] w fun z w' => z = .returned (lkv r) ∧ Below w.heap.size w w' := by
  obtain ⟨s, q, e⟩ := x
  obtain ⟨s', q', e'⟩ := r
  have b1 := below_new w (.cells (lyc y tl) 29)
  have Y : LY (w.alloc (.cells (lyc y tl) 29)) w.heap.size y tl := ⟨new_at rfl _⟩
  have b2 := below_new (w.alloc (.cells (lyc y tl) 29)) (.cells #[.int .i64 s, .int .i64 q, .int .i64 e] 31)
  have V := LVar.new (w.alloc (.cells (lyc y tl) 29)) s q e
  have b3 := below_new ((w.alloc (.cells (lyc y tl) 29)).alloc (.cells #[.int .i64 s, .int .i64 q, .int .i64 e] 31)) (.cells #[.int .i64 0, .int .i64 0, .int .i64 0] 31)
  have R := LVar.new ((w.alloc (.cells (lyc y tl) 29)).alloc (.cells #[.int .i64 s, .int .i64 q, .int .i64 e] 31)) 0 0 0
  have Y2 := (Y.later b2).later b3
  have V2 := V.later b3
  have B := below_step (below_step b1 b2) b3
  have hz : (((w.alloc (.cells (lyc y tl) 29)).alloc (.cells #[.int .i64 s, .int .i64 q, .int .i64 e] 31)).alloc (.cells #[.int .i64 0, .int .i64 0, .int .i64 0] 31)).heap.size = w.heap.size + 1 + 1 + 1 := by simp
  clear V Y b1 b2 b3
  simp only [World.size_alloc] at V2 R
  go_enter Tryd.func25, Tryd.ntmps25
  go_upto_region 1 with (fail)
  generalize ((w.alloc (.cells (lyc y tl) 29)).alloc (.cells #[.int .i64 s, .int .i64 q, .int .i64 e] 31)).alloc (.cells #[.int .i64 0, .int .i64 0, .int .i64 0] 31) = W at *
  have HZ := Lib.hid hz
  clear hz
  have x0 := V2.c0
  have x1 := V2.c1
  have x2 := V2.c2
  have hTW := hT.below B
  go_wp2_with fail
  obtain ⟨g, hg⟩ : ∃ g, g = rightL s q e := ⟨_, rfl⟩
  have HG := Lib.hid hg
  have HR := Lib.hid hr
  clear hr
  refine (link_Right_c s q e W g hg hTW).mono ?_
  clear hg
  rintro z W1 ⟨rfl, b1⟩
  have Y3 := Y2.later b1
  have V3 := V2.later b1
  have R3 := R.later b1
  have B3 := below_step B b1
  have hs3 := b1.size
  have hT1 := hTW.below b1
  clear x0 x1 x2 Y2 V2 R B b1
  have x0 := V3.c0
  have x1 := V3.c1
  have x2 := V3.c2
  have r0 := R3.c0
  have r1 := R3.c1
  have r2 := R3.c2
  have e0 := free_at R3.at_ 0
  have e1 := free_at R3.at_ 1
  have e2 := free_at R3.at_ 2
  cases g
  · have hx : (s', q', e') = (s, q, e) := by rw [HR.out, tickV, if_pos HG.out.symm]
    obtain ⟨rfl, h2⟩ := Prod.mk.inj hx
    obtain ⟨rfl, rfl⟩ := Prod.mk.inj h2
    clear hx h2
    have V4 := Lib.hid (R3.set3 s' q' e')
    have B4 := Lib.hid (((B3.setCell (p := ⟨w.heap.size + 1 + 1, 0, none⟩) (by simp; omega) (.int .i64 s')).setCell (p := ⟨w.heap.size + 1 + 1, 1, none⟩) (by simp; omega) (.int .i64 q')).setCell (p := ⟨w.heap.size + 1 + 1, 2, none⟩) (by simp; omega) (.int .i64 e'))
    clear B3
    go_wp2
    exact bodyPost_ret (res_lk (t := 4) rfl rfl V4.out) rfl ⟨rfl, B4.out⟩
  go_wp2_with fail
  obtain ⟨q1, hq1⟩ : ∃ q1, q1 = onV q 1 65535 := ⟨_, rfl⟩
  have HQ1 := Lib.hid hq1
  refine (More_c q 1 W1 hT1).mono ?_
  rintro z W2 ⟨rfl, b2⟩
  rw [← hq1]
  clear hq1
  have b2' : Below W1.heap.size W1 W2 := b2
  have Y4 := Y3.later b2'
  have V4 := V3.later b2'
  have R4 := R3.later b2'
  have B4 := below_step B3 b2'
  have hs4 := b2'.size
  clear x0 x1 x2 r0 r1 r2 e0 e1 e2 Y3 V3 R3 B3 b2 b2'
  have e1 := free_at V4.at_ 1
  have x1 := V4.c1
  go_upto_region 4 with (fail)
  have V5 : LVar (W2.setCell ⟨w.heap.size + 1, 1, none⟩ (.int .i64 q1)) (w.heap.size + 1) s q1 e := ⟨by rw [set_at V4.at_ 1]; simp⟩
  have hk : ∀ i : Nat, i ≠ w.heap.size + 1 → (W2.setCell ⟨w.heap.size + 1, 1, none⟩ (.int .i64 q1)).heap[i]? = W2.heap[i]? := fun i hi => Below.heap_setCell _ _ _ _ hi
  have Y5 : LY (W2.setCell ⟨w.heap.size + 1, 1, none⟩ (.int .i64 q1)) w.heap.size y tl := ⟨(hk _ (by omega)).trans Y4.at_⟩
  have R5 : LVar (W2.setCell ⟨w.heap.size + 1, 1, none⟩ (.int .i64 q1)) (w.heap.size + 1 + 1) 0 0 0 := ⟨(hk _ (by omega)).trans R4.at_⟩
  have B5 := B4.setCell (p := ⟨w.heap.size + 1, 1, none⟩) (by simp) (.int .i64 q1)
  clear x1 e1 hk V4 Y4 R4 B4
  generalize W2.setCell ⟨w.heap.size + 1, 1, none⟩ (.int .i64 q1) = W3 at *
  obtain ⟨y0, y1, y2, y3, y4, y5, y6, y7, y8, y9, y10⟩ := Y5.cells
  have x0 := V5.c0
  have x1 := V5.c1
  have x2 := V5.c2
  go_wp2_with fail
  obtain ⟨d, hd⟩ : ∃ d, d = decide (tl < q1) := ⟨_, rfl⟩
  have HD := Lib.hid hd
  refine (Dead_c y tl s q1 e d hd W3).mono ?_
  clear hd y0 y1 y2 y3 y4 y5 y6 y7 y8 y9 y10 x0 x1 x2
  rintro z W4 ⟨rfl, b4⟩
  have V6 := V5.later b4
  have R6 := R5.later b4
  have B6 := below_step B5 b4
  have hs6 := B6.size
  clear V5 R5 B5 b4 Y5
  have x0 := V6.c0
  have x1 := V6.c1
  have x2 := V6.c2
  have r0 := R6.c0
  have r1 := R6.c1
  have r2 := R6.c2
  have e0 := free_at R6.at_ 0
  have e1 := free_at R6.at_ 1
  have e2 := free_at R6.at_ 2
  cases d
  · have hx : (s', q', e') = (s, q1, e) := by
      rw [HR.out, tickV, if_neg (by rw [← HG.out]; simp)]
      simp only [← HQ1.out]
      rw [if_neg (of_decide_eq_false HD.out.symm)]
    obtain ⟨rfl, h2⟩ := Prod.mk.inj hx
    obtain ⟨rfl, rfl⟩ := Prod.mk.inj h2
    clear hx h2
    have V7 := Lib.hid (R6.set3 s' q' e')
    have B7 := Lib.hid (((B6.setCell (p := ⟨w.heap.size + 1 + 1, 0, none⟩) (by simp; omega) (.int .i64 s')).setCell (p := ⟨w.heap.size + 1 + 1, 1, none⟩) (by simp; omega) (.int .i64 q')).setCell (p := ⟨w.heap.size + 1 + 1, 2, none⟩) (by simp; omega) (.int .i64 e'))
    clear B6
    go_wp2
    exact bodyPost_ret (res_lk (t := 4) rfl rfl V7.out) rfl ⟨rfl, B7.out⟩
  · have hx : (s', q', e') = (-1, q1, e) := by
      rw [HR.out, tickV, if_neg (by rw [← HG.out]; simp)]
      simp only [← HQ1.out]
      rw [if_pos (of_decide_eq_true HD.out.symm)]
    obtain ⟨rfl, h2⟩ := Prod.mk.inj hx
    obtain ⟨rfl, rfl⟩ := Prod.mk.inj h2
    clear hx h2
    have f0 := free_at V6.at_ 0
    go_upto_region 6 with (fail)
    have V7 : LVar (W4.setCell ⟨w.heap.size + 1, 0, none⟩ (.int .i64 (-1))) (w.heap.size + 1) (-1) q' e' := ⟨by rw [set_at V6.at_ 0]; simp⟩
    have R7 : LVar (W4.setCell ⟨w.heap.size + 1, 0, none⟩ (.int .i64 (-1))) (w.heap.size + 1 + 1) 0 0 0 := ⟨(Below.heap_setCell _ _ _ _ (by simp)).trans R6.at_⟩
    have B7 := B6.setCell (p := ⟨w.heap.size + 1, 0, none⟩) (by simp) (.int .i64 (-1))
    clear x0 x1 x2 r0 r1 r2 e0 e1 e2 f0 V6 R6 B6
    generalize W4.setCell ⟨w.heap.size + 1, 0, none⟩ (.int .i64 (-1)) = W5 at *
    have x0 := V7.c0
    have x1 := V7.c1
    have x2 := V7.c2
    have r0 := R7.c0
    have r1 := R7.c1
    have r2 := R7.c2
    have e0 := free_at R7.at_ 0
    have e1 := free_at R7.at_ 1
    have e2 := free_at R7.at_ 2
    have V8 := Lib.hid (R7.set3 (-1) q' e')
    have B8 := Lib.hid (((B7.setCell (p := ⟨w.heap.size + 1 + 1, 0, none⟩) (by simp; omega) (.int .i64 (-1))).setCell (p := ⟨w.heap.size + 1 + 1, 1, none⟩) (by simp; omega) (.int .i64 q')).setCell (p := ⟨w.heap.size + 1 + 1, 2, none⟩) (by simp; omega) (.int .i64 e'))
    clear B7
    go_wp2
    exact bodyPost_ret (res_lk (t := 4) rfl rfl V8.out) rfl ⟨rfl, B8.out⟩

theorem r29Tick_c (y : Nat → Value) (tl : Int) (x r : Lst) (hr : r = tickV tl x) (w : World) : Calls Tryd.prog 26 #[ly y tl, lkv x] w fun z w' => z = .returned (lkv r) ∧ Below w.heap.size w w' := by
  obtain ⟨s, q, e⟩ := x
  obtain ⟨s', q', e'⟩ := r
  have b1 := below_new w (.cells (lyc y tl) 29)
  have Y : LY (w.alloc (.cells (lyc y tl) 29)) w.heap.size y tl := ⟨new_at rfl _⟩
  have b2 := below_new (w.alloc (.cells (lyc y tl) 29)) (.cells #[.int .i64 s, .int .i64 q, .int .i64 e] 31)
  have V := LVar.new (w.alloc (.cells (lyc y tl) 29)) s q e
  have b3 := below_new ((w.alloc (.cells (lyc y tl) 29)).alloc (.cells #[.int .i64 s, .int .i64 q, .int .i64 e] 31)) (.cells #[.int .i64 0, .int .i64 0, .int .i64 0] 31)
  have R := LVar.new ((w.alloc (.cells (lyc y tl) 29)).alloc (.cells #[.int .i64 s, .int .i64 q, .int .i64 e] 31)) 0 0 0
  have Y2 := (Y.later b2).later b3
  have V2 := V.later b3
  have B := below_step (below_step b1 b2) b3
  have hz : (((w.alloc (.cells (lyc y tl) 29)).alloc (.cells #[.int .i64 s, .int .i64 q, .int .i64 e] 31)).alloc (.cells #[.int .i64 0, .int .i64 0, .int .i64 0] 31)).heap.size = w.heap.size + 1 + 1 + 1 := by simp
  clear V Y b1 b2 b3
  simp only [World.size_alloc] at V2 R
  go_enter Tryd.func26, Tryd.ntmps26
  go_upto_region 1 with (fail)
  generalize ((w.alloc (.cells (lyc y tl) 29)).alloc (.cells #[.int .i64 s, .int .i64 q, .int .i64 e] 31)).alloc (.cells #[.int .i64 0, .int .i64 0, .int .i64 0] 31) = W at *
  have HZ := Lib.hid hz
  clear hz
  have x0 := V2.c0
  have x1 := V2.c1
  have x2 := V2.c2
  go_wp2_with fail
  obtain ⟨g, hg⟩ : ∃ g, g = rightL s q e := ⟨_, rfl⟩
  have HG := Lib.hid hg
  have HR := Lib.hid hr
  clear hr
  refine (r29Right_c s q e g hg W).mono ?_
  clear hg
  rintro z W1 ⟨rfl, b1⟩
  have Y3 := Y2.later b1
  have V3 := V2.later b1
  have R3 := R.later b1
  have B3 := below_step B b1
  have hs3 := b1.size
  clear x0 x1 x2 Y2 V2 R B b1
  have x0 := V3.c0
  have x1 := V3.c1
  have x2 := V3.c2
  have r0 := R3.c0
  have r1 := R3.c1
  have r2 := R3.c2
  have e0 := free_at R3.at_ 0
  have e1 := free_at R3.at_ 1
  have e2 := free_at R3.at_ 2
  cases g
  · have hx : (s', q', e') = (s, q, e) := by rw [HR.out, tickV, if_pos HG.out.symm]
    obtain ⟨rfl, h2⟩ := Prod.mk.inj hx
    obtain ⟨rfl, rfl⟩ := Prod.mk.inj h2
    clear hx h2
    have V4 := Lib.hid (R3.set3 s' q' e')
    have B4 := Lib.hid (((B3.setCell (p := ⟨w.heap.size + 1 + 1, 0, none⟩) (by simp; omega) (.int .i64 s')).setCell (p := ⟨w.heap.size + 1 + 1, 1, none⟩) (by simp; omega) (.int .i64 q')).setCell (p := ⟨w.heap.size + 1 + 1, 2, none⟩) (by simp; omega) (.int .i64 e'))
    clear B3
    go_wp2
    exact bodyPost_ret (res_lk (t := 4) rfl rfl V4.out) rfl ⟨rfl, B4.out⟩
  go_wp2_with fail
  obtain ⟨q1, hq1⟩ : ∃ q1, q1 = onV q 1 65535 := ⟨_, rfl⟩
  have HQ1 := Lib.hid hq1
  refine (r3More_v q W1).mono ?_
  rintro z W2 ⟨rfl, b2⟩
  rw [← hq1]
  clear hq1
  have b2' : Below W1.heap.size W1 W2 := b2
  have Y4 := Y3.later b2'
  have V4 := V3.later b2'
  have R4 := R3.later b2'
  have B4 := below_step B3 b2'
  have hs4 := b2'.size
  clear x0 x1 x2 r0 r1 r2 e0 e1 e2 Y3 V3 R3 B3 b2 b2'
  have e1 := free_at V4.at_ 1
  have x1 := V4.c1
  go_upto_region 4 with (fail)
  have V5 : LVar (W2.setCell ⟨w.heap.size + 1, 1, none⟩ (.int .i64 q1)) (w.heap.size + 1) s q1 e := ⟨by rw [set_at V4.at_ 1]; simp⟩
  have hk : ∀ i : Nat, i ≠ w.heap.size + 1 → (W2.setCell ⟨w.heap.size + 1, 1, none⟩ (.int .i64 q1)).heap[i]? = W2.heap[i]? := fun i hi => Below.heap_setCell _ _ _ _ hi
  have Y5 : LY (W2.setCell ⟨w.heap.size + 1, 1, none⟩ (.int .i64 q1)) w.heap.size y tl := ⟨(hk _ (by omega)).trans Y4.at_⟩
  have R5 : LVar (W2.setCell ⟨w.heap.size + 1, 1, none⟩ (.int .i64 q1)) (w.heap.size + 1 + 1) 0 0 0 := ⟨(hk _ (by omega)).trans R4.at_⟩
  have B5 := B4.setCell (p := ⟨w.heap.size + 1, 1, none⟩) (by simp) (.int .i64 q1)
  clear x1 e1 hk V4 Y4 R4 B4
  generalize W2.setCell ⟨w.heap.size + 1, 1, none⟩ (.int .i64 q1) = W3 at *
  obtain ⟨y0, y1, y2, y3, y4, y5, y6, y7, y8, y9, y10⟩ := Y5.cells
  have x0 := V5.c0
  have x1 := V5.c1
  have x2 := V5.c2
  go_wp2_with fail
  obtain ⟨d, hd⟩ : ∃ d, d = decide (tl < q1) := ⟨_, rfl⟩
  have HD := Lib.hid hd
  refine (r29Dead_c y tl s q1 e d hd W3).mono ?_
  clear hd y0 y1 y2 y3 y4 y5 y6 y7 y8 y9 y10 x0 x1 x2
  rintro z W4 ⟨rfl, b4⟩
  have V6 := V5.later b4
  have R6 := R5.later b4
  have B6 := below_step B5 b4
  have hs6 := B6.size
  clear V5 R5 B5 b4 Y5
  have x0 := V6.c0
  have x1 := V6.c1
  have x2 := V6.c2
  have r0 := R6.c0
  have r1 := R6.c1
  have r2 := R6.c2
  have e0 := free_at R6.at_ 0
  have e1 := free_at R6.at_ 1
  have e2 := free_at R6.at_ 2
  cases d
  · have hx : (s', q', e') = (s, q1, e) := by
      rw [HR.out, tickV, if_neg (by rw [← HG.out]; simp)]
      simp only [← HQ1.out]
      rw [if_neg (of_decide_eq_false HD.out.symm)]
    obtain ⟨rfl, h2⟩ := Prod.mk.inj hx
    obtain ⟨rfl, rfl⟩ := Prod.mk.inj h2
    clear hx h2
    have V7 := Lib.hid (R6.set3 s' q' e')
    have B7 := Lib.hid (((B6.setCell (p := ⟨w.heap.size + 1 + 1, 0, none⟩) (by simp; omega) (.int .i64 s')).setCell (p := ⟨w.heap.size + 1 + 1, 1, none⟩) (by simp; omega) (.int .i64 q')).setCell (p := ⟨w.heap.size + 1 + 1, 2, none⟩) (by simp; omega) (.int .i64 e'))
    clear B6
    go_wp2
    exact bodyPost_ret (res_lk (t := 4) rfl rfl V7.out) rfl ⟨rfl, B7.out⟩
  · have hx : (s', q', e') = (-1, q1, e) := by
      rw [HR.out, tickV, if_neg (by rw [← HG.out]; simp)]
      simp only [← HQ1.out]
      rw [if_pos (of_decide_eq_true HD.out.symm)]
    obtain ⟨rfl, h2⟩ := Prod.mk.inj hx
    obtain ⟨rfl, rfl⟩ := Prod.mk.inj h2
    clear hx h2
    have f0 := free_at V6.at_ 0
    go_upto_region 6 with (fail)
    have V7 : LVar (W4.setCell ⟨w.heap.size + 1, 0, none⟩ (.int .i64 (-1))) (w.heap.size + 1) (-1) q' e' := ⟨by rw [set_at V6.at_ 0]; simp⟩
    have R7 : LVar (W4.setCell ⟨w.heap.size + 1, 0, none⟩ (.int .i64 (-1))) (w.heap.size + 1 + 1) 0 0 0 := ⟨(Below.heap_setCell _ _ _ _ (by simp)).trans R6.at_⟩
    have B7 := B6.setCell (p := ⟨w.heap.size + 1, 0, none⟩) (by simp) (.int .i64 (-1))
    clear x0 x1 x2 r0 r1 r2 e0 e1 e2 f0 V6 R6 B6
    generalize W4.setCell ⟨w.heap.size + 1, 0, none⟩ (.int .i64 (-1)) = W5 at *
    have x0 := V7.c0
    have x1 := V7.c1
    have x2 := V7.c2
    have r0 := R7.c0
    have r1 := R7.c1
    have r2 := R7.c2
    have e0 := free_at R7.at_ 0
    have e1 := free_at R7.at_ 1
    have e2 := free_at R7.at_ 2
    have V8 := Lib.hid (R7.set3 (-1) q' e')
    have B8 := Lib.hid (((B7.setCell (p := ⟨w.heap.size + 1 + 1, 0, none⟩) (by simp; omega) (.int .i64 (-1))).setCell (p := ⟨w.heap.size + 1 + 1, 1, none⟩) (by simp; omega) (.int .i64 q')).setCell (p := ⟨w.heap.size + 1 + 1, 2, none⟩) (by simp; omega) (.int .i64 e'))
    clear B7
    go_wp2
    exact bodyPost_ret (res_lk (t := 4) rfl rfl V8.out) rfl ⟨rfl, B8.out⟩
end Go.Proofs.YtlanlkpamnoekaaDoor
namespace Go.Proofs.YtlanlkpamnoekaaDoor.Bits
open Bv
/-- a byte's bits, the highest first -/
def bitsB (b : BitVec 8) : List Bool := (List.range 8).map fun j => b.getLsbD (7 - j)
def bitsOf (B : List (BitVec 8)) : List Bool := B.flatMap bitsB
/-- the bytes B hold the bits l, and bits 0 behind them, as few as make whole bytes -/
def Holds (B : List (BitVec 8)) (l : List Bool) : Prop := B.length = (l.length + 7) / 8 ∧ ∃ m, bitsOf B = l ++ List.replicate m false
/-- may these bits be? -/
def right (B : List (BitVec 8)) (N : Int) : Bool := decide (0 ≤ N ∧ (B.length : Int) = (N + 7) / 8) && ((bitsOf B).drop N.toNat).all (fun b => !b)
theorem bitsB_length (b : BitVec 8) : (bitsB b).length = 8 := by simp [bitsB]
theorem bitsB_get (b : BitVec 8) (j : Nat) (h : j < 8) : (bitsB b)[j]? = some (b.getLsbD (7 - j)) := by simp [bitsB, h]
theorem bitsB_inj {a b : BitVec 8} (h : bitsB a = bitsB b) : a = b := by
  apply BitVec.eq_of_getLsbD_eq; intro i hi
  have h1 := congrArg (fun l => l[7 - i]?) h
  simp only [bitsB_get _ _ (show 7 - i < 8 by omega), show 7 - (7 - i) = i by omega] at h1
  exact Option.some.inj h1
theorem bitsOf_length (B : List (BitVec 8)) : (bitsOf B).length = 8 * B.length := by
  induction B with
  | nil => rfl
  | cons b B ih => simp only [bitsOf, List.flatMap_cons, List.length_append, bitsB_length, List.length_cons] at ih ⊢; omega
theorem bitsOf_inj : ∀ {A B : List (BitVec 8)}, bitsOf A = bitsOf B → A = B
  | [], [], _ => rfl
  | [], b :: B, h => by have := congrArg List.length h; rw [bitsOf_length, bitsOf_length] at this; simp at this
  | a :: A, [], h => by have := congrArg List.length h; rw [bitsOf_length, bitsOf_length] at this; simp at this
  | a :: A, b :: B, h => by
    simp only [bitsOf, List.flatMap_cons] at h
    have h2 := List.append_inj h (by rw [bitsB_length, bitsB_length])
    rw [bitsB_inj h2.1, bitsOf_inj h2.2]
theorem bitsOf_append (A B : List (BitVec 8)) : bitsOf (A ++ B) = bitsOf A ++ bitsOf B := List.flatMap_append
theorem bitsOf_get (B : List (BitVec 8)) (q r : Nat) (hr : r < 8) : (bitsOf B)[8 * q + r]? = (B[q]?).map fun b => b.getLsbD (7 - r) := by
  induction B generalizing q with
  | nil => simp [bitsOf]
  | cons b B ih =>
    have e : bitsOf (b :: B) = bitsB b ++ bitsOf B := by simp [bitsOf]
    rw [e]
    cases q with
    | zero => rw [List.getElem?_append_left (by rw [bitsB_length]; omega), Nat.mul_zero, Nat.zero_add, bitsB_get b r hr]; rfl
    | succ q =>
      rw [List.getElem?_append_right (by rw [bitsB_length]; omega), bitsB_length, show 8 * (q + 1) + r - 8 = 8 * q + r by omega, ih q]
      simp
theorem holds_len {B : List (BitVec 8)} {l : List Bool} (h : Holds B l) : bitsOf B = l ++ List.replicate (8 * B.length - l.length) false := by
  obtain ⟨_, m, h2⟩ := h
  have := congrArg List.length h2
  rw [bitsOf_length, List.length_append, List.length_replicate] at this
  rw [show 8 * B.length - l.length = m by omega]; exact h2
theorem holds_unique {A B : List (BitVec 8)} {l : List Bool} (h1 : Holds A l) (h2 : Holds B l) : A = B := by
  apply bitsOf_inj
  rw [holds_len h1, holds_len h2, h1.1, h2.1]
theorem holds_get {B : List (BitVec 8)} {l : List Bool} (h : Holds B l) {i : Nat} (hi : i < l.length) : (bitsOf B)[i]? = l[i]? := by
  rw [holds_len h, List.getElem?_append_left hi]
theorem holds_inj {B : List (BitVec 8)} {l l' : List Bool} (h1 : Holds B l) (h2 : Holds B l') (hl : l.length = l'.length) : l = l' := by
  apply List.ext_getElem?
  intro i
  by_cases hi : i < l.length
  · rw [← holds_get h1 hi, holds_get h2 (by omega)]
  · rw [List.getElem?_eq_none (by omega), List.getElem?_eq_none (by omega)]
theorem right_iff (B : List (BitVec 8)) (N : Int) : right B N = true ↔ ∃ l : List Bool, N = l.length ∧ Holds B l := by
  have hall : ((bitsOf B).drop N.toNat).all (fun b => !b) = true ↔ ∀ i, N.toNat ≤ i → i < 8 * B.length → (bitsOf B)[i]? = some false := by
    rw [List.all_eq_true]
    constructor
    · intro h i h1 h2
      have hi : i < (bitsOf B).length := by rw [bitsOf_length]; exact h2
      have hm : (bitsOf B)[i] ∈ (bitsOf B).drop N.toNat := by
        rw [List.mem_iff_getElem?]
        exact ⟨i - N.toNat, by rw [List.getElem?_drop, show N.toNat + (i - N.toNat) = i by omega, List.getElem?_eq_getElem hi]⟩
      have := h _ hm
      rw [List.getElem?_eq_getElem hi]
      simpa using this
    · intro h x hx
      obtain ⟨i, hi⟩ := List.mem_iff_getElem?.1 hx
      rw [List.getElem?_drop] at hi
      have hlt := (List.getElem?_eq_some_iff.1 hi).1
      rw [bitsOf_length] at hlt
      rw [h _ (by omega) hlt] at hi
      rw [← Option.some.inj hi]; rfl
  unfold right
  rw [Bool.and_eq_true, hall, decide_eq_true_eq, and_assoc]
  constructor
  · rintro ⟨h0, h1, h2⟩
    have hl : ((bitsOf B).take N.toNat).length = N.toNat := by rw [List.length_take, bitsOf_length]; omega
    refine ⟨(bitsOf B).take N.toNat, by omega, by omega, (8 * B.length - N.toNat), ?_⟩
    apply List.ext_getElem?
    intro i
    by_cases hi : i < N.toNat
    · rw [List.getElem?_append_left (by omega), List.getElem?_take, if_pos hi]
    · rw [List.getElem?_append_right (by omega), hl]
      by_cases hi2 : i < 8 * B.length
      · rw [h2 i (by omega) hi2, List.getElem?_replicate, if_pos (by omega)]
      · rw [List.getElem?_eq_none (by rw [bitsOf_length]; omega), List.getElem?_eq_none (by simp; omega)]
  · rintro ⟨l, rfl, h⟩
    refine ⟨by omega, by have := h.1; omega, fun i hi1 hi2 => ?_⟩
    rw [holds_len h, List.getElem?_append_right (by omega), List.getElem?_replicate, if_pos (by omega)]
theorem holds_nil : Holds [] [] := ⟨rfl, 0, rfl⟩
/-- one bit behind -/
def addB (B : List (BitVec 8)) (n : Nat) (b : Bool) : List (BitVec 8) :=
  let B' := if n % 8 = 0 then B ++ [0#8] else B
  if b then B'.modify (B'.length - 1) (fun x => x ||| (128#8 >>> (n % 8))) else B'
theorem high_get (r j : Nat) (hr : r < 8) (hj : j < 8) : (128#8 >>> r).getLsbD (7 - j) = decide (j = r) := by
  have h : ∀ r : Fin 8, ∀ j : Fin 8, (128#8 >>> r.val).getLsbD (7 - j.val) = decide (j.val = r.val) := by decide
  exact h ⟨r, hr⟩ ⟨j, hj⟩
theorem holds_add {B : List (BitVec 8)} {l : List Bool} (h : Holds B l) (b : Bool) : Holds (addB B l.length b) (l ++ [b]) := by
  have hlen : (addB B l.length b).length = (l.length + 1 + 7) / 8 := by
    have := h.1
    unfold addB
    dsimp only
    split <;> split <;> (try simp) <;> omega
  refine ⟨by rw [List.length_append]; exact hlen, 8 * ((l.length + 1 + 7) / 8) - (l.length + 1), ?_⟩
  have hB := h.1
  have hE : ∀ q r, r < 8 → ∀ B' : List (BitVec 8), B' = (if l.length % 8 = 0 then B ++ [0#8] else B) → (bitsOf B')[8 * q + r]? = (l ++ List.replicate (8 * ((l.length + 1 + 7) / 8) - l.length) false)[8 * q + r]? := by
    intro q r hr B' hB'
    subst hB'
    split
    · rw [bitsOf_append, holds_len h, List.append_assoc]
      have : bitsOf [0#8] = List.replicate 8 false := by decide
      rw [this, List.replicate_append_replicate]
      congr 3; omega
    · rw [holds_len h]; congr 3; omega
  apply List.ext_getElem?
  intro i
  have hi : i = 8 * (i / 8) + i % 8 := by omega
  have hr : i % 8 < 8 := by omega
  generalize i / 8 = q at *
  generalize i % 8 = r at *
  subst hi
  have hEq := hE q r hr _ rfl
  have hl' : (if l.length % 8 = 0 then B ++ [0#8] else B).length = (l.length + 1 + 7) / 8 := by split <;> (try simp) <;> omega
  unfold addB
  dsimp only
  generalize (if l.length % 8 = 0 then B ++ [0#8] else B) = B' at *
  have hgoal : ∀ x : Bool, 8 * q + r < 8 * ((l.length + 1 + 7) / 8) → x = (if 8 * q + r < l.length then (l[8 * q + r]?).getD false else if 8 * q + r = l.length then b else false) →
      (l ++ [b] ++ List.replicate (8 * ((l.length + 1 + 7) / 8) - (l.length + 1)) false)[8 * q + r]? = some x := by
    rintro x hlt rfl
    by_cases h1 : 8 * q + r < l.length
    · rw [if_pos h1, List.append_assoc, List.getElem?_append_left h1, List.getElem?_eq_getElem h1]; rfl
    · rw [if_neg h1, List.append_assoc, List.getElem?_append_right (by omega)]
      by_cases h2 : 8 * q + r = l.length
      · rw [if_pos h2, h2, Nat.sub_self]; rfl
      · rw [if_neg h2, List.getElem?_append_right (by simp; omega), List.getElem?_replicate, if_pos (by simp; omega)]
  have hold : ∀ x : Bool, (bitsOf B')[8 * q + r]? = some x → x = (if 8 * q + r < l.length then (l[8 * q + r]?).getD false else false) ∧ 8 * q + r < 8 * ((l.length + 1 + 7) / 8) := by
    intro x hx
    have hlt : 8 * q + r < 8 * ((l.length + 1 + 7) / 8) := by
      have := (List.getElem?_eq_some_iff.1 hx).1
      rw [bitsOf_length] at this; omega
    refine ⟨?_, hlt⟩
    rw [hEq] at hx
    by_cases h1 : 8 * q + r < l.length
    · rw [List.getElem?_append_left h1] at hx
      rw [if_pos h1, hx]; rfl
    · rw [List.getElem?_append_right (by omega), List.getElem?_replicate, if_pos (by omega)] at hx
      rw [if_neg h1]; exact (Option.some.inj hx).symm
  by_cases hq : q < B'.length
  · have hqe : B'[q]? = some B'[q] := List.getElem?_eq_getElem hq
    have hx := bitsOf_get B' q r hr
    rw [hqe, Option.map_some] at hx
    obtain ⟨hx1, hx2⟩ := hold _ hx
    cases b
    · rw [if_neg (by simp)]
      rw [hx, hgoal _ hx2]
      rw [hx1]
      split
      · rfl
      · split <;> rfl
    · rw [if_pos rfl, bitsOf_get _ q r hr, List.getElem?_modify, hqe, Option.map_eq_map, Option.map_some]
      by_cases hlast : B'.length - 1 = q
      · rw [if_pos hlast]
        simp only [Option.map_some, id]
        symm
        apply hgoal _ hx2
        rw [BitVec.getLsbD_or, hx1, high_get (l.length % 8) r (by omega) hr]
        by_cases h1 : 8 * q + r < l.length
        · rw [if_pos h1, if_pos h1, decide_eq_false (by omega), Bool.or_false]
        · rw [if_neg h1, if_neg h1, Bool.false_or]
          by_cases h2 : 8 * q + r = l.length
          · rw [if_pos h2, decide_eq_true (by omega)]
          · rw [if_neg h2, decide_eq_false (by omega)]
      · rw [if_neg hlast]
        simp only [Option.map_some, id]
        symm
        apply hgoal _ hx2
        rw [hx1]
        by_cases h1 : 8 * q + r < l.length
        · rw [if_pos h1, if_pos h1]
        · exfalso; omega
  · have e1 : ∀ C : List (BitVec 8), C.length = B'.length → (bitsOf C)[8 * q + r]? = none := fun C hC => List.getElem?_eq_none (by rw [bitsOf_length]; omega)
    have e2 : (l ++ [b] ++ List.replicate (8 * ((l.length + 1 + 7) / 8) - (l.length + 1)) false)[8 * q + r]? = none := List.getElem?_eq_none (by rw [List.length_append, List.length_append, List.length_replicate, List.length_singleton]; omega)
    rw [e2]
    split
    · exact e1 _ (by simp)
    · exact e1 _ rfl
/-- a number's bits, the highest first; and the number that bits are -/
def numBits (n w : Nat) : List Bool := (List.range w).map fun i => n.testBit (w - 1 - i)
def num (l : List Bool) : Nat := l.foldl (fun n b => 2 * n + b.toNat) 0
theorem numBits_length (n w : Nat) : (numBits n w).length = w := by simp [numBits]
theorem num_foldl (l : List Bool) : ∀ a, l.foldl (fun n b => 2 * n + b.toNat) a = a * 2 ^ l.length + num l := by
  induction l with
  | nil => intro a; simp [num]
  | cons b l ih =>
    intro a
    unfold num
    simp only [List.foldl_cons, List.length_cons, Nat.mul_zero, Nat.zero_add]
    rw [ih, ih b.toNat, Nat.pow_succ]
    have : (2 * a + b.toNat) * 2 ^ l.length = a * (2 ^ l.length * 2) + b.toNat * 2 ^ l.length := by rw [Nat.add_mul, Nat.mul_comm 2 a, Nat.mul_assoc, Nat.mul_comm 2]
    omega
theorem num_append (a b : List Bool) : num (a ++ b) = num a * 2 ^ b.length + num b := by
  unfold num; rw [List.foldl_append, num_foldl]; rfl
theorem num_lt (l : List Bool) : num l < 2 ^ l.length := by
  induction l with
  | nil => decide
  | cons b l ih =>
    have := num_append [b] l
    rw [List.singleton_append] at this
    rw [this, List.length_cons, Nat.pow_succ]
    have hb : num [b] ≤ 1 := by cases b <;> decide
    have : num [b] * 2 ^ l.length ≤ 1 * 2 ^ l.length := Nat.mul_le_mul_right _ hb
    omega
theorem numBits_succ (n w : Nat) : numBits n (w + 1) = numBits (n / 2) w ++ [n.testBit 0] := by
  unfold numBits
  rw [List.range_succ, List.map_append]
  congr 1
  · apply List.map_congr_left
    intro i hi
    have := List.mem_range.1 hi
    rw [show w + 1 - 1 - i = (w - 1 - i) + 1 by omega, Nat.testBit_succ]
  · simp
theorem num_numBits : ∀ (w n : Nat), num (numBits n w) = n % 2 ^ w
  | 0, n => by simp [numBits, num, Nat.mod_one]
  | w + 1, n => by
    rw [numBits_succ, num_append, num_numBits w]
    have : num [n.testBit 0] = n % 2 := by
      rw [Nat.testBit_zero]
      rcases Nat.mod_two_eq_zero_or_one n with h | h <;> rw [h] <;> rfl
    rw [this, List.length_singleton, Nat.pow_one, Nat.pow_succ, Nat.mul_comm (2 ^ w) 2, Nat.mod_mul]
    omega
end Go.Proofs.YtlanlkpamnoekaaDoor.Bits
namespace Go.Proofs.YtlanlkpamnoekaaDoor.Bits
open Bv Go.RowKit
theorem mask7 (x : Int) : Go.bits .and .i64 x 7 = x % 8 := by
  have h : ((BitVec.ofInt 64 x) &&& (BitVec.ofInt 64 7)).toNat = (x % 18446744073709551616).toNat % 8 := by
    rw [BitVec.toNat_and, BitVec.toNat_ofInt, BitVec.toNat_ofInt]
    exact Nat.and_two_pow_sub_one_eq_mod _ 3
  have h2 : Go.bits .and .i64 x 7 = IntKind.i64.wrap ((((BitVec.ofInt 64 x) &&& (BitVec.ofInt 64 7)).toNat : Nat) : Int) := rfl
  rw [h2, h, IntWalk.i64_in _ (by omega)]; omega
theorem mask1 (x : Int) : Go.bits .and .i64 x 1 = x % 2 := by
  have h : ((BitVec.ofInt 64 x) &&& (BitVec.ofInt 64 1)).toNat = (x % 18446744073709551616).toNat % 2 := by
    rw [BitVec.toNat_and, BitVec.toNat_ofInt, BitVec.toNat_ofInt]
    exact Nat.and_two_pow_sub_one_eq_mod _ 1
  have h2 : Go.bits .and .i64 x 1 = IntKind.i64.wrap ((((BitVec.ofInt 64 x) &&& (BitVec.ofInt 64 1)).toNat : Nat) : Int) := rfl
  rw [h2, h, IntWalk.i64_in _ (by omega)]; omega
theorem or_bit (n b : Nat) (hn : n < 4611686018427387904) (hb : b ≤ 1) : Go.bits .or .i64 (2 * (n : Int)) (b : Int) = ((2 * n + b : Nat) : Int) := by
  have h : ((BitVec.ofInt 64 (2 * (n : Int))) ||| (BitVec.ofInt 64 (b : Int))).toNat = 2 * n + b := by
    rw [BitVec.toNat_or, BitVec.toNat_ofInt, BitVec.toNat_ofInt]
    rw [show ((2 * (n : Int)) % ((2 ^ 64 : Nat) : Int)).toNat = 2 * n by omega, show ((b : Int) % ((2 ^ 64 : Nat) : Int)).toNat = b by omega]
    rw [show 2 * n = 2 ^ 1 * n by omega, ← Nat.two_pow_add_eq_or_of_lt (by omega)]
  have h2 : Go.bits .or .i64 (2 * (n : Int)) (b : Int) = IntKind.i64.wrap ((((BitVec.ofInt 64 (2 * (n : Int))) ||| (BitVec.ofInt 64 (b : Int))).toNat : Nat) : Int) := rfl
  rw [h2, h, IntWalk.i64_in _ (by omega)]
theorem low_zero (x : BitVec 8) (k : Nat) : x.toNat % 2 ^ k = 0 ↔ ∀ i, i < k → x.getLsbD i = false := by
  constructor
  · intro h i hi
    have := congrArg (fun z => z.testBit i) h
    simp only [Nat.testBit_mod_two_pow, Nat.zero_testBit, decide_eq_true hi, Bool.true_and] at this
    exact this
  · intro h
    apply Nat.eq_of_testBit_eq
    intro i
    rw [Nat.testBit_mod_two_pow, Nat.zero_testBit]
    by_cases hi : i < k
    · have := h i hi
      rw [BitVec.getLsbD] at this
      rw [this, Bool.and_false]
    · rw [decide_eq_false hi, Bool.false_and]
theorem right_neg (B : List (BitVec 8)) {N : Int} (h : N < 0) : right B N = false := by
  unfold right; rw [decide_eq_false (by omega), Bool.false_and]
theorem right_len (B : List (BitVec 8)) {n : Nat} (h : B.length ≠ (n + 7) / 8) : right B (n : Int) = false := by
  unfold right; rw [decide_eq_false (by omega), Bool.false_and]
theorem right_whole (B : List (BitVec 8)) {n : Nat} (h : B.length = (n + 7) / 8) (h8 : n % 8 = 0) : right B (n : Int) = true := by
  unfold right
  rw [decide_eq_true (by omega), Bool.true_and, List.drop_of_length_le (by rw [bitsOf_length]; omega)]; rfl
theorem right_last (B : List (BitVec 8)) {n : Nat} (h : B.length = (n + 7) / 8) (h8 : n % 8 ≠ 0) {x : BitVec 8} (hx : B[n / 8]? = some x) : right B (n : Int) = decide (x.toNat % 2 ^ (8 - n % 8) = 0) := by
  have key : right B (n : Int) = true ↔ x.toNat % 2 ^ (8 - n % 8) = 0 := by
    rw [low_zero, right_iff]
    constructor
    · rintro ⟨l, hl, hH⟩ i hi
      have hl' : l.length = n := by omega
      have hg : (bitsOf B)[8 * (n / 8) + (7 - i)]? = some false := by
        rw [holds_len hH, List.getElem?_append_right (by omega), List.getElem?_replicate, if_pos (by omega)]
      rw [bitsOf_get _ _ _ (by omega), hx, Option.map_some, show 7 - (7 - i) = i by omega] at hg
      exact Option.some.inj hg
    · intro hz
      have hl : ((bitsOf B).take n).length = n := by rw [List.length_take, bitsOf_length]; omega
      refine ⟨(bitsOf B).take n, by omega, by omega, 8 * B.length - n, ?_⟩
      apply List.ext_getElem?
      intro i
      by_cases hi : i < n
      · rw [List.getElem?_append_left (by omega), List.getElem?_take, if_pos hi]
      · rw [List.getElem?_append_right (by omega), hl]
        by_cases hi2 : i < 8 * B.length
        · rw [List.getElem?_replicate, if_pos (by omega)]
          have e : i = 8 * (n / 8) + (i - 8 * (n / 8)) := by omega
          rw [e, bitsOf_get _ _ _ (by omega), hx, Option.map_some, hz _ (by omega)]
        · rw [List.getElem?_eq_none (by rw [bitsOf_length]; omega), List.getElem?_eq_none (by simp; omega)]
  rw [Bool.eq_iff_iff, key, decide_eq_true_eq]
end Go.Proofs.YtlanlkpamnoekaaDoor.Bits
