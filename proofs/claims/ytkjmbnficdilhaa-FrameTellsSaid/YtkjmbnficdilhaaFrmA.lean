/- Frames: words, and the contracts of Right, Size, Newer, Own, Same and of the document's. Nothing that was there is turned. -/
import Derived.Test.YtkjmbnficdilhaaCrcRefB
import Derived.WalkSpells
import Derived.Outline
import Derived.BigQuiet
import Derived.Deep.RegionHeld3
import Derived.StillTailTactics
namespace Go.Proofs.Ytkjmbnficdilhaa
open Go.RowKit Rf Mem Bv Crc Str
attribute [local go_sem ↓] run_max2 run_min2
/-- a frame: its kind, its number, its payload -/
abbrev fv (k s : Int) (v : Value) : Value := .agg #[.int .u8 k, .int .u8 s, v]
/-- may a frame of this kind and so long a payload be? -/
def rightF (k : Int) (n : Nat) : Bool := decide (0 < k ∧ k < 4) && decide (n ≤ 59)
/-- block g holds a frame, its payload p -/
structure FVar (W : World) (g : Nat) (k s : Int) (v : Value) (p : List (BitVec 8)) : Prop where
  at_ : W.heap[g]? = some (.cells #[.int .u8 k, .int .u8 s, v] 24 (0, 0))
  sl : SliceAt W 1 v p.length (u8s p)
theorem below_new (W : World) (o : Obj) : Below W.heap.size W (W.alloc o) := (Below.refl _ W).alloc (Nat.le_refl _) _
theorem FVar.later {W W' : World} {g : Nat} {k s : Int} {v : Value} {p : List (BitVec 8)} (h : FVar W g k s v p) (hb : Below W.heap.size W W') : FVar W' g k s v p :=
  ⟨below_at hb h.at_ (Array.getElem?_eq_some_iff.1 h.at_).1, h.sl.later hb⟩
theorem FVar.c0 {W : World} {g : Nat} {k s : Int} {v : Value} {p : List (BitVec 8)} (h : FVar W g k s v p) : W.cell? ⟨g, 0, none⟩ = some (.int .u8 k) := by rw [cell_at h.at_]; rfl
theorem FVar.c1 {W : World} {g : Nat} {k s : Int} {v : Value} {p : List (BitVec 8)} (h : FVar W g k s v p) : W.cell? ⟨g, 1, none⟩ = some (.int .u8 s) := by rw [cell_at h.at_]; rfl
theorem FVar.c2 {W : World} {g : Nat} {k s : Int} {v : Value} {p : List (BitVec 8)} (h : FVar W g k s v p) : W.cell? ⟨g, 2, none⟩ = some v := by rw [cell_at h.at_]; rfl
theorem FVar.new {W : World} {k s : Int} {v : Value} {p : List (BitVec 8)} (h : SliceAt W 1 v p.length (u8s p)) : FVar (W.alloc (.cells #[.int .u8 k, .int .u8 s, v] 24)) W.heap.size k s v p :=
  ⟨new_at rfl _, h.later (below_new _ _)⟩
theorem load_frm {W : World} {g : Nat} {x y z : Value} {f : Nat × Nat} (hg : W.heap[g]? = some (.cells #[x, y, z] 24 f)) : (loadVar 24 ⟨g, 0, none⟩).run Try.prog W = .ok (.agg #[x, y, z]) W := by
  have c0 := cell_at hg 0
  have c1 := cell_at hg 1
  have c2 := cell_at hg 2
  simp only [List.getElem?_toArray, List.getElem?_cons_zero, List.getElem?_cons_succ] at c0 c1 c2
  simp [go_sem, c0, c1, c2]
theorem res_frm {fn : Func} {t : Tmp} (hf : fn.results = #[.cell t 24]) {tmps : Array Value} {W : World} {g : Nat} {x y z : Value} {f : Nat × Nat} (hs : tmps.getD t undef = .pointer (some ⟨g, 0, none⟩)) (hg : W.heap[g]? = some (.cells #[x, y, z] 24 f)) :
    (results fn tmps).run Try.prog W = .ok (.agg #[x, y, z]) W := by
  have hs' : tmps[t]?.getD undef = .pointer (some ⟨g, 0, none⟩) := by simpa using hs
  simp [results, hf, hs', asAddr, load_frm hg]
theorem res_frm2 {fn : Func} {t u : Tmp} (hf : fn.results = #[.cell t 24, .tmp u]) {tmps : Array Value} {W : World} {g : Nat} {x y z : Value} {f : Nat × Nat} (hs : tmps.getD t undef = .pointer (some ⟨g, 0, none⟩)) (hg : W.heap[g]? = some (.cells #[x, y, z] 24 f)) :
    (results fn tmps).run Try.prog W = .ok (.tuple #[.agg #[x, y, z], tmps.getD u undef]) W := by
  have hs' : tmps[t]?.getD undef = .pointer (some ⟨g, 0, none⟩) := by simpa using hs
  simp [results, hf, hs', asAddr, load_frm hg]
theorem rightF_cases (k : Int) (n : Nat) : (decide (0 < k) = false ∧ rightF k n = false) ∨ (decide (0 < k) = true ∧ decide (k < 4) = false ∧ rightF k n = false) ∨ (decide (0 < k) = true ∧ decide (k < 4) = true ∧ rightF k n = decide ((n : Int) ≤ 59)) := by
  unfold rightF
  by_cases h1 : 0 < k
  · by_cases h2 : k < 4
    · refine .inr (.inr ⟨decide_eq_true h1, decide_eq_true h2, ?_⟩)
      rw [decide_eq_true (show 0 < k ∧ k < 4 from ⟨h1, h2⟩), Bool.true_and, Bool.eq_iff_iff, decide_eq_true_eq, decide_eq_true_eq]; omega
    · exact .inr (.inl ⟨decide_eq_true h1, decide_eq_false h2, by rw [decide_eq_false (fun h => h2 h.2), Bool.false_and]⟩)
  · exact .inl ⟨decide_eq_false h1, by rw [decide_eq_false (fun h => h1 h.1), Bool.false_and]⟩
set_option maxHeartbeats 1000000 in
theorem Right_c (k s : Int) (v : Value) (p : List (BitVec 8)) (w : World) (hs : SliceAt w 1 v p.length (u8s p)) :
    Calls Try.prog 11 #[fv k s v] w fun e w' => e = .returned (.bool (rightF k p.length)) ∧ Below w.heap.size w w' := by
  have V := FVar.new (k := k) (s := s) hs
  have hB := below_new w (.cells #[.int .u8 k, .int .u8 s, v] 24)
  obtain ⟨A, c, rfl, _⟩ := hs.form
  clear hs
  rcases rightF_cases k p.length with ⟨q1, q3⟩ | ⟨q1, q2, q3⟩ | ⟨q1, q2, q3⟩
  all_goals
    rw [q3]
    clear q3
    go_enter Try.func11, Try.ntmps11
    go_wp2
    go_ret
    exact ⟨rfl, hB⟩
theorem ge1 (k : Int) : decide (1 ≤ k) = decide (0 < k) := by rw [Bool.eq_iff_iff, decide_eq_true_eq, decide_eq_true_eq]; omega
set_option maxHeartbeats 1000000 in
theorem refRight_c (k s : Int) (v : Value) (p : List (BitVec 8)) (w : World) (hs : SliceAt w 1 v p.length (u8s p)) :
    Calls Try.prog 12 #[fv k s v] w fun e w' => e = .returned (.bool (rightF k p.length)) ∧ Below w.heap.size w w' := by
  have V := FVar.new (k := k) (s := s) hs
  have hB := below_new w (.cells #[.int .u8 k, .int .u8 s, v] 24)
  obtain ⟨A, c, rfl, _⟩ := hs.form
  clear hs
  rcases rightF_cases k p.length with ⟨q1, q3⟩ | ⟨q1, q2, q3⟩ | ⟨q1, q2, q3⟩
  all_goals
    rw [q3]
    clear q3
    rw [← ge1] at q1
    go_enter Try.func12, Try.ntmps12
    go_wp2
    go_ret
    exact ⟨rfl, hB⟩
end Go.Proofs.Ytkjmbnficdilhaa
