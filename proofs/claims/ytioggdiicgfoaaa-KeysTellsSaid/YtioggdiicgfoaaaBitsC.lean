/- Contracts: Own, Of, Same of bits, and the document's Same. -/
import Derived.Test.YtioggdiicgfoaaaBitsB
import Derived.Test.YtioggdiicgfoaaaClone
namespace Go.Proofs.Ytioggdiicgfoaaa
open Go.RowKit Rf Mem Bv Bits Str
attribute [local go_sem ↓] run_max2 run_min2
theorem own_base_le {w : World} {base base' e sz n : Nat} {v : Value} {xs : List Value} (h : w.ownsRow base e sz v n xs) (hb : base' ≤ base) : w.ownsRow base' e sz v n xs :=
  ⟨h.1, h.2.imp id (fun ⟨g, cap, cur, q1, q2, q3⟩ => ⟨g, cap, cur, q1, by omega, q3⟩)⟩
theorem own_set {w : World} {base e sz n : Nat} {v : Value} {xs : List Value} (h : w.ownsRow base e sz v n xs) {p : Addr} (hp : p.block < base) (u : Value) : (w.setCell p u).ownsRow base e sz v n xs :=
  own_later h (fun g hg => Below.heap_setCell w p u g (by have := (own_base h hg).1; omega))
theorem load_bits {W : World} {g : Nat} {x y : Value} {f : Nat × Nat} (hg : W.heap[g]? = some (.cells #[x, y] 62 f)) : (loadVar 62 ⟨g, 0, none⟩).run Try.prog W = .ok (.agg #[x, y]) W := by
  have c0 := cell_at hg 0
  have c1 := cell_at hg 1
  simp only [List.getElem?_toArray, List.getElem?_cons_zero, List.getElem?_cons_succ] at c0 c1
  simp [go_sem, c0, c1]
theorem res_bits {fn : Func} {t : Tmp} (hf : fn.results = #[.cell t 62]) {tmps : Array Value} {W : World} {g : Nat} {x y : Value} {f : Nat × Nat} (hs : tmps.getD t undef = .pointer (some ⟨g, 0, none⟩)) (hg : W.heap[g]? = some (.cells #[x, y] 62 f)) :
    (results fn tmps).run Try.prog W = .ok (.agg #[x, y]) W := by
  have hs' : tmps[t]?.getD undef = .pointer (some ⟨g, 0, none⟩) := by simpa using hs
  simp [results, hf, hs', asAddr, load_bits hg]
theorem res_bits2 {fn : Func} {t u : Tmp} (hf : fn.results = #[.cell t 62, .tmp u]) {tmps : Array Value} {W : World} {g : Nat} {x y : Value} {f : Nat × Nat} (hs : tmps.getD t undef = .pointer (some ⟨g, 0, none⟩)) (hg : W.heap[g]? = some (.cells #[x, y] 62 f)) :
    (results fn tmps).run Try.prog W = .ok (.tuple #[.agg #[x, y], tmps.getD u undef]) W := by
  have hs' : tmps[t]?.getD undef = .pointer (some ⟨g, 0, none⟩) := by simpa using hs
  simp [results, hf, hs', asAddr, load_bits hg]
set_option maxHeartbeats 1000000 in
set_option maxRecDepth 100000 in
theorem Own_c (v : Value) (B : List (BitVec 8)) (N : Int) (w : World) (hs : SliceAt w 1 v B.length (u8s B)) (hl : B.length ≤ 140737488355328) :
    Calls Try.prog 52 #[bv v N] w fun e w' => ∃ v', e = .returned (bv v' N) ∧ w'.ownsRow w.heap.size 5 1 v' B.length (u8s B) ∧ Below w.heap.size w w' := by
  have hB : Below w.heap.size w ((w.alloc (.cells #[v, .int .i64 N] 62)).alloc (.cells #[.slice none 0 0, .int .i64 0] 62)) := ((Below.refl _ w).alloc (Nat.le_refl _) _).alloc (by simp) _
  have hs' := hs.later hB
  obtain ⟨A, c, rfl, _⟩ := hs.form
  clear hs
  go_enter Try.func52, Try.ntmps52
  go_wp2_with fail
  refine (Clone_c _ B _ hs' hl).mono ?_
  rintro e w1 ⟨v1, rfl, ho1, b1⟩
  have g1 := below_at b1 (k := w.heap.size) (o := .cells #[.slice A B.length c, .int .i64 N] 62) (old_at (new_at rfl _) _) (by simp; omega)
  have g2 := below_at b1 (k := w.heap.size + 1) (o := .cells #[.slice none 0 0, .int .i64 0] 62) (new_at (by simp) _) (by simp)
  have c10 := cell_at g1 0
  have c11 := cell_at g1 1
  have f10 := free_at g1 0
  have c20 := cell_at g2 0
  have c21 := cell_at g2 1
  have f20 := free_at g2 0
  have f21 := free_at g2 1
  have S1 := sliceAt_of_own ho1
  obtain ⟨A1, c1, rfl, _⟩ := S1.form
  go_wp2
  refine bodyPost_ret (res_bits rfl rfl (set_at (set_at (set_far g2 (by simp) _) 0 _) 1 _)) rfl ⟨_, rfl, ?_, ?_⟩
  · exact own_base_le (own_set (own_set (own_set ho1 (by simp; omega) _) (by simp) _) (by simp) _) (by simp; omega)
  · exact (((hB.trans (b1.mono hB.size)).setCell (Nat.le_refl _) _).setCell (by simp) _).setCell (by simp) _
set_option maxHeartbeats 1000000 in
set_option maxRecDepth 100000 in
theorem Of_c (v : Value) (B : List (BitVec 8)) (w : World) (hs : SliceAt w 1 v B.length (u8s B)) (hl : B.length ≤ 140737488355328) :
    Calls Try.prog 19 #[v] w fun e w' => ∃ v', e = .returned (bv v' ((B.length : Int) * 8)) ∧ w'.ownsRow w.heap.size 5 1 v' B.length (u8s B) ∧ Below w.heap.size w w' := by
  have hB : Below w.heap.size w (w.alloc (.cells #[.slice none 0 0, .int .i64 0] 62)) := (Below.refl _ w).alloc (Nat.le_refl _) _
  have hs' := hs.later hB
  obtain ⟨A, c, rfl, _⟩ := hs.form
  clear hs
  go_enter Try.func19, Try.ntmps19
  go_wp2_with fail
  refine (Clone_c _ B _ hs' hl).mono ?_
  rintro e w1 ⟨v1, rfl, ho1, b1⟩
  have g1 := below_at b1 (k := w.heap.size) (o := .cells #[.slice none 0 0, .int .i64 0] 62) (new_at rfl _) (by simp)
  have c10 := cell_at g1 0
  have c11 := cell_at g1 1
  have f10 := free_at g1 0
  have f11 := free_at g1 1
  have S1 := sliceAt_of_own ho1
  obtain ⟨A1, c1, rfl, _⟩ := S1.form
  go_wp2
  refine bodyPost_ret (res_bits rfl rfl (set_at (set_at g1 0 _) 1 _)) rfl ⟨_, rfl, ?_, ?_⟩
  · exact own_base_le (own_set (own_set ho1 (by simp) _) (by simp) _) (by simp)
  · exact ((hB.trans (b1.mono hB.size)).setCell (by simp) _).setCell (by simp) _
theorem Equal_c (v u : Value) (a b : List (BitVec 8)) (w : World) (ha : SliceAt w 1 v a.length (u8s a)) (hb : SliceAt w 1 u b.length (u8s b)) :
    Calls Try.prog 23 #[v, u] w fun e w' => e = .returned (.bool (decide (a = b))) ∧ w = w' := by
  have c1 := conv_str (P := Try.prog) (dst := 9) ha Try.underlying36 Try.underlying5 Try.underlying9
  have c2 := conv_str (P := Try.prog) (dst := 9) hb Try.underlying36 Try.underlying5 Try.underlying9
  have c3 := str_beq a b
  go_enter Try.func23, Try.ntmps23
  go_wp2
  go_ret
  exact ⟨rfl, rfl⟩
/-- bits of the same number, and bytes -/
def sameV (A B : List (BitVec 8)) (M N : Int) : Bool := (M == N) && decide (A = B)
end Go.Proofs.Ytioggdiicgfoaaa
