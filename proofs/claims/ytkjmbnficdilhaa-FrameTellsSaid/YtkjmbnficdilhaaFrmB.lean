/- Frames: the contracts of Newer, Size, Own, Same and of the document's. Nothing that was there is turned. -/
import Derived.Test.YtkjmbnficdilhaaFrmA
namespace Go.Proofs.Ytkjmbnficdilhaa
open Go.RowKit Rf Mem Bv Crc Str
attribute [local go_sem ↓] run_max2 run_min2
theorem own_set {w : World} {base e sz n : Nat} {v : Value} {xs : List Value} (h : w.ownsRow base e sz v n xs) {p : Addr} (hp : p.block < base) (u : Value) : (w.setCell p u).ownsRow base e sz v n xs :=
  own_later h (fun g hg => Below.heap_setCell w p u g (by have := (own_base h hg).1; omega))
theorem ret_bool {a b : Bool} (h : a = b) : Ending.returned (.bool a) = .returned (.bool b) := by rw [h]
def newer (n was : Int) : Bool := decide (0 < (n - was) % 256 ∧ (n - was) % 256 < 128)
theorem i8_pos (x : Int) (h0 : 0 ≤ x) (h1 : x < 256) : 0 < IntKind.i8.wrap x ↔ 0 < x ∧ x < 128 := by
  simp [IntKind.wrap, IntKind.signed, IntKind.bits]
  split <;> omega
theorem Newer_c (n was : Int) (w : World) (h1 : 0 ≤ n) (h2 : n < 256) (h3 : 0 ≤ was) (h4 : was < 256) : Calls Try.prog 13 #[.int .u8 n, .int .u8 was] w fun e w' => e = .returned (.bool (newer n was)) ∧ w = w' := by
  go_enter Try.func13, Try.ntmps13
  go_wp2
  go_ret
  refine ⟨ret_bool ?_, rfl⟩
  unfold newer
  rw [Bool.eq_iff_iff, decide_eq_true_eq, decide_eq_true_eq]
  exact i8_pos _ (by omega) (by omega)
theorem refNewer_c (n was : Int) (w : World) (h1 : 0 ≤ n) (h2 : n < 256) (h3 : 0 ≤ was) (h4 : was < 256) : Calls Try.prog 14 #[.int .u8 n, .int .u8 was] w fun e w' => e = .returned (.bool (newer n was)) ∧ w = w' := by
  obtain ⟨d, hd⟩ : ∃ d, n - was = d := ⟨_, rfl⟩
  have hd1 : -256 < d := by omega
  have hd2 : d < 256 := by omega
  unfold newer
  rw [hd]
  have hcase : (decide (1 ≤ d % 256) = false ∧ false = decide (0 < d % 256 ∧ d % 256 < 128)) ∨ (decide (1 ≤ d % 256) = true ∧ decide (d % 256 ≤ 127) = decide (0 < d % 256 ∧ d % 256 < 128)) := by
    by_cases h : 1 ≤ d % 256
    · refine .inr ⟨decide_eq_true h, ?_⟩
      rw [Bool.eq_iff_iff, decide_eq_true_eq, decide_eq_true_eq]; omega
    · exact .inl ⟨decide_eq_false h, (decide_eq_false (by omega)).symm⟩
  rcases hcase with ⟨q1, q2⟩ | ⟨q1, q2⟩
  all_goals
    have Q2 := Lib.hid q2
    clear q2
    go_enter Try.func14, Try.ntmps14
    go_wp2
    go_ret
    exact ⟨ret_bool Q2.out, rfl⟩
set_option maxHeartbeats 1000000 in
theorem Size_c (k s : Int) (v : Value) (p : List (BitVec 8)) (w : World) (hs : SliceAt w 1 v p.length (u8s p)) :
    Calls Try.prog 15 #[fv k s v] w fun e w' => e = .returned (.int .i64 (if rightF k p.length then (p.length : Int) + 5 else 0)) ∧ Below w.heap.size w w' := by
  have V := FVar.new (k := k) (s := s) hs
  have hB := below_new w (.cells #[.int .u8 k, .int .u8 s, v] 24)
  obtain ⟨A, c, rfl, _⟩ := hs.form
  clear hs
  rcases hr : rightF k p.length with _ | _
  all_goals
    have HR := Lib.hid hr
    have hl : rightF k p.length = true → p.length ≤ 59 := by unfold rightF; simp
    try have hl' : p.length ≤ 59 := hl hr
    clear hl hr
    go_enter Try.func15, Try.ntmps15
    go_wp2_with fail
    refine (Right_c k s _ p _ V.sl).mono ?_
    rintro e w1 ⟨rfl, b1⟩
    rw [HR.out]
    have x2 := (V.later b1).c2
    go_wp2
    go_ret
    refine ⟨?_, below_step hB b1⟩
    first | rfl | (congr 2; simp; omega)
set_option maxHeartbeats 1000000 in
theorem refSize_c (k s : Int) (v : Value) (p : List (BitVec 8)) (w : World) (hs : SliceAt w 1 v p.length (u8s p)) :
    Calls Try.prog 16 #[fv k s v] w fun e w' => e = .returned (.int .i64 (if rightF k p.length then (p.length : Int) + 5 else 0)) ∧ Below w.heap.size w w' := by
  have V := FVar.new (k := k) (s := s) hs
  have hB := below_new w (.cells #[.int .u8 k, .int .u8 s, v] 24)
  obtain ⟨A, c, rfl, _⟩ := hs.form
  clear hs
  rcases hr : rightF k p.length with _ | _
  all_goals
    have HR := Lib.hid hr
    have hl : rightF k p.length = true → p.length ≤ 59 := by unfold rightF; simp
    try have hl' : p.length ≤ 59 := hl hr
    clear hl hr
    go_enter Try.func16, Try.ntmps16
    go_wp2_with fail
    refine (refRight_c k s _ p _ V.sl).mono ?_
    rintro e w1 ⟨rfl, b1⟩
    rw [HR.out]
    have x2 := (V.later b1).c2
    go_wp2
    go_ret
    refine ⟨?_, below_step hB b1⟩
    first | rfl | (congr 2; simp; omega)
theorem Equal_c (v u : Value) (a b : List (BitVec 8)) (w : World) (ha : SliceAt w 1 v a.length (u8s a)) (hb : SliceAt w 1 u b.length (u8s b)) :
    Calls Try.prog 25 #[v, u] w fun e w' => e = .returned (.bool (decide (a = b))) ∧ w = w' := by
  have c1 := conv_str (P := Try.prog) (dst := 9) ha Try.underlying22 Try.underlying5 Try.underlying9
  have c2 := conv_str (P := Try.prog) (dst := 9) hb Try.underlying22 Try.underlying5 Try.underlying9
  have c3 := str_beq a b
  go_enter Try.func25, Try.ntmps25
  go_wp2
  go_ret
  exact ⟨rfl, rfl⟩
/-- frames of the same kind, number, payload -/
def sameF (k1 s1 : Int) (p1 : List (BitVec 8)) (k2 s2 : Int) (p2 : List (BitVec 8)) : Bool := (k1 == k2) && ((s1 == s2) && decide (p1 = p2))
theorem sameF_refl (k s : Int) (p : List (BitVec 8)) : sameF k s p k s p = true := by unfold sameF; simp
theorem below_two (w : World) (o o2 : Obj) : Below w.heap.size w ((w.alloc o).alloc o2) := below_step (below_new w o) (below_new _ _)
set_option maxHeartbeats 1000000 in
set_option maxRecDepth 100000 in
theorem Same_c (k1 s1 k2 s2 : Int) (v u : Value) (p1 p2 : List (BitVec 8)) (w : World) (ha : SliceAt w 1 v p1.length (u8s p1)) (hb : SliceAt w 1 u p2.length (u8s p2)) :
    Calls Try.prog 17 #[fv k1 s1 v, fv k2 s2 u] w fun e w' => e = .returned (.bool (sameF k1 s1 p1 k2 s2 p2)) ∧ Below w.heap.size w w' := by
  have hB := below_two w (.cells #[.int .u8 k1, .int .u8 s1, v] 24) (.cells #[.int .u8 k2, .int .u8 s2, u] 24)
  have ha' := ha.later hB
  have hb' := hb.later hB
  obtain ⟨Ax, c, rfl, _⟩ := ha.form
  obtain ⟨Bx, d, rfl, _⟩ := hb.form
  clear ha hb
  unfold sameF
  rcases q1 : (k1 == k2) with _ | _
  · go_enter Try.func17, Try.ntmps17
    go_wp2
    go_ret
    exact ⟨rfl, hB⟩
  · rcases q2 : (s1 == s2) with _ | _
    · go_enter Try.func17, Try.ntmps17
      go_wp2
      go_ret
      exact ⟨rfl, hB⟩
    · go_enter Try.func17, Try.ntmps17
      go_wp2_with fail
      refine (Equal_c _ _ p1 p2 _ ha' hb').mono ?_
      rintro e w' ⟨rfl, rfl⟩
      go_wp2
      go_ret
      exact ⟨rfl, hB⟩
set_option maxHeartbeats 1000000 in
set_option maxRecDepth 100000 in
theorem refSame_c (k1 s1 k2 s2 : Int) (v u : Value) (p1 p2 : List (BitVec 8)) (w : World) (ha : SliceAt w 1 v p1.length (u8s p1)) (hb : SliceAt w 1 u p2.length (u8s p2)) :
    Calls Try.prog 10 #[fv k1 s1 v, fv k2 s2 u] w fun e w' => e = .returned (.bool (sameF k1 s1 p1 k2 s2 p2)) ∧ Below w.heap.size w w' := by
  have hB := below_two w (.cells #[.int .u8 k1, .int .u8 s1, v] 24) (.cells #[.int .u8 k2, .int .u8 s2, u] 24)
  have ha' := ha.later hB
  have hb' := hb.later hB
  have c1 := conv_str (P := Try.prog) (dst := 9) ha' Try.underlying22 Try.underlying5 Try.underlying9
  have c2 := conv_str (P := Try.prog) (dst := 9) hb' Try.underlying22 Try.underlying5 Try.underlying9
  have c3 := str_beq p1 p2
  obtain ⟨Ax, c, rfl, _⟩ := ha.form
  obtain ⟨Bx, d, rfl, _⟩ := hb.form
  clear ha hb
  unfold sameF
  rcases q1 : (k1 == k2) with _ | _
  · go_enter Try.func10, Try.ntmps10
    go_wp2
    go_ret
    exact ⟨rfl, hB⟩
  · rcases q2 : (s1 == s2) with _ | _
    · go_enter Try.func10, Try.ntmps10
      go_wp2
      go_ret
      exact ⟨rfl, hB⟩
    · go_enter Try.func10, Try.ntmps10
      go_wp2
      go_ret
      exact ⟨rfl, hB⟩
set_option maxHeartbeats 1000000 in
set_option maxRecDepth 100000 in
theorem Own_c (k s : Int) (v : Value) (p : List (BitVec 8)) (w : World) (hs : SliceAt w 1 v p.length (u8s p)) (hl : p.length ≤ 140737488355328) :
    Calls Try.prog 18 #[fv k s v] w fun e w' => Below w.heap.size w w' ∧ ∃ A c, e = .returned (fv k s (.slice A p.length c)) ∧ SliceAt w' 1 (.slice A p.length c) p.length (u8s p) := by
  have hB := below_two w (.cells #[.int .u8 k, .int .u8 s, v] 24) (.cells #[.int .u8 0, .int .u8 0, .slice none 0 0] 24)
  have hs' := hs.later hB
  obtain ⟨A, c, rfl, _⟩ := hs.form
  clear hs
  go_enter Try.func18, Try.ntmps18
  go_wp2_with fail
  refine (Clone_c _ p _ hs' hl).mono ?_
  rintro e w1 ⟨v1, rfl, ho1, b1⟩
  have g1 := below_at b1 (k := w.heap.size) (o := .cells #[.int .u8 k, .int .u8 s, .slice A p.length c] 24) (old_at (new_at rfl _) _) (by simp; omega)
  have g2 := below_at b1 (k := w.heap.size + 1) (o := .cells #[.int .u8 0, .int .u8 0, .slice none 0 0] 24) (new_at (by simp) _) (by simp)
  have c10 := cell_at g1 0
  have c11 := cell_at g1 1
  have c12 := cell_at g1 2
  have f12 := free_at g1 2
  have c20 := cell_at g2 0
  have c21 := cell_at g2 1
  have c22 := cell_at g2 2
  have f20 := free_at g2 0
  have f21 := free_at g2 1
  have f22 := free_at g2 2
  obtain ⟨A1, c1, rfl, _⟩ := (sliceAt_of_own ho1).form
  go_wp2
  refine bodyPost_ret (res_frm rfl rfl (set_at (set_at (set_at (set_far g2 (by simp) _) 0 _) 1 _) 2 _)) rfl ?_
  refine ⟨?_, _, _, rfl, ?_⟩
  · exact ((((hB.trans (b1.mono hB.size)).setCell (Nat.le_refl _) _).setCell (by simp) _).setCell (by simp) _).setCell (by simp) _
  · exact sliceAt_of_own (own_set (own_set (own_set (own_set ho1 (by simp; omega) _) (by simp) _) (by simp) _) (by simp) _)
end Go.Proofs.Ytkjmbnficdilhaa
