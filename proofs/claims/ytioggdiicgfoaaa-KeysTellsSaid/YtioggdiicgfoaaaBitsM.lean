/- Words for laws on bits: bits in a variable; the contracts at any spelling of the number. -/
import Derived.Test.YtioggdiicgfoaaaBitsL
namespace Go.Proofs.Ytioggdiicgfoaaa
open Go.RowKit Rf Mem Bv Bits Str
attribute [local go_sem ↓] run_max2 run_min2
/-- block g holds bits: bytes B, number N -/
structure Var (W : World) (g : Nat) (v : Value) (B : List (BitVec 8)) (N : Int) : Prop where
  at_ : W.heap[g]? = some (.cells #[v, .int .i64 N] 62 (0, 0))
  sl : SliceAt W 1 v B.length (u8s B)
theorem Var.later {W W' : World} {g : Nat} {v : Value} {B : List (BitVec 8)} {N : Int} (h : Var W g v B N) (hb : Below W.heap.size W W') : Var W' g v B N :=
  ⟨below_at hb h.at_ (Array.getElem?_eq_some_iff.1 h.at_).1, h.sl.later hb⟩
theorem Var.c0 {W : World} {g : Nat} {v : Value} {B : List (BitVec 8)} {N : Int} (h : Var W g v B N) : W.cell? ⟨g, 0, none⟩ = some v := by rw [cell_at h.at_]; rfl
theorem Var.c1 {W : World} {g : Nat} {v : Value} {B : List (BitVec 8)} {N : Int} (h : Var W g v B N) : W.cell? ⟨g, 1, none⟩ = some (.int .i64 N) := by rw [cell_at h.at_]; rfl
theorem below_new (W : World) (o : Obj) : Below W.heap.size W (W.alloc o) := (Below.refl _ W).alloc (Nat.le_refl _) _
theorem Var.new {W : World} {v : Value} {B : List (BitVec 8)} {N : Int} (h : SliceAt W 1 v B.length (u8s B)) : Var (W.alloc (.cells #[v, .int .i64 N] 62)) W.heap.size v B N :=
  ⟨new_at rfl _, h.later (below_new _ _)⟩
theorem Put_g (v : Value) (B : List (BitVec 8)) (l : List Bool) (n wd : Nat) (N N' n' wd' : Int) (w : World) (hN : N = l.length) (hN' : N' = ((l.length + wd : Nat) : Int)) (hn' : n' = n) (hwd' : wd' = wd) (hs : SliceAt w 1 v B.length (u8s B)) (hH : Holds B l) (hl : l.length ≤ 999000) (hw : wd ≤ 32) (hn : n < 2 ^ wd) :
    Calls Try.prog 33 #[bv v N, .int .i64 n', .int .i64 wd'] w fun e w' => Below w.heap.size w w' ∧
      ∃ A c B', e = .returned (.tuple #[bv (.slice A (B' : List (BitVec 8)).length c) N', .int .i64 0]) ∧ SliceAt w' 1 (.slice A B'.length c) B'.length (u8s B') ∧ Holds B' (l ++ numBits n wd) := by
  subst hN hN' hn' hwd'
  refine (Put_good v B l n wd w hs hH hl hw hn).mono ?_
  rintro e w' ⟨b, v', B', rfl, ho, hH'⟩
  have hs' := sliceAt_of_own ho
  obtain ⟨A, c, rfl, _⟩ := hs'.form
  exact ⟨b, A, c, B', rfl, hs', hH'⟩
theorem Flags_g (v : Value) (B : List (BitVec 8)) (l : List Bool) (u : Value) (fl : List Bool) (N N' : Int) (w : World) (hN : N = l.length) (hN' : N' = ((l.length + fl.length : Nat) : Int)) (hs : SliceAt w 1 v B.length (u8s B)) (hu : SliceAt w 1 u fl.length (bools fl)) (hH : Holds B l) (hl : l.length ≤ 900000) (hfl : fl.length ≤ 1000) :
    Calls Try.prog 32 #[bv v N, u] w fun e w' => Below w.heap.size w w' ∧
      ∃ A c B', e = .returned (.tuple #[bv (.slice A (B' : List (BitVec 8)).length c) N', .int .i64 0]) ∧ SliceAt w' 1 (.slice A B'.length c) B'.length (u8s B') ∧ Holds B' (l ++ fl) := by
  subst hN hN'
  refine (Flags_good v B l u fl w hs hu hH hl hfl).mono ?_
  rintro e w' ⟨b, v', B', rfl, ho, hH'⟩
  have hs' := sliceAt_of_own ho
  obtain ⟨A, c, rfl, _⟩ := hs'.form
  exact ⟨b, A, c, B', rfl, hs', hH'⟩
theorem Pad_g (v : Value) (B : List (BitVec 8)) (l : List Bool) (N N' : Int) (w : World) (hN : N = l.length) (hN' : N' = (B.length : Int) * 8) (hs : SliceAt w 1 v B.length (u8s B)) (hH : Holds B l) (hl : l.length ≤ 900000) :
    Calls Try.prog 34 #[bv v N] w fun e w' => Below w.heap.size w w' ∧
      ∃ A c, e = .returned (.tuple #[bv (.slice A B.length c) N', .int .i64 0]) ∧ SliceAt w' 1 (.slice A B.length c) B.length (u8s B) := by
  subst hN hN'
  refine (Pad_good v B l w hs hH hl).mono ?_
  rintro e w' ⟨b, v', rfl, ho⟩
  have hs' := sliceAt_of_own ho
  obtain ⟨A, c, rfl, _⟩ := hs'.form
  exact ⟨b, A, c, rfl, hs'⟩
theorem Take_g (v : Value) (B : List (BitVec 8)) (l : List Bool) (at_ wd : Nat) (N at' wd' r : Int) (w : World) (hN : N = l.length) (ha : at' = at_) (hwd : wd' = wd) (hr : r = num ((l.drop at_).take wd)) (hs : SliceAt w 1 v B.length (u8s B)) (hH : Holds B l) (hl : l.length ≤ 1000000) (h2 : wd ≤ 32) (h4 : at_ + wd ≤ l.length) :
    Calls Try.prog 21 #[bv v N, .int .i64 at', .int .i64 wd'] w fun e w' => Below w.heap.size w w' ∧ e = .returned (.tuple #[.int .i64 r, .int .i64 0]) := by
  subst hN ha hwd hr
  exact Take_good v B l at_ wd w hs hH hl h2 h4
theorem Own_g (v : Value) (B : List (BitVec 8)) (N : Int) (w : World) (hs : SliceAt w 1 v B.length (u8s B)) (hl : B.length ≤ 140737488355328) :
    Calls Try.prog 52 #[bv v N] w fun e w' => Below w.heap.size w w' ∧ ∃ A c, e = .returned (bv (.slice A B.length c) N) ∧ SliceAt w' 1 (.slice A B.length c) B.length (u8s B) := by
  refine (Own_c v B N w hs hl).mono ?_
  rintro e w' ⟨v', rfl, ho, b⟩
  have hs' := sliceAt_of_own ho
  obtain ⟨A, c, rfl, _⟩ := hs'.form
  exact ⟨b, A, c, rfl, hs'⟩
theorem Of_g (v : Value) (B : List (BitVec 8)) (N : Int) (w : World) (hN : N = (B.length : Int) * 8) (hs : SliceAt w 1 v B.length (u8s B)) (hl : B.length ≤ 140737488355328) :
    Calls Try.prog 19 #[v] w fun e w' => Below w.heap.size w w' ∧ ∃ A c, e = .returned (bv (.slice A B.length c) N) ∧ SliceAt w' 1 (.slice A B.length c) B.length (u8s B) := by
  subst hN
  refine (Of_c v B w hs hl).mono ?_
  rintro e w' ⟨v', rfl, ho, b⟩
  have hs' := sliceAt_of_own ho
  obtain ⟨A, c, rfl, _⟩ := hs'.form
  exact ⟨b, A, c, rfl, hs'⟩
theorem Right_g (v : Value) (B : List (BitVec 8)) (N : Int) (r : Bool) (w : World) (hr : r = right B N) (hs : SliceAt w 1 v B.length (u8s B)) (hN1 : -9223372036854775808 ≤ N) (hN2 : N ≤ 9223372036854775807) :
    Calls Try.prog 41 #[bv v N] w fun e w' => e = .returned (.bool r) ∧ Below w.heap.size w w' := by subst hr; exact Right_c v B N w hs hN1 hN2
theorem refRight_g (v : Value) (B : List (BitVec 8)) (N : Int) (r : Bool) (w : World) (hr : r = right B N) (hs : SliceAt w 1 v B.length (u8s B)) (hN1 : -9223372036854775808 ≤ N) (hN2 : N ≤ 9223372036854775807) :
    Calls Try.prog 42 #[bv v N] w fun e w' => e = .returned (.bool r) ∧ Below w.heap.size w w' := by subst hr; exact refRight_c v B N w hs hN1 hN2
theorem same_yes {A B : List (BitVec 8)} {l : List Bool} {M N : Int} (ha : Holds A l) (hb : Holds B l) (h : M = N) : true = sameV A B M N := by
  unfold sameV; rw [holds_unique ha hb, h]; simp
theorem same_no {A B : List (BitVec 8)} {M N : Int} (h : M ≠ N) : false = sameV A B M N := by
  unfold sameV; rw [beq_eq_false_iff_ne.2 h]; rfl
theorem right_yes {B : List (BitVec 8)} {l : List Bool} {N : Int} (h : Holds B l) (hN : N = l.length) : true = right B N := ((right_iff B N).2 ⟨l, hN, h⟩).symm
end Go.Proofs.Ytioggdiicgfoaaa
