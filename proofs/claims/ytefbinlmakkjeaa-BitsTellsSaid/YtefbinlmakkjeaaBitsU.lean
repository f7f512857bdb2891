/- Contracts of the document's bits: Pad. -/
import Derived.Test.YtefbinlmakkjeaaBitsT
namespace Go.Proofs.Ytefbinlmakkjeaa
open Go.RowKit Rf Mem Bv Bits Str
attribute [local go_sem ↓] run_max2 run_min2
/-- the variables of one of the document's calls: x in block s, the result's in block s + 1 -/
structure RV (s : Nat) (w W : World) (v : Value) (B : List (BitVec 8)) (l : List Bool) : Prop where
  x : W.heap[s]? = some (.cells #[v, .int .i64 (l.length : Int)] 24 (0, 0))
  r : W.heap[s + 1]? = some (.cells #[.slice none 0 0, .int .i64 0] 24 (0, 0))
  own : W.ownsRow (s + 2) 5 1 v B.length (u8s B)
  h : Holds B l
  b : Below s w W
  sz : s + 2 ≤ W.heap.size
  le : s ≤ w.heap.size
theorem RV.step {s : Nat} {w W W1 : World} {v : Value} {B : List (BitVec 8)} {l : List Bool} {b : Bool} {e : Ending} (h : RV s w W v B l) (hp : WithPost (s + 2) v l b W e W1) :
    ∃ A c B', e = .returned (bv (.slice A B'.length c) ((l.length : Int) + 1)) ∧ W1.heap[s]? = some (.cells #[v, .int .i64 (l.length : Int)] 24 (0, 0)) ∧
      RV s w ((W1.setCell ⟨s, 0, none⟩ (.slice A B'.length c)).setCell ⟨s, 1, none⟩ (.int .i64 ((l.length : Int) + 1))) (.slice A B'.length c) B' (l ++ [b]) := by
  obtain ⟨A, c, B', rfl, ho, hH, hk, hb⟩ := hp
  have hv : ∀ k, v.ownBlock = some k → s + 2 ≤ k := fun k hk => (own_base h.own hk).1
  have hx := hk.at_ h.x (fun e => by have := hv _ e; omega)
  have hr := hk.at_ h.r (fun e => by have := hv _ e; omega)
  have hne : ∀ k, (Value.slice A B'.length c).ownBlock = some k → s + 2 ≤ k := fun k e => (own_base ho e).1
  refine ⟨A, c, B', rfl, hx, ?_, ?_, ?_, hH, ?_, ?_, h.le⟩
  · rw [set_at (set_at hx 0 _) 1]; simp
  · exact (Below.heap_setCell _ _ _ _ (by simp)).trans ((Below.heap_setCell _ _ _ _ (by simp)).trans hr)
  · exact own_set' (own_set' ho (fun e => by have := hne _ e; simp at this; omega) _) (fun e => by have := hne _ e; simp at this; omega) _
  · exact ((below_keep h.b hk h.le (fun k hlt e => by have := hv k e; omega)).setCell (by simp) _).setCell (by simp) _
  · have := hk.size; have := h.sz; simp; omega
/-- the start, behind Own -/
theorem RV.start {w W1 : World} {v : Value} {B : List (BitVec 8)} {l : List Bool} {A : Option Addr} {c : Nat} (o1 o2 : Value)
    (b1 : Below ((w.alloc (.cells #[v, .int .i64 (l.length : Int)] 24)).alloc (.cells #[.slice none 0 0, .int .i64 0] 24)).heap.size ((w.alloc (.cells #[v, .int .i64 (l.length : Int)] 24)).alloc (.cells #[.slice none 0 0, .int .i64 0] 24)) W1)
    (ho : W1.ownsRow ((w.alloc (.cells #[v, .int .i64 (l.length : Int)] 24)).alloc (.cells #[.slice none 0 0, .int .i64 0] 24)).heap.size 5 1 (.slice A B.length c) B.length (u8s B)) (hH : Holds B l) :
    W1.heap[w.heap.size]? = some (.cells #[v, .int .i64 (l.length : Int)] 24 (0, 0)) ∧
    RV w.heap.size w ((W1.setCell ⟨w.heap.size, 0, none⟩ (.slice A B.length c)).setCell ⟨w.heap.size, 1, none⟩ (.int .i64 (l.length : Int))) (.slice A B.length c) B l := by
  have hx := below_at b1 (k := w.heap.size) (o := .cells #[v, .int .i64 (l.length : Int)] 24) (old_at (new_at rfl _) _) (by simp; omega)
  have hr := below_at b1 (k := w.heap.size + 1) (o := .cells #[.slice none 0 0, .int .i64 0] 24) (new_at (by simp) _) (by simp)
  have hne : ∀ k, (Value.slice A B.length c).ownBlock = some k → w.heap.size + 2 ≤ k := fun k e => by have := (own_base ho e).1; simpa using this
  have ho' : W1.ownsRow (w.heap.size + 2) 5 1 (.slice A B.length c) B.length (u8s B) := by simpa using ho
  refine ⟨hx, ?_, ?_, ?_, hH, ?_, ?_, Nat.le_refl _⟩
  · rw [set_at (set_at hx 0 _) 1]; simp
  · exact (Below.heap_setCell _ _ _ _ (by simp)).trans ((Below.heap_setCell _ _ _ _ (by simp)).trans hr)
  · exact own_set' (own_set' ho' (fun e => by have := hne _ e; simp at this; omega) _) (fun e => by have := hne _ e; simp at this; omega) _
  · exact ((below_step (below_step (below_new w _) (below_new _ _)) b1).setCell (by simp) _).setCell (by simp) _
  · have := b1.size; simp at this ⊢; omega
/-- the end: the result stored -/
theorem RV.done {s : Nat} {w W : World} {v : Value} {B : List (BitVec 8)} {l : List Bool} (h : RV s w W v B l) (m : Value) :
    ∃ A c, v = .slice A B.length c ∧ Below s w ((W.setCell ⟨s + 1, 0, none⟩ v).setCell ⟨s + 1, 1, none⟩ m) ∧ SliceAt ((W.setCell ⟨s + 1, 0, none⟩ v).setCell ⟨s + 1, 1, none⟩ m) 1 v B.length (u8s B) := by
  have hne : ∀ k, v.ownBlock = some k → s + 2 ≤ k := fun k e => (own_base h.own e).1
  obtain ⟨A, c, e, _⟩ := (sliceAt_of_own h.own).form
  exact ⟨A, c, e, (h.b.setCell (by simp) _).setCell (by simp) _, sliceAt_of_own (own_set' (own_set' h.own (fun e => by have := hne _ e; simp at this) _) (fun e => by have := hne _ e; simp at this) _)⟩
end Go.Proofs.Ytefbinlmakkjeaa
