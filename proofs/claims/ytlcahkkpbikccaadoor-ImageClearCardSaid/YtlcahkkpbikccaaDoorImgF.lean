/- Images: the contract of rows. Nothing that was there is turned. -/
import Derived.Test.YtlcahkkpbikccaaDoorImgE
import Derived.ChangeKeysEq
import Derived.Laws.IdiomCopy
namespace Go.Proofs.YtlcahkkpbikccaaDoor
open Go.RowKit Rf Mem
attribute [local go_sem ↓] run_max2 run_min2
/-- cells of a row, set one by one -/
def setL (cs : Array Value) : Nat → List Value → Array Value
  | _, [] => cs
  | o, v :: r => setL (cs.setIfInBounds o v) (o + 1) r
theorem setL_size : ∀ (vs : List Value) (cs : Array Value) (o : Nat), (setL cs o vs).size = cs.size
  | [], _, _ => rfl
  | v :: r, cs, o => by rw [setL, setL_size r]; simp
theorem setL_list : ∀ (vs : List Value) (cs : Array Value) (o : Nat), o + vs.length ≤ cs.size → (setL cs o vs).toList = cs.toList.take o ++ vs ++ cs.toList.drop (o + vs.length)
  | [], cs, o, _ => by simp [setL]
  | v :: r, cs, o, h => by
    simp only [List.length_cons] at h
    rw [setL, setL_list r _ _ (by simp; omega), Array.toList_setIfInBounds]
    have h1 : (cs.toList.set o v).take (o + 1) = cs.toList.take o ++ [v] := by
      rw [List.take_add_one, List.take_set_of_le (Nat.le_refl _), List.getElem?_set_self (by simp; omega)]; rfl
    rw [h1, List.drop_set_of_lt (by omega)]
    simp [Nat.add_assoc, Nat.add_comm 1]
theorem setCells_at {g : Nat} {t : TypeId} {f : Nat × Nat} : ∀ (vs : List Value) (o : Nat) {w : World} {cs : Array Value}, w.heap[g]? = some (.cells cs t f) → (w.setCells g o vs).heap[g]? = some (.cells (setL cs o vs) t f)
  | [], _, _, _, h => h
  | v :: r, o, w, cs, h => by rw [World.setCells, setL]; exact setCells_at r (o + 1) (set_at h o v)
theorem below_setCells {B g : Nat} {a : World} (hB : B ≤ g) : ∀ (vs : List Value) (o : Nat) {w : World}, Below B a w → Below B a (w.setCells g o vs)
  | [], _, _, h => h
  | v :: r, o, w, h => by rw [World.setCells]; exact below_setCells hB r (o + 1) (h.setCell hB v)
theorem setL_all {cs : Array Value} {vs : List Value} (h : vs.length = cs.size) : setL cs 0 vs = vs.toArray := by
  apply Array.ext'
  rw [setL_list _ _ _ (by omega)]
  simp [List.drop_of_length_le (show cs.toList.length ≤ 0 + vs.length by simp; omega)]
  omega
theorem there_of {W : World} {g : Nat} {cs : Array Value} {t : TypeId} (h : W.heap[g]? = some (.cells cs t (0, 0))) (o n : Nat) (hn : o + n ≤ cs.size) : W.there g o n := fun j hj =>
  ⟨by rw [cell_at h, Array.getElem?_eq_getElem (by omega)]; rfl, free_at h _⟩
theorem info_int : (Tryd.prog.info? 3).map (fun i => (i.zero, i.size, i.bytes)) = some (some (.int .i64 0), 1, 8) := by kernel_rfl
theorem part_int (cs : List Int) (i : Nat) (h : i < cs.length) (w : World) : (part 3 (ints .i64 cs).toArray (i * 1)).run Tryd.prog w = .ok (.int .i64 (cs.getD i 0)) w := by
  have hx : (ints .i64 cs).toArray[i]? = some (.int .i64 (cs.getD i 0)) := by simp [ints, List.getD, List.getElem?_eq_getElem h]
  rw [Nat.mul_one]
  simp [part, go_sem, hx]
theorem eqItems_ints (d : Nat) (xs ys : List Int) (w : World) : ∀ is : List Nat, (∀ i ∈ is, i < xs.length ∧ i < ys.length) → (Op.eqItems (d + 1) 3 1 (ints .i64 xs).toArray (ints .i64 ys).toArray is).run Tryd.prog w = .ok (is.all fun i => xs.getD i 0 == ys.getD i 0) w
  | [], _ => by simp [Op.eqItems]
  | i :: is, h => by
    have ih := eqItems_ints d xs ys w is (fun j hj => h j (by simp [hj]))
    have hi := h i (by simp)
    simp only [Op.eqItems, Sem.run_bind, part_int xs i hi.1 w, part_int ys i hi.2 w, Result.andThen_ok, run_equalIn_int (P := Tryd.prog) w d 3 .i64 .i64 (xs.getD i 0) (ys.getD i 0) Tryd.underlying3]
    rw [List.all_cons]
    rcases xs.getD i 0 == ys.getD i 0 with _ | _
    · rfl
    · rw [Bool.true_and, ← ih]; rfl
theorem eq24 (xs ys : List Int) (w : World) (hx : xs.length = 24) (hy : ys.length = 24) : (Op.equalIn 10000 34 (.agg (ints .i64 xs).toArray) (.agg (ints .i64 ys).toArray)).run Tryd.prog w = .ok (decide (xs = ys)) w := by
  obtain ⟨i0, hi, _, _, _⟩ := info_parts info_int
  rw [run_equalIn_array (P := Tryd.prog) w 9999 (ints .i64 xs).toArray (ints .i64 ys).toArray Tryd.underlying34 hi, show Tryd.prog.cellsOf 3 = 1 by kernel_rfl, eqItems_ints 9998 xs ys w _ (fun i h => by simp at h; omega)]
  congr 1
  rw [Bool.eq_iff_iff, decide_eq_true_eq, List.all_eq_true]
  constructor
  · intro h
    apply List.ext_getElem (by omega)
    intro i h1 h2
    have := h i (by simp; omega)
    simpa [List.getD, List.getElem?_eq_getElem h1, List.getElem?_eq_getElem h2] using this
  · rintro rfl i _; simp
/-- the rows behind a tick -/
def rowL (occ : BitVec 32) (stale : Bool) (free : List Int) (k : Nat) : List Int := (List.range k).map fun i : Nat => rowV (!stale && !bitV occ i) (free.getD i 0)
theorem rowL_len (occ : BitVec 32) (stale : Bool) (free : List Int) (k : Nat) : (rowL occ stale free k).length = k := by simp [rowL]
theorem rowL_succ (occ : BitVec 32) (stale : Bool) (free : List Int) (k : Nat) : rowL occ stale free (k + 1) = rowL occ stale free k ++ [rowV (!stale && !bitV occ k) (free.getD k 0)] := by simp [rowL, List.range_succ]
/-- an image with other rows -/
def withFree (M : List Value) (f : List Int) : List Value := M.take 1 ++ (ints .i64 f ++ M.drop 25)
/-- block g is a row of 24 numbers, of which the first ones are known -/
structure Fr24 (W : World) (g : Nat) (ys : List Int) : Prop where
  ex : ∃ cur : Array Value, W.heap[g]? = some (.cells cur 34 (0, 0)) ∧ cur.size = 24 ∧ cur.toList.take ys.length = ints .i64 ys
theorem Fr24.later {W W' : World} {g : Nat} {ys : List Int} (h : Fr24 W g ys) (hb : Below W.heap.size W W') : Fr24 W' g ys := by
  obtain ⟨cur, h1, h2⟩ := h.ex
  exact ⟨cur, below_at hb h1 (Array.getElem?_eq_some_iff.1 h1).1, h2⟩
theorem Fr24.next {W : World} {g : Nat} {ys : List Int} (h : Fr24 W g ys) (hl : ys.length < 24) (z : Int) : Fr24 (W.setCell ⟨g, ys.length, none⟩ (.int .i64 z)) g (ys ++ [z]) := by
  obtain ⟨cur, h1, h2, h3⟩ := h.ex
  refine ⟨_, set_at h1 _ _, by simpa using h2, ?_⟩
  rw [Array.toList_setIfInBounds, List.length_append, List.length_singleton, List.take_add_one, List.take_set_of_le (Nat.le_refl _), h3, List.getElem?_set_self (by simp; omega)]
  simp [ints]
theorem Fr24.cell {W : World} {g : Nat} {ys : List Int} (h : Fr24 W g ys) (k : Nat) (hk : k < 24) : ∃ v, W.cell? ⟨g, k, none⟩ = some v ∧ W.frozen? ⟨g, k, none⟩ = false := by
  obtain ⟨cur, h1, h2, _⟩ := h.ex
  exact ⟨_, by rw [cell_at h1]; exact Array.getElem?_eq_getElem (by omega), free_at h1 _⟩
theorem Two.set {w W : World} {L M : List Value} (h : Two w W L M) {g : Nat} (hg : w.heap.size + 2 ≤ g) (o : Nat) (v : Value) : Two w (W.setCell ⟨g, o, none⟩ v) L M :=
  ⟨set_far h.l (by simp; omega) _, set_far h.m (by simp; omega) _, h.below.setCell (by simp; omega) _⟩
theorem Clo.set {W : World} {g7 g8 gb g : Nat} {s : Bool} {x : BitVec 32} (h : Clo W g7 g8 gb s x) {cs : Array Value} {f : Nat × Nat} (hg : W.heap[g]? = some (.cells cs 34 f)) (o : Nat) (v : Value) : Clo (W.setCell ⟨g, o, none⟩ v) g7 g8 gb s x :=
  ⟨set_far h.a7 (ne_type h.a7 hg (by decide)) _, set_far h.a8 (ne_type h.a8 hg (by decide)) _, set_far h.b6 (ne_type h.b6 hg (by decide)) _⟩
end Go.Proofs.YtlcahkkpbikccaaDoor
