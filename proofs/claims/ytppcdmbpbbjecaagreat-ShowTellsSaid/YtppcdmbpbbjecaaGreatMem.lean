/- Words for memory: a slice that reads as a list of cells, an interval of cells, and what keeps them. No condition. -/
import Derived.Test.YtppcdmbpbbjecaaGreatRf
import Derived.ProofKit
import Derived.OpenShut
import Derived.Deep.Slices
import Derived.Lib.Hide
import Derived.Maps.AppendAt
import Derived.OwnWalkIn
import Derived.Deep.OwnRows
namespace Go.Proofs.YtppcdmbpbbjecaaGreat.Mem
open Go.RowKit Rf Go.ChangeShapes Go.WideShapes

/-- The slice value v has n elements of sz cells each: the cells cs, in order, of a block below B. -/
def SliceAt (w : World) (sz : Nat) (v : Value) (n : Nat) (cs : List Value) : Prop :=
  ∃ A c, v = .slice A n c ∧ n ≤ c ∧ c ≤ maxLen ∧ cs.length = n * sz ∧
    (n = 0 ∨ ∃ b off, A = some ⟨b, off, none⟩ ∧ b < w.heap.size ∧ ∀ i u, cs[i]? = some u → w.cell? ⟨b, off + i, none⟩ = some u)

theorem SliceAt.later {w w' : World} {sz : Nat} {v : Value} {n : Nat} {cs : List Value} (h : SliceAt w sz v n cs) (hb : Below w.heap.size w w') : SliceAt w' sz v n cs := by
  obtain ⟨A, c, rfl, h1, h2, h3, h4⟩ := h
  refine ⟨A, c, rfl, h1, h2, h3, ?_⟩
  rcases h4 with h4 | ⟨b, off, rfl, hlt, hc⟩
  · exact .inl h4
  · exact .inr ⟨b, off, rfl, Nat.lt_of_lt_of_le hlt hb.size, fun i u hu => (hb.cell (p := ⟨b, off + i, none⟩) hlt).trans (hc i u hu)⟩

theorem SliceAt.below {B : Nat} {w w' : World} {sz : Nat} {v : Value} {n : Nat} {cs : List Value} (h : SliceAt w sz v n cs) (hb : Below B w w') (hB : w.heap.size ≤ B) : SliceAt w' sz v n cs := h.later (hb.mono hB)

theorem SliceAt.nil_ (w : World) (sz : Nat) : SliceAt w sz (.slice none 0 0) 0 [] := ⟨none, 0, rfl, Nat.le_refl _, by simp [maxLen], by simp, .inl rfl⟩

theorem SliceAt.len {w : World} {sz : Nat} {v : Value} {n : Nat} {cs : List Value} (h : SliceAt w sz v n cs) : cs.length = n * sz := by obtain ⟨_, _, _, _, _, h, _⟩ := h; exact h

theorem SliceAt.pos {w : World} {sz n : Nat} {v : Value} {cs : List Value} (h : SliceAt w sz v n cs) (hn : 0 < n) :
    ∃ b off c, v = .slice (some ⟨b, off, none⟩) n c ∧ n ≤ c ∧ c ≤ maxLen ∧ b < w.heap.size ∧ ∀ i u, cs[i]? = some u → w.cell? ⟨b, off + i, none⟩ = some u := by
  obtain ⟨A, c, rfl, h1, h2, _, h4⟩ := h
  rcases h4 with h4 | ⟨b, off, rfl, hlt, hc⟩
  · omega
  · exact ⟨b, off, c, rfl, h1, h2, hlt, hc⟩
theorem SliceAt.form {w : World} {sz n : Nat} {v : Value} {cs : List Value} (h : SliceAt w sz v n cs) : ∃ A c, v = .slice A n c ∧ n ≤ c ∧ c ≤ 9223372036854775807 := by
  obtain ⟨A, c, rfl, h1, h2, _⟩ := h
  exact ⟨A, c, rfl, h1, by simp [maxLen] at h2; omega⟩
theorem below_step {w a b : World} (h : Below w.heap.size w a) (k : Below a.heap.size a b) : Below w.heap.size w b := h.trans (k.mono h.size)
theorem sliceAt_blk {w : World} {g : Nat} {e : TypeId} {f : Nat × Nat} {cs : List Value} {n : Nat} (h : w.heap[g]? = some (.cells cs.toArray e f)) (hn : cs.length = n) (hm : n ≤ maxLen) : SliceAt w 1 (.slice (some ⟨g, 0, none⟩) n n) n cs :=
  ⟨_, _, rfl, Nat.le_refl _, hm, by omega, .inr ⟨g, 0, rfl, (Array.getElem?_eq_some_iff.1 h).1, fun i u hu => by rw [cell_at h]; simpa using hu⟩⟩

/-- The first k elements of a slice that reads. -/
theorem SliceAt.take {w : World} {sz n c k : Nat} {A : Option Addr} {cs : List Value} (h : SliceAt w sz (.slice A n c) n cs) (hk : k ≤ n) : SliceAt w sz (.slice A k c) k (cs.take (k * sz)) := by
  obtain ⟨A', c', hv, h1, h2, h3, h4⟩ := h
  obtain ⟨rfl, _, rfl⟩ := Value.slice.inj hv
  refine ⟨A, c, rfl, by omega, h2, by rw [List.length_take, h3, Nat.min_eq_left]; exact Nat.mul_le_mul_right sz hk, ?_⟩
  rcases h4 with h4 | ⟨b, off, rfl, hlt, hc⟩
  · left; omega
  · exact .inr ⟨b, off, rfl, hlt, fun i u hu => hc i u (by rw [List.getElem?_take] at hu; split at hu <;> first | exact hu | cases hu)⟩

/-- A part of a slice that reads, as the model slices it. -/
theorem SliceAt.sub {w : World} {sz n c lo hi : Nat} {A : Option Addr} {cs : List Value} (h : SliceAt w sz (.slice A n c) n cs) (h1 : lo ≤ hi) (h2 : hi ≤ n) :
    SliceAt w sz (.slice (if c = lo then A else A.map (·.add (lo * sz))) (hi - lo) (c - lo)) (hi - lo) ((cs.drop (lo * sz)).take ((hi - lo) * sz)) := by
  obtain ⟨A', c', hv, q1, q2, q3, q4⟩ := h
  obtain ⟨rfl, _, rfl⟩ := Value.slice.inj hv
  have hmul : (hi - lo) * sz + lo * sz ≤ n * sz := by rw [← Nat.add_mul]; exact Nat.mul_le_mul_right sz (by omega)
  refine ⟨_, _, rfl, by omega, by omega, by rw [List.length_take, List.length_drop, q3]; omega, ?_⟩
  by_cases hz : hi - lo = 0
  · exact .inl hz
  right
  rcases q4 with q4 | ⟨b, off, rfl, hlt, hc⟩
  · omega
  refine ⟨b, off + lo * sz, ?_, hlt, fun i u hu => ?_⟩
  · rw [if_neg (by omega)]
    simp only [Option.map_some, Addr.add]
    split
    · rename_i h0; rw [h0, Nat.add_zero]
    · rfl
  · rw [List.getElem?_take] at hu
    split at hu
    · rw [List.getElem?_drop] at hu
      rw [Nat.add_assoc]; exact hc _ u hu
    · cases hu

/-- Integers of a kind, as cells. -/
abbrev ints (k : IntKind) (zs : List Int) : List Value := zs.map (Value.int k)
abbrev bools (l : List Bool) : List Value := l.map Value.bool

theorem flatMap_len {α : Type} {f : α → List Value} {sz : Nat} : ∀ {as : List α}, (∀ a ∈ as, (f a).length = sz) → (as.flatMap f).length = as.length * sz
  | [], _ => by simp
  | a :: as, h => by
    rw [List.flatMap_cons, List.length_append, h a (by simp), flatMap_len (fun b hb => h b (by simp [hb])), List.length_cons, Nat.succ_mul]; omega

theorem flatMap_get {α : Type} {f : α → List Value} {sz : Nat} : ∀ {as : List α} (_ : ∀ a ∈ as, (f a).length = sz) (q r : Nat), r < sz → (as.flatMap f)[q * sz + r]? = (as[q]?).bind fun a => (f a)[r]?
  | [], _, q, r, _ => by simp
  | a :: as, h, 0, r, hr => by
    rw [List.flatMap_cons, Nat.zero_mul, Nat.zero_add, List.getElem?_append_left (by rw [h a (by simp)]; exact hr)]
    simp
  | a :: as, h, q + 1, r, hr => by
    rw [List.flatMap_cons, List.getElem?_append_right (by rw [h a (by simp), Nat.succ_mul]; omega), h a (by simp)]
    rw [show (q + 1) * sz + r - sz = q * sz + r by rw [Nat.succ_mul]; omega, flatMap_get (fun b hb => h b (by simp [hb])) q r hr]
    simp

theorem choose_list {α : Type} {Q : Nat → α → Prop} : ∀ (n : Nat), (∀ i, i < n → ∃ a, Q i a) → ∃ as : List α, as.length = n ∧ ∀ i a, as[i]? = some a → Q i a
  | 0, _ => ⟨[], rfl, by simp⟩
  | n + 1, h => by
    obtain ⟨as, hl, hq⟩ := choose_list n (fun i hi => h i (by omega))
    obtain ⟨a, ha⟩ := h n (by omega)
    refine ⟨as ++ [a], by simp [hl], fun i b hb => ?_⟩
    by_cases hi : i < n
    · rw [List.getElem?_append_left (by omega)] at hb; exact hq i b hb
    · rw [List.getElem?_append_right (by omega)] at hb
      have : i = n := by
        rcases Nat.lt_or_ge (i - as.length) 1 with h1 | h1
        · omega
        · rw [List.getElem?_eq_none (by simpa using h1)] at hb; cases hb
      subst this
      simp [hl] at hb
      subst hb; exact ha

theorem lt_of_cell {w : World} {p : Addr} {u : Value} (h : w.cell? p = some u) : p.block < w.heap.size := by
  unfold World.cell? at h
  cases ho : w.heap[p.block]? with
  | none => simp [ho] at h
  | some o => exact (Array.getElem?_eq_some_iff.1 ho).1

/-- A slice that came in: its elements, each as its type's reading says. -/
theorem open_arg {H : Type} {enc : TypeId × Value → H} {P : Program} {w : World} {base t e sz : Nat} {v : Value} {d : DataW H} {p : List MemPlace} {α : Type} (f : α → List Value) (ok : α → Prop)
    (hf : ∀ a, (f a).length = sz) (hsz : 0 < sz) (ht : P.underlying t = some (.slice e)) (hce : P.cellsOf e = sz)
    (he : ∀ (m : Nat) (cs : List Value) (x : DataW H × List MemPlace), cs.length = sz → DataW.trod enc P w 0 (fun _ => true) true m e cs = some x → ∃ a, ok a ∧ cs = f a)
    (hv : Value.okWide P w .any base t v) (h : DataW.Trod enc P w 0 (fun _ => true) true t v d p) : ∃ as : List α, SliceAt w sz v as.length (as.flatMap f) ∧ ∀ a ∈ as, ok a := by
  obtain ⟨A, len, cap, rfl⟩ := okWide_slice ht hv
  obtain ⟨fuel, hfu⟩ := h
  rcases Go.Deep.open_slice ht hfu with ⟨hcs, _⟩ | ⟨x, l, c, m, n, D, Pl, hcs, _, hl, hm, hmm, hx, hel⟩
  · simp [Value.cells] at hcs
    obtain ⟨rfl, rfl, rfl⟩ := hcs
    exact ⟨[], .nil_ _ _, by simp⟩
  · simp [Value.cells] at hcs
    obtain ⟨rfl, rfl, rfl⟩ := hcs
    simp only [if_true] at hmm
    subst hmm
    rw [hce] at hel
    obtain ⟨as, hal, hq⟩ := choose_list (Q := fun i a => ok a ∧ ∀ j u, (f a)[j]? = some u → w.cell? (x.add (i * sz + j)) = some u) len (fun i hi => by
      obtain ⟨cs', hc', ht'⟩ := hel i (by omega)
      obtain ⟨_, hcl, hat⟩ := World.cells?_some hc'
      obtain ⟨a, hok, rfl⟩ := he _ _ _ hcl ht'
      refine ⟨a, hok, fun j u hu => ?_⟩
      have hj : j < sz := by rw [← hcl]; exact (List.getElem?_eq_some_iff.1 hu).1
      rw [← Go.Deep.add_add, hat j hj, hu])
    have hok : ∀ a ∈ as, ok a := fun a ha => by obtain ⟨i, hi⟩ := List.getElem?_of_mem ha; exact (hq i a hi).1
    refine ⟨as, ⟨some x, m, by rw [hal], by omega, hm, flatMap_len (fun a _ => hf a), ?_⟩, hok⟩
    rcases Nat.eq_zero_or_pos len with h0 | h0
    · left; omega
    · right
      obtain ⟨b, off, spot⟩ := x
      have hcell : ∀ i u, (as.flatMap f)[i]? = some u → w.cell? ((⟨b, off, spot⟩ : Addr).add i) = some u := fun i u hu => by
        have hd : i / sz * sz + i % sz = i := by rw [Nat.mul_comm]; exact Nat.div_add_mod i sz
        rw [← hd, flatMap_get (fun a _ => hf a) _ _ (Nat.mod_lt _ hsz)] at hu
        simp only [Option.bind_eq_some_iff] at hu
        obtain ⟨a, ha, hu⟩ := hu
        have := (hq _ a ha).2 _ u hu
        rwa [hd] at this
      have hlen : 0 < (as.flatMap f).length := by rw [flatMap_len (fun a _ => hf a), hal]; exact Nat.mul_pos h0 hsz
      have hc := hcell 0 _ (List.getElem?_eq_getElem hlen)
      have hspot : spot = none := by simpa [Addr.add] using World.cell?_spot hc
      subst hspot
      refine ⟨b, off, rfl, lt_of_cell (p := ⟨b, off, none⟩) (by simpa [Addr.add] using hc), fun i u hu => ?_⟩
      have := hcell i u hu
      have e : (Addr.add ⟨b, off, none⟩ i) = ⟨b, off + i, none⟩ := by
        unfold Addr.add; split
        · rename_i h; subst h; rfl
        · rfl
      rwa [e] at this

theorem flatMap_one {α : Type} {g : α → Value} (as : List α) : as.flatMap (fun a => [g a]) = as.map g := by
  induction as with
  | nil => rfl
  | cons a as ih => rw [List.flatMap_cons, ih]; rfl

theorem one_cell {cs : List Value} (h : cs.length = 1) : ∃ c, cs = [c] := by
  match cs, h with
  | [c], _ => exact ⟨c, rfl⟩

/-- A slice of integers that came in. -/
theorem open_ints_arg {H : Type} {enc : TypeId × Value → H} {P : Program} {w : World} {base t e : Nat} {k : IntKind} {v : Value} {d : DataW H} {p : List MemPlace}
    (ht : P.underlying t = some (.slice e)) (he : P.underlying e = some (.int k)) (hce : P.cellsOf e = 1) (hv : Value.okWide P w .any base t v) (h : DataW.Trod enc P w 0 (fun _ => true) true t v d p) :
    ∃ zs : List Int, SliceAt w 1 v zs.length (ints k zs) ∧ ∀ n ∈ zs, (Lit.int k n).wf = true := by
  obtain ⟨as, h1, h2⟩ := open_arg (sz := 1) (fun n : Int => [Value.int k n]) (fun n => (Lit.int k n).wf = true) (fun _ => rfl) (by omega) ht hce
    (fun m cs x hl ht' => by obtain ⟨n, rfl, _, hw⟩ := DataW.trod_int he ht'; exact ⟨n, hw, rfl⟩) hv h
  exact ⟨as, by rw [flatMap_one] at h1; exact h1, h2⟩

/-- A slice of bools that came in. -/
theorem open_bools_arg {H : Type} {enc : TypeId × Value → H} {P : Program} {w : World} {base t e : Nat} {v : Value} {d : DataW H} {p : List MemPlace}
    (ht : P.underlying t = some (.slice e)) (he : P.underlying e = some .bool) (hce : P.cellsOf e = 1) (hv : Value.okWide P w .any base t v) (h : DataW.Trod enc P w 0 (fun _ => true) true t v d p) :
    ∃ l : List Bool, SliceAt w 1 v l.length (bools l) := by
  obtain ⟨as, h1, _⟩ := open_arg (sz := 1) (fun b : Bool => [Value.bool b]) (fun _ => True) (fun _ => rfl) (by omega) ht hce
    (fun m cs x hl ht' => by obtain ⟨n, rfl, _⟩ := DataW.trod_bool he ht'; exact ⟨n, trivial, rfl⟩) hv h
  exact ⟨as, by rw [flatMap_one] at h1; exact h1⟩

/-! ### append onto a row of the call's own, from whatever slice -/
theorem sliceAt_of_own {w : World} {base e sz n : Nat} {v : Value} {xs : List Value} (h : w.ownsRow base e sz v n xs) : SliceAt w sz v n xs := by
  obtain ⟨hl, h⟩ := h
  rcases h with ⟨rfl, rfl⟩ | ⟨g, cap, cur, rfl, hb, hg, h1, h2, h3, h4⟩
  · exact ⟨none, 0, rfl, Nat.le_refl _, by simp [maxLen], hl, .inl rfl⟩
  · refine ⟨some ⟨g, 0, none⟩, cap, rfl, h1, h2, hl, .inr ⟨g, 0, rfl, (Array.getElem?_eq_some_iff.1 hg).1, fun i u hu => ?_⟩⟩
    rw [cell_at hg]
    rw [← h4, List.getElem?_take] at hu
    split at hu
    · simpa using hu
    · cases hu
theorem own_base {w : World} {base e sz n g : Nat} {v : Value} {xs : List Value} (h : w.ownsRow base e sz v n xs) (hg : v.ownBlock = some g) : base ≤ g ∧ g < w.heap.size := by
  obtain ⟨_, h⟩ := h
  rcases h with ⟨rfl, rfl⟩ | ⟨g', cap, cur, rfl, hb, hh, _⟩
  · cases hg
  · cases hg; exact ⟨hb, (Array.getElem?_eq_some_iff.1 hh).1⟩
theorem own_later {w w' : World} {base e sz n : Nat} {v : Value} {xs : List Value} (h : w.ownsRow base e sz v n xs) (hk : ∀ g, v.ownBlock = some g → w'.heap[g]? = w.heap[g]?) : w'.ownsRow base e sz v n xs := by
  obtain ⟨hl, h⟩ := h
  refine ⟨hl, ?_⟩
  rcases h with h | ⟨g, cap, cur, rfl, hb, hh, r⟩
  · exact .inl h
  · exact .inr ⟨g, cap, cur, rfl, hb, (hk g rfl).trans hh, r⟩
theorem own_empty (w : World) (e sz : Nat) : (w.alloc (.cells #[] e)).ownsRow w.heap.size e sz (.slice (some ⟨w.heap.size, 0, none⟩) 0 0) 0 [] :=
  ⟨by simp, .inr ⟨w.heap.size, 0, #[], rfl, Nat.le_refl _, new_at rfl _, Nat.le_refl _, by simp [maxLen], by simp, by simp⟩⟩
theorem below_own {B : Nat} {a w w' : World} {v : Value} (h : Below B a w) (hg : w.grownBy w' v.ownBlock) (hB : B ≤ w.heap.size) (hv : ∀ g, v.ownBlock = some g → B ≤ g) : Below B a w' := h.grown hg hB hv
theorem own_nil (w : World) (base e sz : Nat) : w.ownsRow base e sz (.slice none 0 0) 0 [] := ⟨by simp, .inl ⟨rfl, rfl⟩⟩

section
variable {P : Program}
theorem run_append_src (w : World) (base : Nat) (t ty e : TypeId) (i : TypeInfo) (z : Value) (size byt : Nat) (ht : P.underlying t = some (.slice e)) (hi : P.info? e = some i) (hz : i.zero = some z)
    (hsize : i.size = size) (hby : i.bytes = byt) (hzs : z.cells.size = size) (hsz : 0 < size)
    (v : Value) (n : Nat) (xs : List Value) (hown : w.ownsRow base e size v n xs) (x : Value) (m : Nat) (news : List Value) (hx : SliceAt w size x m news) (h1 : ∀ u ∈ news, u.oneCell' = true)
    (h63 : n + m ≤ maxLen) (hbytes : (n + m) * byt ≤ 140737488355328) (hbase : base ≤ w.heap.size) :
    ∃ v' w', (Builtin.append_ #[t, t] ty #[v, x]).run P w = .ok v' w' ∧ w'.ownsRow base e size v' (n + m) (xs ++ news) ∧ w.grownBy w' v.ownBlock ∧ (v'.ownBlock = v.ownBlock ∨ v'.ownBlock = some w.heap.size) := by
  obtain ⟨A, c, rfl, _, _, hl, hcase⟩ := hx
  cases A with
  | none =>
    have hm : m = 0 := by
      rcases hcase with h | ⟨b, off, h, _⟩
      · exact h
      · cases h
    subst hm
    obtain rfl : news = [] := List.eq_nil_of_length_eq_zero (by simpa using hl)
    refine ⟨v, w, ?_, by simpa using hown, World.grownBy.refl w _, .inl rfl⟩
    rcases hown.2 with ⟨rfl, rfl⟩ | ⟨g, cap, cur, rfl, _, _, hnc, _⟩
    · simp [Builtin.append_, run_underlying ht, sizeOf, typeInfo, hi, Builtin.lenOf, Builtin.firstCells]
    · simp [Builtin.append_, run_underlying ht, sizeOf, typeInfo, hi, Builtin.lenOf, Builtin.firstCells, hnc, storeCells]
  | some ad =>
    have hcells : ∀ j u, news[j]? = some u → w.cell? (ad.add j) = some u := by
      intro j u hu
      rcases hcase with h | ⟨b, off, h, _, hc⟩
      · subst h
        obtain rfl : news = [] := List.eq_nil_of_length_eq_zero (by simpa using hl)
        simp at hu
      · cases h
        have e : (Addr.add ⟨b, off, none⟩ j) = ⟨b, off + j, none⟩ := by
          unfold Addr.add; split
          · rename_i h; subst h; rfl
          · rfl
        rw [e]; exact hc j u hu
    obtain ⟨v', w', hr, h2, h3, _, h5⟩ := run_append_own_at (P := P) w base t ty e i z size byt ht hi hz hsize hby hzs hsz v n xs hown ad m c news hl hcells h1 h63 hbytes hbase
    exact ⟨v', w', hr, h2, h3, h5⟩

theorem wpList_append_src {w : World} {ops : Array Oper} {rest : List Oper} {o : Oper} {a : Act} {Q : Exit → Act → World → Prop} (hgd : o.guard = none) (s x : Operand) (t : TypeId)
    (ho : o.op = .call { callee := .builtin .append, args := #[s, x], argTypes := #[t, t] })
    (base : Nat) (e : TypeId) (i : TypeInfo) (z : Value) (size byt : Nat) (ht : P.underlying t = some (.slice e)) (hi : P.info? e = some i) (hz : i.zero = some z)
    (hsize : i.size = size) (hby : i.bytes = byt) (hzs : z.cells.size = size) (hsz : 0 < size)
    (v : Value) (n : Nat) (xs : List Value) (hs : a.eval s = v) (hown : w.ownsRow base e size v n xs) (src : Value) (m : Nat) (news : List Value) (hx : a.eval x = src) (hsrc : SliceAt w size src m news) (h1 : ∀ u ∈ news, u.oneCell' = true)
    (h63 : n + m ≤ maxLen) (hbytes : (n + m) * byt ≤ 140737488355328) (hbase : base ≤ w.heap.size)
    (h : ∀ v' w', w'.ownsRow base e size v' (n + m) (xs ++ news) → w.grownBy w' v.ownBlock → (v'.ownBlock = v.ownBlock ∨ v'.ownBlock = some w.heap.size) → wpList P ops Q rest (a.put o.dst v') w') :
    wpList P ops Q (o :: rest) a w := by
  refine wpList_plain hgd fun K hK => ?_
  obtain ⟨v', w', hr, h2, h3, h4⟩ := run_append_src (P := P) w base t o.type e i z size byt ht hi hz hsize hby hzs hsz v n xs hown src m news hsrc h1 h63 hbytes hbase
  unfold Oper.wp execOp
  simp only [ho, resolve, invoke, builtin, Sem.run_bind, Sem.run_pure, Result.andThen_ok, List.map_toArray, List.map_cons, List.map_nil, hs, hx, hr]
  exact hK _ _ (h v' w' h2 h3 h4)

theorem wpListIn_append_src {F : Fence} {nn : Nat} {w : World} {ops : Array Oper} {rest : List Oper} {o : Oper} {a : Act} {Q : Exit → Act → World → Prop} (hgd : o.guard = none) (s x : Operand) (t : TypeId)
    (ho : o.op = .call { callee := .builtin .append, args := #[s, x], argTypes := #[t, t] })
    (base : Nat) (e : TypeId) (i : TypeInfo) (z : Value) (size byt : Nat) (ht : P.underlying t = some (.slice e)) (hi : P.info? e = some i) (hz : i.zero = some z)
    (hsize : i.size = size) (hby : i.bytes = byt) (hzs : z.cells.size = size) (hsz : 0 < size)
    (v : Value) (n : Nat) (xs : List Value) (hs : a.eval s = v) (hown : w.ownsRow base e size v n xs) (src : Value) (m : Nat) (news : List Value) (hx : a.eval x = src) (hsrc : SliceAt w size src m news) (h1 : ∀ u ∈ news, u.oneCell' = true)
    (h63 : n + m ≤ maxLen) (hbytes : (n + m) * byt ≤ 140737488355328) (hbase : base ≤ w.heap.size)
    (h : ∀ v' w', w'.ownsRow base e size v' (n + m) (xs ++ news) → w.grownBy w' v.ownBlock → (v'.ownBlock = v.ownBlock ∨ v'.ownBlock = some w.heap.size) → wpListIn F nn P ops Q rest (a.put o.dst v') w') :
    wpListIn F nn P ops Q (o :: rest) a w := by
  refine wpListIn_plain hgd fun K hK => ?_
  obtain ⟨v', w', hr, h2, h3, h4⟩ := run_append_src (P := P) w base t o.type e i z size byt ht hi hz hsize hby hzs hsz v n xs hown src m news hsrc h1 h63 hbytes hbase
  unfold Oper.wpIn
  refine ⟨?_, ?_⟩
  · simp [Oper.about, ho, resolve, Target.leads, Sem.run_pure]
  · rw [Oper.semAt_plain F _ _ (by rw [ho]; intro c hc'; cases hc')]
    simp [execOp, ho, resolve, invoke, builtin, hs, hx, hr, Result.andThen]
    exact hK _ _ (h v' w' h2 h3 h4)
end
end Go.Proofs.YtppcdmbpbbjecaaGreat.Mem
