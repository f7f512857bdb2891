/- Words for memory: a slice that reads as a list of cells, an interval of cells, and what keeps them. No condition. -/
import Derived.Test.YtgodpmelkolhgaaDoorRf
import Derived.ProofKit
import Derived.OpenShut
import Derived.Deep.Slices
import Derived.Lib.Hide
namespace Go.Proofs.YtgodpmelkolhgaaDoor.Mem
open Go.RowKit Rf Go.ChangeShapes Go.WideShapes

/-- The slice value v has n elements of sz cells each: the cells cs, in order, of a block below B. -/
def SliceAt (w : World) (sz : Nat) (v : Value) (n : Nat) (cs : List Value) : Prop :=
  ∃ A c, v = .slice A n c ∧ n ≤ c ∧ c ≤ maxLen ∧ cs.length = n * sz ∧
    (n = 0 ∨ ∃ b off, A = some ⟨b, off, none⟩ ∧ b < w.heap.size ∧ ∀ i u, cs[i]? = some u → w.cell? ⟨b, off + i, none⟩ = some u)

theorem SliceAt.later {w w' : World} {sz : Nat} {v : Value} {n : Nat} {cs : List Value} (h : SliceAt w sz v n cs) (hb : Below w.heap.size w w') : SliceAt w' sz v n cs := by
  obtain ⟨A, c, rfl, h1, h2, h3, h4⟩ := h
  refine ⟨A, c, rfl, h1, h2, h3, ?_⟩
  rcases h4 with h4 | ⟨b, off, rfl, hlt, hc⟩
  · exact .inl h4
  · exact .inr ⟨b, off, rfl, Nat.lt_of_lt_of_le hlt hb.size, fun i u hu => (hb.cell (p := ⟨b, off + i, none⟩) hlt).trans (hc i u hu)⟩

theorem SliceAt.below {B : Nat} {w w' : World} {sz : Nat} {v : Value} {n : Nat} {cs : List Value} (h : SliceAt w sz v n cs) (hb : Below B w w') (hB : w.heap.size ≤ B) : SliceAt w' sz v n cs := h.later (hb.mono hB)

theorem SliceAt.nil_ (w : World) (sz : Nat) : SliceAt w sz (.slice none 0 0) 0 [] := ⟨none, 0, rfl, Nat.le_refl _, by simp [maxLen], by simp, .inl rfl⟩

theorem SliceAt.len {w : World} {sz : Nat} {v : Value} {n : Nat} {cs : List Value} (h : SliceAt w sz v n cs) : cs.length = n * sz := by obtain ⟨_, _, _, _, _, h, _⟩ := h; exact h

/-- Integers of a kind, as cells. -/
abbrev ints (k : IntKind) (zs : List Int) : List Value := zs.map (Value.int k)
abbrev bools (l : List Bool) : List Value := l.map Value.bool

theorem flatMap_len {α : Type} {f : α → List Value} {sz : Nat} : ∀ {as : List α}, (∀ a ∈ as, (f a).length = sz) → (as.flatMap f).length = as.length * sz
  | [], _ => by simp
  | a :: as, h => by
    rw [List.flatMap_cons, List.length_append, h a (by simp), flatMap_len (fun b hb => h b (by simp [hb])), List.length_cons, Nat.succ_mul]; omega

theorem flatMap_get {α : Type} {f : α → List Value} {sz : Nat} : ∀ {as : List α} (_ : ∀ a ∈ as, (f a).length = sz) (q r : Nat), r < sz → (as.flatMap f)[q * sz + r]? = (as[q]?).bind fun a => (f a)[r]?
  | [], _, q, r, _ => by simp
  | a :: as, h, 0, r, hr => by
    rw [List.flatMap_cons, Nat.zero_mul, Nat.zero_add, List.getElem?_append_left (by rw [h a (by simp)]; exact hr)]
    simp
  | a :: as, h, q + 1, r, hr => by
    rw [List.flatMap_cons, List.getElem?_append_right (by rw [h a (by simp), Nat.succ_mul]; omega), h a (by simp)]
    rw [show (q + 1) * sz + r - sz = q * sz + r by rw [Nat.succ_mul]; omega, flatMap_get (fun b hb => h b (by simp [hb])) q r hr]
    simp

theorem choose_list {α : Type} {Q : Nat → α → Prop} : ∀ (n : Nat), (∀ i, i < n → ∃ a, Q i a) → ∃ as : List α, as.length = n ∧ ∀ i a, as[i]? = some a → Q i a
  | 0, _ => ⟨[], rfl, by simp⟩
  | n + 1, h => by
    obtain ⟨as, hl, hq⟩ := choose_list n (fun i hi => h i (by omega))
    obtain ⟨a, ha⟩ := h n (by omega)
    refine ⟨as ++ [a], by simp [hl], fun i b hb => ?_⟩
    by_cases hi : i < n
    · rw [List.getElem?_append_left (by omega)] at hb; exact hq i b hb
    · rw [List.getElem?_append_right (by omega)] at hb
      have : i = n := by
        rcases Nat.lt_or_ge (i - as.length) 1 with h1 | h1
        · omega
        · rw [List.getElem?_eq_none (by simpa using h1)] at hb; cases hb
      subst this
      simp [hl] at hb
      subst hb; exact ha

theorem lt_of_cell {w : World} {p : Addr} {u : Value} (h : w.cell? p = some u) : p.block < w.heap.size := by
  unfold World.cell? at h
  cases ho : w.heap[p.block]? with
  | none => simp [ho] at h
  | some o => exact (Array.getElem?_eq_some_iff.1 ho).1

/-- A slice that came in: its elements, each as its type's reading says. -/
theorem open_arg {H : Type} {enc : TypeId × Value → H} {P : Program} {w : World} {base t e sz : Nat} {v : Value} {d : DataW H} {p : List MemPlace} {α : Type} (f : α → List Value) (ok : α → Prop)
    (hf : ∀ a, (f a).length = sz) (hsz : 0 < sz) (ht : P.underlying t = some (.slice e)) (hce : P.cellsOf e = sz)
    (he : ∀ (m : Nat) (cs : List Value) (x : DataW H × List MemPlace), cs.length = sz → DataW.trod enc P w 0 (fun _ => true) true m e cs = some x → ∃ a, ok a ∧ cs = f a)
    (hv : Value.okWide P w .any base t v) (h : DataW.Trod enc P w 0 (fun _ => true) true t v d p) : ∃ as : List α, SliceAt w sz v as.length (as.flatMap f) ∧ ∀ a ∈ as, ok a := by
  obtain ⟨A, len, cap, rfl⟩ := okWide_slice ht hv
  obtain ⟨fuel, hfu⟩ := h
  rcases Go.Deep.open_slice ht hfu with ⟨hcs, _⟩ | ⟨x, l, c, m, n, D, Pl, hcs, _, hl, hm, hmm, hx, hel⟩
  · simp [Value.cells] at hcs
    obtain ⟨rfl, rfl, rfl⟩ := hcs
    exact ⟨[], .nil_ _ _, by simp⟩
  · simp [Value.cells] at hcs
    obtain ⟨rfl, rfl, rfl⟩ := hcs
    simp only [if_true] at hmm
    subst hmm
    rw [hce] at hel
    obtain ⟨as, hal, hq⟩ := choose_list (Q := fun i a => ok a ∧ ∀ j u, (f a)[j]? = some u → w.cell? (x.add (i * sz + j)) = some u) len (fun i hi => by
      obtain ⟨cs', hc', ht'⟩ := hel i (by omega)
      obtain ⟨_, hcl, hat⟩ := World.cells?_some hc'
      obtain ⟨a, hok, rfl⟩ := he _ _ _ hcl ht'
      refine ⟨a, hok, fun j u hu => ?_⟩
      have hj : j < sz := by rw [← hcl]; exact (List.getElem?_eq_some_iff.1 hu).1
      rw [← Go.Deep.add_add, hat j hj, hu])
    have hok : ∀ a ∈ as, ok a := fun a ha => by obtain ⟨i, hi⟩ := List.getElem?_of_mem ha; exact (hq i a hi).1
    refine ⟨as, ⟨some x, m, by rw [hal], by omega, hm, flatMap_len (fun a _ => hf a), ?_⟩, hok⟩
    rcases Nat.eq_zero_or_pos len with h0 | h0
    · left; omega
    · right
      obtain ⟨b, off, spot⟩ := x
      have hcell : ∀ i u, (as.flatMap f)[i]? = some u → w.cell? ((⟨b, off, spot⟩ : Addr).add i) = some u := fun i u hu => by
        have hd : i / sz * sz + i % sz = i := by rw [Nat.mul_comm]; exact Nat.div_add_mod i sz
        rw [← hd, flatMap_get (fun a _ => hf a) _ _ (Nat.mod_lt _ hsz)] at hu
        simp only [Option.bind_eq_some_iff] at hu
        obtain ⟨a, ha, hu⟩ := hu
        have := (hq _ a ha).2 _ u hu
        rwa [hd] at this
      have hlen : 0 < (as.flatMap f).length := by rw [flatMap_len (fun a _ => hf a), hal]; exact Nat.mul_pos h0 hsz
      have hc := hcell 0 _ (List.getElem?_eq_getElem hlen)
      have hspot : spot = none := by simpa [Addr.add] using World.cell?_spot hc
      subst hspot
      refine ⟨b, off, rfl, lt_of_cell (p := ⟨b, off, none⟩) (by simpa [Addr.add] using hc), fun i u hu => ?_⟩
      have := hcell i u hu
      have e : (Addr.add ⟨b, off, none⟩ i) = ⟨b, off + i, none⟩ := by
        unfold Addr.add; split
        · rename_i h; subst h; rfl
        · rfl
      rwa [e] at this

theorem flatMap_one {α : Type} {g : α → Value} (as : List α) : as.flatMap (fun a => [g a]) = as.map g := by
  induction as with
  | nil => rfl
  | cons a as ih => rw [List.flatMap_cons, ih]; rfl

theorem one_cell {cs : List Value} (h : cs.length = 1) : ∃ c, cs = [c] := by
  match cs, h with
  | [c], _ => exact ⟨c, rfl⟩

/-- A slice of integers that came in. -/
theorem open_ints_arg {H : Type} {enc : TypeId × Value → H} {P : Program} {w : World} {base t e : Nat} {k : IntKind} {v : Value} {d : DataW H} {p : List MemPlace}
    (ht : P.underlying t = some (.slice e)) (he : P.underlying e = some (.int k)) (hce : P.cellsOf e = 1) (hv : Value.okWide P w .any base t v) (h : DataW.Trod enc P w 0 (fun _ => true) true t v d p) :
    ∃ zs : List Int, SliceAt w 1 v zs.length (ints k zs) ∧ ∀ n ∈ zs, (Lit.int k n).wf = true := by
  obtain ⟨as, h1, h2⟩ := open_arg (sz := 1) (fun n : Int => [Value.int k n]) (fun n => (Lit.int k n).wf = true) (fun _ => rfl) (by omega) ht hce
    (fun m cs x hl ht' => by obtain ⟨n, rfl, _, hw⟩ := DataW.trod_int he ht'; exact ⟨n, hw, rfl⟩) hv h
  exact ⟨as, by rw [flatMap_one] at h1; exact h1, h2⟩

/-- A slice of bools that came in. -/
theorem open_bools_arg {H : Type} {enc : TypeId × Value → H} {P : Program} {w : World} {base t e : Nat} {v : Value} {d : DataW H} {p : List MemPlace}
    (ht : P.underlying t = some (.slice e)) (he : P.underlying e = some .bool) (hce : P.cellsOf e = 1) (hv : Value.okWide P w .any base t v) (h : DataW.Trod enc P w 0 (fun _ => true) true t v d p) :
    ∃ l : List Bool, SliceAt w 1 v l.length (bools l) := by
  obtain ⟨as, h1, _⟩ := open_arg (sz := 1) (fun b : Bool => [Value.bool b]) (fun _ => True) (fun _ => rfl) (by omega) ht hce
    (fun m cs x hl ht' => by obtain ⟨n, rfl, _⟩ := DataW.trod_bool he ht'; exact ⟨n, trivial, rfl⟩) hv h
  exact ⟨as, by rw [flatMap_one] at h1; exact h1⟩
end Go.Proofs.YtgodpmelkolhgaaDoor.Mem
