/- Contracts of functions and words for memory. Nothing that was there is turned. -/
import Derived.Test.YtlanlkpamnoekaaDoorZD00
import Derived.Lib.SmallJoins
set_option linter.unusedSimpArgs false
set_option linter.unusedVariables false
namespace Go.Proofs.YtlanlkpamnoekaaDoor.Mem
open Go.RowKit Rf Go.ChangeShapes Go.WideShapes Bv
/-- A slice in a cell: its elements, each as its type's reading says. -/
theorem open_cs {H : Type} {enc : TypeId × Value → H} {P : Program} {w : World} {t e sz fuel : Nat} {cs : List Value} {x : DataW H × List MemPlace} {α : Type} (f : α → List Value) (ok : α → Prop)
    (hf : ∀ a, (f a).length = sz) (hsz : 0 < sz) (ht : P.underlying t = some (.slice e)) (hce : P.cellsOf e = sz)
    (he : ∀ (m : Nat) (cs : List Value) (x : DataW H × List MemPlace), cs.length = sz → DataW.trod enc P w 0 (fun _ => true) true m e cs = some x → ∃ a, ok a ∧ cs = f a)
    (h : DataW.trod enc P w 0 (fun _ => true) true fuel t cs = some x) : ∃ (v : Value) (asl : List α), cs = [v] ∧ SliceAt w sz v asl.length (asl.flatMap f) ∧ ∀ a ∈ asl, ok a := by
  have hv : ∃ v, cs = [v] ∧ v.cells = #[v] ∧ ∃ A n c, v = .slice A n c := by
    rcases Go.Deep.open_slice ht h with ⟨hcs, _⟩ | ⟨x, l, c, m, n, D, Pl, hcs, _⟩
    · exact ⟨_, hcs, rfl, _, _, _, rfl⟩
    · exact ⟨_, hcs, rfl, _, _, _, rfl⟩
  obtain ⟨v, rfl, hvc, A, len, cap, rfl⟩ := hv
  refine ⟨.slice A len cap, ?_⟩
  rcases Go.Deep.open_slice ht h with ⟨hcs, _⟩ | ⟨x, l, c, m, n, D, Pl, hcs, _, hl, hm, hmm, hx, hel⟩
  · simp at hcs
    obtain ⟨rfl, rfl, rfl⟩ := hcs
    exact ⟨[], rfl, .nil_ _ _, by simp⟩
  · simp at hcs
    obtain ⟨rfl, rfl, rfl⟩ := hcs
    simp only [if_true] at hmm
    subst hmm
    rw [hce] at hel
    obtain ⟨asl, hal, hq⟩ := choose_list (Q := fun i a => ok a ∧ ∀ j u, (f a)[j]? = some u → w.cell? (x.add (i * sz + j)) = some u) len (fun i hi => by
      obtain ⟨cs', hc', ht'⟩ := hel i (by omega)
      obtain ⟨_, hcl, hat⟩ := World.cells?_some hc'
      obtain ⟨a, hok, rfl⟩ := he _ _ _ hcl ht'
      refine ⟨a, hok, fun j u hu => ?_⟩
      have hj : j < sz := by rw [← hcl]; exact (List.getElem?_eq_some_iff.1 hu).1
      rw [← Go.Deep.add_add, hat j hj, hu])
    have hok : ∀ a ∈ asl, ok a := fun a ha => by obtain ⟨i, hi⟩ := List.getElem?_of_mem ha; exact (hq i a hi).1
    refine ⟨asl, rfl, ⟨some x, m, by rw [hal], by omega, hm, flatMap_len (fun a _ => hf a), ?_⟩, hok⟩
    rcases Nat.eq_zero_or_pos len with h0 | h0
    · left; omega
    · right
      obtain ⟨b, off, spot⟩ := x
      have hcell : ∀ i u, (asl.flatMap f)[i]? = some u → w.cell? ((⟨b, off, spot⟩ : Addr).add i) = some u := fun i u hu => by
        have hd : i / sz * sz + i % sz = i := by rw [Nat.mul_comm]; exact Nat.div_add_mod i sz
        rw [← hd, flatMap_get (fun a _ => hf a) _ _ (Nat.mod_lt _ hsz)] at hu
        simp only [Option.bind_eq_some_iff] at hu
        obtain ⟨a, ha, hu⟩ := hu
        have := (hq _ a ha).2 _ u hu
        rwa [hd] at this
      have hlen : 0 < (asl.flatMap f).length := by rw [flatMap_len (fun a _ => hf a), hal]; exact Nat.mul_pos h0 hsz
      have hc := hcell 0 _ (List.getElem?_eq_getElem hlen)
      have hspot : spot = none := by simpa [Addr.add] using World.cell?_spot hc
      subst hspot
      refine ⟨b, off, rfl, lt_of_cell (p := ⟨b, off, none⟩) (by simpa [Addr.add] using hc), fun i u hu => ?_⟩
      have := hcell i u hu
      have e : (Addr.add ⟨b, off, none⟩ i) = ⟨b, off + i, none⟩ := by
        unfold Addr.add; split
        · rename_i h; subst h; rfl
        · rfl
      rwa [e] at this
theorem open_bytes_cs {H : Type} {enc : TypeId × Value → H} {P : Program} {w : World} {t e fuel : Nat} {cs : List Value} {x : DataW H × List MemPlace}
    (ht : P.underlying t = some (.slice e)) (he : P.underlying e = some (.int .u8)) (hce : P.cellsOf e = 1) (h : DataW.trod enc P w 0 (fun _ => true) true fuel t cs = some x) :
    ∃ (v : Value) (bs : List (BitVec 8)), cs = [v] ∧ SliceAt w 1 v bs.length (u8s bs) := by
  obtain ⟨v, asl, h0, h1, _⟩ := open_cs (sz := 1) (fun b : BitVec 8 => [Value.int .u8 (b.toNat : Int)]) (fun _ => True) (fun _ => rfl) (by omega) ht hce
    (fun m cs x hl ht' => by
      obtain ⟨n, rfl, _, hw⟩ := DataW.trod_int he ht'
      have hb : 0 ≤ n ∧ n ≤ 255 := by simpa [Lit.wf, IntKind.min, IntKind.max, IntKind.signed, IntKind.bits] using hw
      exact ⟨BitVec.ofNat 8 n.toNat, trivial, by simp; omega⟩) h
  exact ⟨v, asl, h0, by rw [flatMap_one] at h1; exact h1⟩
theorem i64_bounds {n : Int} (h : (Lit.int .i64 n).wf = true) : -9223372036854775808 ≤ n ∧ n ≤ 9223372036854775807 := by
  simpa [Lit.wf, IntKind.min, IntKind.max, IntKind.signed, IntKind.bits] using h
end Go.Proofs.YtlanlkpamnoekaaDoor.Mem
