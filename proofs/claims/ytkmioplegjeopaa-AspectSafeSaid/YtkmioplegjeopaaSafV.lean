/- What the law of safe signals holds. No condition. -/
import Derived.Test.YtkmioplegjeopaaWei
import Derived.Test.YtkmioplegjeopaaAspV
namespace Go.Proofs.Ytkmioplegjeopaa
open Go.RowKit Rf Mem Bv AM
structure KS (w W : World) (I : IM) (L M K : List Value) (vh : Value) (css : List (List Value)) (hs : List HeldM) (nx : Int) (ms : List (Int × Int × Bool)) : Prop where
  bel : Below w.heap.size w W
  v : V2 W w.heap.size (w.heap.size + 1) L M
  kb : W.heap[w.heap.size + 1 + 1]? = some (.cells K.toArray 41 (0, 0))
  a0 : IMA I L M w
  k0 : KerAt w K vh css hs nx ms
section
variable {w W W' : World} {I : IM} {L M K : List Value} {vh : Value} {css : List (List Value)} {hs : List HeldM} {nx : Int} {ms : List (Int × Int × Bool)}
theorem KS.later (h : KS w W I L M K vh css hs nx ms) (b : Below W.heap.size W W') : KS w W' I L M K vh css hs nx ms := ⟨below_step h.bel b, h.v.later b, var_later h.kb b, h.a0, h.k0⟩
theorem KS.a (h : KS w W I L M K vh css hs nx ms) : IMA I L M W := h.a0.later h.bel
theorem KS.k (h : KS w W I L M K vh css hs nx ms) : KerAt W K vh css hs nx ms := h.k0.later h.bel
end
/-- .. and a route in a variable -/
structure KH (w W : World) (I : IM) (L M K : List Value) (vh : Value) (css : List (List Value)) (hs : List HeldM) (nx : Int) (ms : List (Int × Int × Bool)) (gh : Nat) (cs : List Value) : Prop where
  kv : KS w W I L M K vh css hs nx ms
  h : W.heap[gh]? = some (.cells cs.toArray 52 (0, 0))
  lo : w.heap.size + 1 + 1 < gh
section
variable {w W W' : World} {I : IM} {L M K : List Value} {vh : Value} {css : List (List Value)} {hs : List HeldM} {nx : Int} {ms : List (Int × Int × Bool)} {gh : Nat} {cs : List Value}
theorem KH.later (h : KH w W I L M K vh css hs nx ms gh cs) (b : Below W.heap.size W W') : KH w W' I L M K vh css hs nx ms gh cs := ⟨h.kv.later b, var_later h.h b, h.lo⟩
theorem KH.bel (h : KH w W I L M K vh css hs nx ms gh cs) : Below w.heap.size w W := h.kv.bel
theorem KH.grown {v : Value} {ga : Nat} (h : KH w W I L M K vh css hs nx ms gh cs) (hga : gh < ga) (hg : W.grownBy W' v.ownBlock) (hv : ∀ g, v.ownBlock = some g → ga ≤ g) : KH w W' I L M K vh css hs nx ms gh cs := by
  have hlo := h.lo
  have f : ∀ k, k ≤ gh → k < W.heap.size → W'.heap[k]? = W.heap[k]? := fun k hk hl => hg.block k hl (fun e => by have := hv k e.symm; omega)
  exact ⟨⟨below_own h.bel hg h.bel.size (fun g e => by have := hv g e; omega), ⟨(f _ (by omega) (lt_at h.kv.v.l)).trans h.kv.v.l, (f _ (by omega) (lt_at h.kv.v.m)).trans h.kv.v.m⟩, (f _ (by omega) (lt_at h.kv.kb)).trans h.kv.kb, h.kv.a0, h.kv.k0⟩, (f _ (Nat.le_refl _) (lt_at h.h)).trans h.h, hlo⟩
end
theorem all_and {α : Type} (p : α → Bool) (f : Bool) (l : List α) (k : Nat) (x : α) (h : l[k]? = some x) : (f && (l.take (k + 1)).all p) = ((f && (l.take k).all p) && p x) := by
  rw [all_take p l k x h, Bool.and_assoc]
theorem clear_is {st : Int → Int} {occ lit : Int → Bool} (q : HeldM) : (((q.stage == 2 && lit q.sig) && (q.steps ++ q.over).all (fun x => !occ x.1)) && (needsL q).all (fun x => st x.1 == x.2.1)) = clearB st occ lit q := by
  unfold clearB provesB
  rw [List.all_append]
  simp only [Bool.and_assoc]
theorem take_snoc {α : Type} {l : List α} {k : Nat} {x : α} (h : l[k]? = some x) : l.take (k + 1) = l.take k ++ [x] := by rw [List.take_add_one, h]; rfl
end Go.Proofs.Ytkmioplegjeopaa
