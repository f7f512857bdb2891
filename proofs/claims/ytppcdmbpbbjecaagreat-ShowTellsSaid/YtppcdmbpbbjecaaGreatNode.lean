/- Operations at a time, for regions that draw their order: without the walk's simp set. And: keys, states of such a region at which its orders meet. No condition. -/
import Derived.Test.YtppcdmbpbbjecaaGreatRf
import Derived.Deep.RegionHeld
import Derived.OrdersIn
namespace Go.Proofs.YtppcdmbpbbjecaaGreat.Node
open Go.RowKit Rf
section
variable {P : Program} {w w' : World} {o : Oper} {a : Act} {K : Act → World → Prop} {Q : Exit → Act → World → Prop}
theorem wp_val (v : Value) (h0 : (execOp a.eval o).run P w = .ok (.value v) w') (h : K (a.put o.dst v) w') : o.wp P a w K Q := by
  unfold Oper.wp; rw [h0]; exact h
/-- a move or an assignment -/
theorem wp_set (v : Value) (x : Operand) (ho : o.op = .move x ∨ o.op = .assign x) (hx : a.eval x = v) (h : K (a.put o.dst v) w) : o.wp P a w K Q := by
  refine wp_val v ?_ h
  unfold execOp
  rcases ho with ho | ho <;> simp [ho, hx]
theorem wp_fn (f : FuncId) (xs : List Operand) (ts : Array TypeId) (vs : List Value) {R : Ending → World → Prop} (ho : o.op = .call { callee := .value (.func f), args := xs.toArray, argTypes := ts }) (hv : xs.map a.eval = vs)
    (he : ∀ args w, (callFunc f args).run P w = .ok (.enter f args) w) (hc : Calls P f vs.toArray w R) (h : ∀ e w', R e w' → ∃ v, e = .returned v ∧ K (a.put o.dst v) w') : o.wp P a w K Q := by
  have hr : (execOp a.eval o).run P w = .ok (.enter f vs.toArray) w := by
    unfold execOp
    simp [ho, resolve, invoke, Act.eval, hv, he, Deferred.ofValue]
  unfold Oper.wp
  rw [hr, Oper.upon_enter]
  refine Calls.mono hc fun e w'' hR => ?_
  obtain ⟨v, rfl, hK⟩ := h e w'' hR
  exact hK
theorem wp_new (T : TypeId) (z : Value) (zs : Array Value) (hi : (P.info? T).map (·.zero) = some (some z)) (hz : z.cells = zs) (ho : o.op = .alloc T) (h : K (a.put o.dst (.pointer (some ⟨w.heap.size, 0, none⟩))) (w.alloc (.cells zs T))) : o.wp P a w K Q := by
  subst hz
  refine wp_val _ ?_ h
  obtain ⟨i, h1, h2⟩ := Option.map_eq_some_iff.1 hi
  unfold execOp
  simp [ho, Instr.alloc, go_sem, h1, h2, zeroValue, typeInfo]
theorem wp_bs (t : TypeId) (n : Nat) (ps : List (Nat × Operand)) (vs : List (Nat × Value)) (v : Value) (ho : o.op = .buildSlice t n ps.toArray) (hp : ps.map (fun p => (p.1, a.eval p.2)) = vs) (hr : (Instr.buildSlice t n vs.toArray).run P w = .ok v w') (h : K (a.put o.dst v) w') : o.wp P a w K Q := by
  refine wp_val v ?_ h
  subst hp
  unfold execOp
  simp [ho, hr]
end
section
variable {P : Program} {ops : Array Oper} {Q : Exit → Act → World → Prop} {md : Region.Mode} {S : World → Prop} {o : Oper} {fuel : Nat} {listed : Array Bool} {a : Act} {w : World}
/-- number 'i' is taken first -/
theorem tk (i : Nat) (v : Value) (hi : ops[i]? = some o) (hy : ∀ w, S w → (execOp a.eval o).run P w = .ok (.value v) w) (h : wpAnyH P md ops Q S fuel (listed.setIfInBounds i true) (a.put o.dst v) w)
    (hg : Region.wanted o (yielded ops a.tmps) = true := by kernel_rfl) (hs : Region.noSelect ops = true := by kernel_rfl) (hf : Region.free md ops listed i = true := by kernel_rfl)
    (hr : (Region.ready md ops listed).contains i = true := by kernel_rfl) (hQ : ∀ c a w, Q (.panic c) (a.put o.dst v) w → Q (.panic c) a w := by exact fun _ _ _ h => h) (hS : S w := by assumption) :
    wpAnyH P md ops Q S (fuel + 1) listed a w := wpAnyH_take hi hs hf hr hQ (Or.inl ⟨hg, hy⟩) hS h
/-- number 'i', whose guard is false -/
theorem sk (i : Nat) (hi : ops[i]? = some o) (h : wpAnyH P md ops Q S fuel (listed.setIfInBounds i true) (a.put o.dst undef) w)
    (hg : Region.wanted o (yielded ops a.tmps) = false := by kernel_rfl) (hs : Region.noSelect ops = true := by kernel_rfl) (hf : Region.free md ops listed i = true := by kernel_rfl)
    (hr : (Region.ready md ops listed).contains i = true := by kernel_rfl) (hQ : ∀ c a w, Q (.panic c) (a.put o.dst undef) w → Q (.panic c) a w := by exact fun _ _ _ h => h) (hS : S w := by assumption) :
    wpAnyH P md ops Q S (fuel + 1) listed a w := wpAnyH_take hi hs hf hr hQ (Or.inr ⟨hg, rfl⟩) hS h
/-- number 'i' alone may come up -/
theorem on (i : Nat) (hi : ops[i]? = some o)
    (h : ∀ K' : Act → World → Prop, Shut (∀ a w, S w → (S w → wpAnyH P md ops Q S fuel (listed.setIfInBounds i true) a w) → K' a w) → if Region.wanted o (yielded ops a.tmps) = true then Oper.wp P o a w K' Q else K' (a.put o.dst undef) w)
    (hr : Region.ready md ops listed = [i] := by kernel_rfl) : wpAnyH P md ops Q S (fuel + 1) listed a w := wpAnyH_ready hr (by simp) (AllReadyH.cons hi h AllReadyH.nil)
end
section
variable {P : Program} {ops : Array Oper} {Q : Exit → Act → World → Prop} {S : World → Prop} {a : Act} {w : World} {id : Nat}
theorem region_key (S : World → Prop) (fuel : Nat) (E : Array Bool) (J : Act → World → Prop) (hk : ∀ a w, S w → J a w → wpAnyH P .any ops Q S fuel E a w)
    (h : (∀ a w, S w → J a w → wpAnyH P .any ops Q S fuel E a w) → (Code.region id ops true).wp P Q a w) : (Code.region id ops true).wp P Q a w := h hk
end
end Go.Proofs.YtppcdmbpbbjecaaGreat.Node
