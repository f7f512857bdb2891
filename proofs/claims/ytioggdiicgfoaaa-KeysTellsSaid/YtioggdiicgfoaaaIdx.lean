/- The index of an array's value whose elements are one cell each. No condition. -/
import Derived.Test.YtioggdiicgfoaaaKeyI
namespace Go.Proofs.Ytioggdiicgfoaaa
open Go.RowKit Rf Mem KM Bits Bv
theorem run_index_row {P : Program} (w : World) (t e n : Nat) (d : TypeDesc) (cs : Array Value) (k : IntKind) (i : Nat) (v : Value) (ht : P.underlying t = some (.array n e)) (he : P.underlying e = some d) (hd : d.isRow = false) (hs : (P.info? e).map (·.size) = some 1) (hi : i < n) (hv : cs[i]? = some v) :
    (Instr.index t (.agg cs) (.int k (i : Int))).run P w = .ok v w := by
  obtain ⟨i0, h1, h2⟩ := Option.map_eq_some_iff.1 hs
  have h3 : (i : Int) < (n : Int) := by omega
  have h4 : ¬ n ≤ i := by omega
  cases d <;> simp [Instr.index, asIntOf, run_underlying ht, run_underlying he, sizeOf, typeInfo, part, isAgg, h1, h2, h3, h4, hv, TypeDesc.isRow, go_sem] at hd ⊢ <;> intro h <;> omega
theorem wpList_index {P : Program} {w : World} {ops : Array Oper} {rest : List Oper} {o : Oper} {a : Act} {Q : Exit → Act → World → Prop} (hgd : o.guard = none) (T : TypeId) (x i : Operand) (ho : o.op = .index T x i) (cs n v : Value) (hx : a.eval x = cs) (hi : a.eval i = n)
    (hr : (Instr.index T cs n).run P w = .ok v w) (h : wpList P ops Q rest (a.put o.dst v) w) : wpList P ops Q (o :: rest) a w := by
  refine wpList_plain hgd fun K hK => ?_
  unfold Oper.wp execOp
  simp [ho, hx, hi, hr]
  exact hK _ _ h
end Go.Proofs.Ytioggdiicgfoaaa
