/- An argument that is bits. No condition. -/
import Derived.Test.YtefbinlmakkjeaaBitsM
import Derived.Test.YtefbinlmakkjeaaArg
namespace Go.Proofs.Ytefbinlmakkjeaa
open Go.RowKit Rf Mem Bv Bits Go.ChangeShapes Go.WideShapes
theorem open_bits {H : Type} {enc : TypeId × Value → H} {w : World} {base : Nat} {v : Value} {d : DataW H} {p : List MemPlace}
    (hv : Value.okWide Try.prog w .any base 24 v) (h : DataW.Trod enc Try.prog w 0 (fun _ => true) true 24 v d p) :
    ∃ (u : Value) (B : List (BitVec 8)) (N : Int), v = bv u N ∧ SliceAt w 1 u B.length (u8s B) ∧ -9223372036854775808 ≤ N ∧ N ≤ 9223372036854775807 := by
  obtain ⟨v0, v1, y0, y1, n, rfl, _, _, h0, h1⟩ := Joins.open_agg2 (P := Try.prog) (t := 24) Try.underlying24 (by kernel_rfl) (by kernel_rfl) hv h
  obtain ⟨u, B, hu, hB⟩ := open_bytes_cs Try.underlying22 Try.underlying5 (by kernel_rfl) h0
  obtain ⟨N, hN, _, hw⟩ := DataW.trod_int Try.underlying3 h1
  obtain rfl := List.cons.inj hu |>.1
  obtain rfl := List.cons.inj hN |>.1
  exact ⟨_, B, N, rfl, hB, i64_bounds hw⟩
end Go.Proofs.Ytefbinlmakkjeaa
