/- An argument that is a frame. No condition. -/
import Derived.Test.YtkjmbnficdilhaaFrmF
import Derived.Test.YtkjmbnficdilhaaArg
namespace Go.Proofs.Ytkjmbnficdilhaa
open Go.RowKit Rf Mem Bv Crc Go.ChangeShapes Go.WideShapes
theorem open_frame {H : Type} {enc : TypeId × Value → H} {w : World} {base : Nat} {v : Value} {d : DataW H} {p : List MemPlace}
    (hv : Value.okWide Try.prog w .any base 24 v) (h : DataW.Trod enc Try.prog w 0 (fun _ => true) true 24 v d p) :
    ∃ (k s : BitVec 8) (u : Value) (B : List (BitVec 8)), v = fv k.toNat s.toNat u ∧ SliceAt w 1 u B.length (u8s B) := by
  obtain ⟨v0, v1, v2, y0, y1, y2, n, rfl, _, _, h0, h1, h2⟩ := Joins.open_agg3 (P := Try.prog) (t := 24) Try.underlying24 (by kernel_rfl) (by kernel_rfl) hv h
  obtain ⟨u, B, hu, hB⟩ := open_bytes_cs Try.underlying22 Try.underlying5 (by kernel_rfl) h2
  obtain ⟨N, hN, _, hw⟩ := DataW.trod_int Try.underlying5 h0
  obtain ⟨M, hM, _, hw'⟩ := DataW.trod_int Try.underlying5 h1
  obtain rfl := List.cons.inj hu |>.1
  obtain rfl := List.cons.inj hN |>.1
  obtain rfl := List.cons.inj hM |>.1
  obtain ⟨k, rfl⟩ := Bv.of_u8 hw
  obtain ⟨s, rfl⟩ := Bv.of_u8 hw'
  exact ⟨k, s, _, B, rfl, hB⟩
end Go.Proofs.Ytkjmbnficdilhaa
