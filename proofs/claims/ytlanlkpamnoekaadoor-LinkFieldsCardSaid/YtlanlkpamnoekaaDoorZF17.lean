/- Contracts of functions and words for memory. Nothing that was there is turned. -/
import Derived.Test.YtlanlkpamnoekaaDoorZD03
import Derived.OpenShut
set_option linter.unusedSimpArgs false
set_option linter.unusedVariables false
namespace Go.Proofs.YtlanlkpamnoekaaDoor
open Go.RowKit Rf Mem Bv Go.ChangeShapes Go.WideShapes
set_option maxRecDepth 100000
section
variable {H : Type} {enc : TypeId × Value → H} {w : World}
/-- what comes in, as a value -/
theorem open_in {m : Nat} {cs : List Value} {x : DataW H × List MemPlace} (h : DataW.trod enc Tryd.prog w 0 (fun _ => true) true m 35 cs = some x) :
    ∃ o n r l : BitVec 32, cs = (inc o n r l).toList := by
  obtain ⟨ys, n, _, _, hl, hyl, hel⟩ := DataW.trod_struct Tryd.underlying35 h
  have hcl : Tryd.prog.cellsOf 35 = 4 := by kernel_rfl
  rw [hcl] at hl
  match cs, hl with
  | [a, b, c, d], _ =>
    have gy : ∀ i, i < 4 → ∃ y, ys[i]? = some y := fun i hi => ⟨_, List.getElem?_eq_getElem (by rw [hyl]; exact hi)⟩
    have hc : Tryd.prog.cellsOf 33 = 1 := by kernel_rfl
    have one : ∀ (i o : Nat) (u : Value) (m : Nat) (y : DataW H × List MemPlace), DataW.trod enc Tryd.prog w 0 (fun _ => true) true m 33 [u] = some y → ∃ s : BitVec 32, u = .int .u32 s.toNat := fun i o u m y h => by
      obtain ⟨z, hz, _, hw⟩ := DataW.trod_int Tryd.underlying33 h
      obtain ⟨s, rfl⟩ := of_u32 hw
      exact ⟨s, (List.cons.inj hz).1⟩
    obtain ⟨y0, e0⟩ := gy 0 (by omega)
    obtain ⟨y1, e1⟩ := gy 1 (by omega)
    obtain ⟨y2, e2⟩ := gy 2 (by omega)
    obtain ⟨y3, e3⟩ := gy 3 (by omega)
    have h0 := (show DataW.trod enc Tryd.prog w 0 (fun _ => true) true n 33 (([a, b, c, d].drop 0).take (Tryd.prog.cellsOf 33)) = some y0 from (hel 0 _ rfl).trans e0)
    have h1 := (show DataW.trod enc Tryd.prog w 0 (fun _ => true) true n 33 (([a, b, c, d].drop 1).take (Tryd.prog.cellsOf 33)) = some y1 from (hel 1 _ rfl).trans e1)
    have h2 := (show DataW.trod enc Tryd.prog w 0 (fun _ => true) true n 33 (([a, b, c, d].drop 2).take (Tryd.prog.cellsOf 33)) = some y2 from (hel 2 _ rfl).trans e2)
    have h3 := (show DataW.trod enc Tryd.prog w 0 (fun _ => true) true n 33 (([a, b, c, d].drop 3).take (Tryd.prog.cellsOf 33)) = some y3 from (hel 3 _ rfl).trans e3)
    rw [hc] at h0 h1 h2 h3
    obtain ⟨o, rfl⟩ := one 0 0 a n y0 h0
    obtain ⟨p, rfl⟩ := one 1 1 b n y1 h1
    obtain ⟨q, rfl⟩ := one 2 2 c n y2 h2
    obtain ⟨s, rfl⟩ := one 3 3 d n y3 h3
    exact ⟨o, p, q, s, rfl⟩
theorem open_inarg {base : Nat} {v : Value} {d : DataW H} {p : List MemPlace} (hv : Value.okWide Tryd.prog w .any base 35 v) (h : DataW.Trod enc Tryd.prog w 0 (fun _ => true) true 35 v d p) :
    ∃ o n r l : BitVec 32, v = inv o n r l := by
  obtain ⟨cs, rfl, hsz⟩ := okWide_struct Tryd.underlying35 hv
  obtain ⟨fuel, hf⟩ := h
  simp only [Value.cells] at hf
  obtain ⟨o, n, r, l, h1⟩ := open_in hf
  exact ⟨o, n, r, l, by have h2 := congrArg List.toArray h1; simp only [Array.toArray_toList] at h2; rw [h2]⟩

end
end Go.Proofs.YtlanlkpamnoekaaDoor
