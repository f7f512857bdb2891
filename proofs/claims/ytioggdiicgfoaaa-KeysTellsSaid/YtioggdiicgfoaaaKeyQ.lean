/- Arguments: buttons, memories, rows of buttons. No condition. -/
import Derived.Test.YtioggdiicgfoaaaKeyH
import Derived.Test.YtioggdiicgfoaaaArg
namespace Go.Proofs.Ytioggdiicgfoaaa
open Go.RowKit Rf Mem KM Bits Bv Go.ChangeShapes Go.WideShapes
section
variable {H : Type} {enc : TypeId × Value → H} {w : World}
set_option maxRecDepth 100000 in
theorem open_btn_cs {m : Nat} {cs : List Value} {x : DataW H × List MemPlace} (hlen : cs.length = 29) (h : DataW.trod enc Try.prog w 0 (fun _ => true) true m 33 cs = some x) : ∃ b : Btn, b.keys.length = 24 ∧ cs = btnV b := by
  obtain ⟨ys, n, _, _, _, hyl, hel⟩ := DataW.trod_struct Try.underlying33 h
  have gy : ∀ i, i < 6 → ∃ y, ys[i]? = some y := fun i hi => ⟨_, List.getElem?_eq_getElem (by rw [hyl]; exact hi)⟩
  obtain ⟨y0, e0⟩ := gy 0 (by omega)
  obtain ⟨y1, e1⟩ := gy 1 (by omega)
  obtain ⟨y2, e2⟩ := gy 2 (by omega)
  obtain ⟨y3, e3⟩ := gy 3 (by omega)
  obtain ⟨y4, e4⟩ := gy 4 (by omega)
  obtain ⟨y5, e5⟩ := gy 5 (by omega)
  have c1 : Try.prog.cellsOf 30 = 1 := by kernel_rfl
  have c2 : Try.prog.cellsOf 4 = 1 := by kernel_rfl
  have c3 : Try.prog.cellsOf 31 = 24 := by kernel_rfl
  have c4 : Try.prog.cellsOf 5 = 1 := by kernel_rfl
  have u32 : ∀ (o : Nat) (y : DataW H × List MemPlace), DataW.trod enc Try.prog w 0 (fun _ => true) true n 30 ((cs.drop o).take (Try.prog.cellsOf 30)) = some y → ∃ z : BitVec 32, cs[o]? = some (.int .u32 z.toNat) := fun o y ho => by
    rw [c1] at ho
    obtain ⟨z, hz, _, hw⟩ := DataW.trod_int Try.underlying30 ho
    obtain ⟨s, rfl⟩ := Bv.of_u32 hw
    exact ⟨s, at_of hz⟩
  have ubo : ∀ (o : Nat) (y : DataW H × List MemPlace), DataW.trod enc Try.prog w 0 (fun _ => true) true n 4 ((cs.drop o).take (Try.prog.cellsOf 4)) = some y → ∃ z : Bool, cs[o]? = some (.bool z) := fun o y ho => by
    rw [c2] at ho
    obtain ⟨z, hz, _⟩ := DataW.trod_bool Try.underlying4 ho
    exact ⟨z, at_of hz⟩
  obtain ⟨z0, h0⟩ := u32 0 _ (show DataW.trod enc Try.prog w 0 (fun _ => true) true n 30 ((cs.drop 0).take (Try.prog.cellsOf 30)) = some y0 from (hel 0 _ rfl).trans e0)
  obtain ⟨z1, h1⟩ := u32 1 _ (show DataW.trod enc Try.prog w 0 (fun _ => true) true n 30 ((cs.drop 1).take (Try.prog.cellsOf 30)) = some y1 from (hel 1 _ rfl).trans e1)
  obtain ⟨z2, h2⟩ := u32 2 _ (show DataW.trod enc Try.prog w 0 (fun _ => true) true n 30 ((cs.drop 2).take (Try.prog.cellsOf 30)) = some y2 from (hel 2 _ rfl).trans e2)
  obtain ⟨z3, h3⟩ := ubo 3 _ (show DataW.trod enc Try.prog w 0 (fun _ => true) true n 4 ((cs.drop 3).take (Try.prog.cellsOf 4)) = some y3 from (hel 3 _ rfl).trans e3)
  obtain ⟨z4, h4⟩ := ubo 4 _ (show DataW.trod enc Try.prog w 0 (fun _ => true) true n 4 ((cs.drop 4).take (Try.prog.cellsOf 4)) = some y4 from (hel 4 _ rfl).trans e4)
  obtain ⟨zs, n1, _, _, hl1, hzl, hel1⟩ := DataW.trod_array Try.underlying31 (show DataW.trod enc Try.prog w 0 (fun _ => true) true n 31 ((cs.drop 5).take (Try.prog.cellsOf 31)) = some y5 from (hel 5 _ rfl).trans e5)
  have hk : ∀ k, k < 24 → ∃ z : BitVec 8, cs[5 + k]? = some (.int .u8 z.toNat) := fun k hk => by
    obtain ⟨y, hy⟩ : ∃ y, zs[k]? = some y := ⟨_, List.getElem?_eq_getElem (by rw [hzl]; exact hk)⟩
    have ho := (hel1 k hk).trans hy
    rw [c4] at ho
    obtain ⟨z, hz, _, hw⟩ := DataW.trod_int Try.underlying5 ho
    obtain ⟨s, rfl⟩ := Bv.of_u8 hw
    refine ⟨s, ?_⟩
    have := at_of hz
    rw [Nat.mul_one, c3, List.getElem?_take, if_pos hk, List.getElem?_drop] at this
    exact this
  obtain ⟨ks, hkl, hkq⟩ := choose_list (Q := fun k (z : BitVec 8) => cs[5 + k]? = some (.int .u8 z.toNat)) 24 hk
  refine ⟨⟨z0, z1, z2, z3, z4, ks⟩, hkl, ?_⟩
  apply List.ext_getElem?
  intro i
  match i with
  | 0 => exact h0
  | 1 => exact h1
  | 2 => exact h2
  | 3 => exact h3
  | 4 => exact h4
  | k + 5 =>
    by_cases hlt : k < 24
    · have e1 := hkq k (ks.getD k 0#8) (by simp [List.getD, List.getElem?_eq_getElem (show k < ks.length by omega)])
      rw [show k + 5 = 5 + k by omega, e1, btnV_key (b := ⟨z0, z1, z2, z3, z4, ks⟩) (i := k) (by simp only; omega)]
    · rw [List.getElem?_eq_none (by omega), List.getElem?_eq_none (by rw [btnV_len (b := ⟨z0, z1, z2, z3, z4, ks⟩) hkl]; omega)]
set_option maxRecDepth 100000 in
theorem open_btn {base : Nat} {v : Value} {d : DataW H} {p : List MemPlace} (hv : Value.okWide Try.prog w .any base 33 v) (h : DataW.Trod enc Try.prog w 0 (fun _ => true) true 33 v d p) : ∃ b : Btn, b.keys.length = 24 ∧ v = .agg (btnV b).toArray := by
  obtain ⟨cs, rfl, hsz⟩ := okWide_struct Try.underlying33 hv
  obtain ⟨L⟩ := cs
  obtain ⟨fuel, hf⟩ := h
  simp only [Value.cells] at hf
  obtain ⟨b, h1, rfl⟩ := open_btn_cs (hsz.trans (by kernel_rfl)) hf
  exact ⟨b, h1, rfl⟩
set_option maxRecDepth 100000 in
theorem okWide_arr {t e n base : Nat} {v : Value} {r : Reach} (ht : Try.prog.underlying t = some (.array n e)) (h : Value.okWide Try.prog w r base t v) : ∃ cs, v = .agg cs ∧ cs.size = Try.prog.cellsOf t := by
  simp only [Value.okWide, ht] at h
  obtain ⟨cs, h1, h2, _⟩ := h
  exact ⟨cs, h1, h2⟩
set_option maxRecDepth 100000 in
theorem open_mem_cs {m : Nat} {cs : List Value} {x : DataW H × List MemPlace} (hlen : cs.length = 58) (h : DataW.trod enc Try.prog w 0 (fun _ => true) true m 35 cs = some x) : ∃ a b : Btn, a.keys.length = 24 ∧ b.keys.length = 24 ∧ cs = memV a b := by
  obtain ⟨zs, n1, _, _, hl1, hzl, hel1⟩ := DataW.trod_array Try.underlying35 h
  have c3 : Try.prog.cellsOf 33 = 29 := by kernel_rfl
  obtain ⟨y0, e0⟩ : ∃ y, zs[0]? = some y := ⟨_, List.getElem?_eq_getElem (by rw [hzl]; omega)⟩
  obtain ⟨y1, e1⟩ : ∃ y, zs[1]? = some y := ⟨_, List.getElem?_eq_getElem (by rw [hzl]; omega)⟩
  have f0 := (hel1 0 (by omega)).trans e0
  have f1 := (hel1 1 (by omega)).trans e1
  rw [c3] at f0 f1
  obtain ⟨a, ha, h0⟩ := open_btn_cs (by simp; omega) f0
  obtain ⟨b, hb, h1⟩ := open_btn_cs (by simp; omega) f1
  refine ⟨a, b, ha, hb, ?_⟩
  rw [memV, ← h0, ← h1, Nat.zero_mul, List.drop_zero, Nat.one_mul, List.take_of_length_le (l := cs.drop 29) (by simp; omega), List.take_append_drop]
set_option maxRecDepth 100000 in
theorem open_mem {base : Nat} {v : Value} {d : DataW H} {p : List MemPlace} (hv : Value.okWide Try.prog w .any base 35 v) (h : DataW.Trod enc Try.prog w 0 (fun _ => true) true 35 v d p) : ∃ a b : Btn, a.keys.length = 24 ∧ b.keys.length = 24 ∧ v = .agg (memV a b).toArray := by
  obtain ⟨cs, rfl, hsz⟩ := okWide_arr Try.underlying35 hv
  obtain ⟨L⟩ := cs
  obtain ⟨fuel, hf⟩ := h
  simp only [Value.cells] at hf
  obtain ⟨a, b, h1, h2, rfl⟩ := open_mem_cs (hsz.trans (by kernel_rfl)) hf
  exact ⟨a, b, h1, h2, rfl⟩
def btns (l : List Btn) : List Value := l.flatMap btnV
end
end Go.Proofs.Ytioggdiicgfoaaa
