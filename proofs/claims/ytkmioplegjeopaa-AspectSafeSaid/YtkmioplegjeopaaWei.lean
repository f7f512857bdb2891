/- The reach's bound on a kernel's needs. No condition. -/
import Derived.Test.YtkmioplegjeopaaRig
namespace Go.Proofs.Ytkmioplegjeopaa
open Go.RowKit Rf Mem Bv AM Go.ChangeShapes Go.WideShapes
section
variable {H : Type} {P : Program}
theorem ws_struct {t : TypeId} {fs : Array Field} (ht : P.underlying t = some (.struct fs)) (parts : List (DataW H)) : (DataW.agg parts).weights P t = DataW.weightsEach P (fs.toList.map (·.type)) parts := by
  rw [DataW.weights, ht]
theorem ws_slice {t e : TypeId} (ht : P.underlying t = some (.slice e)) (a b : List (DataW H)) : (DataW.slice a b).weights P t = (a.length + b.length) * P.bytesOf e :: (DataW.weightsAll P e a ++ DataW.weightsAll P e b) := by
  rw [DataW.weights, ht]
theorem wse_get : ∀ (ts : List TypeId) (ds : List (DataW H)) (i : Nat) (t : TypeId) (d : DataW H) (x : Nat), ts[i]? = some t → ds[i]? = some d → x ∈ d.weights P t → x ∈ DataW.weightsEach P ts ds
  | t0 :: ts, d0 :: ds, 0, t, d, x, h1, h2, hx => by
    simp at h1 h2; subst h1 h2
    rw [DataW.weightsEach]; exact List.mem_append_left _ hx
  | t0 :: ts, d0 :: ds, i + 1, t, d, x, h1, h2, hx => by
    rw [DataW.weightsEach]
    exact List.mem_append_right _ (wse_get ts ds i t d x (by simpa using h1) (by simpa using h2) hx)
  | [], _, i, t, d, x, h1, _, _ => by simp at h1
  | _ :: _, [], i, t, d, x, _, h2, _ => by simp at h2
theorem wsa_get {e : TypeId} : ∀ (ds : List (DataW H)) (i : Nat) (d : DataW H) (x : Nat), ds[i]? = some d → x ∈ d.weights P e → x ∈ DataW.weightsAll P e ds
  | d0 :: ds, 0, d, x, h2, hx => by
    simp at h2; subst h2
    rw [DataW.weightsAll]; exact List.mem_append_left _ hx
  | d0 :: ds, i + 1, d, x, h2, hx => by
    rw [DataW.weightsAll]
    exact List.mem_append_right _ (wsa_get ds i d x (by simpa using h2) hx)
  | [], i, d, x, h2, _ => by simp at h2
end
section
variable {H : Type} {enc : TypeId × Value → H} {w : World}
set_option maxRecDepth 100000 in
theorem held_bound {m : Nat} {cs : List Value} {q : HeldM} {y : DataW H × List MemPlace} (hq : HeldAt w cs q) (h : DataW.trod enc Try.prog w 0 (fun _ => true) true m 52 cs = some y) (hw : ∀ x ∈ y.1.weights Try.prog 52, x ≤ reachBytes) : q.needs.length ≤ 5864062014700 := by
  obtain ⟨ys, n, _, hx, hl, hyl, hel⟩ := DataW.trod_struct Try.underlying52 h
  obtain ⟨y3, e3⟩ : ∃ y, ys[3]? = some y := ⟨_, List.getElem?_eq_getElem (by rw [hyl]; decide)⟩
  have hct : Try.prog.cellsOf 49 = 1 := by kernel_rfl
  have hcb : Try.prog.bytesOf 59 = 24 := by kernel_rfl
  have h3 := (show DataW.trod enc Try.prog w 0 (fun _ => true) true n 49 ((cs.drop 5).take (Try.prog.cellsOf 49)) = some y3 from (hel 3 _ rfl).trans e3)
  rw [hct] at h3
  obtain ⟨v5, g5, t5⟩ := hq.nd
  obtain ⟨A5, c5, rfl⟩ := t5.form
  have hc5 : (cs.drop 5).take 1 = [.slice A5 q.needs.length c5] := by
    have hlt : 5 < cs.length := by rw [hq.len]; omega
    rw [List.drop_eq_getElem_cons hlt]
    rw [List.getElem?_eq_getElem hlt] at g5
    simp [Option.some.inj g5]
  rw [hc5] at h3
  rcases Go.Deep.open_slice Try.underlying49 h3 with ⟨hcs, _⟩ | ⟨a, len, cap, m2, n2, D, Pl, hcs, _, _, _, _, hy, _⟩
  · simp at hcs
    obtain ⟨_, hz, _⟩ := hcs
    rw [hz]; simp
  · simp at hcs
    obtain ⟨_, hln, _⟩ := hcs
    have hm : (len + (m2 - len)) * 24 ∈ y.1.weights Try.prog 52 := by
      rw [hx, ws_struct Try.underlying52]
      refine wse_get _ _ 3 49 y3.1 _ rfl (by rw [List.getElem?_map, e3]; rfl) ?_
      rw [hy, ws_slice Try.underlying49, hcb]
      simp
    have := hw _ hm
    unfold reachBytes at this
    omega
set_option maxRecDepth 100000 in
theorem ker_bound {K : List Value} {vh : Value} {css : List (List Value)} {hs : List HeldM} {nx : Int} {ms : List (Int × Int × Bool)} {d : DataW H} {p : List MemPlace} (h : DataW.Trod enc Try.prog w 0 (fun _ => true) true 41 (.agg K.toArray) d p) (hK : KerAt w K vh css hs nx ms)
    (hw : ∀ x ∈ d.weights Try.prog 41, x ≤ reachBytes) : ∀ q ∈ hs, q.needs.length ≤ 5864062014700 := by
  obtain ⟨fuel, hf⟩ := h
  simp only [Value.cells] at hf
  obtain ⟨ys, n, _, hx, hl, hyl, hel⟩ := DataW.trod_struct Try.underlying41 hf
  obtain ⟨y1, e1⟩ : ∃ y, ys[1]? = some y := ⟨_, List.getElem?_eq_getElem (by rw [hyl]; decide)⟩
  have hct : Try.prog.cellsOf 36 = 1 := by kernel_rfl
  have hce : Try.prog.cellsOf 52 = 23 := by kernel_rfl
  have h1 := (show DataW.trod enc Try.prog w 0 (fun _ => true) true n 36 ((K.drop 1).take (Try.prog.cellsOf 36)) = some y1 from (hel 1 _ rfl).trans e1)
  rw [hct] at h1
  have hk1 : (K.drop 1).take 1 = [vh] := by
    have hlt : 1 < K.length := by rw [hK.len]; omega
    have g := hK.held
    rw [List.drop_eq_getElem_cons hlt]
    rw [List.getElem?_eq_getElem hlt] at g
    simp [Option.some.inj g]
  rw [hk1] at h1
  intro q hq
  obtain ⟨i, hi⟩ := List.getElem?_of_mem hq
  have hil := (List.getElem?_eq_some_iff.1 hi).1
  obtain ⟨cs, hcs⟩ : ∃ s, css[i]? = some s := ⟨_, List.getElem?_eq_getElem (by rw [hK.hs.len]; exact hil)⟩
  have hcl := (List.getElem?_eq_some_iff.1 hcs).1
  obtain ⟨b, off, c, rfl, hr⟩ := hK.hs.row hcs
  have hqa := hK.hs.at_ i cs q hcs hi
  rcases Go.Deep.open_slice Try.underlying36 h1 with ⟨hcs', _⟩ | ⟨a, len, cap, m2, n2, D, Pl, hcs', _, _, _, hmm, hy, hel2⟩
  · simp at hcs'
  · simp at hcs'
    obtain ⟨ha, hln, _⟩ := hcs'
    rw [hce] at hel2
    have hlm : len ≤ m2 := by rw [hmm]; split <;> omega
    obtain ⟨cs', hc', ht'⟩ := hel2 i (by omega)
    obtain ⟨_, hcl', hat⟩ := World.cells?_some hc'
    have hec : cs' = cs := by
      apply List.ext_getElem?
      intro j
      by_cases hj : j < 23
      · obtain ⟨u, hu⟩ : ∃ u, cs[j]? = some u := ⟨_, List.getElem?_eq_getElem (by rw [hqa.len]; exact hj)⟩
        have h2 := hr j u hu
        have h3 := hat j (by omega)
        rw [← ha] at h3
        have e : (Addr.add (Addr.add ⟨b, off, none⟩ (i * 23)) j) = ⟨b, off + i * 23 + j, none⟩ := by
          rw [Go.Deep.add_add]
          unfold Addr.add; split
          · rename_i h0; rw [show off + i * 23 + j = off by omega]
          · rw [Nat.add_assoc]
        rw [e, h2] at h3
        rw [hu]
        first | exact h3.symm | (rw [h3]) | simpa using h3.symm
      · rw [List.getElem?_eq_none (by omega), List.getElem?_eq_none (by rw [hqa.len]; omega)]
    rw [hec] at ht'
    refine held_bound hqa ht' (fun x hx' => hw x ?_)
    have hx1 := congrArg Prod.fst hx
    simp only at hx1
    rw [hx1, ws_struct Try.underlying41]
    refine wse_get _ _ 1 36 y1.1 _ rfl (by rw [List.getElem?_map, e1]; rfl) ?_
    rw [hy, ws_slice Try.underlying36]
    refine List.mem_cons_of_mem _ (List.mem_append_left _ ?_)
    exact wsa_get _ i (D i) _ (by rw [List.getElem?_map, List.getElem?_range (by omega)]; rfl) hx'
end
end Go.Proofs.Ytkmioplegjeopaa
