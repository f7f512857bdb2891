/- What the law of a route that fails needs: an argument that is a route, builds under guards, images with other bits, and plain words. No condition. -/
import Derived.Test.YtkmioplegjeopaaAspU
import Derived.Test.YtkmioplegjeopaaAspX
namespace Go.Proofs.Ytkmioplegjeopaa
open Go.RowKit Rf Mem Bv AM Go.ChangeShapes Go.WideShapes
section
variable {H : Type} {enc : TypeId × Value → H} {w : World}
set_option maxRecDepth 100000 in
theorem open_held {base : Nat} {v : Value} {d : DataW H} {p : List MemPlace} (hv : Value.okWide Try.prog w .any base 52 v) (h : DataW.Trod enc Try.prog w 0 (fun _ => true) true 52 v d p) :
    ∃ (cs : List Value) (q : HeldM), v = .agg cs.toArray ∧ HeldAt w cs q := by
  obtain ⟨cs, rfl, hsz⟩ := okWide_struct Try.underlying52 hv
  obtain ⟨cs⟩ := cs
  obtain ⟨fuel, hf⟩ := h
  simp only [Value.cells] at hf
  have hlen : cs.length = 23 := hsz.trans (by kernel_rfl)
  obtain ⟨q, hq⟩ := open_held_cs hlen hf
  exact ⟨cs, q, rfl, hq⟩
end
section
variable {P : Program} {w : World} {ops : Array Oper} {rest : List Oper} {o : Oper} {a : Act} {Q : Exit → Act → World → Prop}
theorem wpList_bld_g (hw : Region.wanted o (yielded ops a.tmps) = true) (T : TypeId) (ps : List (Nat × Operand)) (vs : List (Nat × Value)) (cs : Value) (ho : o.op = .build T ps.toArray) (hp : ps.map (fun p => (p.1, a.eval p.2)) = vs)
    (hr : (Instr.build T vs.toArray).run P w = .ok cs w) (h : wpList P ops Q rest (a.put o.dst cs) w) : wpList P ops Q (o :: rest) a w :=
  wpList_step fun K hK => by rw [if_pos hw]; exact Node.wp_val cs (by subst hp; unfold execOp; simp [ho, hr]) (hK _ _ h)
theorem wpList_bs_g {w' : World} (hw : Region.wanted o (yielded ops a.tmps) = true) (t : TypeId) (n : Nat) (ps : List (Nat × Operand)) (vs : List (Nat × Value)) (v : Value) (ho : o.op = .buildSlice t n ps.toArray) (hp : ps.map (fun p => (p.1, a.eval p.2)) = vs)
    (hr : (Instr.buildSlice t n vs.toArray).run P w = .ok v w') (h : wpList P ops Q rest (a.put o.dst v) w') : wpList P ops Q (o :: rest) a w :=
  wpList_step fun K hK => by rw [if_pos hw]; exact Node.wp_val v (by subst hp; unfold execOp; simp [ho, hr]) (hK _ _ h)
end
set_option maxRecDepth 100000 in
set_option maxHeartbeats 1000000 in
theorem run_bsH (W : World) (cs : List Value) (h : cs.length = 23) : (Instr.buildSlice 36 1 #[(0, .agg cs.toArray)]).run Try.prog W = .ok (.slice (some ⟨W.heap.size, 0, none⟩) 1 1) (W.alloc (.cells cs.toArray 52)) := by
  obtain ⟨a0, a1, a2, a3, a4, a5, a6, a7, a8, a9, b0, b1, b2, b3, b4, b5, b6, b7, b8, b9, c0, c1, c2, rfl⟩ : ∃ a0 a1 a2 a3 a4 a5 a6 a7 a8 a9 b0 b1 b2 b3 b4 b5 b6 b7 b8 b9 c0 c1 c2, cs = [a0, a1, a2, a3, a4, a5, a6, a7, a8, a9, b0, b1, b2, b3, b4, b5, b6, b7, b8, b9, c0, c1, c2] := by
    match cs, h with
    | [a0, a1, a2, a3, a4, a5, a6, a7, a8, a9, b0, b1, b2, b3, b4, b5, b6, b7, b8, b9, c0, c1, c2], _ => exact ⟨_, _, _, _, _, _, _, _, _, _, _, _, _, _, _, _, _, _, _, _, _, _, _, rfl⟩
  go_simp
set_option maxRecDepth 100000 in
theorem run_k1 (W : World) (A : Option Addr) (n c : Nat) : (Instr.build 41 #[(1, .slice A n c)]).run Try.prog W = .ok (.agg (kcL 0 (.slice A n c) machL).toArray) W := by
  go_simp
  rfl
/-- an image with another row of bits, another age -/
theorem ImgF.setOcc {M : List Value} {age : Int} {free : List Int} {occ nor rev lam : BitVec 32} (h : ImgF M age free occ nor rev lam) (o : BitVec 32) : ImgF (M.set 25 (.int .u32 o.toNat)) age free o nor rev lam := by
  have hl := h.len
  refine ⟨by simp [hl], h.fl, ?_, fun k z hk => ?_, ?_, ?_, ?_, ?_⟩
  · rw [List.getElem?_set, if_neg (by omega)]; exact h.age
  · have hlt : k < 24 := by have := (List.getElem?_eq_some_iff.1 hk).1; rwa [h.fl] at this
    rw [List.getElem?_set, if_neg (by omega)]; exact h.free k z hk
  · simp [List.getElem?_set, hl]
  · rw [List.getElem?_set, if_neg (by omega)]; exact h.nor
  · rw [List.getElem?_set, if_neg (by omega)]; exact h.rev
  · rw [List.getElem?_set, if_neg (by omega)]; exact h.lam
theorem ImgF.setNor {M : List Value} {age : Int} {free : List Int} {occ nor rev lam : BitVec 32} (h : ImgF M age free occ nor rev lam) (o : BitVec 32) : ImgF (M.set 26 (.int .u32 o.toNat)) age free occ o rev lam := by
  have hl := h.len
  refine ⟨by simp [hl], h.fl, ?_, fun k z hk => ?_, ?_, ?_, ?_, ?_⟩
  · rw [List.getElem?_set, if_neg (by omega)]; exact h.age
  · have hlt : k < 24 := by have := (List.getElem?_eq_some_iff.1 hk).1; rwa [h.fl] at this
    rw [List.getElem?_set, if_neg (by omega)]; exact h.free k z hk
  · rw [List.getElem?_set, if_neg (by omega)]; exact h.occ
  · simp [List.getElem?_set, hl]
  · rw [List.getElem?_set, if_neg (by omega)]; exact h.rev
  · rw [List.getElem?_set, if_neg (by omega)]; exact h.lam
theorem ImgF.setRev {M : List Value} {age : Int} {free : List Int} {occ nor rev lam : BitVec 32} (h : ImgF M age free occ nor rev lam) (o : BitVec 32) : ImgF (M.set 27 (.int .u32 o.toNat)) age free occ nor o lam := by
  have hl := h.len
  refine ⟨by simp [hl], h.fl, ?_, fun k z hk => ?_, ?_, ?_, ?_, ?_⟩
  · rw [List.getElem?_set, if_neg (by omega)]; exact h.age
  · have hlt : k < 24 := by have := (List.getElem?_eq_some_iff.1 hk).1; rwa [h.fl] at this
    rw [List.getElem?_set, if_neg (by omega)]; exact h.free k z hk
  · rw [List.getElem?_set, if_neg (by omega)]; exact h.occ
  · rw [List.getElem?_set, if_neg (by omega)]; exact h.nor
  · simp [List.getElem?_set, hl]
  · rw [List.getElem?_set, if_neg (by omega)]; exact h.lam
theorem ImgF.setLam {M : List Value} {age : Int} {free : List Int} {occ nor rev lam : BitVec 32} (h : ImgF M age free occ nor rev lam) (o : BitVec 32) : ImgF (M.set 28 (.int .u32 o.toNat)) age free occ nor rev o := by
  have hl := h.len
  refine ⟨by simp [hl], h.fl, ?_, fun k z hk => ?_, ?_, ?_, ?_, ?_⟩
  · rw [List.getElem?_set, if_neg (by omega)]; exact h.age
  · have hlt : k < 24 := by have := (List.getElem?_eq_some_iff.1 hk).1; rwa [h.fl] at this
    rw [List.getElem?_set, if_neg (by omega)]; exact h.free k z hk
  · rw [List.getElem?_set, if_neg (by omega)]; exact h.occ
  · rw [List.getElem?_set, if_neg (by omega)]; exact h.nor
  · rw [List.getElem?_set, if_neg (by omega)]; exact h.rev
  · simp [List.getElem?_set, hl]
theorem ImgF.setAge {M : List Value} {age : Int} {free : List Int} {occ nor rev lam : BitVec 32} (h : ImgF M age free occ nor rev lam) (z : Int) : ImgF (M.set 0 (.int .i64 z)) z free occ nor rev lam := by
  have hl := h.len
  refine ⟨by simp [hl], h.fl, by simp [List.getElem?_set, hl], fun k z hk => ?_, ?_, ?_, ?_, ?_⟩
  · rw [List.getElem?_set, if_neg (by omega)]; exact h.free k z hk
  · rw [List.getElem?_set, if_neg (by omega)]; exact h.occ
  · rw [List.getElem?_set, if_neg (by omega)]; exact h.nor
  · rw [List.getElem?_set, if_neg (by omega)]; exact h.rev
  · rw [List.getElem?_set, if_neg (by omega)]; exact h.lam
theorem HeldAt.setStage {W : World} {cs : List Value} {q : HeldM} (h : HeldAt W cs q) (z : Int) : HeldAt W (cs.set 6 (.int .u8 z)) { q with stage := z } := by
  have hl := h.len
  obtain ⟨v3, e3, t3⟩ := h.st
  obtain ⟨v4, e4, t4⟩ := h.ov
  obtain ⟨v5, e5, t5⟩ := h.nd
  refine ⟨by simp [hl], ?_, ?_, ?_, ⟨v3, ?_, t3⟩, ⟨v4, ?_, t4⟩, ⟨v5, ?_, t5⟩, by simp [List.getElem?_set, hl], ?_, h.wasl, fun i hi => ?_, ?_, ?_, ?_⟩
  all_goals rw [List.getElem?_set, if_neg (by omega)]
  · exact h.id
  · exact h.sig
  · exact h.ex
  · exact e3
  · exact e4
  · exact e5
  · exact h.gone
  · exact h.was i hi
  · exact h.opn
  · exact h.timer
  · exact h.shown
/-- numbers of 0 to 31, as the model reckons -/
theorem and31 (s : Int) (h0 : 0 ≤ s) (h1 : s < 32) : Go.bits .and .i64 s 31 = s := by
  obtain ⟨n, rfl⟩ := Int.eq_ofNat_of_zero_le h0
  have hn : n < 32 := by omega
  have : ∀ k : Fin 32, Go.bits .and .i64 ((k.val : Nat) : Int) 31 = ((k.val : Nat) : Int) := by decide
  exact this ⟨n, hn⟩
theorem bitV_or (x : BitVec 32) (k : Nat) (h : k < 32) : bitV (x ||| BitVec.twoPow 32 k) (k : Int) = true := by
  unfold bitV
  rw [decide_eq_true (by omega : (0 : Int) ≤ (k : Int)), decide_eq_true (by omega : (k : Int) < 32), Int.toNat_natCast, BitVec.getLsbD_or, BitVec.getLsbD_twoPow]
  simp [h]
theorem bitV_zero (n : Int) : bitV 0#32 n = false := by simp [bitV]
theorem occ_bit (ns : Nat) (occ : BitVec 32) (s : Bool) (free : List Int) (clr n : Int) (h : bitV occ n = true) : occV ns occ s free clr n = true := by unfold occV; rw [h]; simp
theorem at_both (kinds : List Int) (nor rev : BitVec 32) (s : Bool) (n : Int) (h1 : bitV nor n = true) (h2 : bitV rev n = true) : atV kinds nor rev s n = -1 := by unfold atV; rw [h1, h2]; simp
theorem lit_dark (nsig : Nat) (s : Bool) (n : Int) : litV nsig 0#32 s n = false := by unfold litV; rw [bitV_zero]; simp
theorem occ_in {ns : Nat} {occ : BitVec 32} {s : Bool} {free : List Int} {clr n : Int} (h : occV ns occ s free clr n = false) : 0 ≤ n ∧ n < 24 := by
  unfold occV at h
  simp only [Bool.or_eq_false_iff, decide_eq_false_iff_not] at h
  omega
theorem clear_steps {st : Int → Int} {occ lit : Int → Bool} {h : HeldM} {x : T3} (hx : x ∈ h.steps ++ h.over) (ho : occ x.1 = true) : clearB st occ lit h = false := by
  rw [Bool.eq_false_iff]
  intro hc
  have := (clearB_parts.1 hc).2.2.1 x hx
  rw [ho] at this; cases this
theorem stage_clear {st : Int → Int} {occ lit : Int → Bool} {h : HeldM} (hs : (h.stage == 2) = false) : clearB st occ lit h = false := by unfold clearB; rw [hs]; rfl
theorem tmod_at (z : Int) (n : Nat) (h0 : 0 ≤ z) (hn : 0 < n) : ∃ k : Nat, Int.tmod z (n : Int) = (k : Int) ∧ k < n := by
  have h1 : Int.tmod z (n : Int) < (n : Int) := Int.tmod_lt_of_pos _ (by omega)
  have h2 : 0 ≤ Int.tmod z (n : Int) := Int.tmod_nonneg _ h0
  exact ⟨(Int.tmod z (n : Int)).toNat, by omega, by omega⟩
theorem set_far_cell {W : World} {g i : Nat} {u : Value} (h : W.cell? ⟨g, i, none⟩ = some u) {p : Addr} (hp : g ≠ p.block) (x : Value) : (W.setCell p x).cell? ⟨g, i, none⟩ = some u :=
  (World.cell?_of_block (a := ⟨g, i, none⟩) (Below.heap_setCell W p x g hp)).trans h
/-- what the law holds: a layout, an image, a route -/
structure FV (w W : World) (L M cs : List Value) : Prop where
  bel : Below w.heap.size w W
  l : W.heap[w.heap.size]? = some (.cells L.toArray 29 (0, 0))
  m : W.heap[w.heap.size + 1]? = some (.cells M.toArray 35 (0, 0))
  h : W.heap[w.heap.size + 1 + 1]? = some (.cells cs.toArray 52 (0, 0))
theorem FV.later {w W W' : World} {L M cs : List Value} (h : FV w W L M cs) (b : Below W.heap.size W W') : FV w W' L M cs := ⟨below_step h.bel b, var_later h.l b, var_later h.m b, var_later h.h b⟩
theorem FV.set {w W : World} {L M cs : List Value} {g : Nat} (h : FV w W L M cs) (hg : w.heap.size + 1 + 1 < g) (i : Nat) (u : Value) : FV w (W.setCell ⟨g, i, none⟩ u) L M cs :=
  ⟨below_set h.bel (by omega) i u, set_far h.l (by simp; omega) u, set_far h.m (by simp; omega) u, set_far h.h (by simp; omega) u⟩
theorem FV.grown {w W W' : World} {L M cs : List Value} {v : Value} {ga : Nat} (h : FV w W L M cs) (hga : w.heap.size + 1 + 1 < ga) (hg : W.grownBy W' v.ownBlock) (hv : ∀ g, v.ownBlock = some g → ga ≤ g) : FV w W' L M cs := by
  have f : ∀ k, k ≤ w.heap.size + 1 + 1 → k < W.heap.size → W'.heap[k]? = W.heap[k]? := fun k hk hl => hg.block k hl (fun e => by have := hv k e.symm; omega)
  exact ⟨below_own h.bel hg h.bel.size (fun g e => by have := hv g e; omega), (f _ (by omega) (lt_at h.l)).trans h.l, (f _ (by omega) (lt_at h.m)).trans h.m, (f _ (by omega) (lt_at h.h)).trans h.h⟩
theorem FV.fill {w W : World} {L M cs M' : List Value} {g : Nat} {zs : Array Value} {T : TypeId} (h : FV w W L M cs) (hg : w.heap.size + 1 + 1 < g) (hG : W.heap[g]? = some (.cells zs T (0, 0))) (hl : M'.length = zs.size) :
    ∃ V', W.setCells g 0 M'.toArray.toList = V' ∧ V'.heap[g]? = some (.cells M'.toArray T (0, 0)) ∧ FV w V' L M cs ∧ (∀ k, k ≠ g → V'.heap[k]? = W.heap[k]?) ∧ W.there g 0 M'.toArray.size := by
  obtain ⟨V', e, X, B, far, th⟩ := fill_new M' hG hl h.bel (by omega)
  exact ⟨V', e, X, ⟨B, (far _ (by omega)).trans h.l, (far _ (by omega)).trans h.m, (far _ (by omega)).trans h.h⟩, far, th⟩
theorem in_range {W : World} {g : Nat} {M : List Value} {age : Int} {free : List Int} {occ nor rev lam : BitVec 32} {t : TypeId} {f : Nat × Nat} (h : ImgF M age free occ nor rev lam) (hg : W.heap[g]? = some (.cells M.toArray t f)) : W.rangeAt g 25 [.int .u32 occ.toNat, .int .u32 nor.toNat, .int .u32 rev.toNat, .int .u32 lam.toNat] := by
  intro i u hu
  match i, hu with
  | 0, hu => simp at hu; subst hu; exact cell_list hg h.occ
  | 1, hu => simp at hu; subst hu; exact cell_list hg h.nor
  | 2, hu => simp at hu; subst hu; exact cell_list hg h.rev
  | 3, hu => simp at hu; subst hu; exact cell_list hg h.lam
  | i + 4, hu => simp at hu
theorem in_size : (Try.prog.info? 33).map (·.size) = some 4 := by kernel_rfl
/-- .. and another image, in a variable made behind W5 -/
structure BV (w W5 W : World) (L M cs Mb : List Value) : Prop where
  f : FV w W L M cs
  b : Below W5.heap.size W5 W
  x : W.heap[W5.heap.size]? = some (.cells Mb.toArray 35 (0, 0))
theorem BV.later {w W5 W W' : World} {L M cs Mb : List Value} (h : BV w W5 W L M cs Mb) (b : Below W.heap.size W W') : BV w W5 W' L M cs Mb := ⟨h.f.later b, below_step h.b b, var_later h.x b⟩
theorem BV.set {w W5 W : World} {L M cs Mb : List Value} (h : BV w W5 W L M cs Mb) (hg : w.heap.size + 1 + 1 < W5.heap.size) (i : Nat) (u : Value) : BV w W5 (W.setCell ⟨W5.heap.size, i, none⟩ u) L M cs (Mb.set i u) :=
  ⟨h.f.set hg i u, below_set h.b (Nat.le_refl _) i u, by have := set_at h.x i u; rwa [List.setIfInBounds_toArray] at this⟩
theorem BV.far {w W5 W : World} {L M cs Mb : List Value} {g : Nat} (h : BV w W5 W L M cs Mb) (hg : w.heap.size + 1 + 1 < W5.heap.size) (hg2 : W5.heap.size < g) (i : Nat) (u : Value) : BV w W5 (W.setCell ⟨g, i, none⟩ u) L M cs Mb :=
  ⟨h.f.set (by omega) i u, below_set h.b (by omega) i u, set_far h.x (by simp; omega) u⟩
theorem BV.fill {w W5 W : World} {L M cs Mb M' : List Value} (h : BV w W5 W L M cs Mb) (hg : w.heap.size + 1 + 1 < W5.heap.size) (hl : M'.length = Mb.length) :
    ∃ V', W.setCells W5.heap.size 0 M'.toArray.toList = V' ∧ BV w W5 V' L M cs M' ∧ W.there W5.heap.size 0 M'.toArray.size := by
  obtain ⟨V', e, X, F, far, th⟩ := h.f.fill hg h.x (M' := M') (by simpa using hl)
  obtain ⟨V2, e2, X2, B2, _, _⟩ := fill_new M' h.x (by simpa using hl) h.b (Nat.le_refl _)
  exact ⟨V', e, ⟨F, by rw [← e, e2]; exact B2, X⟩, th⟩
end Go.Proofs.Ytkmioplegjeopaa
