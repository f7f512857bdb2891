/- The law of a range over a function whose round begins with an allocation (a variable of the loop that is a struct). No condition. -/
import Derived.Test.YtppcdmbpbbjecaaGreatRf
namespace Go.Proofs.YtppcdmbpbbjecaaGreat.Rf
open Go.RowKit
variable {P : Program}
theorem wp_iterA {g : Operand} {ps : Array Tmp} {assign body : Code} {Q : Exit → Act → World → Prop} {a : Act} {w : World}
    {gf : Nat} {lb : Array Value} (hg : a.eval g = .func (.func gf) #[] lb) (eg : ∀ args w, (callFunc gf args).run P w = .ok (.enter gf args) w)
    {xs : List (Array Value)} {Fp Rd : Nat → Prop} {Pre : World → Prop} (hit : Iter P gf lb Fp Rd xs Pre) (hps : ∀ x ∈ xs, x.size = ps.size)
    (I : Nat → (Nat → Prop) → World → Prop) (O : Nat → Prop) (R : Array Value → Act → World → Prop)
    (hpre : ∀ W, Below w.heap.size w W → Pre W) (hO : ∀ k, O k → k < w.heap.size ∧ ¬ Fp k ∧ ¬ Rd k) (hFp : ∀ k, Fp k → k < w.heap.size)
    (hI : ∀ i O W W', I i O W → Keep (fun k => O k ∨ (k < w.heap.size ∧ ¬ Fp k)) W W' → I i O W') (h0 : I 0 O w)
    (hR : ∀ x a W l o o', W.heap[l]? = some (.loop o) → R x a W → R x a (W.putObj l (.loop o')))
    (hassign : ∀ (l : Nat) (x : Array Value) (W : World) (K : Act → World → Prop), x ∈ xs → (∀ a' W', Below W.heap.size W W' → R x a' W' → K a' W') →
      assign.wpIn (Fence.wide.inRound l) 0 P (Exit.then K (fun _ _ _ => False)) { tmps := (ps.zip x).foldl (fun t (p, v) => t.setIfInBounds p v) a.tmps, defers := [] } W)
    (hbody : ∀ (l i : Nat) (x : Array Value) (O : Nat → Prop) (W : World) (a' : Act), xs[i]? = some x → I i O W → R x a' W → w.heap.size ≤ W.heap.size →
      body.wpIn (Fence.wide.inRound l) 0 P (iterPost I i O W) a' W)
    (hdone : ∀ (D : Nat) (O : Nat → Prop) (W : World), I xs.length O W → w.heap.size ≤ D → W.heap[D]? = some (.deferred (some [])) →
      Q .normal { a with defers := { target := .collected D, args := #[] } :: a.defers } W) :
    (Code.rangeFunc g ps assign body).wp P Q a w := by
  refine (wpIn_wide (n := 0)).1 (wpIn_rangeFunc ?_)
  intro fn hfn
  obtain ⟨rec, hrec⟩ : ∃ rec : LoopState → Option Code → Loop, rec = fun st pe => { state := st, pending := pe, fn, tmps := a.tmps, params := ps, assign, body, defers := w.heap.size } := ⟨_, rfl⟩
  obtain ⟨W1, hW1⟩ : ∃ W1, (w.alloc (.deferred (some []))).alloc (.loop (rec .ready none)) = W1 := ⟨_, rfl⟩
  have hL1 : W1.heap[w.heap.size + 1]? = some (.loop (rec .ready none)) := by
    rw [← hW1]; have := World.alloc_heap_new (w.alloc (.deferred (some []))) (.loop (rec .ready none)); rwa [World.size_alloc] at this
  have hK1 : W1.heap[w.heap.size]? = some (.deferred (some [])) := by
    rw [← hW1]; exact (Below.heap_alloc _ _ _ (by simp)).trans (World.alloc_heap_new w _)
  have hs1 : W1.heap.size = w.heap.size + 2 := by rw [← hW1]; simp
  have hb1 : Below w.heap.size w W1 := by
    rw [← hW1]; exact (((Below.refl _ w).alloc (Nat.le_refl _) _).alloc (by simp) _)
  have hk1 : Keep (fun _ => True) w W1 := by rw [← hW1]; exact ((Keep.refl _ w).alloc _).alloc _
  have hI1 : I 0 O W1 := hI _ _ _ _ h0 (hk1.mono fun _ _ _ => trivial)
  refine ⟨w.heap.size + 1, [{ target := .collected w.heap.size, args := #[] }], W1, { target := .fn (.func gf) lb, args := #[.func (.yield (w.heap.size + 1)) #[] #[]] }, W1, gf,
    #[.func (.yield (w.heap.size + 1)) #[] #[]] ++ lb, W1, ?_, ?_, ?_, ?_, ?_, ?_⟩
  · rw [← hW1, hrec]; exact run_enterLoop_outer _ _ _ _ _
  · simp only [resolve, hg]
    simp [go_sem]
  · intro f' hf'; trivial
  · simp [invoke, go_sem, eg]
  · intro h; cases h
  · let J : Nat → (Nat → Prop) → World → Prop := fun i O W => I i O W ∧ W.heap[w.heap.size + 1]? = some (.loop (rec .ready none)) ∧ W.heap[w.heap.size]? = some (.deferred (some [])) ∧ (∀ k, O k → k < w.heap.size ∨ w.heap.size + 2 ≤ k)
    refine (hit (w.heap.size + 1) J O W1 (hpre _ hb1) (fun k hk => ⟨by have := (hO k hk).1; omega, (hO k hk).2⟩) ?_ ?_ ⟨hI1, hL1, hK1, fun k hk => .inl (hO k hk).1⟩).mono ?_
    · rintro i O' W W' ⟨hi, hl, hd, ho⟩ hk
      have hl' : w.heap.size + 1 < W.heap.size := (Array.getElem?_eq_some_iff.1 hl).1
      refine ⟨hI _ _ _ _ hi (hk.mono fun k _ h => ?_), (hk.block _ hl' ?_).trans hl, (hk.block _ (by omega) ?_).trans hd, ho⟩
      · rcases h with h | h
        · exact .inl h
        · exact .inr ⟨by omega, h.2⟩
      · exact .inr ⟨by omega, fun h => by have := hFp _ h; omega⟩
      · exact .inr ⟨by omega, fun h => by have := hFp _ h; omega⟩
    · rintro i x O' W0 hx ⟨hi0, hl0, hd0, ho⟩ hsz
      have hlt0 : w.heap.size + 1 < W0.heap.size := (Array.getElem?_eq_some_iff.1 hl0).1
      have hxs : x ∈ xs := List.mem_of_getElem? hx
      have hy := run_yield (P := P) (args := x) hl0 (by rw [hrec]; exact hps x hxs)
      rw [hrec] at hy
      refine ⟨fn, _, assign, body, hy, roundIn_of_wpIn hfn (hassign _ x W0 _ hxs fun a' W hb' hr' => ?_)⟩
      have hl : W.heap[w.heap.size + 1]? = some (.loop (rec .ready none)) := below_at hb' hl0 hlt0
      have hd : W.heap[w.heap.size]? = some (.deferred (some [])) := below_at hb' hd0 (by omega)
      have hkW : Keep (fun _ => True) W0 W := Keep.of_below hb' (fun k hk _ => hk)
      have hi : I i O' W := hI _ _ _ _ hi0 (hkW.mono fun _ _ _ => trivial)
      have hlt : w.heap.size + 1 < W.heap.size := (Array.getElem?_eq_some_iff.1 hl).1
      have hszW := hb'.size
      refine ⟨_, run_beginRound hl (by rw [hrec]), ?_⟩
      have hnl : ¬ O' (w.heap.size + 1) := fun h => by have := ho _ h; omega
      have hnd : ¬ O' w.heap.size := fun h => by have := ho _ h; omega
      have hl2 : (W.putObj (w.heap.size + 1) (.loop { rec .ready none with state := .busy })).heap[w.heap.size + 1]? = some (.loop { rec .ready none with state := .busy }) := World.putObj_heap_same hlt
      have hk2 : (W.putObj (w.heap.size + 1) (.loop { rec .ready none with state := .busy })).heap[w.heap.size]? = some (.deferred (some [])) := (World.putObj_heap_other (by omega)).trans hd
      refine wpIn_mono (hbody _ i x O' _ a' hx (hI _ _ _ _ hi ((Keep.refl _ W).putObj (fun _ h => ?_) _)) (hR _ _ _ _ _ _ hl hr') (by rw [World.putObj_size]; omega)) ?_
      · rcases h with h | h
        · exact hnl h
        · omega
      · rintro e a3 W3 hp
        cases e with
        | normal =>
          obtain ⟨O2, hi3, hO2, hk3⟩ := hp
          have hsz3 := hk3.size
          rw [World.putObj_size] at hsz3 hO2
          have hl3 : W3.heap[w.heap.size + 1]? = some (.loop { rec .ready none with state := .busy }) := (hk3.block _ (by rw [World.putObj_size]; exact hlt) hnl).trans hl2
          have hr := run_endRound (P := P) none hl3
          refine ⟨_, _, hr, rfl, O2, ⟨hI _ _ _ _ hi3 ((Keep.refl _ W3).putObj (fun _ h => ?_) _), ?_, ?_, fun k hk => ?_⟩, fun k hk => (hO2 k hk).imp id (fun h => by omega), ?_⟩
          · rcases h with h | h
            · rcases hO2 _ h with h | h
              · exact hnl h
              · omega
            · omega
          · rw [World.putObj_heap_same (by omega)]; simp [hrec]
          · exact (World.putObj_heap_other (by omega)).trans ((hk3.block _ (by rw [World.putObj_size]; omega) hnd).trans hk2)
          · rcases hO2 _ hk with h | h
            · exact ho _ h
            · exact .inr (by omega)
          · have hK2 : Keep (fun k => ¬ O' k) W (W3.putObj (w.heap.size + 1) (.loop { (rec .ready none) with state := .ready, pending := none })) := by
              refine ⟨hk3.os, hk3.tape, hk3.output, by rw [World.putObj_size]; exact hsz3, fun k hk hs => ?_⟩
              by_cases e : k = w.heap.size + 1
              · subst e; rw [World.putObj_heap_same (by omega), hl]; simp [hrec]
              · rw [World.putObj_heap_other e, hk3.block k (by rw [World.putObj_size]; exact hk) hs, World.putObj_heap_other e]
            have := (hkW.mono (S' := fun k => ¬ O' k) fun _ _ _ => trivial).trans hK2
            simpa [hrec] using this
        | ret => exact hp.elim
        | exit id => exact hp.elim
        | goto t => exact hp.elim
        | panic ch => exact hp.elim
        | outgrown => exact hp.elim
    · rintro e W2 ⟨⟨v, rfl⟩, O2, hi, hl, hd, ho⟩
      have hlt : w.heap.size + 1 < W2.heap.size := (Array.getElem?_eq_some_iff.1 hl).1
      refine ⟨none, _, by have := run_endLoop (P := P) hl (by rw [hrec]; simp); rw [hrec] at this; exact this, hdone _ O2 _ (hI _ _ _ _ hi ((Keep.refl _ W2).putObj (fun _ h => ?_) _)) (Nat.le_refl _) ((World.putObj_heap_other (by omega)).trans hd)⟩
      rcases h with h | h
      · have := ho _ h; omega
      · omega
end Go.Proofs.YtppcdmbpbbjecaaGreat.Rf
