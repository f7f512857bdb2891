/- The law of a range over a function whose body leaves at its first round, by a return. No condition. -/
import Derived.Test.YtppcdmbpbbjecaaGreatRf
namespace Go.Proofs.YtppcdmbpbbjecaaGreat.Rf
open Go.RowKit
/-- AN ITERATOR's CLOSURE whose loop's body returns at once: it hands over its first value, if there is one, and stops. -/
def FirstIt (P : Program) (gf : Nat) (lb : Array Value) (x? : Option (Array Value)) (Pre : World → Prop) : Prop :=
  ∀ (l : Nat) (J J1 : World → Prop) (W0 : World), Pre W0 →
    (∀ W W', J W → Below W.heap.size W W' → J W') →
    (∀ W W', J1 W → Below W.heap.size W W' → J1 W') →
    (∀ x W, x? = some x → J W → Below W0.heap.size W0 W → YieldAt Fence.wide 0 P l x W fun e W' => e = .returned (.bool false) ∧ J1 W') →
    J W0 →
    CallsIn Fence.wide 0 P gf (#[.func (.yield l) #[] #[]] ++ lb) W0 fun e W' => (∃ v, e = .returned v) ∧ ((x? = none ∧ J W') ∨ (x?.isSome = true ∧ J1 W'))
variable {P : Program}
theorem wp_first {g : Operand} {ps : Array Tmp} {assign body : Code} {Q : Exit → Act → World → Prop} {a : Act} {w : World}
    {gf : Nat} {lb : Array Value} (hg : a.eval g = .func (.func gf) #[] lb) (eg : ∀ args w, (callFunc gf args).run P w = .ok (.enter gf args) w)
    {x? : Option (Array Value)} {Pre : World → Prop} (hit : FirstIt P gf lb x? Pre) (hps : ∀ x, x? = some x → x.size = ps.size)
    (Ix : World → Prop) (R : Array Value → Act → World → Prop)
    (hpre : ∀ W, Below w.heap.size w W → Pre W) (hIx : ∀ W W', Ix W → Below w.heap.size W W' → w.heap.size ≤ W.heap.size → Ix W')
    (hR : ∀ x a W l o o', W.heap[l]? = some (.loop o) → R x a W → R x a (W.putObj l (.loop o')))
    (hassign : ∀ (l : Nat) (x : Array Value) (W : World) (K : Act → World → Prop), x? = some x → Below w.heap.size w W → (∀ a' W', Below W.heap.size W W' → R x a' W' → K a' W') →
      assign.wpIn (Fence.wide.inRound l) 0 P (Exit.then K (fun _ _ _ => False)) { tmps := (ps.zip x).foldl (fun t (p, v) => t.setIfInBounds p v) a.tmps, defers := [] } W)
    (hbody : ∀ (l : Nat) (x : Array Value) (W : World) (a' : Act), x? = some x → Below w.heap.size w W → R x a' W →
      body.wpIn (Fence.wide.inRound l) 0 P (fun e _ W' => e = .ret ∧ Ix W' ∧ Keep (fun k => w.heap.size ≤ k) W W') a' W)
    (hnone : ∀ (D : Nat) (W : World), x? = none → Below w.heap.size w W → w.heap.size ≤ D → W.heap[D]? = some (.deferred (some [])) →
      Q .normal { a with defers := { target := .collected D, args := #[] } :: a.defers } W)
    (hsome : ∀ (D : Nat) (W : World), x?.isSome = true → Ix W → w.heap.size ≤ D → W.heap[D]? = some (.deferred (some [])) →
      Q .ret { a with defers := { target := .collected D, args := #[] } :: a.defers } W) :
    (Code.rangeFunc g ps assign body).wp P Q a w := by
  refine (wpIn_wide (n := 0)).1 (wpIn_rangeFunc ?_)
  intro fn hfn
  obtain ⟨rec, hrec⟩ : ∃ rec : LoopState → Option Code → Loop, rec = fun st pe => { state := st, pending := pe, fn, tmps := a.tmps, params := ps, assign, body, defers := w.heap.size } := ⟨_, rfl⟩
  obtain ⟨W1, hW1⟩ : ∃ W1, (w.alloc (.deferred (some []))).alloc (.loop (rec .ready none)) = W1 := ⟨_, rfl⟩
  have hL1 : W1.heap[w.heap.size + 1]? = some (.loop (rec .ready none)) := by
    rw [← hW1]; have := World.alloc_heap_new (w.alloc (.deferred (some []))) (.loop (rec .ready none)); rwa [World.size_alloc] at this
  have hK1 : W1.heap[w.heap.size]? = some (.deferred (some [])) := by
    rw [← hW1]; exact (Below.heap_alloc _ _ _ (by simp)).trans (World.alloc_heap_new w _)
  have hs1 : W1.heap.size = w.heap.size + 2 := by rw [← hW1]; simp
  have hb1 : Below w.heap.size w W1 := by
    rw [← hW1]; exact (((Below.refl _ w).alloc (Nat.le_refl _) _).alloc (by simp) _)
  refine ⟨w.heap.size + 1, [{ target := .collected w.heap.size, args := #[] }], W1, { target := .fn (.func gf) lb, args := #[.func (.yield (w.heap.size + 1)) #[] #[]] }, W1, gf,
    #[.func (.yield (w.heap.size + 1)) #[] #[]] ++ lb, W1, ?_, ?_, ?_, ?_, ?_, ?_⟩
  · rw [← hW1, hrec]; exact run_enterLoop_outer _ _ _ _ _
  · simp only [resolve, hg]
    simp [go_sem]
  · intro f' hf'; trivial
  · simp [invoke, go_sem, eg]
  · intro h; cases h
  · let J : World → Prop := fun W => Below w.heap.size w W ∧ W.heap[w.heap.size + 1]? = some (.loop (rec .ready none)) ∧ W.heap[w.heap.size]? = some (.deferred (some []))
    let J1 : World → Prop := fun W => Ix W ∧ w.heap.size ≤ W.heap.size ∧ W.heap[w.heap.size + 1]? = some (.loop (rec .done (some .ret))) ∧ W.heap[w.heap.size]? = some (.deferred (some []))
    refine (hit (w.heap.size + 1) J J1 W1 (hpre _ hb1) ?_ ?_ ?_ ⟨hb1, hL1, hK1⟩).mono ?_
    · rintro W W' ⟨h1, h2, h3⟩ hb
      have hlt := (Array.getElem?_eq_some_iff.1 h2).1
      exact ⟨h1.trans (hb.mono h1.size), below_at hb h2 hlt, below_at hb h3 (by omega)⟩
    · rintro W W' ⟨h1, hs, h2, h3⟩ hb
      have hlt := (Array.getElem?_eq_some_iff.1 h2).1
      exact ⟨hIx _ _ h1 (hb.mono (by omega)) hs, Nat.le_trans hs hb.size, below_at hb h2 hlt, below_at hb h3 (by omega)⟩
    · rintro x W0 hx ⟨hb0, hl0, hd0⟩ hsz
      have hlt0 : w.heap.size + 1 < W0.heap.size := (Array.getElem?_eq_some_iff.1 hl0).1
      have hy := run_yield (P := P) (args := x) hl0 (by rw [hrec]; exact hps x hx)
      rw [hrec] at hy
      refine ⟨fn, _, assign, body, hy, roundIn_of_wpIn hfn (hassign _ x W0 _ hx hb0 fun a' W hb' hr' => ?_)⟩
      have hl : W.heap[w.heap.size + 1]? = some (.loop (rec .ready none)) := below_at hb' hl0 hlt0
      have hd : W.heap[w.heap.size]? = some (.deferred (some [])) := below_at hb' hd0 (by omega)
      have hlt : w.heap.size + 1 < W.heap.size := (Array.getElem?_eq_some_iff.1 hl).1
      have hbW : Below w.heap.size w W := hb0.trans (hb'.mono hb0.size)
      refine ⟨_, run_beginRound hl (by rw [hrec]), ?_⟩
      have hl2 : (W.putObj (w.heap.size + 1) (.loop { rec .ready none with state := .busy })).heap[w.heap.size + 1]? = some (.loop { rec .ready none with state := .busy }) := World.putObj_heap_same hlt
      have hk2 : (W.putObj (w.heap.size + 1) (.loop { rec .ready none with state := .busy })).heap[w.heap.size]? = some (.deferred (some [])) := (World.putObj_heap_other (by omega)).trans hd
      refine wpIn_mono (hbody _ x _ a' hx (below_putObj hbW (by omega) _) (hR _ _ _ _ _ _ hl hr')) ?_
      rintro e a3 W3 ⟨rfl, hi3, hk3⟩
      have hsz3 := hk3.size
      rw [World.putObj_size] at hsz3
      have hl3 : W3.heap[w.heap.size + 1]? = some (.loop { rec .ready none with state := .busy }) := (hk3.block _ (by rw [World.putObj_size]; exact hlt) (by omega)).trans hl2
      have hr := run_endRound (P := P) (some .ret) hl3
      refine ⟨_, _, hr, rfl, hIx _ _ hi3 (below_putObj (Below.refl _ _) (by omega) _) (by omega), by rw [World.putObj_size]; omega, ?_, ?_⟩
      · rw [World.putObj_heap_same (by omega)]; simp [hrec]
      · exact (World.putObj_heap_other (by omega)).trans ((hk3.block _ (by rw [World.putObj_size]; omega) (Nat.le_refl _)).trans hk2)
    · rintro e W2 ⟨⟨v, rfl⟩, ⟨hx, hb, hl, hd⟩ | ⟨hx, hi, hs, hl, hd⟩⟩
      · have hlt : w.heap.size + 1 < W2.heap.size := (Array.getElem?_eq_some_iff.1 hl).1
        exact ⟨none, _, by have := run_endLoop (P := P) hl (by rw [hrec]; simp); rw [hrec] at this; exact this, hnone _ _ hx (below_putObj hb (by omega) _) (Nat.le_refl _) ((World.putObj_heap_other (by omega)).trans hd)⟩
      · have hlt : w.heap.size + 1 < W2.heap.size := (Array.getElem?_eq_some_iff.1 hl).1
        exact ⟨some .ret, _, by have := run_endLoop (P := P) hl (by rw [hrec]; simp); rw [hrec] at this; exact this, wpIn_ret (hsome _ _ hx (hIx _ _ hi (below_putObj (Below.refl _ _) (by omega) _) hs) (Nat.le_refl _) ((World.putObj_heap_other (by omega)).trans hd))⟩
end Go.Proofs.YtppcdmbpbbjecaaGreat.Rf
