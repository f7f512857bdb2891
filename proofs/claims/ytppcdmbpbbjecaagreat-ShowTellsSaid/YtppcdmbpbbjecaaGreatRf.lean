/- The law of a range over a function whose body never leaves its loop, and small lemmas on worlds. No condition. -/
import Derived.RangeFuncNested
import Derived.RangeFuncBound
import Derived.RangeFuncCalls
import Derived.RangeFuncLeaves
import Derived.WalkKit
import Derived.OwnWalkIn
import Derived.TacticsInMore
import Derived.LoopNIn
import Derived.LoopIn
import Derived.ScopeJumps
import Derived.WalkMore
namespace Go.Proofs.YtppcdmbpbbjecaaGreat.Rf
open Go.RowKit

/-- The blocks of S, as far as they were there, lie as they lay; the streams too. -/
structure Keep (S : Nat → Prop) (w w' : World) : Prop where
  os : w'.os = w.os
  tape : w'.tape = w.tape
  output : w'.output = w.output
  size : w.heap.size ≤ w'.heap.size
  block : ∀ k, k < w.heap.size → S k → w'.heap[k]? = w.heap[k]?

theorem Keep.refl (S : Nat → Prop) (w : World) : Keep S w w := ⟨rfl, rfl, rfl, Nat.le_refl _, fun _ _ _ => rfl⟩
theorem Keep.trans {S : Nat → Prop} {a b c : World} (h : Keep S a b) (k : Keep S b c) : Keep S a c :=
  ⟨k.os.trans h.os, k.tape.trans h.tape, k.output.trans h.output, Nat.le_trans h.size k.size, fun i hi hs => (k.block i (Nat.lt_of_lt_of_le hi h.size) hs).trans (h.block i hi hs)⟩
theorem Keep.mono {S S' : Nat → Prop} {w w' : World} (h : Keep S w w') (hs : ∀ k, k < w.heap.size → S' k → S k) : Keep S' w w' :=
  ⟨h.os, h.tape, h.output, h.size, fun k hk hk' => h.block k hk (hs k hk hk')⟩
theorem Keep.drew {S : Nat → Prop} {a w : World} (h : Keep S a w) : Keep S a w.drew := ⟨h.os, h.tape, h.output, h.size, h.block⟩
theorem Keep.alloc {S : Nat → Prop} {a w : World} (h : Keep S a w) (o : Obj) : Keep S a (w.alloc o) :=
  ⟨h.os, h.tape, h.output, Nat.le_trans h.size (by simp), fun k hk hs => (Below.heap_alloc w o k (Nat.lt_of_lt_of_le hk h.size)).trans (h.block k hk hs)⟩
theorem Keep.setCell {S : Nat → Prop} {a w : World} (h : Keep S a w) {p : Addr} (hp : p.block < a.heap.size → ¬ S p.block) (u : Value) : Keep S a (w.setCell p u) :=
  ⟨h.os, h.tape, h.output, by simpa [World.setCell] using h.size, fun k hk hs => (Below.heap_setCell w p u k (by rintro rfl; exact hp hk hs)).trans (h.block k hk hs)⟩
theorem Keep.putObj {S : Nat → Prop} {a w : World} (h : Keep S a w) {l : Nat} (hl : l < a.heap.size → ¬ S l) (o : Obj) : Keep S a (w.putObj l o) :=
  ⟨h.os, h.tape, h.output, by simpa using h.size, fun k hk hs => (World.putObj_heap_other (by rintro rfl; exact hl hk hs)).trans (h.block k hk hs)⟩
theorem Keep.of_below {B : Nat} {a w : World} (h : Below B a w) {S : Nat → Prop} (hS : ∀ k, k < a.heap.size → S k → k < B) : Keep S a w :=
  ⟨h.os, h.tape, h.output, h.size, fun k hk hs => h.block k (hS k hk hs)⟩
theorem Keep.below {B : Nat} {a w : World} {S : Nat → Prop} (h : Keep S a w) (hB : B ≤ a.heap.size) (hS : ∀ k, k < B → S k) : Below B a w :=
  ⟨h.os, h.tape, h.output, h.size, fun k hk => h.block k (Nat.lt_of_lt_of_le hk hB) (hS k hk)⟩
theorem Keep.grown {S : Nat → Prop} {a w w' : World} {row : Option Nat} (h : Keep S a w) (hg : w.grownBy w' row) (hr : ∀ k, row = some k → k < a.heap.size → ¬ S k) : Keep S a w' :=
  ⟨hg.os.trans h.os, hg.tape.trans h.tape, hg.output.trans h.output, Nat.le_trans h.size hg.size,
   fun k hk hs => (hg.block k (Nat.lt_of_lt_of_le hk h.size) (fun e => hr k e.symm hk hs)).trans (h.block k hk hs)⟩

theorem Keep.at_ {S : Nat → Prop} {w w' : World} (h : Keep S w w') {k : Nat} {o : Obj} (hk : w.heap[k]? = some o) (hs : S k) : w'.heap[k]? = some o :=
  (h.block k (Array.getElem?_eq_some_iff.1 hk).1 hs).trans hk
theorem below_at {B : Nat} {w w' : World} (h : Below B w w') {k : Nat} {o : Obj} (hk : w.heap[k]? = some o) (hB : k < B) : w'.heap[k]? = some o := (h.block k hB).trans hk
theorem below_keep {B : Nat} {S : Nat → Prop} {w W W' : World} (h : Below B w W) (hk : Keep S W W') (hB : B ≤ w.heap.size) (hS : ∀ k, k < B → S k) : Below B w W' :=
  h.trans (hk.below (Nat.le_trans hB h.size) hS)
theorem below_putObj {B : Nat} {w W : World} (h : Below B w W) {l : Nat} (hl : B ≤ l) (o : Obj) : Below B w (W.putObj l o) :=
  h.trans ⟨rfl, rfl, rfl, by simp, fun k hk => World.putObj_heap_other (by omega)⟩
theorem new_at {w : World} {n : Nat} (h : w.heap.size = n) (o : Obj) : (w.alloc o).heap[n]? = some o := by subst h; exact World.alloc_heap_new w o
theorem old_at {w : World} {k : Nat} {x : Obj} (h : w.heap[k]? = some x) (o : Obj) : (w.alloc o).heap[k]? = some x := (Below.heap_alloc w o k (Array.getElem?_eq_some_iff.1 h).1).trans h
theorem enters {P : Program} {f : FuncId} {fn : Func} {c : Code} (hf : P.funcs[f]? = some fn) (hname : (fn.name == "runtime.NumGoroutine") = false) (hb : fn.body = some c) (args : Array Value) (w : World) :
    (callFunc f args).run P w = .ok (.enter f args) w := by
  have h1 : fn.name ≠ "runtime.NumGoroutine" := by simpa using hname
  simp [callFunc, hf, h1, hb, mark]
theorem heap_alloc (w : World) (o : Obj) : (w.alloc o).heap = w.heap.push o := rfl
theorem cell_at {w : World} {g : Nat} {t : TypeId} {cs : Array Value} {f : Nat × Nat} (h : w.heap[g]? = some (.cells cs t f)) (i : Nat) : w.cell? ⟨g, i, none⟩ = cs[i]? := cell_of_row w g i cs t f h
theorem free_at {w : World} {g : Nat} {t : TypeId} {cs : Array Value} (h : w.heap[g]? = some (.cells cs t (0, 0))) (i : Nat) : w.frozen? ⟨g, i, none⟩ = false := by simp [World.frozen?, h]
theorem set_at {w : World} {g : Nat} {t : TypeId} {cs : Array Value} {f : Nat × Nat} (h : w.heap[g]? = some (.cells cs t f)) (i : Nat) (u : Value) : (w.setCell ⟨g, i, none⟩ u).heap[g]? = some (.cells (cs.setIfInBounds i u) t f) := by
  simp [World.setCell, Array.getElem?_modify, h]
theorem set_far {w : World} {g : Nat} {o : Obj} (h : w.heap[g]? = some o) {p : Addr} (hp : g ≠ p.block) (u : Value) : (w.setCell p u).heap[g]? = some o := (Below.heap_setCell w p u g hp).trans h

/-- THE CONTRACT OF AN ITERATOR's CLOSURE whose loop's body never stops it: it hands over xs, one by one. Fp: blocks of its own that it may write. Rd: blocks that it reads between two rounds. O: the blocks that the body may write. -/
def Iter (P : Program) (gf : Nat) (lb : Array Value) (Fp Rd : Nat → Prop) (xs : List (Array Value)) (Pre : World → Prop) : Prop :=
  ∀ (l : Nat) (J : Nat → (Nat → Prop) → World → Prop) (O0 : Nat → Prop) (W0 : World),
    Pre W0 → (∀ k, O0 k → k < W0.heap.size ∧ ¬ Fp k ∧ ¬ Rd k) →
    (∀ i O W W', J i O W → Keep (fun k => O k ∨ (k < W0.heap.size ∧ ¬ Fp k)) W W' → J i O W') →
    (∀ i x O W, xs[i]? = some x → J i O W → W0.heap.size ≤ W.heap.size → YieldAt Fence.wide 0 P l x W fun e W' =>
      e = .returned (.bool true) ∧ ∃ O' : Nat → Prop, J (i + 1) O' W' ∧ (∀ k, O' k → O k ∨ W.heap.size ≤ k) ∧ Keep (fun k => ¬ O k) W W') →
    J 0 O0 W0 →
    CallsIn Fence.wide 0 P gf (#[.func (.yield l) #[] #[]] ++ lb) W0 fun e W' => (∃ v, e = .returned v) ∧ ∃ O, J xs.length O W'

/-- What an iterator carries of the rounds behind it. -/
structure Past (O0 : Nat → Prop) (W0 : World) (O : Nat → Prop) (W : World) : Prop where
  keep : Keep (fun k => ¬ O0 k) W0 W
  own : ∀ k, k < W0.heap.size → O k → O0 k
theorem Past.refl (O0 : Nat → Prop) (W0 : World) : Past O0 W0 O0 W0 := ⟨Keep.refl _ _, fun _ _ h => h⟩
theorem Past.next {O0 O O' : Nat → Prop} {W0 W W' : World} (h : Past O0 W0 O W) (ho : ∀ k, O' k → O k ∨ W.heap.size ≤ k) (hk : Keep (fun k => ¬ O k) W W') : Past O0 W0 O' W' :=
  ⟨⟨hk.os.trans h.keep.os, hk.tape.trans h.keep.tape, hk.output.trans h.keep.output, Nat.le_trans h.keep.size hk.size,
    fun k hk1 hk2 => (hk.block k (Nat.lt_of_lt_of_le hk1 h.keep.size) (fun h2 => hk2 (h.own k hk1 h2))).trans (h.keep.block k hk1 hk2)⟩,
   fun k hk1 h2 => by
    rcases ho k h2 with h3 | h3
    · exact h.own k hk1 h3
    · have := h.keep.size; omega⟩
theorem Past.cell {O0 O : Nat → Prop} {W0 W : World} (h : Past O0 W0 O W) {p : Addr} {v : Value} (hc : W0.cell? p = some v) (hp : ¬ O0 p.block) : W.cell? p = some v := by
  have hlt : p.block < W0.heap.size := by
    unfold World.cell? at hc
    cases ho : W0.heap[p.block]? with
    | none => simp [ho] at hc
    | some o => exact (Array.getElem?_eq_some_iff.1 ho).1
  exact (World.cell?_of_block (h.keep.block p.block hlt hp)).trans hc

/-- How a body that never leaves its loop ends. -/
def iterPost (I : Nat → (Nat → Prop) → World → Prop) (i : Nat) (O : Nat → Prop) (W : World) : Exit → Act → World → Prop
  | .normal, _, W' => ∃ O' : Nat → Prop, I (i + 1) O' W' ∧ (∀ k, O' k → O k ∨ W.heap.size ≤ k) ∧ Keep (fun k => ¬ O k) W W'
  | _, _, _ => False

variable {P : Program}

theorem run_max2 {w : World} (ts : Array TypeId) (t : TypeId) (k k' : IntKind) (x y : Int) : (Builtin.max_ ts t #[.int k x, .int k' y]).run P w = .ok (.int k (max x y)) w := by
  rw [run_max_int2]; congr 2; omega
theorem run_min2 {w : World} (ts : Array TypeId) (t : TypeId) (k k' : IntKind) (x y : Int) : (Builtin.min_ ts t #[.int k x, .int k' y]).run P w = .ok (.int k (min x y)) w := by
  rw [run_min_int2]; congr 2; omega

theorem wp_iter {g : Operand} {ps : Array Tmp} {assign body : Code} {Q : Exit → Act → World → Prop} {a : Act} {w : World}
    {gf : Nat} {lb : Array Value} (hg : a.eval g = .func (.func gf) #[] lb) (eg : ∀ args w, (callFunc gf args).run P w = .ok (.enter gf args) w)
    {xs : List (Array Value)} {Fp Rd : Nat → Prop} {Pre : World → Prop} (hit : Iter P gf lb Fp Rd xs Pre) (hps : ∀ x ∈ xs, x.size = ps.size)
    (I : Nat → (Nat → Prop) → World → Prop) (O : Nat → Prop)
    (hpre : ∀ W, Below w.heap.size w W → Pre W) (hO : ∀ k, O k → k < w.heap.size ∧ ¬ Fp k ∧ ¬ Rd k) (hFp : ∀ k, Fp k → k < w.heap.size)
    (hI : ∀ i O W W', I i O W → Keep (fun k => O k ∨ (k < w.heap.size ∧ ¬ Fp k)) W W' → I i O W') (h0 : I 0 O w)
    (a₁ : Array Value → Act)
    (hassign : ∀ (l : Nat) (x : Array Value) (W : World) (K : Act → World → Prop), x ∈ xs → K (a₁ x) W →
      assign.wpIn (Fence.wide.inRound l) 0 P (Exit.then K (fun _ _ _ => False)) { tmps := (ps.zip x).foldl (fun t (p, v) => t.setIfInBounds p v) a.tmps, defers := [] } W)
    (hbody : ∀ (l i : Nat) (x : Array Value) (O : Nat → Prop) (W : World), xs[i]? = some x → I i O W → w.heap.size ≤ W.heap.size →
      body.wpIn (Fence.wide.inRound l) 0 P (iterPost I i O W) (a₁ x) W)
    (hdone : ∀ (D : Nat) (O : Nat → Prop) (W : World), I xs.length O W → w.heap.size ≤ D → W.heap[D]? = some (.deferred (some [])) →
      Q .normal { a with defers := { target := .collected D, args := #[] } :: a.defers } W) :
    (Code.rangeFunc g ps assign body).wp P Q a w := by
  refine (wpIn_wide (n := 0)).1 (wpIn_rangeFunc ?_)
  intro fn hfn
  obtain ⟨rec, hrec⟩ : ∃ rec : LoopState → Option Code → Loop, rec = fun st pe => { state := st, pending := pe, fn, tmps := a.tmps, params := ps, assign, body, defers := w.heap.size } := ⟨_, rfl⟩
  obtain ⟨W1, hW1⟩ : ∃ W1, (w.alloc (.deferred (some []))).alloc (.loop (rec .ready none)) = W1 := ⟨_, rfl⟩
  have hL1 : W1.heap[w.heap.size + 1]? = some (.loop (rec .ready none)) := by
    rw [← hW1]; have := World.alloc_heap_new (w.alloc (.deferred (some []))) (.loop (rec .ready none)); rwa [World.size_alloc] at this
  have hK1 : W1.heap[w.heap.size]? = some (.deferred (some [])) := by
    rw [← hW1]; exact (Below.heap_alloc _ _ _ (by simp)).trans (World.alloc_heap_new w _)
  have hs1 : W1.heap.size = w.heap.size + 2 := by rw [← hW1]; simp
  have hb1 : Below w.heap.size w W1 := by
    rw [← hW1]; exact (((Below.refl _ w).alloc (Nat.le_refl _) _).alloc (by simp) _)
  have hk1 : Keep (fun _ => True) w W1 := by rw [← hW1]; exact ((Keep.refl _ w).alloc _).alloc _
  have hI1 : I 0 O W1 := hI _ _ _ _ h0 (hk1.mono fun _ _ _ => trivial)
  refine ⟨w.heap.size + 1, [{ target := .collected w.heap.size, args := #[] }], W1, { target := .fn (.func gf) lb, args := #[.func (.yield (w.heap.size + 1)) #[] #[]] }, W1, gf,
    #[.func (.yield (w.heap.size + 1)) #[] #[]] ++ lb, W1, ?_, ?_, ?_, ?_, ?_, ?_⟩
  · rw [← hW1, hrec]; exact run_enterLoop_outer _ _ _ _ _
  · simp only [resolve, hg]
    simp [go_sem]
  · intro f' hf'; trivial
  · simp [invoke, go_sem, eg]
  · intro h; cases h
  · let J : Nat → (Nat → Prop) → World → Prop := fun i O W => I i O W ∧ W.heap[w.heap.size + 1]? = some (.loop (rec .ready none)) ∧ W.heap[w.heap.size]? = some (.deferred (some [])) ∧ (∀ k, O k → k < w.heap.size ∨ w.heap.size + 2 ≤ k)
    refine (hit (w.heap.size + 1) J O W1 (hpre _ hb1) (fun k hk => ⟨by have := (hO k hk).1; omega, (hO k hk).2⟩) ?_ ?_ ⟨hI1, hL1, hK1, fun k hk => .inl (hO k hk).1⟩).mono ?_
    · rintro i O' W W' ⟨hi, hl, hd, ho⟩ hk
      have hl' : w.heap.size + 1 < W.heap.size := (Array.getElem?_eq_some_iff.1 hl).1
      refine ⟨hI _ _ _ _ hi (hk.mono fun k _ h => ?_), (hk.block _ hl' ?_).trans hl, (hk.block _ (by omega) ?_).trans hd, ho⟩
      · rcases h with h | h
        · exact .inl h
        · exact .inr ⟨by omega, h.2⟩
      · exact .inr ⟨by omega, fun h => by have := hFp _ h; omega⟩
      · exact .inr ⟨by omega, fun h => by have := hFp _ h; omega⟩
    · rintro i x O' W hx ⟨hi, hl, hd, ho⟩ hsz
      have hlt : w.heap.size + 1 < W.heap.size := (Array.getElem?_eq_some_iff.1 hl).1
      have hxs : x ∈ xs := List.mem_of_getElem? hx
      have hy := run_yield (P := P) (args := x) hl (by rw [hrec]; exact hps x hxs)
      rw [hrec] at hy
      refine ⟨fn, _, assign, body, hy, roundIn_of_wpIn hfn (hassign _ x W _ hxs ⟨_, run_beginRound hl (by rw [hrec]), ?_⟩)⟩
      have hnl : ¬ O' (w.heap.size + 1) := fun h => by have := ho _ h; omega
      have hnd : ¬ O' w.heap.size := fun h => by have := ho _ h; omega
      have hl2 : (W.putObj (w.heap.size + 1) (.loop { rec .ready none with state := .busy })).heap[w.heap.size + 1]? = some (.loop { rec .ready none with state := .busy }) := World.putObj_heap_same hlt
      have hk2 : (W.putObj (w.heap.size + 1) (.loop { rec .ready none with state := .busy })).heap[w.heap.size]? = some (.deferred (some [])) := (World.putObj_heap_other (by omega)).trans hd
      refine wpIn_mono (hbody _ i x O' _ hx (hI _ _ _ _ hi ((Keep.refl _ W).putObj (fun _ h => ?_) _)) (by rw [World.putObj_size]; omega)) ?_
      · rcases h with h | h
        · exact hnl h
        · omega
      · rintro e a3 W3 hp
        cases e with
        | normal =>
          obtain ⟨O2, hi3, hO2, hk3⟩ := hp
          have hsz3 := hk3.size
          rw [World.putObj_size] at hsz3 hO2
          have hl3 : W3.heap[w.heap.size + 1]? = some (.loop { rec .ready none with state := .busy }) := (hk3.block _ (by rw [World.putObj_size]; exact hlt) hnl).trans hl2
          have hr := run_endRound (P := P) none hl3
          refine ⟨_, _, hr, rfl, O2, ⟨hI _ _ _ _ hi3 ((Keep.refl _ W3).putObj (fun _ h => ?_) _), ?_, ?_, fun k hk => ?_⟩, hO2, ?_⟩
          · rcases h with h | h
            · rcases hO2 _ h with h | h
              · exact hnl h
              · omega
            · omega
          · rw [World.putObj_heap_same (by omega)]; simp [hrec]
          · exact (World.putObj_heap_other (by omega)).trans ((hk3.block _ (by rw [World.putObj_size]; omega) hnd).trans hk2)
          · rcases hO2 _ hk with h | h
            · exact ho _ h
            · exact .inr (by omega)
          · refine ⟨hk3.os, hk3.tape, hk3.output, by rw [World.putObj_size]; exact hsz3, fun k hk hs => ?_⟩
            by_cases e : k = w.heap.size + 1
            · subst e; rw [World.putObj_heap_same (by omega), hl]; simp [hrec]
            · rw [World.putObj_heap_other e, hk3.block k (by rw [World.putObj_size]; exact hk) hs, World.putObj_heap_other e]
        | ret => exact hp.elim
        | exit id => exact hp.elim
        | goto t => exact hp.elim
        | panic ch => exact hp.elim
        | outgrown => exact hp.elim
    · rintro e W2 ⟨⟨v, rfl⟩, O2, hi, hl, hd, ho⟩
      have hlt : w.heap.size + 1 < W2.heap.size := (Array.getElem?_eq_some_iff.1 hl).1
      refine ⟨none, _, by have := run_endLoop (P := P) hl (by rw [hrec]; simp); rw [hrec] at this; exact this, hdone _ O2 _ (hI _ _ _ _ hi ((Keep.refl _ W2).putObj (fun _ h => ?_) _)) (Nat.le_refl _) ((World.putObj_heap_other (by omega)).trans hd)⟩
      rcases h with h | h
      · have := ho _ h; omega
      · omega

/-- THE RETURN OF A FUNCTION IN WHICH ONE SUCH LOOP HAS RUN: its mark is taken up. -/
theorem bodyPostM_mark {P : Program} {fn : Func} {R : Ending → World → Prop} {t : Tmp} (hf : fn.results = #[.tmp t]) {e : Exit} (he : e = .normal ∨ e = .ret) {tmps : Array Value} {D : Nat} {W : World}
    (hD : W.heap[D]? = some (.deferred (some []))) (h : R (.returned (tmps.getD t undef)) (W.putObj D (.deferred none))) :
    bodyPostM Fence.wide 0 P fn R e { tmps := tmps, defers := [{ target := .collected D, args := #[] }] } W := by
  rcases he with rfl | rfl
  all_goals
    refine ⟨by simp, .inl ⟨_, _, rfl, run_takeDeferred hD, ?_⟩⟩
    exact ⟨_, results_tmp hf _ _ _, h⟩

section
variable {Q : Exit → Act → World → Prop} {a : Act} {w : World} {J : Act → World → Prop} {l : Nat}
theorem jump_ret : Exit.jump l J Q .ret a w = Q .ret a w := rfl
theorem jump_normal : Exit.jump l J Q .normal a w = Q .normal a w := rfl
theorem jump_goto : Exit.jump l J Q (.goto l) a w = J a w := by simp [Exit.jump]
/-- A SCOPE WITH ONE LABEL, jumped to from ahead of it alone. -/
theorem wp_scope_fwd {c rest : Code} (l : Nat) (hf : findLabel c l = some rest) (h : c.wp P (Exit.jump l (fun a' w' => rest.wp P (Exit.noGoto Q) a' w') Q) a w) : (Code.scope c).wp P Q a w := by
  refine wp_scope_jumps l (fun a' w' => rest.wp P (Exit.noGoto Q) a' w') (fun _ _ => 0) hf h fun a' w' h' => Code.wp_mono (fun e a w q => ?_) h'
  cases e <;> first | exact q | exact q.elim
end
#print axioms wp_iter
end Go.Proofs.YtppcdmbpbbjecaaGreat.Rf
