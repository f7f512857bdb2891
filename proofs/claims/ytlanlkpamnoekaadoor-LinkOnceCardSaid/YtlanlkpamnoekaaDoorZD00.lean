/- Contracts of functions and words for memory. Nothing that was there is turned. -/
import Derived.RangeFuncNested
import Derived.RangeFuncBound
import Derived.RangeFuncCalls
import Derived.RangeFuncLeaves
import Derived.WalkKit
import Derived.OwnWalkIn
import Derived.TacticsInMore
import Derived.LoopNIn
import Derived.LoopIn
import Derived.ScopeJumps
import Derived.WalkMore
import Derived.Test.YtlanlkpamnoekaaDoorRows
import Derived.BigFrameIn
import Derived.OpenShut
import Derived.StillTailTactics
import Derived.Outline
import Derived.ProofKit
import Derived.Deep.Slices
import Derived.Lib.Hide
import Derived.Maps.AppendAt
import Derived.Deep.OwnRows
import Derived.Laws.BitsAllLaws
import Derived.BigQuiet
import Derived.Deep.QuietTactic
import Derived.Deep.RegionHeld3
import Derived.Deep.DrawnRows
import Derived.WalkSpells
import Derived.Laws.BytesArg
import Derived.Lib.Bytes
set_option linter.unusedSimpArgs false
set_option linter.unusedVariables false
namespace Go.Proofs.YtlanlkpamnoekaaDoor.Rf
open Go.RowKit

/-- The blocks of S, as far as they were there, lie as they lay; the streams too. -/
structure Keep (S : Nat → Prop) (w w' : World) : Prop where
  os : w'.os = w.os
  tape : w'.tape = w.tape
  output : w'.output = w.output
  size : w.heap.size ≤ w'.heap.size
  block : ∀ k, k < w.heap.size → S k → w'.heap[k]? = w.heap[k]?

theorem Keep.refl (S : Nat → Prop) (w : World) : Keep S w w := ⟨rfl, rfl, rfl, Nat.le_refl _, fun _ _ _ => rfl⟩
theorem Keep.trans {S : Nat → Prop} {a b c : World} (h : Keep S a b) (k : Keep S b c) : Keep S a c :=
  ⟨k.os.trans h.os, k.tape.trans h.tape, k.output.trans h.output, Nat.le_trans h.size k.size, fun i hi hs => (k.block i (Nat.lt_of_lt_of_le hi h.size) hs).trans (h.block i hi hs)⟩
theorem Keep.mono {S S' : Nat → Prop} {w w' : World} (h : Keep S w w') (hs : ∀ k, k < w.heap.size → S' k → S k) : Keep S' w w' :=
  ⟨h.os, h.tape, h.output, h.size, fun k hk hk' => h.block k hk (hs k hk hk')⟩
theorem Keep.drew {S : Nat → Prop} {a w : World} (h : Keep S a w) : Keep S a w.drew := ⟨h.os, h.tape, h.output, h.size, h.block⟩
theorem Keep.alloc {S : Nat → Prop} {a w : World} (h : Keep S a w) (o : Obj) : Keep S a (w.alloc o) :=
  ⟨h.os, h.tape, h.output, Nat.le_trans h.size (by simp), fun k hk hs => (Below.heap_alloc w o k (Nat.lt_of_lt_of_le hk h.size)).trans (h.block k hk hs)⟩
theorem Keep.setCell {S : Nat → Prop} {a w : World} (h : Keep S a w) {p : Addr} (hp : p.block < a.heap.size → ¬ S p.block) (u : Value) : Keep S a (w.setCell p u) :=
  ⟨h.os, h.tape, h.output, by simpa [World.setCell] using h.size, fun k hk hs => (Below.heap_setCell w p u k (by rintro rfl; exact hp hk hs)).trans (h.block k hk hs)⟩
theorem Keep.putObj {S : Nat → Prop} {a w : World} (h : Keep S a w) {l : Nat} (hl : l < a.heap.size → ¬ S l) (o : Obj) : Keep S a (w.putObj l o) :=
  ⟨h.os, h.tape, h.output, by simpa using h.size, fun k hk hs => (World.putObj_heap_other (by rintro rfl; exact hl hk hs)).trans (h.block k hk hs)⟩
theorem Keep.of_below {B : Nat} {a w : World} (h : Below B a w) {S : Nat → Prop} (hS : ∀ k, k < a.heap.size → S k → k < B) : Keep S a w :=
  ⟨h.os, h.tape, h.output, h.size, fun k hk hs => h.block k (hS k hk hs)⟩
theorem Keep.below {B : Nat} {a w : World} {S : Nat → Prop} (h : Keep S a w) (hB : B ≤ a.heap.size) (hS : ∀ k, k < B → S k) : Below B a w :=
  ⟨h.os, h.tape, h.output, h.size, fun k hk => h.block k (Nat.lt_of_lt_of_le hk hB) (hS k hk)⟩
theorem Keep.grown {S : Nat → Prop} {a w w' : World} {row : Option Nat} (h : Keep S a w) (hg : w.grownBy w' row) (hr : ∀ k, row = some k → k < a.heap.size → ¬ S k) : Keep S a w' :=
  ⟨hg.os.trans h.os, hg.tape.trans h.tape, hg.output.trans h.output, Nat.le_trans h.size hg.size,
   fun k hk hs => (hg.block k (Nat.lt_of_lt_of_le hk h.size) (fun e => hr k e.symm hk hs)).trans (h.block k hk hs)⟩

theorem Keep.at_ {S : Nat → Prop} {w w' : World} (h : Keep S w w') {k : Nat} {o : Obj} (hk : w.heap[k]? = some o) (hs : S k) : w'.heap[k]? = some o :=
  (h.block k (Array.getElem?_eq_some_iff.1 hk).1 hs).trans hk
theorem below_at {B : Nat} {w w' : World} (h : Below B w w') {k : Nat} {o : Obj} (hk : w.heap[k]? = some o) (hB : k < B) : w'.heap[k]? = some o := (h.block k hB).trans hk
theorem below_keep {B : Nat} {S : Nat → Prop} {w W W' : World} (h : Below B w W) (hk : Keep S W W') (hB : B ≤ w.heap.size) (hS : ∀ k, k < B → S k) : Below B w W' :=
  h.trans (hk.below (Nat.le_trans hB h.size) hS)
theorem below_putObj {B : Nat} {w W : World} (h : Below B w W) {l : Nat} (hl : B ≤ l) (o : Obj) : Below B w (W.putObj l o) :=
  h.trans ⟨rfl, rfl, rfl, by simp, fun k hk => World.putObj_heap_other (by omega)⟩
theorem new_at {w : World} {n : Nat} (h : w.heap.size = n) (o : Obj) : (w.alloc o).heap[n]? = some o := by subst h; exact World.alloc_heap_new w o
theorem old_at {w : World} {k : Nat} {x : Obj} (h : w.heap[k]? = some x) (o : Obj) : (w.alloc o).heap[k]? = some x := (Below.heap_alloc w o k (Array.getElem?_eq_some_iff.1 h).1).trans h
theorem enters {P : Program} {f : FuncId} {fn : Func} {c : Code} (hf : P.funcs[f]? = some fn) (hname : (fn.name == "runtime.NumGoroutine") = false) (hb : fn.body = some c) (args : Array Value) (w : World) :
    (callFunc f args).run P w = .ok (.enter f args) w := by
  have h1 : fn.name ≠ "runtime.NumGoroutine" := by simpa using hname
  simp [callFunc, hf, h1, hb, mark]
theorem heap_alloc (w : World) (o : Obj) : (w.alloc o).heap = w.heap.push o := rfl
theorem cell_at {w : World} {g : Nat} {t : TypeId} {cs : Array Value} {f : Nat × Nat} (h : w.heap[g]? = some (.cells cs t f)) (i : Nat) : w.cell? ⟨g, i, none⟩ = cs[i]? := cell_of_row w g i cs t f h
theorem free_at {w : World} {g : Nat} {t : TypeId} {cs : Array Value} (h : w.heap[g]? = some (.cells cs t (0, 0))) (i : Nat) : w.frozen? ⟨g, i, none⟩ = false := by simp [World.frozen?, h]
theorem set_at {w : World} {g : Nat} {t : TypeId} {cs : Array Value} {f : Nat × Nat} (h : w.heap[g]? = some (.cells cs t f)) (i : Nat) (u : Value) : (w.setCell ⟨g, i, none⟩ u).heap[g]? = some (.cells (cs.setIfInBounds i u) t f) := by
  simp [World.setCell, Array.getElem?_modify, h]
theorem set_far {w : World} {g : Nat} {o : Obj} (h : w.heap[g]? = some o) {p : Addr} (hp : g ≠ p.block) (u : Value) : (w.setCell p u).heap[g]? = some o := (Below.heap_setCell w p u g hp).trans h

/-- THE CONTRACT OF AN ITERATOR's CLOSURE whose loop's body never stops it: it hands over xs, one by one. Fp: blocks of its own that it may write. Rd: blocks that it reads between two rounds. O: the blocks that the body may write. -/
def Iter (P : Program) (gf : Nat) (lb : Array Value) (Fp Rd : Nat → Prop) (xs : List (Array Value)) (Pre : World → Prop) : Prop :=
  ∀ (l : Nat) (J : Nat → (Nat → Prop) → World → Prop) (O0 : Nat → Prop) (W0 : World),
    Pre W0 → (∀ k, O0 k → k < W0.heap.size ∧ ¬ Fp k ∧ ¬ Rd k) →
    (∀ i O W W', J i O W → Keep (fun k => O k ∨ (k < W0.heap.size ∧ ¬ Fp k)) W W' → J i O W') →
    (∀ i x O W, xs[i]? = some x → J i O W → W0.heap.size ≤ W.heap.size → YieldAt Fence.wide 0 P l x W fun e W' =>
      e = .returned (.bool true) ∧ ∃ O' : Nat → Prop, J (i + 1) O' W' ∧ (∀ k, O' k → O k ∨ W.heap.size ≤ k) ∧ Keep (fun k => ¬ O k) W W') →
    J 0 O0 W0 →
    CallsIn Fence.wide 0 P gf (#[.func (.yield l) #[] #[]] ++ lb) W0 fun e W' => (∃ v, e = .returned v) ∧ ∃ O, J xs.length O W'

/-- What an iterator carries of the rounds behind it. -/
structure Past (O0 : Nat → Prop) (W0 : World) (O : Nat → Prop) (W : World) : Prop where
  keep : Keep (fun k => ¬ O0 k) W0 W
  own : ∀ k, k < W0.heap.size → O k → O0 k
theorem Past.refl (O0 : Nat → Prop) (W0 : World) : Past O0 W0 O0 W0 := ⟨Keep.refl _ _, fun _ _ h => h⟩
theorem Past.next {O0 O O' : Nat → Prop} {W0 W W' : World} (h : Past O0 W0 O W) (ho : ∀ k, O' k → O k ∨ W.heap.size ≤ k) (hk : Keep (fun k => ¬ O k) W W') : Past O0 W0 O' W' :=
  ⟨⟨hk.os.trans h.keep.os, hk.tape.trans h.keep.tape, hk.output.trans h.keep.output, Nat.le_trans h.keep.size hk.size,
    fun k hk1 hk2 => (hk.block k (Nat.lt_of_lt_of_le hk1 h.keep.size) (fun h2 => hk2 (h.own k hk1 h2))).trans (h.keep.block k hk1 hk2)⟩,
   fun k hk1 h2 => by
    rcases ho k h2 with h3 | h3
    · exact h.own k hk1 h3
    · have := h.keep.size; omega⟩
theorem Past.cell {O0 O : Nat → Prop} {W0 W : World} (h : Past O0 W0 O W) {p : Addr} {v : Value} (hc : W0.cell? p = some v) (hp : ¬ O0 p.block) : W.cell? p = some v := by
  have hlt : p.block < W0.heap.size := by
    unfold World.cell? at hc
    cases ho : W0.heap[p.block]? with
    | none => simp [ho] at hc
    | some o => exact (Array.getElem?_eq_some_iff.1 ho).1
  exact (World.cell?_of_block (h.keep.block p.block hlt hp)).trans hc

/-- How a body that never leaves its loop ends. -/
def iterPost (I : Nat → (Nat → Prop) → World → Prop) (i : Nat) (O : Nat → Prop) (W : World) : Exit → Act → World → Prop
  | .normal, _, W' => ∃ O' : Nat → Prop, I (i + 1) O' W' ∧ (∀ k, O' k → O k ∨ W.heap.size ≤ k) ∧ Keep (fun k => ¬ O k) W W'
  | _, _, _ => False

variable {P : Program}

theorem run_max2 {w : World} (ts : Array TypeId) (t : TypeId) (k k' : IntKind) (x y : Int) : (Builtin.max_ ts t #[.int k x, .int k' y]).run P w = .ok (.int k (max x y)) w := by
  rw [run_max_int2]; congr 2; omega
theorem run_min2 {w : World} (ts : Array TypeId) (t : TypeId) (k k' : IntKind) (x y : Int) : (Builtin.min_ ts t #[.int k x, .int k' y]).run P w = .ok (.int k (min x y)) w := by
  rw [run_min_int2]; congr 2; omega

theorem wp_iter {g : Operand} {ps : Array Tmp} {assign body : Code} {Q : Exit → Act → World → Prop} {a : Act} {w : World}
    {gf : Nat} {lb : Array Value} (hg : a.eval g = .func (.func gf) #[] lb) (eg : ∀ args w, (callFunc gf args).run P w = .ok (.enter gf args) w)
    {xs : List (Array Value)} {Fp Rd : Nat → Prop} {Pre : World → Prop} (hit : Iter P gf lb Fp Rd xs Pre) (hps : ∀ x ∈ xs, x.size = ps.size)
    (I : Nat → (Nat → Prop) → World → Prop) (O : Nat → Prop)
    (hpre : ∀ W, Below w.heap.size w W → Pre W) (hO : ∀ k, O k → k < w.heap.size ∧ ¬ Fp k ∧ ¬ Rd k) (hFp : ∀ k, Fp k → k < w.heap.size)
    (hI : ∀ i O W W', I i O W → Keep (fun k => O k ∨ (k < w.heap.size ∧ ¬ Fp k)) W W' → I i O W') (h0 : I 0 O w)
    (a₁ : Array Value → Act)
    (hassign : ∀ (l : Nat) (x : Array Value) (W : World) (K : Act → World → Prop), x ∈ xs → K (a₁ x) W →
      assign.wpIn (Fence.wide.inRound l) 0 P (Exit.then K (fun _ _ _ => False)) { tmps := (ps.zip x).foldl (fun t (p, v) => t.setIfInBounds p v) a.tmps, defers := [] } W)
    (hbody : ∀ (l i : Nat) (x : Array Value) (O : Nat → Prop) (W : World), xs[i]? = some x → I i O W → w.heap.size ≤ W.heap.size →
      body.wpIn (Fence.wide.inRound l) 0 P (iterPost I i O W) (a₁ x) W)
    (hdone : ∀ (D : Nat) (O : Nat → Prop) (W : World), I xs.length O W → w.heap.size ≤ D → W.heap[D]? = some (.deferred (some [])) →
      Q .normal { a with defers := { target := .collected D, args := #[] } :: a.defers } W) :
    (Code.rangeFunc g ps assign body).wp P Q a w := by
  refine (wpIn_wide (n := 0)).1 (wpIn_rangeFunc ?_)
  intro fn hfn
  obtain ⟨rec, hrec⟩ : ∃ rec : LoopState → Option Code → Loop, rec = fun st pe => { state := st, pending := pe, fn, tmps := a.tmps, params := ps, assign, body, defers := w.heap.size } := ⟨_, rfl⟩
  obtain ⟨W1, hW1⟩ : ∃ W1, (w.alloc (.deferred (some []))).alloc (.loop (rec .ready none)) = W1 := ⟨_, rfl⟩
  have hL1 : W1.heap[w.heap.size + 1]? = some (.loop (rec .ready none)) := by
    rw [← hW1]; have := World.alloc_heap_new (w.alloc (.deferred (some []))) (.loop (rec .ready none)); rwa [World.size_alloc] at this
  have hK1 : W1.heap[w.heap.size]? = some (.deferred (some [])) := by
    rw [← hW1]; exact (Below.heap_alloc _ _ _ (by simp)).trans (World.alloc_heap_new w _)
  have hs1 : W1.heap.size = w.heap.size + 2 := by rw [← hW1]; simp
  have hb1 : Below w.heap.size w W1 := by
    rw [← hW1]; exact (((Below.refl _ w).alloc (Nat.le_refl _) _).alloc (by simp) _)
  have hk1 : Keep (fun _ => True) w W1 := by rw [← hW1]; exact ((Keep.refl _ w).alloc _).alloc _
  have hI1 : I 0 O W1 := hI _ _ _ _ h0 (hk1.mono fun _ _ _ => trivial)
  refine ⟨w.heap.size + 1, [{ target := .collected w.heap.size, args := #[] }], W1, { target := .fn (.func gf) lb, args := #[.func (.yield (w.heap.size + 1)) #[] #[]] }, W1, gf,
    #[.func (.yield (w.heap.size + 1)) #[] #[]] ++ lb, W1, ?_, ?_, ?_, ?_, ?_, ?_⟩
  · rw [← hW1, hrec]; exact run_enterLoop_outer _ _ _ _ _
  · simp only [resolve, hg]
    simp [go_sem]
  · intro f' hf'; trivial
  · simp [invoke, go_sem, eg]
  · intro h; cases h
  · let J : Nat → (Nat → Prop) → World → Prop := fun i O W => I i O W ∧ W.heap[w.heap.size + 1]? = some (.loop (rec .ready none)) ∧ W.heap[w.heap.size]? = some (.deferred (some [])) ∧ (∀ k, O k → k < w.heap.size ∨ w.heap.size + 2 ≤ k)
    refine (hit (w.heap.size + 1) J O W1 (hpre _ hb1) (fun k hk => ⟨by have := (hO k hk).1; omega, (hO k hk).2⟩) ?_ ?_ ⟨hI1, hL1, hK1, fun k hk => .inl (hO k hk).1⟩).mono ?_
    · rintro i O' W W' ⟨hi, hl, hd, ho⟩ hk
      have hl' : w.heap.size + 1 < W.heap.size := (Array.getElem?_eq_some_iff.1 hl).1
      refine ⟨hI _ _ _ _ hi (hk.mono fun k _ h => ?_), (hk.block _ hl' ?_).trans hl, (hk.block _ (by omega) ?_).trans hd, ho⟩
      · rcases h with h | h
        · exact .inl h
        · exact .inr ⟨by omega, h.2⟩
      · exact .inr ⟨by omega, fun h => by have := hFp _ h; omega⟩
      · exact .inr ⟨by omega, fun h => by have := hFp _ h; omega⟩
    · rintro i x O' W hx ⟨hi, hl, hd, ho⟩ hsz
      have hlt : w.heap.size + 1 < W.heap.size := (Array.getElem?_eq_some_iff.1 hl).1
      have hxs : x ∈ xs := List.mem_of_getElem? hx
      have hy := run_yield (P := P) (args := x) hl (by rw [hrec]; exact hps x hxs)
      rw [hrec] at hy
      refine ⟨fn, _, assign, body, hy, roundIn_of_wpIn hfn (hassign _ x W _ hxs ⟨_, run_beginRound hl (by rw [hrec]), ?_⟩)⟩
      have hnl : ¬ O' (w.heap.size + 1) := fun h => by have := ho _ h; omega
      have hnd : ¬ O' w.heap.size := fun h => by have := ho _ h; omega
      have hl2 : (W.putObj (w.heap.size + 1) (.loop { rec .ready none with state := .busy })).heap[w.heap.size + 1]? = some (.loop { rec .ready none with state := .busy }) := World.putObj_heap_same hlt
      have hk2 : (W.putObj (w.heap.size + 1) (.loop { rec .ready none with state := .busy })).heap[w.heap.size]? = some (.deferred (some [])) := (World.putObj_heap_other (by omega)).trans hd
      refine wpIn_mono (hbody _ i x O' _ hx (hI _ _ _ _ hi ((Keep.refl _ W).putObj (fun _ h => ?_) _)) (by rw [World.putObj_size]; omega)) ?_
      · rcases h with h | h
        · exact hnl h
        · omega
      · rintro e a3 W3 hp
        cases e with
        | normal =>
          obtain ⟨O2, hi3, hO2, hk3⟩ := hp
          have hsz3 := hk3.size
          rw [World.putObj_size] at hsz3 hO2
          have hl3 : W3.heap[w.heap.size + 1]? = some (.loop { rec .ready none with state := .busy }) := (hk3.block _ (by rw [World.putObj_size]; exact hlt) hnl).trans hl2
          have hr := run_endRound (P := P) none hl3
          refine ⟨_, _, hr, rfl, O2, ⟨hI _ _ _ _ hi3 ((Keep.refl _ W3).putObj (fun _ h => ?_) _), ?_, ?_, fun k hk => ?_⟩, hO2, ?_⟩
          · rcases h with h | h
            · rcases hO2 _ h with h | h
              · exact hnl h
              · omega
            · omega
          · rw [World.putObj_heap_same (by omega)]; simp [hrec]
          · exact (World.putObj_heap_other (by omega)).trans ((hk3.block _ (by rw [World.putObj_size]; omega) hnd).trans hk2)
          · rcases hO2 _ hk with h | h
            · exact ho _ h
            · exact .inr (by omega)
          · refine ⟨hk3.os, hk3.tape, hk3.output, by rw [World.putObj_size]; exact hsz3, fun k hk hs => ?_⟩
            by_cases e : k = w.heap.size + 1
            · subst e; rw [World.putObj_heap_same (by omega), hl]; simp [hrec]
            · rw [World.putObj_heap_other e, hk3.block k (by rw [World.putObj_size]; exact hk) hs, World.putObj_heap_other e]
        | ret => exact hp.elim
        | exit id => exact hp.elim
        | goto t => exact hp.elim
        | panic ch => exact hp.elim
        | outgrown => exact hp.elim
    · rintro e W2 ⟨⟨v, rfl⟩, O2, hi, hl, hd, ho⟩
      have hlt : w.heap.size + 1 < W2.heap.size := (Array.getElem?_eq_some_iff.1 hl).1
      refine ⟨none, _, by have := run_endLoop (P := P) hl (by rw [hrec]; simp); rw [hrec] at this; exact this, hdone _ O2 _ (hI _ _ _ _ hi ((Keep.refl _ W2).putObj (fun _ h => ?_) _)) (Nat.le_refl _) ((World.putObj_heap_other (by omega)).trans hd)⟩
      rcases h with h | h
      · have := ho _ h; omega
      · omega

/-- THE RETURN OF A FUNCTION IN WHICH ONE SUCH LOOP HAS RUN: its mark is taken up. -/
theorem bodyPostM_mark {P : Program} {fn : Func} {R : Ending → World → Prop} {t : Tmp} (hf : fn.results = #[.tmp t]) {e : Exit} (he : e = .normal ∨ e = .ret) {tmps : Array Value} {D : Nat} {W : World}
    (hD : W.heap[D]? = some (.deferred (some []))) (h : R (.returned (tmps.getD t undef)) (W.putObj D (.deferred none))) :
    bodyPostM Fence.wide 0 P fn R e { tmps := tmps, defers := [{ target := .collected D, args := #[] }] } W := by
  rcases he with rfl | rfl
  all_goals
    refine ⟨by simp, .inl ⟨_, _, rfl, run_takeDeferred hD, ?_⟩⟩
    exact ⟨_, results_tmp hf _ _ _, h⟩

section
variable {Q : Exit → Act → World → Prop} {a : Act} {w : World} {J : Act → World → Prop} {l : Nat}
theorem jump_ret : Exit.jump l J Q .ret a w = Q .ret a w := rfl
theorem jump_normal : Exit.jump l J Q .normal a w = Q .normal a w := rfl
theorem jump_goto : Exit.jump l J Q (.goto l) a w = J a w := by simp [Exit.jump]
/-- A SCOPE WITH ONE LABEL, jumped to from ahead of it alone. -/
theorem wp_scope_fwd {c rest : Code} (l : Nat) (hf : findLabel c l = some rest) (h : c.wp P (Exit.jump l (fun a' w' => rest.wp P (Exit.noGoto Q) a' w') Q) a w) : (Code.scope c).wp P Q a w := by
  refine wp_scope_jumps l (fun a' w' => rest.wp P (Exit.noGoto Q) a' w') (fun _ _ => 0) hf h fun a' w' h' => Code.wp_mono (fun e a w q => ?_) h'
  cases e <;> first | exact q | exact q.elim
end
#print axioms wp_iter
end Go.Proofs.YtlanlkpamnoekaaDoor.Rf
namespace Go.Proofs.YtlanlkpamnoekaaDoor
set_option maxRecDepth 100000
open Go.RowKit Rf
attribute [local go_sem] Oper.semAt_some
def UpPre (what n by_ top : Int) (b0 b1 b2 : Nat) (W : World) : Prop :=
  W.cell? ⟨b0,0,none⟩ = some (.int .i64 by_) ∧ W.frozen? ⟨b0,0,none⟩ = false ∧ W.cell? ⟨b1,0,none⟩ = some (.int .i64 what) ∧ W.cell? ⟨b2,0,none⟩ = some (.int .i64 n) ∧ W.cell? ⟨0, what.toNat, none⟩ = some (.int .i64 top)
def upBy (n by_ top : Int) : Int := min (max by_ 0) (top - n)
def upList (n by_ top : Int) : List (Array Value) := if 0 < upBy n by_ top then [#[.int .i64 (n + upBy n by_ top)]] else []
attribute [local go_sem ↓] run_max2 run_min2
set_option maxHeartbeats 400000 in
theorem up1 (top : Int) (what n by_ : Int) (b0 b1 b2 : Nat) (hw : what = 0 ∨ what = 1) (hn : 0 ≤ n) (hn1 : n ≤ top) (ht : top ≤ 1073741824)
   (h02 : b0 ≠ b2) :
   Iter Tryd.prog 73 #[.pointer (some ⟨b0, 0, none⟩), .pointer (some ⟨b1, 0, none⟩), .pointer (some ⟨b2, 0, none⟩)] (fun k => k = b0) (fun _ => False) (upList n by_ top) (UpPre what n by_ top b0 b1 b2) := by
  intro l J O0 W0 hP hO hJ hY h0
  obtain ⟨c0, c1, c2, c3, c4⟩ := hP
  refine callsIn_of_wp Tryd.func73 rfl trivial ?_ rfl
  simp only [Tryd.ntmps73, List.size_toArray, List.length_cons, List.length_nil, Nat.reduceAdd, Nat.reduceSub, Array.replicate_succ, Array.replicate_zero, List.push_toArray, List.append_toArray, List.nil_append, List.cons_append]
  have hkeep : ∀ u : Value, J 0 O0 (W0.setCell ⟨b0, 0, none⟩ u).drew := fun u => hJ _ _ _ _ h0
    (((Keep.refl _ W0).setCell (fun _ h => by rcases h with h | h; exact (hO _ h).2.1 rfl; exact h.2 rfl) u).drew)
  have hx : upList n by_ top = if 0 < upBy n by_ top then [#[.int .i64 (n + upBy n by_ top)]] else [] := rfl
  have hu : min (max by_ 0) (top - n) = upBy n by_ top := rfl
  have hu1 : upBy n by_ top ≤ top - n := by unfold upBy; omega
  have hwr : IntKind.i64.wrap (top - n) = top - n := IntWalk.i64_in _ (by omega)
  have hwr2 : IntKind.i64.wrap (n + upBy n by_ top) = n + upBy n by_ top := IntWalk.i64_in _ (by unfold upBy at *; omega)
  generalize upBy n by_ top = m at *
  rcases hw with rfl | rfl
  all_goals
    simp only [Int.toNat_zero, Int.toNat_one] at c4
    by_cases hb : 0 < m
    · rw [if_pos hb] at hx
      obtain ⟨fn, tmps, assign, body, hy, hR⟩ := hY 0 #[.int .i64 (n + m)] O0 _ (by rw [hx]; rfl) (hkeep (.int .i64 m)) (by simp [World.setCell])
      rw [hx]; clear hx hkeep hJ
      gi_wp2
      refine wpIn_wide.2 ?_
      go_still_tail 8, (by kernel_rfl)
      change wpList _ _ _ _ _ W0.drew
      go_wp2
      gi_wp2
      refine ⟨rfl, hR.mono ?_⟩
      rintro e W' ⟨rfl, O', hJ', _, _⟩
      gi_wp2
      go_end0
      exact ⟨⟨_, rfl⟩, O', hJ'⟩
    · rw [if_neg hb] at hx
      have hk := hkeep (.int .i64 m)
      rw [hx]; clear hx hkeep hJ
      gi_wp2
      refine wpIn_wide.2 ?_
      go_still_tail 8, (by kernel_rfl)
      change wpList _ _ _ _ _ W0.drew
      go_wp2
      gi_wp2
      go_end0
      exact ⟨⟨_, rfl⟩, O0, hk⟩
structure Tops (w : World) : Prop where
  c0 : w.cell? ⟨0, 0, none⟩ = some (.int .i64 1073741824)
  c1 : w.cell? ⟨0, 1, none⟩ = some (.int .i64 65535)
  sz : 0 < w.heap.size
theorem Tops.below {w w' : World} (h : Tops w) (hb : Below w.heap.size w w') : Tops w' :=
  ⟨(hb.cell (p := ⟨0,0,none⟩) h.sz).trans h.c0, (hb.cell (p := ⟨0,1,none⟩) h.sz).trans h.c1, Nat.lt_of_lt_of_le h.sz hb.size⟩
def topOf (what : Int) : Int := if what = 0 then 1073741824 else 65535
def clamp (n top : Int) : Int := max 0 (min n top)
set_option maxHeartbeats 400000 in
theorem within_c (what n : Int) (w : World) (hT : Tops w) (hw : what = 0 ∨ what = 1) :
    Calls Tryd.prog 59 #[.int .i64 what, .int .i64 n] w fun e w' => e = .returned (.int .i64 (clamp n (topOf what))) ∧ w = w' := by
  have h0 := hT.c0
  have h1 := hT.c1
  rcases hw with rfl | rfl
  all_goals
    go_enter Tryd.func59, Tryd.ntmps59
    go_wp2
    go_ret
    exact ⟨rfl, rfl⟩
theorem up_c (what n by_ : Int) (w : World) : Calls Tryd.prog 67 #[.int .i64 what, .int .i64 n, .int .i64 by_] w fun e w' =>
    e = .returned (.func (.func 73) #[] #[.pointer (some ⟨w.heap.size + 2, 0, none⟩), .pointer (some ⟨w.heap.size, 0, none⟩), .pointer (some ⟨w.heap.size + 1, 0, none⟩)]) ∧
    ((w.alloc (.cells #[.int .i64 what] 3)).alloc (.cells #[.int .i64 n] 3)).alloc (.cells #[.int .i64 by_] 3) = w' := by
  go_enter Tryd.func67, Tryd.ntmps67
  go_wp2
  go_ret
  exact ⟨rfl, rfl⟩
theorem up_res (m by_ top : Int) (h : m ≤ top) : (if (upList m by_ top).length = 0 then m else m + upBy m by_ top) = min (m + max by_ 0) top := by
  unfold upList
  by_cases h0 : 0 < upBy m by_ top
  · rw [if_pos h0]; simp; unfold upBy; omega
  · rw [if_neg h0]; simp; unfold upBy at h0; omega
def onV (n by_ top : Int) : Int := min (clamp n top + max by_ 0) top
set_option maxHeartbeats 400000 in
theorem on_c (what n by_ : Int) (w : World) (hT : Tops w) (hw : what = 0 ∨ what = 1) :
    Calls Tryd.prog 53 #[.int .i64 what, .int .i64 n, .int .i64 by_] w fun e w' => e = .returned (.int .i64 (onV n by_ (topOf what))) ∧ Below w.heap.size w w' := by
  refine (callsIn_wide (n := 0)).1 (callsIn_of_wp_marks Tryd.func53 rfl trivial ?_ rfl)
  refine wpIn_wide.2 ?_
  simp only [Tryd.ntmps53, List.size_toArray, List.length_cons, List.length_nil, Nat.reduceAdd, Nat.reduceSub, Array.replicate_succ, Array.replicate_zero, List.push_toArray, List.append_toArray, List.nil_append, List.cons_append]
  go_wp2_with fail
  refine (within_c what n _ ?_ hw).mono ?_
  · exact hT.below ((Below.refl _ w).alloc (Nat.le_refl _) _)
  rintro e w' ⟨rfl, rfl⟩
  have hz := hT.sz
  have ht : topOf what = 1073741824 ∨ topOf what = 65535 := by unfold topOf; split <;> simp
  have hcell : w.cell? ⟨0, what.toNat, none⟩ = some (.int .i64 (topOf what)) := by
    rcases hw with rfl | rfl
    · exact hT.c0
    · exact hT.c1
  obtain ⟨top, htop⟩ : ∃ top, topOf what = top := ⟨_, rfl⟩
  rw [htop] at hcell ht ⊢
  have hm0 : 0 ≤ clamp n top := by unfold clamp; omega
  have hm1 : clamp n top ≤ top := by unfold clamp; omega
  have hon : onV n by_ (topOf what) = min (clamp n top + max by_ 0) top := by rw [htop]; rfl
  clear htop
  generalize clamp n top = m at *
  go_wp2_with fail
  refine (up_c _ _ _ _).mono ?_
  rintro e w' ⟨rfl, rfl⟩
  go_wp2_with fail
  obtain ⟨W0, hW0⟩ : ∃ W0, W0 = (((w.alloc (.cells #[.int .i64 m] 3)).alloc (.cells #[.int .i64 what] 3)).alloc (.cells #[.int .i64 m] 3)).alloc (.cells #[.int .i64 by_] 3) := ⟨_, rfl⟩
  rw [← hW0]
  have hs : W0.heap.size = w.heap.size + 4 := by rw [hW0]; simp
  have hb : Below w.heap.size w W0 := by
    rw [hW0]; exact ((((Below.refl _ w).alloc (Nat.le_refl _) _).alloc (by simp) _).alloc (by simp; omega) _).alloc (by simp; omega) _
  have k0 : W0.heap[w.heap.size]? = some (.cells #[.int .i64 m] 3) := by rw [hW0]; exact old_at (old_at (old_at (new_at rfl _) _) _) _
  have k1 : W0.heap[w.heap.size + 1]? = some (.cells #[.int .i64 what] 3) := by rw [hW0]; exact old_at (old_at (new_at (by simp) _) _) _
  have k2 : W0.heap[w.heap.size + 2]? = some (.cells #[.int .i64 m] 3) := by rw [hW0]; exact old_at (new_at (by simp) _) _
  have k3 : W0.heap[w.heap.size + 3]? = some (.cells #[.int .i64 by_] 3) := by rw [hW0]; exact new_at (by simp) _
  clear hW0
  refine wp_iter (xs := upList m by_ top) (Fp := fun k => k = w.heap.size + 3) (gf := 73) (lb := #[.pointer (some ⟨w.heap.size + 3, 0, none⟩), .pointer (some ⟨w.heap.size + 1, 0, none⟩), .pointer (some ⟨w.heap.size + 2, 0, none⟩)]) rfl (enters Tryd.func73 (by kernel_rfl) rfl)
    (up1 top what m by_ _ _ _ hw hm0 hm1 (by omega) (by omega)) ?hps
    (fun i O W => O = (fun k => k = w.heap.size) ∧ W.heap[w.heap.size]? = some (.cells #[.int .i64 (if i = 0 then m else m + upBy m by_ top)] 3) ∧ Below w.heap.size w W) (fun k => k = w.heap.size) ?hpre ?hO ?hFp ?hI ?h0
    (fun x => { tmps := #[Value.int IntKind.i64 what, Value.int IntKind.i64 n, Value.int IntKind.i64 by_, undef,
          Value.pointer (some { block := w.heap.size, off := 0 }), undef, Value.int IntKind.i64 0, x.getD 0 undef,
          Value.int IntKind.i64 what, Value.int IntKind.i64 n, Value.int IntKind.i64 m,
          Value.int IntKind.i64 what, Value.int IntKind.i64 m, Value.int IntKind.i64 by_,
          Value.func (Fn.func 73) #[]
            #[Value.pointer (some { block := w.heap.size + 3, off := 0 }),
              Value.pointer (some { block := w.heap.size + 1, off := 0 }),
              Value.pointer (some { block := w.heap.size + 2, off := 0 })],
          x.getD 0 undef, undef, undef], defers := [] }) ?assign ?body ?done
  case hps => intro x hx; unfold upList at hx; split at hx <;> simp at hx; subst hx; rfl
  case hpre =>
    intro W hW
    have e0 : W.heap[0]? = w.heap[0]? := (hW.block _ (by omega)).trans (hb.block _ hz)
    refine ⟨?_, ?_, ?_, ?_, ?_⟩
    · rw [cell_at (below_at hW k3 (by omega))]; rfl
    · exact free_at (below_at hW k3 (by omega)) _
    · rw [cell_at (below_at hW k1 (by omega))]; rfl
    · rw [cell_at (below_at hW k2 (by omega))]; rfl
    · rw [World.cell?_of_block e0]; exact hcell
  case hO => rintro k rfl; exact ⟨by omega, by omega, fun h => h⟩
  case hFp => rintro k rfl; omega
  case hI =>
    rintro i O W W' ⟨rfl, h1, h2⟩ hk
    exact ⟨rfl, hk.at_ h1 (.inl rfl), below_keep h2 hk (Nat.le_refl _) (fun k h => .inr ⟨by omega, by omega⟩)⟩
  case h0 => exact ⟨rfl, k0, hb⟩
  case assign =>
    intro l x W K hx hK
    unfold upList at hx
    split at hx <;> simp at hx
    subst hx
    gi_wp2
    exact hK
  case body =>
    rintro l i x O W hx ⟨rfl, h1, h2⟩ hsz
    have hxu : i = 0 ∧ x = #[.int .i64 (m + upBy m by_ top)] := by
      unfold upList at hx
      split at hx
      · cases i <;> simp at hx; exact ⟨rfl, hx.symm⟩
      · simp at hx
    obtain ⟨rfl, rfl⟩ := hxu
    have c := cell_at h1 0
    have f := free_at h1 0
    simp at c
    gi_wp2
    refine ⟨fun k => k = w.heap.size, ⟨rfl, ?_, ?_⟩, fun k hk => .inl hk, (Keep.refl _ W).setCell (fun _ h => h rfl) _⟩
    · rw [set_at h1]; rfl
    · exact h2.setCell (Nat.le_refl _) _
  case done =>
    rintro D O W ⟨rfl, h1, h2⟩ hD hK
    have e : (if (upList m by_ top).length = 0 then m else m + upBy m by_ top) = onV n by_ (topOf what) := by
      rw [hon]
      exact up_res m by_ top hm1
    rw [e] at h1
    clear e hon
    have c := cell_at h1 0
    simp at c
    go_wp2
    exact bodyPostM_mark rfl (.inr rfl) hK ⟨rfl, below_putObj h2 (by omega) _⟩

theorem Count_c (n : Int) (w : World) (hT : Tops w) : Calls Tryd.prog 42 #[.int .i64 n] w fun e w' => e = .returned (.int .i64 (clamp n 65535)) ∧ w = w' := by
  go_enter Tryd.func42, Tryd.ntmps42
  go_wp2_with fail
  refine (within_c 1 n _ hT (.inr rfl)).mono ?_
  rintro e w' ⟨rfl, rfl⟩
  go_wp2
  go_ret
  exact ⟨rfl, rfl⟩
theorem More_c (n b : Int) (w : World) (hT : Tops w) : Calls Tryd.prog 34 #[.int .i64 n, .int .i64 b] w fun e w' => e = .returned (.int .i64 (onV n b 65535)) ∧ Below w.heap.size w w' := by
  go_enter Tryd.func34, Tryd.ntmps34
  go_wp2_with fail
  refine (on_c 1 n b _ hT (.inr rfl)).mono ?_
  rintro e w' ⟨rfl, hb⟩
  go_wp2
  go_ret
  exact ⟨rfl, hb⟩
def downV (n : Int) : Int := max n 1 - 1
theorem Late_c (n t : Int) (w : World) : Calls Tryd.prog 44 #[.int .i64 n, .int .i64 t] w fun e w' => e = .returned (.bool (decide (t < n))) ∧ w = w' := by
  go_enter Tryd.func44, Tryd.ntmps44
  go_wp2
  go_ret
  exact ⟨rfl, rfl⟩
def rowV (told : Bool) (n : Int) : Int := if told then onV n 1 65535 else 0
end Go.Proofs.YtlanlkpamnoekaaDoor
namespace Go.Proofs.YtlanlkpamnoekaaDoor
set_option maxRecDepth 100000
open Go.RowKit Rf
attribute [local go_sem ↓] run_max2 run_min2
theorem r3within_c (n t : Int) (w : World) : Calls Tryd.prog 68 #[.int .i64 n, .int .i64 t] w fun e w' => e = .returned (.int .i64 (min (max n 0) t)) ∧ w = w' := by
  go_enter Tryd.func68, Tryd.ntmps68
  go_wp2
  go_ret
  exact ⟨rfl, rfl⟩
theorem r3Count_c (n : Int) (w : World) : Calls Tryd.prog 54 #[.int .i64 n] w fun e w' => e = .returned (.int .i64 (min (max n 0) 65535)) ∧ w = w' := by
  go_enter Tryd.func54, Tryd.ntmps54
  go_wp2_with fail
  refine (r3within_c _ _ _).mono ?_
  rintro e w' ⟨rfl, rfl⟩
  go_wp2
  go_ret
  exact ⟨rfl, rfl⟩
theorem r3More_c (n b : Int) (w : World) : Calls Tryd.prog 35 #[.int .i64 n, .int .i64 b] w fun e w' => e = .returned (.int .i64 (min (min (max n 0) 65535 + min (max b 0) 65535) 65535)) ∧ w = w' := by
  have hwr : IntKind.i64.wrap (min (max n 0) 65535 + min (max b 0) 65535) = min (max n 0) 65535 + min (max b 0) 65535 := IntWalk.i64_in _ (by omega)
  go_enter Tryd.func35, Tryd.ntmps35
  go_wp2_with fail
  refine (r3Count_c n _).mono ?_
  rintro e w' ⟨rfl, rfl⟩
  go_wp2_with fail
  refine (r3Count_c b _).mono ?_
  rintro e w' ⟨rfl, rfl⟩
  go_wp2
  go_ret
  exact ⟨rfl, rfl⟩
theorem more_eq (n b : Int) : min (min (max n 0) 65535 + min (max b 0) 65535) 65535 = onV n b 65535 := by unfold onV clamp; omega
end Go.Proofs.YtlanlkpamnoekaaDoor
namespace Go.Proofs.YtlanlkpamnoekaaDoor.Mem
open Go.RowKit Rf Go.ChangeShapes Go.WideShapes

/-- The slice value v has n elements of sz cells each: the cells cs, in order, of a block below B. -/
def SliceAt (w : World) (sz : Nat) (v : Value) (n : Nat) (cs : List Value) : Prop :=
  ∃ A c, v = .slice A n c ∧ n ≤ c ∧ c ≤ maxLen ∧ cs.length = n * sz ∧
    (n = 0 ∨ ∃ b off, A = some ⟨b, off, none⟩ ∧ b < w.heap.size ∧ ∀ i u, cs[i]? = some u → w.cell? ⟨b, off + i, none⟩ = some u)

theorem SliceAt.later {w w' : World} {sz : Nat} {v : Value} {n : Nat} {cs : List Value} (h : SliceAt w sz v n cs) (hb : Below w.heap.size w w') : SliceAt w' sz v n cs := by
  obtain ⟨A, c, rfl, h1, h2, h3, h4⟩ := h
  refine ⟨A, c, rfl, h1, h2, h3, ?_⟩
  rcases h4 with h4 | ⟨b, off, rfl, hlt, hc⟩
  · exact .inl h4
  · exact .inr ⟨b, off, rfl, Nat.lt_of_lt_of_le hlt hb.size, fun i u hu => (hb.cell (p := ⟨b, off + i, none⟩) hlt).trans (hc i u hu)⟩

theorem SliceAt.below {B : Nat} {w w' : World} {sz : Nat} {v : Value} {n : Nat} {cs : List Value} (h : SliceAt w sz v n cs) (hb : Below B w w') (hB : w.heap.size ≤ B) : SliceAt w' sz v n cs := h.later (hb.mono hB)

theorem SliceAt.nil_ (w : World) (sz : Nat) : SliceAt w sz (.slice none 0 0) 0 [] := ⟨none, 0, rfl, Nat.le_refl _, by simp [maxLen], by simp, .inl rfl⟩

theorem SliceAt.len {w : World} {sz : Nat} {v : Value} {n : Nat} {cs : List Value} (h : SliceAt w sz v n cs) : cs.length = n * sz := by obtain ⟨_, _, _, _, _, h, _⟩ := h; exact h

theorem SliceAt.pos {w : World} {sz n : Nat} {v : Value} {cs : List Value} (h : SliceAt w sz v n cs) (hn : 0 < n) :
    ∃ b off c, v = .slice (some ⟨b, off, none⟩) n c ∧ n ≤ c ∧ c ≤ maxLen ∧ b < w.heap.size ∧ ∀ i u, cs[i]? = some u → w.cell? ⟨b, off + i, none⟩ = some u := by
  obtain ⟨A, c, rfl, h1, h2, _, h4⟩ := h
  rcases h4 with h4 | ⟨b, off, rfl, hlt, hc⟩
  · omega
  · exact ⟨b, off, c, rfl, h1, h2, hlt, hc⟩
theorem SliceAt.form {w : World} {sz n : Nat} {v : Value} {cs : List Value} (h : SliceAt w sz v n cs) : ∃ A c, v = .slice A n c ∧ n ≤ c ∧ c ≤ 9223372036854775807 := by
  obtain ⟨A, c, rfl, h1, h2, _⟩ := h
  exact ⟨A, c, rfl, h1, by simp [maxLen] at h2; omega⟩
theorem below_step {w a b : World} (h : Below w.heap.size w a) (k : Below a.heap.size a b) : Below w.heap.size w b := h.trans (k.mono h.size)
theorem sliceAt_blk {w : World} {g : Nat} {e : TypeId} {f : Nat × Nat} {cs : List Value} {n : Nat} (h : w.heap[g]? = some (.cells cs.toArray e f)) (hn : cs.length = n) (hm : n ≤ maxLen) : SliceAt w 1 (.slice (some ⟨g, 0, none⟩) n n) n cs :=
  ⟨_, _, rfl, Nat.le_refl _, hm, by omega, .inr ⟨g, 0, rfl, (Array.getElem?_eq_some_iff.1 h).1, fun i u hu => by rw [cell_at h]; simpa using hu⟩⟩

/-- The first k elements of a slice that reads. -/
theorem SliceAt.take {w : World} {sz n c k : Nat} {A : Option Addr} {cs : List Value} (h : SliceAt w sz (.slice A n c) n cs) (hk : k ≤ n) : SliceAt w sz (.slice A k c) k (cs.take (k * sz)) := by
  obtain ⟨A', c', hv, h1, h2, h3, h4⟩ := h
  obtain ⟨rfl, _, rfl⟩ := Value.slice.inj hv
  refine ⟨A, c, rfl, by omega, h2, by rw [List.length_take, h3, Nat.min_eq_left]; exact Nat.mul_le_mul_right sz hk, ?_⟩
  rcases h4 with h4 | ⟨b, off, rfl, hlt, hc⟩
  · left; omega
  · exact .inr ⟨b, off, rfl, hlt, fun i u hu => hc i u (by rw [List.getElem?_take] at hu; split at hu <;> first | exact hu | cases hu)⟩

/-- A part of a slice that reads, as the model slices it. -/
theorem SliceAt.sub {w : World} {sz n c lo hi : Nat} {A : Option Addr} {cs : List Value} (h : SliceAt w sz (.slice A n c) n cs) (h1 : lo ≤ hi) (h2 : hi ≤ n) :
    SliceAt w sz (.slice (if c = lo then A else A.map (·.add (lo * sz))) (hi - lo) (c - lo)) (hi - lo) ((cs.drop (lo * sz)).take ((hi - lo) * sz)) := by
  obtain ⟨A', c', hv, q1, q2, q3, q4⟩ := h
  obtain ⟨rfl, _, rfl⟩ := Value.slice.inj hv
  have hmul : (hi - lo) * sz + lo * sz ≤ n * sz := by rw [← Nat.add_mul]; exact Nat.mul_le_mul_right sz (by omega)
  refine ⟨_, _, rfl, by omega, by omega, by rw [List.length_take, List.length_drop, q3]; omega, ?_⟩
  by_cases hz : hi - lo = 0
  · exact .inl hz
  right
  rcases q4 with q4 | ⟨b, off, rfl, hlt, hc⟩
  · omega
  refine ⟨b, off + lo * sz, ?_, hlt, fun i u hu => ?_⟩
  · rw [if_neg (by omega)]
    simp only [Option.map_some, Addr.add]
    split
    · rename_i h0; rw [h0, Nat.add_zero]
    · rfl
  · rw [List.getElem?_take] at hu
    split at hu
    · rw [List.getElem?_drop] at hu
      rw [Nat.add_assoc]; exact hc _ u hu
    · cases hu

/-- Integers of a kind, as cells. -/
abbrev ints (k : IntKind) (zs : List Int) : List Value := zs.map (Value.int k)
abbrev bools (l : List Bool) : List Value := l.map Value.bool

theorem flatMap_len {α : Type} {f : α → List Value} {sz : Nat} : ∀ {asl : List α}, (∀ a ∈ asl, (f a).length = sz) → (asl.flatMap f).length = asl.length * sz
  | [], _ => by simp
  | a :: asl, h => by
    rw [List.flatMap_cons, List.length_append, h a (by simp), flatMap_len (fun b hb => h b (by simp [hb])), List.length_cons, Nat.succ_mul]; omega

theorem flatMap_get {α : Type} {f : α → List Value} {sz : Nat} : ∀ {asl : List α} (_ : ∀ a ∈ asl, (f a).length = sz) (q r : Nat), r < sz → (asl.flatMap f)[q * sz + r]? = (asl[q]?).bind fun a => (f a)[r]?
  | [], _, q, r, _ => by simp
  | a :: asl, h, 0, r, hr => by
    rw [List.flatMap_cons, Nat.zero_mul, Nat.zero_add, List.getElem?_append_left (by rw [h a (by simp)]; exact hr)]
    simp
  | a :: asl, h, q + 1, r, hr => by
    rw [List.flatMap_cons, List.getElem?_append_right (by rw [h a (by simp), Nat.succ_mul]; omega), h a (by simp)]
    rw [show (q + 1) * sz + r - sz = q * sz + r by rw [Nat.succ_mul]; omega, flatMap_get (fun b hb => h b (by simp [hb])) q r hr]
    simp

theorem choose_list {α : Type} {Q : Nat → α → Prop} : ∀ (n : Nat), (∀ i, i < n → ∃ a, Q i a) → ∃ asl : List α, asl.length = n ∧ ∀ i a, asl[i]? = some a → Q i a
  | 0, _ => ⟨[], rfl, by simp⟩
  | n + 1, h => by
    obtain ⟨asl, hl, hq⟩ := choose_list n (fun i hi => h i (by omega))
    obtain ⟨a, ha⟩ := h n (by omega)
    refine ⟨asl ++ [a], by simp [hl], fun i b hb => ?_⟩
    by_cases hi : i < n
    · rw [List.getElem?_append_left (by omega)] at hb; exact hq i b hb
    · rw [List.getElem?_append_right (by omega)] at hb
      have : i = n := by
        rcases Nat.lt_or_ge (i - asl.length) 1 with h1 | h1
        · omega
        · rw [List.getElem?_eq_none (by simpa using h1)] at hb; cases hb
      subst this
      simp [hl] at hb
      subst hb; exact ha

theorem lt_of_cell {w : World} {p : Addr} {u : Value} (h : w.cell? p = some u) : p.block < w.heap.size := by
  unfold World.cell? at h
  cases ho : w.heap[p.block]? with
  | none => simp [ho] at h
  | some o => exact (Array.getElem?_eq_some_iff.1 ho).1

/-- A slice that came in: its elements, each as its type's reading says. -/
theorem open_arg {H : Type} {enc : TypeId × Value → H} {P : Program} {w : World} {base t e sz : Nat} {v : Value} {d : DataW H} {p : List MemPlace} {α : Type} (f : α → List Value) (ok : α → Prop)
    (hf : ∀ a, (f a).length = sz) (hsz : 0 < sz) (ht : P.underlying t = some (.slice e)) (hce : P.cellsOf e = sz)
    (he : ∀ (m : Nat) (cs : List Value) (x : DataW H × List MemPlace), cs.length = sz → DataW.trod enc P w 0 (fun _ => true) true m e cs = some x → ∃ a, ok a ∧ cs = f a)
    (hv : Value.okWide P w .any base t v) (h : DataW.Trod enc P w 0 (fun _ => true) true t v d p) : ∃ asl : List α, SliceAt w sz v asl.length (asl.flatMap f) ∧ ∀ a ∈ asl, ok a := by
  obtain ⟨A, len, cap, rfl⟩ := okWide_slice ht hv
  obtain ⟨fuel, hfu⟩ := h
  rcases Go.Deep.open_slice ht hfu with ⟨hcs, _⟩ | ⟨x, l, c, m, n, D, Pl, hcs, _, hl, hm, hmm, hx, hel⟩
  · simp [Value.cells] at hcs
    obtain ⟨rfl, rfl, rfl⟩ := hcs
    exact ⟨[], .nil_ _ _, by simp⟩
  · simp [Value.cells] at hcs
    obtain ⟨rfl, rfl, rfl⟩ := hcs
    simp only [if_true] at hmm
    subst hmm
    rw [hce] at hel
    obtain ⟨asl, hal, hq⟩ := choose_list (Q := fun i a => ok a ∧ ∀ j u, (f a)[j]? = some u → w.cell? (x.add (i * sz + j)) = some u) len (fun i hi => by
      obtain ⟨cs', hc', ht'⟩ := hel i (by omega)
      obtain ⟨_, hcl, hat⟩ := World.cells?_some hc'
      obtain ⟨a, hok, rfl⟩ := he _ _ _ hcl ht'
      refine ⟨a, hok, fun j u hu => ?_⟩
      have hj : j < sz := by rw [← hcl]; exact (List.getElem?_eq_some_iff.1 hu).1
      rw [← Go.Deep.add_add, hat j hj, hu])
    have hok : ∀ a ∈ asl, ok a := fun a ha => by obtain ⟨i, hi⟩ := List.getElem?_of_mem ha; exact (hq i a hi).1
    refine ⟨asl, ⟨some x, m, by rw [hal], by omega, hm, flatMap_len (fun a _ => hf a), ?_⟩, hok⟩
    rcases Nat.eq_zero_or_pos len with h0 | h0
    · left; omega
    · right
      obtain ⟨b, off, spot⟩ := x
      have hcell : ∀ i u, (asl.flatMap f)[i]? = some u → w.cell? ((⟨b, off, spot⟩ : Addr).add i) = some u := fun i u hu => by
        have hd : i / sz * sz + i % sz = i := by rw [Nat.mul_comm]; exact Nat.div_add_mod i sz
        rw [← hd, flatMap_get (fun a _ => hf a) _ _ (Nat.mod_lt _ hsz)] at hu
        simp only [Option.bind_eq_some_iff] at hu
        obtain ⟨a, ha, hu⟩ := hu
        have := (hq _ a ha).2 _ u hu
        rwa [hd] at this
      have hlen : 0 < (asl.flatMap f).length := by rw [flatMap_len (fun a _ => hf a), hal]; exact Nat.mul_pos h0 hsz
      have hc := hcell 0 _ (List.getElem?_eq_getElem hlen)
      have hspot : spot = none := by simpa [Addr.add] using World.cell?_spot hc
      subst hspot
      refine ⟨b, off, rfl, lt_of_cell (p := ⟨b, off, none⟩) (by simpa [Addr.add] using hc), fun i u hu => ?_⟩
      have := hcell i u hu
      have e : (Addr.add ⟨b, off, none⟩ i) = ⟨b, off + i, none⟩ := by
        unfold Addr.add; split
        · rename_i h; subst h; rfl
        · rfl
      rwa [e] at this

theorem flatMap_one {α : Type} {g : α → Value} (asl : List α) : asl.flatMap (fun a => [g a]) = asl.map g := by
  induction asl with
  | nil => rfl
  | cons a asl ih => rw [List.flatMap_cons, ih]; rfl

theorem one_cell {cs : List Value} (h : cs.length = 1) : ∃ c, cs = [c] := by
  match cs, h with
  | [c], _ => exact ⟨c, rfl⟩

/-- A slice of integers that came in. -/
theorem open_ints_arg {H : Type} {enc : TypeId × Value → H} {P : Program} {w : World} {base t e : Nat} {k : IntKind} {v : Value} {d : DataW H} {p : List MemPlace}
    (ht : P.underlying t = some (.slice e)) (he : P.underlying e = some (.int k)) (hce : P.cellsOf e = 1) (hv : Value.okWide P w .any base t v) (h : DataW.Trod enc P w 0 (fun _ => true) true t v d p) :
    ∃ zs : List Int, SliceAt w 1 v zs.length (ints k zs) ∧ ∀ n ∈ zs, (Lit.int k n).wf = true := by
  obtain ⟨asl, h1, h2⟩ := open_arg (sz := 1) (fun n : Int => [Value.int k n]) (fun n => (Lit.int k n).wf = true) (fun _ => rfl) (by omega) ht hce
    (fun m cs x hl ht' => by obtain ⟨n, rfl, _, hw⟩ := DataW.trod_int he ht'; exact ⟨n, hw, rfl⟩) hv h
  exact ⟨asl, by rw [flatMap_one] at h1; exact h1, h2⟩

/-- A slice of bools that came in. -/
theorem open_bools_arg {H : Type} {enc : TypeId × Value → H} {P : Program} {w : World} {base t e : Nat} {v : Value} {d : DataW H} {p : List MemPlace}
    (ht : P.underlying t = some (.slice e)) (he : P.underlying e = some .bool) (hce : P.cellsOf e = 1) (hv : Value.okWide P w .any base t v) (h : DataW.Trod enc P w 0 (fun _ => true) true t v d p) :
    ∃ l : List Bool, SliceAt w 1 v l.length (bools l) := by
  obtain ⟨asl, h1, _⟩ := open_arg (sz := 1) (fun b : Bool => [Value.bool b]) (fun _ => True) (fun _ => rfl) (by omega) ht hce
    (fun m cs x hl ht' => by obtain ⟨n, rfl, _⟩ := DataW.trod_bool he ht'; exact ⟨n, trivial, rfl⟩) hv h
  exact ⟨asl, by rw [flatMap_one] at h1; exact h1⟩

/-! ### append onto a row of the call's own, from whatever slice -/
theorem sliceAt_of_own {w : World} {base e sz n : Nat} {v : Value} {xs : List Value} (h : w.ownsRow base e sz v n xs) : SliceAt w sz v n xs := by
  obtain ⟨hl, h⟩ := h
  rcases h with ⟨rfl, rfl⟩ | ⟨g, cap, cur, rfl, hb, hg, h1, h2, h3, h4⟩
  · exact ⟨none, 0, rfl, Nat.le_refl _, by simp [maxLen], hl, .inl rfl⟩
  · refine ⟨some ⟨g, 0, none⟩, cap, rfl, h1, h2, hl, .inr ⟨g, 0, rfl, (Array.getElem?_eq_some_iff.1 hg).1, fun i u hu => ?_⟩⟩
    rw [cell_at hg]
    rw [← h4, List.getElem?_take] at hu
    split at hu
    · simpa using hu
    · cases hu
theorem own_base {w : World} {base e sz n g : Nat} {v : Value} {xs : List Value} (h : w.ownsRow base e sz v n xs) (hg : v.ownBlock = some g) : base ≤ g ∧ g < w.heap.size := by
  obtain ⟨_, h⟩ := h
  rcases h with ⟨rfl, rfl⟩ | ⟨g', cap, cur, rfl, hb, hh, _⟩
  · cases hg
  · cases hg; exact ⟨hb, (Array.getElem?_eq_some_iff.1 hh).1⟩
theorem own_later {w w' : World} {base e sz n : Nat} {v : Value} {xs : List Value} (h : w.ownsRow base e sz v n xs) (hk : ∀ g, v.ownBlock = some g → w'.heap[g]? = w.heap[g]?) : w'.ownsRow base e sz v n xs := by
  obtain ⟨hl, h⟩ := h
  refine ⟨hl, ?_⟩
  rcases h with h | ⟨g, cap, cur, rfl, hb, hh, r⟩
  · exact .inl h
  · exact .inr ⟨g, cap, cur, rfl, hb, (hk g rfl).trans hh, r⟩
theorem own_empty (w : World) (e sz : Nat) : (w.alloc (.cells #[] e)).ownsRow w.heap.size e sz (.slice (some ⟨w.heap.size, 0, none⟩) 0 0) 0 [] :=
  ⟨by simp, .inr ⟨w.heap.size, 0, #[], rfl, Nat.le_refl _, new_at rfl _, Nat.le_refl _, by simp [maxLen], by simp, by simp⟩⟩
theorem below_own {B : Nat} {a w w' : World} {v : Value} (h : Below B a w) (hg : w.grownBy w' v.ownBlock) (hB : B ≤ w.heap.size) (hv : ∀ g, v.ownBlock = some g → B ≤ g) : Below B a w' := h.grown hg hB hv
theorem own_nil (w : World) (base e sz : Nat) : w.ownsRow base e sz (.slice none 0 0) 0 [] := ⟨by simp, .inl ⟨rfl, rfl⟩⟩

section
variable {P : Program}
theorem run_append_src (w : World) (base : Nat) (t ty e : TypeId) (i : TypeInfo) (z : Value) (size byt : Nat) (ht : P.underlying t = some (.slice e)) (hi : P.info? e = some i) (hz : i.zero = some z)
    (hsize : i.size = size) (hby : i.bytes = byt) (hzs : z.cells.size = size) (hsz : 0 < size)
    (v : Value) (n : Nat) (xs : List Value) (hown : w.ownsRow base e size v n xs) (x : Value) (m : Nat) (news : List Value) (hx : SliceAt w size x m news) (h1 : ∀ u ∈ news, u.oneCell' = true)
    (h63 : n + m ≤ maxLen) (hbytes : (n + m) * byt ≤ 140737488355328) (hbase : base ≤ w.heap.size) :
    ∃ v' w', (Builtin.append_ #[t, t] ty #[v, x]).run P w = .ok v' w' ∧ w'.ownsRow base e size v' (n + m) (xs ++ news) ∧ w.grownBy w' v.ownBlock ∧ (v'.ownBlock = v.ownBlock ∨ v'.ownBlock = some w.heap.size) := by
  obtain ⟨A, c, rfl, _, _, hl, hcase⟩ := hx
  cases A with
  | none =>
    have hm : m = 0 := by
      rcases hcase with h | ⟨b, off, h, _⟩
      · exact h
      · cases h
    subst hm
    obtain rfl : news = [] := List.eq_nil_of_length_eq_zero (by simpa using hl)
    refine ⟨v, w, ?_, by simpa using hown, World.grownBy.refl w _, .inl rfl⟩
    rcases hown.2 with ⟨rfl, rfl⟩ | ⟨g, cap, cur, rfl, _, _, hnc, _⟩
    · simp [Builtin.append_, run_underlying ht, sizeOf, typeInfo, hi, Builtin.lenOf, Builtin.firstCells]
    · simp [Builtin.append_, run_underlying ht, sizeOf, typeInfo, hi, Builtin.lenOf, Builtin.firstCells, hnc, storeCells]
  | some ad =>
    have hcells : ∀ j u, news[j]? = some u → w.cell? (ad.add j) = some u := by
      intro j u hu
      rcases hcase with h | ⟨b, off, h, _, hc⟩
      · subst h
        obtain rfl : news = [] := List.eq_nil_of_length_eq_zero (by simpa using hl)
        simp at hu
      · cases h
        have e : (Addr.add ⟨b, off, none⟩ j) = ⟨b, off + j, none⟩ := by
          unfold Addr.add; split
          · rename_i h; subst h; rfl
          · rfl
        rw [e]; exact hc j u hu
    obtain ⟨v', w', hr, h2, h3, _, h5⟩ := run_append_own_at (P := P) w base t ty e i z size byt ht hi hz hsize hby hzs hsz v n xs hown ad m c news hl hcells h1 h63 hbytes hbase
    exact ⟨v', w', hr, h2, h3, h5⟩

theorem wpList_append_src {w : World} {ops : Array Oper} {rest : List Oper} {o : Oper} {a : Act} {Q : Exit → Act → World → Prop} (hgd : o.guard = none) (s x : Operand) (t : TypeId)
    (ho : o.op = .call { callee := .builtin .append, args := #[s, x], argTypes := #[t, t] })
    (base : Nat) (e : TypeId) (i : TypeInfo) (z : Value) (size byt : Nat) (ht : P.underlying t = some (.slice e)) (hi : P.info? e = some i) (hz : i.zero = some z)
    (hsize : i.size = size) (hby : i.bytes = byt) (hzs : z.cells.size = size) (hsz : 0 < size)
    (v : Value) (n : Nat) (xs : List Value) (hs : a.eval s = v) (hown : w.ownsRow base e size v n xs) (src : Value) (m : Nat) (news : List Value) (hx : a.eval x = src) (hsrc : SliceAt w size src m news) (h1 : ∀ u ∈ news, u.oneCell' = true)
    (h63 : n + m ≤ maxLen) (hbytes : (n + m) * byt ≤ 140737488355328) (hbase : base ≤ w.heap.size)
    (h : ∀ v' w', w'.ownsRow base e size v' (n + m) (xs ++ news) → w.grownBy w' v.ownBlock → (v'.ownBlock = v.ownBlock ∨ v'.ownBlock = some w.heap.size) → wpList P ops Q rest (a.put o.dst v') w') :
    wpList P ops Q (o :: rest) a w := by
  refine wpList_plain hgd fun K hK => ?_
  obtain ⟨v', w', hr, h2, h3, h4⟩ := run_append_src (P := P) w base t o.type e i z size byt ht hi hz hsize hby hzs hsz v n xs hown src m news hsrc h1 h63 hbytes hbase
  unfold Oper.wp execOp
  simp only [ho, resolve, invoke, builtin, Sem.run_bind, Sem.run_pure, Result.andThen_ok, List.map_toArray, List.map_cons, List.map_nil, hs, hx, hr]
  exact hK _ _ (h v' w' h2 h3 h4)

theorem wpListIn_append_src {F : Fence} {nn : Nat} {w : World} {ops : Array Oper} {rest : List Oper} {o : Oper} {a : Act} {Q : Exit → Act → World → Prop} (hgd : o.guard = none) (s x : Operand) (t : TypeId)
    (ho : o.op = .call { callee := .builtin .append, args := #[s, x], argTypes := #[t, t] })
    (base : Nat) (e : TypeId) (i : TypeInfo) (z : Value) (size byt : Nat) (ht : P.underlying t = some (.slice e)) (hi : P.info? e = some i) (hz : i.zero = some z)
    (hsize : i.size = size) (hby : i.bytes = byt) (hzs : z.cells.size = size) (hsz : 0 < size)
    (v : Value) (n : Nat) (xs : List Value) (hs : a.eval s = v) (hown : w.ownsRow base e size v n xs) (src : Value) (m : Nat) (news : List Value) (hx : a.eval x = src) (hsrc : SliceAt w size src m news) (h1 : ∀ u ∈ news, u.oneCell' = true)
    (h63 : n + m ≤ maxLen) (hbytes : (n + m) * byt ≤ 140737488355328) (hbase : base ≤ w.heap.size)
    (h : ∀ v' w', w'.ownsRow base e size v' (n + m) (xs ++ news) → w.grownBy w' v.ownBlock → (v'.ownBlock = v.ownBlock ∨ v'.ownBlock = some w.heap.size) → wpListIn F nn P ops Q rest (a.put o.dst v') w') :
    wpListIn F nn P ops Q (o :: rest) a w := by
  refine wpListIn_plain hgd fun K hK => ?_
  obtain ⟨v', w', hr, h2, h3, h4⟩ := run_append_src (P := P) w base t o.type e i z size byt ht hi hz hsize hby hzs hsz v n xs hown src m news hsrc h1 h63 hbytes hbase
  unfold Oper.wpIn
  refine ⟨?_, ?_⟩
  · simp [Oper.about, ho, resolve, Target.leads, Sem.run_pure]
  · rw [Oper.semAt_plain F _ _ (by rw [ho]; intro c hc'; cases hc')]
    simp [execOp, ho, resolve, invoke, builtin, hs, hx, hr, Result.andThen]
    exact hK _ _ (h v' w' h2 h3 h4)
end
end Go.Proofs.YtlanlkpamnoekaaDoor.Mem
namespace Go.Proofs.YtlanlkpamnoekaaDoor.Bv
open Go.RowKit Mem

theorem wrap_small (k : IntKind) (hk : k.signed = false) {n : Int} (h0 : 0 ≤ n) (h1 : n < 2 ^ k.bits) : k.wrap n = n := by
  cases k <;> simp_all [IntKind.wrap, IntKind.signed, IntKind.bits] <;> omega
theorem ofInt_toNat {n : Nat} (x : BitVec n) : BitVec.ofInt n (x.toNat : Int) = x := by
  rw [BitVec.ofInt_natCast, BitVec.ofNat_toNat, BitVec.setWidth_eq]
theorem wrap_bv (k : IntKind) (hk : k.signed = false) (x : BitVec k.bits) : k.wrap (x.toNat : Int) = (x.toNat : Int) :=
  wrap_small k hk (by omega) (by have := x.isLt; exact_mod_cast this)
theorem bits_and (k : IntKind) (hk : k.signed = false) (x y : BitVec k.bits) : bits .and k (x.toNat : Int) (y.toNat : Int) = ((x &&& y).toNat : Int) := by
  unfold bits; simp only [ofInt_toNat]; exact wrap_bv k hk _
theorem bits_or (k : IntKind) (hk : k.signed = false) (x y : BitVec k.bits) : bits .or k (x.toNat : Int) (y.toNat : Int) = ((x ||| y).toNat : Int) := by
  unfold bits; simp only [ofInt_toNat]; exact wrap_bv k hk _
theorem bits_xor (k : IntKind) (hk : k.signed = false) (x y : BitVec k.bits) : bits .xor k (x.toNat : Int) (y.toNat : Int) = ((x ^^^ y).toNat : Int) := by
  unfold bits; simp only [ofInt_toNat]; exact wrap_bv k hk _
theorem bits_andNot (k : IntKind) (hk : k.signed = false) (x y : BitVec k.bits) : bits .andNot k (x.toNat : Int) (y.toNat : Int) = ((x &&& ~~~ y).toNat : Int) := by
  unfold bits; simp only [ofInt_toNat]; exact wrap_bv k hk _
theorem and1_16 (x : BitVec 16) : bits .and .u16 (x.toNat : Int) 1 = ((x.toNat % 2 : Nat) : Int) := by
  have h : bits .and .u16 (x.toNat : Int) 1 = (((x &&& 1#16 : BitVec 16)).toNat : Int) := bits_and .u16 rfl x 1#16
  rw [h, BitVec.toNat_and]; simp [Nat.and_one_is_mod]
theorem and1_8 (x : BitVec 8) : bits .and .u8 (x.toNat : Int) 1 = ((x.toNat % 2 : Nat) : Int) := by
  have h : bits .and .u8 (x.toNat : Int) 1 = (((x &&& 1#8 : BitVec 8)).toNat : Int) := bits_and .u8 rfl x 1#8
  rw [h, BitVec.toNat_and]; simp [Nat.and_one_is_mod]
theorem shr1 {n : Nat} (x : BitVec n) : (x.toNat : Int) / (2 : Int) = ((x >>> 1).toNat : Int) := by
  rw [BitVec.toNat_ushiftRight, Nat.shiftRight_eq_div_pow]; omega
theorem shr_bv {n : Nat} (x : BitVec n) (i : Nat) : (x.toNat : Int) / (2 : Int) ^ i = ((x >>> i).toNat : Int) := by
  rw [BitVec.toNat_ushiftRight, Nat.shiftRight_eq_div_pow]; norm_cast

/-- Bytes, as cells. -/
abbrev u8s (bs : List (BitVec 8)) : List Value := bs.map fun b => Value.int .u8 (b.toNat : Int)
theorem open_bytes_arg {H : Type} {enc : TypeId × Value → H} {P : Program} {w : World} {base t e : Nat} {v : Value} {d : DataW H} {p : List MemPlace}
    (ht : P.underlying t = some (.slice e)) (he : P.underlying e = some (.int .u8)) (hce : P.cellsOf e = 1) (hv : Value.okWide P w .any base t v) (h : DataW.Trod enc P w 0 (fun _ => true) true t v d p) :
    ∃ bs : List (BitVec 8), SliceAt w 1 v bs.length (u8s bs) := by
  obtain ⟨asl, h1, _⟩ := open_arg (sz := 1) (fun b : BitVec 8 => [Value.int .u8 (b.toNat : Int)]) (fun _ => True) (fun _ => rfl) (by omega) ht hce
    (fun m cs x hl ht' => by
      obtain ⟨n, rfl, _, hw⟩ := DataW.trod_int he ht'
      have hb : 0 ≤ n ∧ n ≤ 255 := by simpa [Lit.wf, IntKind.min, IntKind.max, IntKind.signed, IntKind.bits] using hw
      exact ⟨BitVec.ofNat 8 n.toNat, trivial, by simp; omega⟩) hv h
  exact ⟨asl, by rw [flatMap_one] at h1; exact h1⟩
theorem of_u16 {n : Int} (h : (Lit.int .u16 n).wf = true) : ∃ s : BitVec 16, n = (s.toNat : Int) := by
  have hb : 0 ≤ n ∧ n ≤ 65535 := by simpa [Lit.wf, IntKind.min, IntKind.max, IntKind.signed, IntKind.bits] using h
  exact ⟨BitVec.ofNat 16 n.toNat, by simp; omega⟩
theorem of_u8 {n : Int} (h : (Lit.int .u8 n).wf = true) : ∃ s : BitVec 8, n = (s.toNat : Int) := by
  have hb : 0 ≤ n ∧ n ≤ 255 := by simpa [Lit.wf, IntKind.min, IntKind.max, IntKind.signed, IntKind.bits] using h
  exact ⟨BitVec.ofNat 8 n.toNat, by simp; omega⟩
theorem of_u32 {n : Int} (h : (Lit.int .u32 n).wf = true) : ∃ s : BitVec 32, n = (s.toNat : Int) := by
  have hb : 0 ≤ n ∧ n ≤ 4294967295 := by simpa [Lit.wf, IntKind.min, IntKind.max, IntKind.signed, IntKind.bits] using h
  exact ⟨BitVec.ofNat 32 n.toNat, by simp; omega⟩
end Go.Proofs.YtlanlkpamnoekaaDoor.Bv
namespace Go.Proofs.YtlanlkpamnoekaaDoor.Crc
open Bv

/-- by a bit 0 -/
def zed (s : BitVec 16) : BitVec 16 := (s >>> 1) ^^^ (if s.getLsbD 0 then 0x8408#16 else 0#16)
def ofBit (b : Bool) : BitVec 16 := if b then 1#16 else 0#16
/-- by a bit -/
def by1 (s : BitVec 16) (b : Bool) : BitVec 16 := zed (s ^^^ ofBit b)
def goBits (s : BitVec 16) (l : List Bool) : BitVec 16 := l.foldl by1 s
def bits8 (b : BitVec 8) : List Bool := (List.range 8).map b.getLsbD
def allBits (bs : List (BitVec 8)) : List Bool := bs.flatMap bits8
def go (s : BitVec 16) (bs : List (BitVec 8)) : BitVec 16 := goBits s (allBits bs)
def sum (bs : List (BitVec 8)) : BitVec 16 := ~~~ go 0xffff#16 bs
def lo (s : BitVec 16) : BitVec 8 := s.setWidth 8
def hi (s : BitVec 16) : BitVec 8 := (s >>> 8).setWidth 8
def close (bs : List (BitVec 8)) : List (BitVec 8) := bs ++ [lo (sum bs), hi (sum bs)]

theorem bits8_length (b : BitVec 8) : (bits8 b).length = 8 := by simp [bits8]
theorem bits8_get (b : BitVec 8) (j : Nat) (h : j < 8) : (bits8 b)[j]? = some (b.getLsbD j) := by simp [bits8, h]

theorem by1_old (s : BitVec 16) (b : Bool) : by1 s b = (s >>> 1) ^^^ (if (s.getLsbD 0 != b) then 0x8408#16 else 0#16) := by
  unfold by1 zed ofBit
  cases b
  · simp
  · have h1 : (s ^^^ 1#16) >>> 1 = s >>> 1 := by
      apply BitVec.eq_of_getLsbD_eq; intro i hi; simp [BitVec.getLsbD_one]
    have h2 : (s ^^^ 1#16).getLsbD 0 = !s.getLsbD 0 := by simp [BitVec.getLsbD_xor]
    simp only [if_true, h1, h2]
    cases s.getLsbD 0 <;> rfl

theorem zed_xor (s t : BitVec 16) : zed (s ^^^ t) = zed s ^^^ zed t := by
  unfold zed
  rw [BitVec.ushiftRight_xor_distrib, BitVec.getLsbD_xor]
  apply BitVec.eq_of_getLsbD_eq
  intro i hi
  cases s.getLsbD 0 <;> cases t.getLsbD 0 <;> simp only [BitVec.getLsbD_xor, Bool.xor_false, Bool.xor_true, Bool.not_true, Bool.not_false, if_true, if_false, BitVec.getLsbD_zero, Bool.false_eq_true] <;>
    generalize (s >>> 1).getLsbD i = a <;> generalize (t >>> 1).getLsbD i = b <;> generalize BitVec.getLsbD 0x8408#16 i = c <;> revert a b c <;> decide
theorem zed_zero : zed 0#16 = 0#16 := by decide
theorem zed_inj0 (s : BitVec 16) (h : zed s = 0#16) : s = 0#16 := by
  have h15 : (zed s).getLsbD 15 = s.getLsbD 0 := by
    unfold zed
    rw [BitVec.getLsbD_xor, BitVec.getLsbD_ushiftRight]
    rw [show s.getLsbD (1 + 15) = false by apply BitVec.getLsbD_of_ge; omega]
    cases s.getLsbD 0 <;> simp
  have h0 : s.getLsbD 0 = false := by rw [← h15, h]; simp
  have hs : s >>> 1 = 0#16 := by
    have : zed s = s >>> 1 := by unfold zed; rw [h0]; simp
    rw [← this, h]
  apply BitVec.eq_of_getLsbD_eq
  intro i hi
  rcases i with _ | i
  · simpa using h0
  · have := congrArg (fun x => x.getLsbD i) hs
    simp only [BitVec.getLsbD_ushiftRight] at this
    rw [Nat.add_comm 1 i] at this
    simpa using this
theorem xor_eq_zero {s t : BitVec 16} (h : s ^^^ t = 0#16) : s = t := by
  have h2 := congrArg (· ^^^ t) h
  simpa [BitVec.xor_assoc] using h2
theorem zed_inj {s t : BitVec 16} (h : zed s = zed t) : s = t := by
  apply xor_eq_zero
  apply zed_inj0
  rw [zed_xor, h, BitVec.xor_self]

theorem ofBit_xor (a b : Bool) : ofBit (a ^^ b) = ofBit a ^^^ ofBit b := by cases a <;> cases b <;> decide
theorem ofBit_inj {a b : Bool} (h : ofBit a = ofBit b) : a = b := by revert h; cases a <;> cases b <;> decide
theorem by1_xor (s t : BitVec 16) (a b : Bool) : by1 (s ^^^ t) (a ^^ b) = by1 s a ^^^ by1 t b := by
  unfold by1
  rw [← zed_xor, ofBit_xor]
  congr 1
  simp only [BitVec.xor_assoc]
  congr 1
  rw [← BitVec.xor_assoc, BitVec.xor_comm t, BitVec.xor_assoc]
theorem by1_inj {s t : BitVec 16} {b : Bool} (h : by1 s b = by1 t b) : s = t := by
  have := zed_inj h
  have h2 := congrArg (· ^^^ ofBit b) this
  simpa [BitVec.xor_assoc] using h2
theorem by1_bit {s : BitVec 16} {a b : Bool} (h : by1 s a = by1 s b) : a = b := by
  have := zed_inj h
  have h2 := congrArg (s ^^^ ·) this
  simp only [← BitVec.xor_assoc, BitVec.xor_self, BitVec.zero_xor] at h2
  exact ofBit_inj h2

theorem goBits_append (s : BitVec 16) (a b : List Bool) : goBits s (a ++ b) = goBits (goBits s a) b := List.foldl_append
theorem go_append (s : BitVec 16) (a b : List (BitVec 8)) : go s (a ++ b) = go (go s a) b := by
  unfold go allBits; rw [List.flatMap_append, goBits_append]
theorem goBits_inj : ∀ (l : List Bool) {s t : BitVec 16}, goBits s l = goBits t l → s = t
  | [], _, _, h => h
  | b :: l, s, t, h => by1_inj (goBits_inj l (s := by1 s b) (t := by1 t b) h)
theorem goBits_xor : ∀ (a b : List Bool) (s t : BitVec 16), a.length = b.length → goBits (s ^^^ t) (List.zipWith (· ^^ ·) a b) = goBits s a ^^^ goBits t b
  | [], [], s, t, _ => rfl
  | x :: a, y :: b, s, t, h => by
    simp only [goBits, List.zipWith_cons_cons, List.foldl_cons]
    have := goBits_xor a b (by1 s x) (by1 t y) (by simpa using h)
    rw [by1_xor]; exact this
theorem bits8_xor (a b : BitVec 8) : bits8 (a ^^^ b) = List.zipWith (· ^^ ·) (bits8 a) (bits8 b) := by
  unfold bits8
  apply List.ext_getElem
  · simp
  · intro i h1 h2; simp [BitVec.getLsbD_xor]
theorem allBits_xor : ∀ (a b : List (BitVec 8)), allBits (List.zipWith (· ^^^ ·) a b) = List.zipWith (· ^^ ·) (allBits a) (allBits b)
  | [], b => by simp [allBits]
  | x :: a, [] => by simp [allBits]
  | x :: a, y :: b => by
    have h := allBits_xor a b
    simp only [allBits, List.zipWith_cons_cons, List.flatMap_cons] at h ⊢
    rw [List.zipWith_append (by simp [bits8_length]), ← bits8_xor, h]
theorem allBits_length (a : List (BitVec 8)) : (allBits a).length = 8 * a.length := by
  induction a with
  | nil => rfl
  | cons x a ih => simp only [allBits, List.flatMap_cons, List.length_append, List.length_cons, bits8_length] at ih ⊢; omega
theorem go_xor (a b : List (BitVec 8)) (s t : BitVec 16) (h : a.length = b.length) : go (s ^^^ t) (List.zipWith (· ^^^ ·) a b) = go s a ^^^ go t b := by
  unfold go; rw [allBits_xor]; exact goBits_xor _ _ _ _ (by rw [allBits_length, allBits_length, h])
theorem go_inj (l : List (BitVec 8)) {s t : BitVec 16} (h : go s l = go t l) : s = t := goBits_inj _ h
end Go.Proofs.YtlanlkpamnoekaaDoor.Crc
namespace Go.Proofs.YtlanlkpamnoekaaDoor
open Go.RowKit Rf Mem Bv Crc
attribute [local go_sem] Oper.semAt_some
attribute [local go_sem ↓] run_max2 run_min2

theorem lsb0 (s : BitVec 16) : s.getLsbD 0 = decide (s.toNat % 2 = 1) := by
  rw [BitVec.getLsbD, Nat.testBit_zero]
theorem by1_val (s : BitVec 16) (b : Bool) (x : Int) (hx : x = if (s.getLsbD 0 != b) then 33800 else 0) : bits .xor .u16 ((s.toNat : Int) / 2) x = ((by1 s b).toNat : Int) := by
  rw [shr1, hx, by1_old]
  by_cases h : (s.getLsbD 0 != b) = true
  · rw [if_pos h, if_pos h]; exact bits_xor .u16 rfl (s >>> 1) 0x8408#16
  · rw [if_neg h, if_neg h]; exact bits_xor .u16 rfl (s >>> 1) 0#16
theorem code_t (s : BitVec 16) : bits .xor .u16 ((s.toNat : Int) / 2) (bits .and .u16 (IntKind.u16.wrap (-bits .xor .u16 (bits .and .u16 (s.toNat : Int) 1) 1)) 33800) = ((by1 s true).toNat : Int) := by
  refine by1_val s true _ ?_
  rw [and1_16, lsb0]
  rcases Nat.mod_two_eq_zero_or_one s.toNat with h | h <;> rw [h] <;> decide
theorem code_f (s : BitVec 16) : bits .xor .u16 ((s.toNat : Int) / 2) (bits .and .u16 (IntKind.u16.wrap (-bits .and .u16 (s.toNat : Int) 1)) 33800) = ((by1 s false).toNat : Int) := by
  refine by1_val s false _ ?_
  rw [and1_16, lsb0]
  rcases Nat.mod_two_eq_zero_or_one s.toNat with h | h <;> rw [h] <;> decide

theorem ret_int {k : IntKind} {a b : Int} (h : a = b) : Ending.returned (.int k a) = .returned (.int k b) := by rw [h]
theorem Bit_c (s : BitVec 16) (b : Bool) (w : World) : Calls Tryd.prog 76 #[.int .u16 s.toNat, .bool b] w fun e w' => e = .returned (.int .u16 (by1 s b).toNat) ∧ w = w' := by
  cases b
  · have h := Lib.hid (code_f s)
    go_enter Tryd.func76, Tryd.ntmps76
    go_wp2
    go_ret
    exact ⟨ret_int h.out, rfl⟩
  · have h := Lib.hid (code_t s)
    go_enter Tryd.func76, Tryd.ntmps76
    go_wp2
    go_ret
    exact ⟨ret_int h.out, rfl⟩

theorem bits_c (A : Option Addr) (n c : Nat) (w : World) : Calls Tryd.prog 75 #[.slice A n c] w fun e w' => e = .returned (.func (.func 78) #[] #[.pointer (some ⟨w.heap.size, 0, none⟩)]) ∧ w.alloc (.cells #[.slice A n c] 36) = w' := by
  go_enter Tryd.func75, Tryd.ntmps75
  go_wp2
  go_ret
  exact ⟨rfl, rfl⟩

def BitsPre (b0 : Nat) (A : Option Addr) (n c : Nat) (bs : List (BitVec 8)) (W : World) : Prop :=
  W.cell? ⟨b0, 0, none⟩ = some (.slice A n c) ∧ n = bs.length ∧ SliceAt W 1 (.slice A n c) n (u8s bs)
def bitList (l : List Bool) : List (Array Value) := l.map fun b => #[.bool b]
theorem bitList_get {bs : List (BitVec 8)} {k j : Nat} {b : BitVec 8} (hk : bs[k]? = some b) (hj : j < 8) : (bitList (allBits bs))[k * 8 + j]? = some #[.bool (b.getLsbD j)] := by
  unfold bitList allBits
  rw [List.getElem?_map]
  have : ∀ (l : List (BitVec 8)) (k : Nat), l[k]? = some b → (l.flatMap bits8)[k * 8 + j]? = some (b.getLsbD j) := by
    intro l
    induction l with
    | nil => intro k h; simp at h
    | cons x l ih =>
      intro k h
      rw [List.flatMap_cons]
      cases k with
      | zero =>
        simp at h; subst h
        rw [Nat.zero_mul, Nat.zero_add, List.getElem?_append_left (by rw [bits8_length]; exact hj), bits8_get _ _ hj]
      | succ k =>
        rw [List.getElem?_append_right (by rw [bits8_length]; omega), bits8_length, show (k + 1) * 8 + j - 8 = k * 8 + j by omega]
        exact ih k (by simpa using h)
  rw [this bs k hk]; rfl
theorem bitList_len (bs : List (BitVec 8)) : (bitList (allBits bs)).length = bs.length * 8 := by
  unfold bitList; rw [List.length_map, allBits_length]; omega

theorem low_bit (b : BitVec 8) (j : Nat) : (bits .and .u8 ((b >>> j).toNat : Int) 1 != 0) = b.getLsbD j := by
  rw [and1_8]
  have h : (b >>> j).getLsbD 0 = decide ((b >>> j).toNat % 2 = 1) := by rw [BitVec.getLsbD, Nat.testBit_zero]
  rw [BitVec.getLsbD_ushiftRight, Nat.add_zero] at h
  rw [h]
  rcases Nat.mod_two_eq_zero_or_one (b >>> j).toNat with e | e <;> rw [e] <;> rfl
theorem shr_next (b : BitVec 8) (j : Nat) : ((b >>> j).toNat : Int) / 2 = ((b >>> (j + 1)).toNat : Int) := by
  rw [shr1, BitVec.shiftRight_add]

set_option maxHeartbeats 1000000 in
theorem bits1 (b0 : Nat) (A : Option Addr) (n c : Nat) (bs : List (BitVec 8)) : Iter Tryd.prog 78 #[.pointer (some ⟨b0, 0, none⟩)] (fun _ => False) (fun k => k = b0 ∨ (0 < bs.length ∧ ∃ off, A = some ⟨k, off, none⟩)) (bitList (allBits bs)) (BitsPre b0 A n c bs) := by
  intro l J O0 W0 hP hO hJ hY h0
  obtain ⟨c0, rfl, A', c', hv, hc1, hc2, _, hc4⟩ := hP
  obtain ⟨rfl, _, rfl⟩ := Value.slice.inj hv
  clear hv
  unfold maxLen at hc2
  refine callsIn_of_wp Tryd.func78 rfl trivial ?_ rfl
  simp only [Tryd.ntmps78, List.size_toArray, List.length_cons, List.length_nil, Nat.reduceAdd, Nat.reduceSub, Array.replicate_succ, Array.replicate_zero, List.push_toArray, List.append_toArray, List.nil_append, List.cons_append]
  gi_wp2
  gi_loopw [4, 7, 11] (fun _ i _ wr => ∃ (k : Nat) (O : Nat → Prop), k ≤ bs.length ∧ i = .int .i64 k ∧ J (k * 8) O wr ∧ Past O0 W0 O wr) (fun _ i _ _ => bs.length - (intOf i).toNat)
  case atStart => exact ⟨0, O0, Nat.zero_le _, rfl, by simpa using h0, Past.refl _ _⟩
  case round =>
    obtain ⟨k, O, hk, rfl, hJk, hp⟩ := hrel
    by_cases hlt : k < bs.length
    · rcases hc4 with hz | ⟨bk, off, rfl, hbl, hcell⟩
      · omega
      have hbk : bs[k]? = some bs[k] := List.getElem?_eq_getElem hlt
      have hcl := hp.cell (hcell k (.int .u8 (bs[k].toNat : Int)) (by simp [u8s, hbk])) (fun h => (hO _ h).2.2 (.inr ⟨by omega, off, rfl⟩))
      have hxs := Lib.hid (fun j hj => bitList_get (j := j) hbk hj)
      generalize bs[k] = b at *
      clear hcell hbk
      gi_wp2
      gi_loopw [4, 11] (fun x i wr => ∃ (j : Nat) (O : Nat → Prop), j ≤ 8 ∧ i = .int .i64 j ∧ (∃ y : Int, y = ((b >>> j).toNat : Int) ∧ x = .int .u8 y) ∧ J (k * 8 + j) O wr ∧ Past O0 W0 O wr) (fun _ i _ => 8 - (intOf i).toNat)
      case atStart => exact ⟨0, O, by omega, rfl, ⟨_, by simp, rfl⟩, hJk, hp⟩
      case round =>
        obtain ⟨j, O, hj, rfl, ⟨y, hyv, rfl⟩, hJj, hp⟩ := hrel
        by_cases hj8 : j < 8
        · obtain ⟨fn, tmps, assign, body, hy, hR⟩ := hY _ _ O _ (hxs.out j hj8) hJj hp.keep.size
          have hlb := low_bit b j
          have hsn := Lib.hid (shr_next b j)
          rw [← hyv] at hlb
          rw [← hyv] at hsn
          clear hyv
          generalize b.getLsbD j = bt at *
          gi_wp2
          refine ⟨rfl, hR.mono ?_⟩
          rintro e W' ⟨rfl, O', hJ', ho', hk'⟩
          clear hy hR
          gi_wp2
          go_roundw
          case rel => exact ⟨j + 1, O', by omega, by go_num, ⟨_, hsn.out, rfl⟩, hJ', hp.next ho' hk'⟩
          case measure => simp [intOf]; omega
        · obtain rfl : j = 8 := by omega
          gi_wp2
          go_roundw
          case rel => exact ⟨k + 1, O, by omega, by go_num, by rw [show (k + 1) * 8 = k * 8 + 8 by omega]; exact hJj, hp⟩
          case measure => simp [intOf]; omega
    · have e : (bitList (allBits bs)).length = k * 8 := by rw [bitList_len]; omega
      have E := Lib.hid e
      clear e
      gi_wp2
      go_end0
      exact ⟨⟨_, rfl⟩, O, by rw [E.out]; exact hJk⟩

theorem bitList_at {bs : List (BitVec 8)} {i : Nat} {x : Array Value} (h : (bitList (allBits bs))[i]? = some x) : ∃ b, (allBits bs)[i]? = some b ∧ x = #[.bool b] := by
  unfold bitList at h
  rw [List.getElem?_map, Option.map_eq_some_iff] at h
  obtain ⟨b, hb, rfl⟩ := h
  exact ⟨b, hb, rfl⟩
theorem go_take (s : BitVec 16) (l : List Bool) (i : Nat) (b : Bool) (h : l[i]? = some b) : goBits s (l.take (i + 1)) = by1 (goBits s (l.take i)) b := by
  rw [List.take_add_one, h, goBits_append]; rfl
set_option maxHeartbeats 1000000 in
theorem Go_c (s : BitVec 16) (v : Value) (bs : List (BitVec 8)) (w : World) (hs : SliceAt w 1 v bs.length (u8s bs)) :
    Calls Tryd.prog 72 #[.int .u16 s.toNat, v] w fun e w' => e = .returned (.int .u16 (go s bs).toNat) ∧ Below w.heap.size w w' := by
  have hs' := hs
  obtain ⟨A, c, rfl, hc1, hc2, _, hc4⟩ := hs
  refine (callsIn_wide (n := 0)).1 (callsIn_of_wp_marks Tryd.func72 rfl trivial ?_ rfl)
  refine wpIn_wide.2 ?_
  simp only [Tryd.ntmps72, List.size_toArray, List.length_cons, List.length_nil, Nat.reduceAdd, Nat.reduceSub, Array.replicate_succ, Array.replicate_zero, List.push_toArray, List.append_toArray, List.nil_append, List.cons_append]
  go_wp2_with fail
  refine (bits_c _ _ _ _).mono ?_
  rintro e w' ⟨rfl, rfl⟩
  go_wp2_with fail
  obtain ⟨W0, hW0⟩ : ∃ W0, W0 = (w.alloc (.cells #[.int .u16 s.toNat] 111)).alloc (.cells #[.slice A bs.length c] 36) := ⟨_, rfl⟩
  rw [← hW0]
  have hsz : W0.heap.size = w.heap.size + 2 := by rw [hW0]; simp
  have hb : Below w.heap.size w W0 := by rw [hW0]; exact ((Below.refl _ w).alloc (Nat.le_refl _) _).alloc (by simp) _
  have k0 : W0.heap[w.heap.size]? = some (.cells #[.int .u16 s.toNat] 111) := by rw [hW0]; exact old_at (new_at rfl _) _
  have k1 : W0.heap[w.heap.size + 1]? = some (.cells #[.slice A bs.length c] 36) := by rw [hW0]; exact new_at (by simp) _
  clear hW0
  refine wp_iter (xs := bitList (allBits bs)) (gf := 78) (lb := #[.pointer (some ⟨w.heap.size + 1, 0, none⟩)]) rfl (enters Tryd.func78 (by kernel_rfl) rfl)
    (bits1 _ A bs.length c bs) ?hps
    (fun i O W => O = (fun k => k = w.heap.size) ∧ W.heap[w.heap.size]? = some (.cells #[.int .u16 (goBits s ((allBits bs).take i)).toNat] 111) ∧ Below w.heap.size w W) (fun k => k = w.heap.size) ?hpre ?hO ?hFp ?hI ?h0
    (fun x => { tmps := #[Value.int .u16 s.toNat, .slice A bs.length c, .pointer (some ⟨w.heap.size, 0, none⟩), undef, .int .u16 0, x.getD 0 undef, .slice A bs.length c, .func (.func 78) #[] #[.pointer (some ⟨w.heap.size + 1, 0, none⟩)], x.getD 0 undef, undef, undef, undef, undef], defers := [] }) ?assign ?body ?done
  case hps => intro x hx; obtain ⟨i, hi⟩ := List.getElem?_of_mem hx; obtain ⟨b, _, rfl⟩ := bitList_at hi; rfl
  case hpre =>
    intro W hW
    exact ⟨by rw [cell_at (below_at hW k1 (by omega))]; rfl, rfl, (hs'.later (hb.trans (hW.mono (by omega))))⟩
  case hO =>
    rintro k rfl
    refine ⟨by omega, fun h => h, ?_⟩
    rintro (h | ⟨hpos, off, rfl⟩)
    · omega
    · rcases hc4 with h0 | ⟨bk, off', he, hbl, _⟩
      · omega
      · cases he; omega
  case hFp => intro k h; exact h.elim
  case hI =>
    rintro i O W W' ⟨rfl, h1, h2⟩ hk
    exact ⟨rfl, hk.at_ h1 (.inl rfl), below_keep h2 hk (Nat.le_refl _) (fun k h => .inr ⟨by omega, fun h => h⟩)⟩
  case h0 => exact ⟨rfl, by simpa [goBits] using k0, hb⟩
  case assign =>
    intro l x W K hx hK
    obtain ⟨i, hi⟩ := List.getElem?_of_mem hx
    obtain ⟨b, _, rfl⟩ := bitList_at hi
    gi_wp2
    exact hK
  case body =>
    rintro l i x O W hx ⟨rfl, h1, h2⟩ hsz'
    obtain ⟨b, hbi, rfl⟩ := bitList_at hx
    have hn := Lib.hid (go_take s _ i b hbi)
    generalize goBits s ((allBits bs).take i) = t at *
    have c := cell_at h1 0
    have f := free_at h1 0
    simp at c
    gi_wp2_with fail
    refine ⟨trivial, rfl, (CallsIn.inRound _ (callsIn_wide.2 (Bit_c t b _))).mono ?_⟩
    rintro e w' ⟨rfl, rfl⟩
    gi_wp2
    refine ⟨fun k => k = w.heap.size, ⟨rfl, ?_, h2.setCell (Nat.le_refl _) _⟩, fun k hk => .inl hk, (Keep.refl _ W).setCell (fun _ h => h rfl) _⟩
    rw [set_at h1, hn.out]; rfl
  case done =>
    rintro D O W ⟨rfl, h1, h2⟩ hD hK
    have e : goBits s ((allBits bs).take (bitList (allBits bs)).length) = go s bs := by
      rw [List.take_of_length_le (by rw [bitList_len, allBits_length]; omega)]; rfl
    rw [e] at h1
    clear e
    have c := cell_at h1 0
    simp at c
    go_wp2
    exact bodyPostM_mark rfl (.inr rfl) hK ⟨rfl, below_putObj h2 (by omega) _⟩
end Go.Proofs.YtlanlkpamnoekaaDoor
namespace Go.Proofs.YtlanlkpamnoekaaDoor
open Go.RowKit Rf Mem Bv
theorem info_u8 : (Tryd.prog.info? 5).map (fun i => (i.zero, i.size, i.bytes)) = some (some (.int .u8 0), 1, 1) := by kernel_rfl
theorem u8s_one (bs : List (BitVec 8)) : ∀ u ∈ u8s bs, u.oneCell' = true := by intro u hu; simp [u8s] at hu; obtain ⟨b, _, rfl⟩ := hu; rfl
set_option maxHeartbeats 400000 in
theorem Clone_c (v : Value) (bs : List (BitVec 8)) (w : World) (hs : SliceAt w 1 v bs.length (u8s bs)) (hl : bs.length ≤ 140737488355328) :
    Calls Tryd.prog 51 #[v] w fun e w' => ∃ v', e = .returned v' ∧ w'.ownsRow w.heap.size 5 1 v' bs.length (u8s bs) ∧ Below w.heap.size w w' := by
  obtain ⟨i0, hi, hz0, hz1, hz2⟩ := info_parts info_u8
  have hq := fun (W : World) (a : Option Addr) (n c : Nat) => Lib.run_eql_slice_nil (P := Tryd.prog) W 36 5 a n c 0 0 Tryd.underlying36
  have hs' := hs
  obtain ⟨A, c, rfl, hc1, hc2, hc3, hc4⟩ := hs
  cases A with
  | none =>
    have h0 : bs = [] := by
      rcases hc4 with h | ⟨_, _, h, _⟩
      · exact List.eq_nil_of_length_eq_zero h
      · cases h
    subst h0
    go_enter Tryd.func51, Tryd.ntmps51
    go_wp2
    go_ret
    exact ⟨_, rfl, own_nil _ _ _ _, Below.refl _ _⟩
  | some ad =>
    have hown := own_empty w 5 1
    have hsrc := hs'.later ((Below.refl _ w).alloc (Nat.le_refl _) (.cells #[] 5))
    go_enter Tryd.func51, Tryd.ntmps51
    go_wp2_with (at_builtin; refine wpList_append_src (by rfl) (.tmp 5) (.tmp 6) _ (by rfl) w.heap.size 5 i0 _ 1 1 Tryd.underlying36 hi hz0 hz1 hz2 rfl (by omega) (.slice (some ⟨w.heap.size, 0, none⟩) 0 0) 0 [] (by rfl) hown (.slice (some ad) bs.length c) bs.length (u8s bs) (by rfl) hsrc (u8s_one bs) (by simp only [maxLen]; omega) (by omega) (by simp) ?_; intro v1 w1 ho1 hg1 _)
    go_ret
    simp only [Nat.zero_add, List.nil_append] at ho1
    exact ⟨_, rfl, ho1, below_own ((Below.refl _ w).alloc (Nat.le_refl _) _) hg1 (by simp) (by intro g hg; cases hg; exact Nat.le_refl _)⟩
end Go.Proofs.YtlanlkpamnoekaaDoor
namespace Go.Proofs.YtlanlkpamnoekaaDoor
open Go.RowKit Rf Mem Bv Crc
attribute [local go_sem ↓] run_max2 run_min2
theorem not_16 (x : BitVec 16) : bits .xor .u16 IntKind.u16.max (x.toNat : Int) = ((~~~ x).toNat : Int) := by
  have h : bits .xor .u16 IntKind.u16.max (x.toNat : Int) = ((65535#16 ^^^ x : BitVec 16).toNat : Int) := bits_xor .u16 rfl 65535#16 x
  rw [h, show (65535#16 : BitVec 16) = BitVec.allOnes 16 from rfl, BitVec.allOnes_xor]
theorem Sum_c (v : Value) (bs : List (BitVec 8)) (w : World) (hs : SliceAt w 1 v bs.length (u8s bs)) :
    Calls Tryd.prog 66 #[v] w fun e w' => e = .returned (.int .u16 (Crc.sum bs).toNat) ∧ Below w.heap.size w w' := by
  have hsg : IntKind.u16.signed = false := rfl
  have hg := Lib.hid (Go_c 0xffff#16 v bs w hs)
  obtain ⟨A, c, rfl, _⟩ := hs
  go_enter Tryd.func66, Tryd.ntmps66
  go_wp2_with fail
  refine hg.out.mono ?_
  rintro e w1 ⟨rfl, hb⟩
  have hn := Lib.hid (not_16 (go 0xffff#16 bs))
  go_wp2
  go_ret
  exact ⟨ret_int hn.out, hb⟩
theorem lo_val (s : BitVec 16) : (s.toNat : Int) % 256 = ((lo s).toNat : Int) := by unfold lo; rw [BitVec.toNat_setWidth]; omega
theorem hi_val (s : BitVec 16) : (s.toNat : Int) / 256 = ((hi s).toNat : Int) := by
  unfold hi; rw [BitVec.toNat_setWidth, BitVec.toNat_ushiftRight, Nat.shiftRight_eq_div_pow]; have := s.isLt; omega
theorem sliceAt_new {w : World} {g : Nat} {e : TypeId} {cs : List Value} {n : Nat} (h : w.heap[g]? = some (.cells cs.toArray e)) (hn : cs.length = n) (hm : n ≤ maxLen) : SliceAt w 1 (.slice (some ⟨g, 0, none⟩) n n) n cs :=
  ⟨_, _, rfl, Nat.le_refl _, hm, by omega, .inr ⟨g, 0, rfl, (Array.getElem?_eq_some_iff.1 h).1, fun i u hu => by rw [cell_at h]; simpa using hu⟩⟩
end Go.Proofs.YtlanlkpamnoekaaDoor
namespace Go.Proofs.YtlanlkpamnoekaaDoor
open Go.RowKit Rf Mem Bv Crc
attribute [local go_sem ↓] run_max2 run_min2
/-- what Open answers -/
def openV (bs : List (BitVec 8)) : List (BitVec 8) × Int :=
  if bs.length < 2 then ([], 40) else if Crc.close (bs.take (bs.length - 2)) = bs then (bs.take (bs.length - 2), 0) else ([], 42)
theorem split_last (bs : List (BitVec 8)) (n : Nat) (h : bs.length = n + 2) : ∃ x y, bs[n]? = some x ∧ bs[n + 1]? = some y ∧ bs = bs.take n ++ [x, y] := by
  have h1 : bs[n]? = some (bs[n]'(by omega)) := List.getElem?_eq_getElem _
  have h2 : bs[n + 1]? = some (bs[n + 1]'(by omega)) := List.getElem?_eq_getElem _
  refine ⟨_, _, h1, h2, ?_⟩
  conv => lhs; rw [← List.take_append_drop n bs]
  congr 1
  rw [List.drop_eq_getElem_cons (by omega), List.drop_eq_getElem_cons (by omega), List.drop_of_length_le (by omega)]
def join16 (x y : BitVec 8) : BitVec 16 := (x.setWidth 16) ||| ((y.setWidth 16) <<< 8)
theorem join_eq (s : BitVec 16) (x y : BitVec 8) : s = join16 x y ↔ (x = Crc.lo s ∧ y = Crc.hi s) := by
  unfold join16 Crc.lo Crc.hi
  constructor
  · rintro rfl
    constructor
    · apply BitVec.eq_of_getLsbD_eq; intro i hi
      simp [BitVec.getLsbD_or, BitVec.getLsbD_shiftLeft, BitVec.getLsbD_setWidth, hi]
    · apply BitVec.eq_of_getLsbD_eq; intro i hi
      have h1 : x.getLsbD (8 + i) = false := BitVec.getLsbD_of_ge _ _ (by omega)
      have h2 : 8 + i < 16 := by omega
      have h3 : ¬ 8 + i < 8 := by omega
      have h4 : 8 + i - 8 = i := by omega
      simp only [BitVec.getLsbD_or, BitVec.getLsbD_shiftLeft, BitVec.getLsbD_setWidth, BitVec.getLsbD_ushiftRight, hi, h1, h2, h3, h4, show i < 16 by omega]
      simp
  · rintro ⟨rfl, rfl⟩
    apply BitVec.eq_of_getLsbD_eq; intro i hi
    simp only [BitVec.getLsbD_or, BitVec.getLsbD_shiftLeft, BitVec.getLsbD_setWidth, BitVec.getLsbD_ushiftRight]
    by_cases h : i < 8
    · simp [h, hi]
    · have h4 : 8 + (i - 8) = i := by omega
      have h5 : i - 8 < 8 := by omega
      have h6 : i - 8 < 16 := by omega
      simp only [h, hi, h4, h5, h6]
      simp
theorem open_test (bs : List (BitVec 8)) (n : Nat) (x y : BitVec 8) (h : bs = bs.take n ++ [x, y]) : (Crc.sum (bs.take n) = join16 x y) ↔ Crc.close (bs.take n) = bs := by
  rw [join_eq]
  unfold Crc.close
  constructor
  · rintro ⟨h1, h2⟩; rw [← h1, ← h2]; exact h.symm
  · intro h1
    rw [h] at h1
    have h2 : bs.take n ++ [x, y] = bs := h.symm
    rw [← h] at h1
    have := h1.trans h
    rw [List.append_cancel_left_eq] at this
    simp only [List.cons.injEq, and_true] at this
    exact ⟨this.1.symm, this.2.symm⟩

theorem or_join (x y : BitVec 8) : bits .or .u16 (IntKind.u16.wrap (x.toNat : Int)) (IntKind.u16.wrap (IntKind.u16.wrap (y.toNat : Int) * 256)) = ((join16 x y).toNat : Int) := by
  have hx := x.isLt
  have hy := y.isLt
  have e1 : IntKind.u16.wrap (x.toNat : Int) = ((x.setWidth 16).toNat : Int) := by
    rw [Bv.wrap_small .u16 rfl (by omega) (by simp [IntKind.bits]; omega), BitVec.toNat_setWidth]; omega
  have e2 : IntKind.u16.wrap (IntKind.u16.wrap (y.toNat : Int) * 256) = (((y.setWidth 16) <<< 8).toNat : Int) := by
    have e0 : IntKind.u16.wrap (y.toNat : Int) = (y.toNat : Int) := Bv.wrap_small .u16 rfl (by omega) (by simp [IntKind.bits]; omega)
    rw [e0, Bv.wrap_small .u16 rfl (by omega) (by simp [IntKind.bits]; omega), BitVec.toNat_shiftLeft, BitVec.toNat_setWidth, Nat.shiftLeft_eq]; omega
  rw [e1, e2]
  exact bits_or .u16 rfl (x.setWidth 16) ((y.setWidth 16) <<< 8)
theorem ne_bv {s t : BitVec 16} : ((s.toNat : Int) != (t.toNat : Int)) = decide (s ≠ t) := by
  by_cases h : s = t
  · subst h; simp
  · have : s.toNat ≠ t.toNat := fun e => h (BitVec.eq_of_toNat_eq e)
    simp [h]; omega
set_option maxHeartbeats 1000000 in
theorem Open_short (v : Value) (bs : List (BitVec 8)) (w : World) (hs : SliceAt w 1 v bs.length (u8s bs)) (hl : bs.length < 2) :
    Calls Tryd.prog 50 #[v] w fun e w' => e = .returned (.tuple #[.slice none 0 0, .int .i64 40]) ∧ w = w' := by
  obtain ⟨A, c, rfl, hc1, hc2, hc3, hc4⟩ := hs
  unfold maxLen at hc2
  have hwr : IntKind.i64.wrap ((bs.length : Int) - 2) = (bs.length : Int) - 2 := IntWalk.i64_in _ (by omega)
  go_enter Tryd.func50, Tryd.ntmps50
  go_wp2_with fail
  refine wp_scope_fwd 0 (by simp only [findLabel]; rfl) ?_
  go_wp2
  go_step3
  go_wp2
  rw [jump_goto]
  go_wp2
  rw [Exit.noGoto_ret]
  go_ret2
  exact ⟨rfl, rfl⟩
set_option maxHeartbeats 1000000 in
set_option maxRecDepth 100000 in
theorem Open_long (v : Value) (bs : List (BitVec 8)) (n : Nat) (w : World) (hs : SliceAt w 1 v bs.length (u8s bs)) (hn : bs.length = n + 2) (hl : bs.length ≤ 140737488355328) :
    Calls Tryd.prog 50 #[v] w fun e w' => ∃ v', e = .returned (.tuple #[v', .int .i64 (openV bs).2]) ∧ w'.ownsRow w.heap.size 5 1 v' (openV bs).1.length (u8s (openV bs).1) ∧ Below w.heap.size w w' := by
  have hs' := hs
  obtain ⟨A, c, rfl, hc1, hc2, hc3, hc4⟩ := hs
  unfold maxLen at hc2
  rcases hc4 with h0 | ⟨bk, off, rfl, hbl, hcell⟩
  · omega
  obtain ⟨x, y, hx, hy, hsplit⟩ := split_last bs n hn
  have htk : SliceAt w 1 (.slice (some ⟨bk, off, none⟩) n c) (bs.take n).length (u8s (bs.take n)) := by
    have := hs'.take (k := n) (by omega)
    rw [Nat.mul_one] at this
    rw [List.length_take, Nat.min_eq_left (by omega)]
    simpa [u8s, List.map_take] using this
  have cx : w.cell? ⟨bk, off + n, none⟩ = some (.int .u8 (x.toNat : Int)) := hcell n _ (by simp [u8s, hx])
  have cy : w.cell? ⟨bk, off + (n + 1), none⟩ = some (.int .u8 (y.toNat : Int)) := hcell (n + 1) _ (by simp [u8s, hy])
  have hwr : IntKind.i64.wrap ((bs.length : Int) - 2) = (n : Int) := by rw [IntWalk.i64_in _ (by omega)]; omega
  have hwr2 : IntKind.i64.wrap ((n : Int) + 1) = (n : Int) + 1 := IntWalk.i64_in _ (by omega)
  have hS := Lib.hid (fun W hW => Sum_c (.slice (some ⟨bk, off, none⟩) n c) (bs.take n) W hW)
  have hQ := Lib.hid hs'
  have hT := Lib.hid htk
  have i1 : (0 : Int) ≤ (n : Int) := by omega
  have i2 : (n : Int) < (bs.length : Int) := by omega
  have i3 : (n : Int) + 1 < (bs.length : Int) := by omega
  have i4 : (n : Int) ≤ (c : Int) := by omega
  have i6 : (0 : Int) ≤ (n : Int) + 1 := by omega
  have i7 : (x.toNat : Int) < 256 := by have := x.isLt; omega
  have i8 : (y.toNat : Int) < 256 := by have := y.isLt; omega
  have i5 : (bs.length : Int) ≤ (c : Int) := by omega
  have HP := Lib.hid hsplit
  have HN := Lib.hid hn
  have hn2 : bs.length ≤ n + 2 := by omega
  clear hcell hc3 hx hy hsplit hn hs' htk
  go_enter Tryd.func50, Tryd.ntmps50
  go_wp2_with fail
  refine wp_scope_fwd 0 (by simp only [findLabel]; rfl) ?_
  go_wp2_with fail
  go_region_held3 (fun w' => w'.cell? ⟨bk, off + n, none⟩ = some (.int .u8 (x.toNat : Int)) ∧ w'.cell? ⟨bk, off + (n + 1), none⟩ = some (.int .u8 (y.toNat : Int))) (first | exact ⟨cx, cy⟩ | exact ⟨cx1, cy1⟩)
    (first | (go_at_call 66; refine (hS.out _ (hT.out.later (Below.refl _ _).drew)).mono ?_; rintro e w1 ⟨rfl, hb1⟩; have cx1 := (hb1.cell (p := ⟨bk, off + n, none⟩) hbl).trans cx; have cy1 := (hb1.cell (p := ⟨bk, off + (n + 1), none⟩) hbl).trans cy))
  have hB : Below w.heap.size w w1 := (Below.refl _ w).drew.trans hb1
  have hne : (((Crc.sum (bs.take n)).toNat : Int) != bits .or .u16 (IntKind.u16.wrap (x.toNat : Int)) (IntKind.u16.wrap (IntKind.u16.wrap (y.toNat : Int) * 256))) = decide (Crc.sum (bs.take n) ≠ join16 x y) := by
    rw [or_join, ne_bv]
  have hot := open_test bs n x y HP.out
  have hln := HN.out
  clear hS
  by_cases he : Crc.close (bs.take n) = bs
  · have hq : openV bs = (bs.take n, 0) := by unfold openV; rw [if_neg (by omega), hln, Nat.add_sub_cancel, if_pos he]
    replace hne := hne.trans (decide_eq_false (fun h => h (hot.2 he)))
    have HQ := Lib.hid hq
    clear hq hot he hln
    have hs2 := hT.out.later hB
    go_wp2_with fail
    refine (Clone_c _ (bs.take n) _ hs2 (by rw [List.length_take]; omega)).mono ?_
    rintro e w2 ⟨v2, rfl, ho2, b2⟩
    go_wp2
    rw [jump_ret]
    go_ret2
    rw [HQ.out]
    have s1 := hB.size
    refine ⟨v2, rfl, ?_, hB.trans (b2.mono s1)⟩
    obtain ⟨r1, r2⟩ := ho2
    exact ⟨r1, r2.imp id (fun ⟨g, cap, cur, q1, q2, q3⟩ => ⟨g, cap, cur, q1, by omega, q3⟩)⟩
  · have hq : openV bs = ([], 42) := by unfold openV; rw [if_neg (by omega), hln, Nat.add_sub_cancel, if_neg he]
    replace hne := hne.trans (decide_eq_true (fun h => he (hot.1 h)))
    have HQ := Lib.hid hq
    clear hq hot he hln
    go_wp2
    go_step3
    go_wp2
    rw [jump_goto]
    go_wp2
    rw [Exit.noGoto_ret]
    go_ret2
    rw [HQ.out]
    exact ⟨_, rfl, own_nil _ _ _ _, hB⟩
end Go.Proofs.YtlanlkpamnoekaaDoor
namespace Go.Proofs.YtlanlkpamnoekaaDoor.Str
open Go.RowKit Mem Bv
def strOf (bs : List (BitVec 8)) : ByteArray := strOfNums (bs.map fun b => (b.toNat : Int))
theorem strOf_toList (bs : List (BitVec 8)) : (strOf bs).toList = bs.map fun b => UInt8.ofNat b.toNat := by
  unfold strOf
  rw [Lib.toList_data, strOfNums_data, List.map_map]
  rfl
theorem map_inj : ∀ {a b : List (BitVec 8)}, (a.map fun x => UInt8.ofNat x.toNat) = (b.map fun x => UInt8.ofNat x.toNat) → a = b
  | [], [], _ => rfl
  | [], _ :: _, h => by simp at h
  | _ :: _, [], h => by simp at h
  | x :: a, y :: b, h => by
    simp only [List.map_cons, List.cons.injEq] at h
    rw [map_inj h.2]
    congr 1
    have h1 := congrArg UInt8.toNat h.1
    have hx := x.isLt
    have hy := y.isLt
    simp only [UInt8.toNat_ofNat'] at h1
    apply BitVec.eq_of_toNat_eq
    omega
theorem str_beq (a b : List (BitVec 8)) : ((strOf a).toList == (strOf b).toList) = decide (a = b) := by
  rw [strOf_toList, strOf_toList]
  by_cases h : a = b
  · subst h; simp
  · rw [decide_eq_false h]
    exact beq_eq_false_iff_ne.2 (fun e => h (map_inj e))
theorem conv_str {P : Program} {w : World} {src e dst : TypeId} {v : Value} {bs : List (BitVec 8)} (h : SliceAt w 1 v bs.length (u8s bs)) (hs : P.underlying src = some (.slice e)) (he : P.underlying e = some (.int .u8)) (hd : P.underlying dst = some .string) :
    (convert src dst v).run P w = .ok (.string (strOf bs)) w := by
  obtain ⟨A, c, rfl, _, _, _, h4⟩ := h
  cases A with
  | none =>
    have h0 : bs = [] := by
      rcases h4 with h | ⟨_, _, h, _⟩
      · exact List.eq_nil_of_length_eq_zero h
      · cases h
    subst h0
    exact run_convert_bytes_nil (P := P) w src e hs he _ c dst hd
  | some ad =>
    rcases Nat.eq_zero_or_pos bs.length with h0 | h0
    · obtain rfl : bs = [] := List.eq_nil_of_length_eq_zero h0
      rw [run_convert_bytes_string w src dst e _ _ c hs he hd]
      simp [Conv.bytesToString, strOf, strOfNums, loadCells, loadCellsFrom, Result.andThen]
      rfl
    · rcases h4 with h | ⟨b, off, h, _, hc⟩
      · omega
      cases h
      refine run_convert_bytes_arg (P := P) w src e hs he b off bs.length c _ (by simp) (fun i hi => ?_) dst hd
      have := hc i (.int .u8 ((bs[i]'hi).toNat : Int)) (by simp [u8s, hi])
      rw [this]; simp [hi]
end Go.Proofs.YtlanlkpamnoekaaDoor.Str
namespace Go.Proofs.YtlanlkpamnoekaaDoor
open Go.RowKit Rf Mem Bv Crc Str
attribute [local go_sem ↓] run_max2 run_min2
theorem refBit_c (s : BitVec 16) (b : Bool) (w : World) : Calls Tryd.prog 77 #[.int .u16 s.toNat, .bool b] w fun e w' => e = .returned (.int .u16 (by1 s b).toNat) ∧ w = w' := by
  have e1 : (bits .and .u16 (s.toNat : Int) 1 == 1) = s.getLsbD 0 := by
    rw [and1_16, lsb0]
    rcases Nat.mod_two_eq_zero_or_one s.toNat with h | h <;> rw [h] <;> rfl
  have h1 : ∀ x : Bool, s.getLsbD 0 = x → bits .xor .u16 ((s.toNat : Int) / 2) 33800 = ((by1 s (!x)).toNat : Int) ∧ (s.toNat : Int) / 2 = ((by1 s x).toNat : Int) := by
    intro x hx
    refine ⟨by1_val s (!x) 33800 (by rw [hx]; cases x <;> rfl), ?_⟩
    rw [by1_old, hx, shr1]
    cases x <;> simp
  generalize s.getLsbD 0 = x at *
  obtain ⟨ha, hb⟩ := h1 x rfl
  have HA := Lib.hid ha
  have HB := Lib.hid hb
  clear ha hb h1
  cases x <;> cases b
  all_goals
    go_enter Tryd.func77, Tryd.ntmps77
    go_wp2
    go_ret
    exact ⟨ret_int (by first | exact HA.out | exact HB.out), rfl⟩
set_option maxHeartbeats 1000000 in
theorem refGo_c (s : BitVec 16) (v : Value) (bs : List (BitVec 8)) (w : World) (hs : SliceAt w 1 v bs.length (u8s bs)) :
    Calls Tryd.prog 74 #[.int .u16 s.toNat, v] w fun e w' => e = .returned (.int .u16 (go s bs).toNat) ∧ w = w' := by
  obtain ⟨A, c, rfl, hc1, hc2, _, hc4⟩ := hs
  unfold maxLen at hc2
  go_enter Tryd.func74, Tryd.ntmps74
  go_wp2_with fail
  go_loop [0, 5, 6] (fun t i _ => ∃ k : Nat, k ≤ bs.length ∧ i = .int .i64 k ∧ t = .int .u16 (goBits s ((allBits bs).take (k * 8))).toNat) (fun _ i _ => bs.length - (intOf i).toNat)
  case atStart => exact ⟨0, Nat.zero_le _, rfl, by simp [goBits]⟩
  case round =>
    obtain ⟨k, hk, rfl, rfl⟩ := hrel
    by_cases hlt : k < bs.length
    · rcases hc4 with hz | ⟨bk, off, rfl, hbl, hcell⟩
      · omega
      have hbk : bs[k]? = some bs[k] := List.getElem?_eq_getElem hlt
      have hcl := hcell k (.int .u8 (bs[k].toNat : Int)) (by simp [u8s, hbk])
      have hxs := Lib.hid (fun j hj => bitList_at (bitList_get (j := j) hbk hj))
      generalize bs[k] = b at *
      clear hcell hbk
      go_wp2_with fail
      go_loop [0, 6] (fun t i => ∃ j : Nat, j ≤ 8 ∧ i = .int .i64 j ∧ t = .int .u16 (goBits s ((allBits bs).take (k * 8 + j))).toNat) (fun _ i => 8 - (intOf i).toNat)
      case atStart => exact ⟨0, by omega, rfl, rfl⟩
      case round =>
        obtain ⟨j, hj, rfl, rfl⟩ := hrel
        by_cases hj8 : j < 8
        · obtain ⟨bt, hbt, hbe⟩ := hxs.out j hj8
          have hb1 : bt = b.getLsbD j := by simpa using hbe.symm
          have hn := Lib.hid (go_take s _ _ bt hbt)
          have hlb : (bits .and .u8 ((b.toNat : Int) / 2 ^ j) 1 == 1) = bt := by
            rw [shr_bv, and1_8, hb1]
            have h : (b >>> j).getLsbD 0 = decide ((b >>> j).toNat % 2 = 1) := by rw [BitVec.getLsbD, Nat.testBit_zero]
            rw [BitVec.getLsbD_ushiftRight, Nat.add_zero] at h
            rw [h]
            rcases Nat.mod_two_eq_zero_or_one (b >>> j).toNat with e | e <;> rw [e] <;> rfl
          clear hbe hb1 hbt
          generalize goBits s ((allBits bs).take (k * 8 + j)) = t at *
          go_wp2_with fail
          refine (refBit_c t bt _).mono ?_
          rintro e w' ⟨rfl, rfl⟩
          go_wp2
          go_round
          case rel => exact ⟨j + 1, by omega, by go_num, by rw [show k * 8 + (j + 1) = k * 8 + j + 1 by omega, hn.out]⟩
          case measure => simp [intOf]; omega
        · obtain rfl : j = 8 := by omega
          go_wp2
          go_round
          case rel => exact ⟨k + 1, by omega, by go_num, by rw [show (k + 1) * 8 = k * 8 + 8 by omega]⟩
          case measure => simp [intOf]; omega
    · have e : goBits s ((allBits bs).take (k * 8)) = go s bs := by
        rw [List.take_of_length_le (by rw [allBits_length]; omega)]; rfl
      rw [e]
      go_wp2
      go_ret
      exact ⟨rfl, rfl⟩
theorem refSum_c (v : Value) (bs : List (BitVec 8)) (w : World) (hs : SliceAt w 1 v bs.length (u8s bs)) :
    Calls Tryd.prog 71 #[v] w fun e w' => e = .returned (.int .u16 (Crc.sum bs).toNat) ∧ w = w' := by
  have hsg : IntKind.u16.signed = false := rfl
  have hg := Lib.hid (refGo_c 0xffff#16 v bs w hs)
  obtain ⟨A, c, rfl, _⟩ := hs
  go_enter Tryd.func71, Tryd.ntmps71
  go_wp2_with fail
  refine hg.out.mono ?_
  rintro e w1 ⟨rfl, rfl⟩
  have hn := Lib.hid (not_16 (go 0xffff#16 bs))
  go_wp2
  go_ret
  exact ⟨ret_int hn.out, rfl⟩
theorem own_base_le {w : World} {base base' e sz n : Nat} {v : Value} {xs : List Value} (h : w.ownsRow base e sz v n xs) (hb : base' ≤ base) : w.ownsRow base' e sz v n xs :=
  ⟨h.1, h.2.imp id (fun ⟨g, cap, cur, q1, q2, q3⟩ => ⟨g, cap, cur, q1, by omega, q3⟩)⟩
set_option maxHeartbeats 1000000 in
theorem refClose_c (v : Value) (bs : List (BitVec 8)) (w : World) (hs : SliceAt w 1 v bs.length (u8s bs)) (hl : bs.length ≤ 140737488355320) :
    Calls Tryd.prog 65 #[v] w fun e w' => ∃ v', e = .returned v' ∧ w'.ownsRow w.heap.size 5 1 v' (bs.length + 2) (u8s (Crc.close bs)) ∧ Below w.heap.size w w' := by
  obtain ⟨i0, hi, hz0, hz1, hz2⟩ := info_parts info_u8
  have hs' := hs
  obtain ⟨A, c, rfl, hc1, hc2, hc3, hc4⟩ := hs
  have e1 := lo_val (Crc.sum bs)
  have e2 := hi_val (Crc.sum bs)
  have hown := own_empty w 5 1
  have hsrc0 := hs'.later ((Below.refl _ w).alloc (Nat.le_refl _) (.cells #[] 5))
  have HC := Lib.hid (show u8s bs ++ [.int .u8 ((Crc.lo (Crc.sum bs)).toNat : Int), .int .u8 ((Crc.hi (Crc.sum bs)).toNat : Int)] = u8s (Crc.close bs) by simp [u8s, Crc.close])
  have q1 : (Crc.lo (Crc.sum bs)).toNat < 256 := (Crc.lo (Crc.sum bs)).isLt
  have q2 : (Crc.hi (Crc.sum bs)).toNat < 256 := (Crc.hi (Crc.sum bs)).isLt
  have hSum := Lib.hid (refSum_c _ bs w hs')
  generalize (Crc.lo (Crc.sum bs)).toNat = l at *
  generalize (Crc.hi (Crc.sum bs)).toNat = h at *
  generalize (Crc.sum bs).toNat = s at *
  go_enter Tryd.func65, Tryd.ntmps65
  go_wp2_with fail
  refine hSum.out.mono ?_
  rintro e w' ⟨rfl, rfl⟩
  go_wp2_with (first
    | (at_builtin; refine wpList_append_src (by rfl) (.tmp 6) (.tmp 7) _ (by rfl) w.heap.size 5 i0 _ 1 1 Tryd.underlying36 hi hz0 hz1 hz2 rfl (by omega) (.slice (some ⟨w.heap.size, 0, none⟩) 0 0) 0 [] (by rfl) hown (.slice A bs.length c) bs.length (u8s bs) (by rfl) hsrc0 (u8s_one bs) (by simp only [maxLen]; omega) (by omega) (by simp) ?_; intro v1 w1 ho1 hg1 _; simp only [Nat.zero_add, List.nil_append] at ho1)
    | (at_builtin; refine wpList_append_src (by rfl) (.tmp 8) (.tmp 14) _ (by rfl) w.heap.size 5 i0 _ 1 1 Tryd.underlying36 hi hz0 hz1 hz2 rfl (by omega) v1 bs.length (u8s bs) (by rfl) (own_later ho1 (fun g hg => Below.heap_alloc _ _ _ (own_base ho1 hg).2)) (.slice (some ⟨w1.heap.size, 0, none⟩) 2 2) 2 _ (by rfl) (sliceAt_new (cs := [.int .u8 (l : Int), .int .u8 (h : Int)]) (new_at rfl _) rfl (by simp [maxLen])) (by simp [Value.oneCell']) (by simp only [maxLen]; omega) (by omega) (by have := hg1.size; simp at *; omega) ?_; intro v3 w3 ho4 hg3 _))
  go_ret
  rw [HC.out] at ho4
  have b1 := below_own ((Below.refl _ w).alloc (Nat.le_refl _) _) hg1 (by simp) (by intro g hg; cases hg; exact Nat.le_refl _)
  have s1 := b1.size
  exact ⟨v3, rfl, ho4, below_own (b1.alloc (by omega) _) hg3 (by simp; omega) (fun g hg => (own_base ho1 hg).1)⟩
end Go.Proofs.YtlanlkpamnoekaaDoor
namespace Go.Proofs.YtlanlkpamnoekaaDoor
open Go.RowKit Rf Mem Bv Crc Str
attribute [local go_sem ↓] run_max2 run_min2
theorem refOpen_short (v : Value) (bs : List (BitVec 8)) (w : World) (hs : SliceAt w 1 v bs.length (u8s bs)) (hl : bs.length < 2) :
    Calls Tryd.prog 47 #[v] w fun e w' => e = .returned (.tuple #[.slice none 0 0, .int .i64 40]) ∧ w = w' := by
  obtain ⟨A, c, rfl, hc1, hc2, hc3, hc4⟩ := hs
  unfold maxLen at hc2
  have hwr : IntKind.i64.wrap ((bs.length : Int) - 2) = (bs.length : Int) - 2 := IntWalk.i64_in _ (by omega)
  go_enter Tryd.func47, Tryd.ntmps47
  go_wp2
  go_ret2
  exact ⟨rfl, rfl⟩
set_option maxRecDepth 100000 in
set_option maxHeartbeats 1000000 in
theorem refOpen_long (v : Value) (bs : List (BitVec 8)) (n : Nat) (w : World) (hs : SliceAt w 1 v bs.length (u8s bs)) (hn : bs.length = n + 2) (hl : bs.length ≤ 140737488355320) :
    Calls Tryd.prog 47 #[v] w fun e w' => ∃ v', e = .returned (.tuple #[v', .int .i64 (openV bs).2]) ∧ w'.ownsRow w.heap.size 5 1 v' (openV bs).1.length (u8s (openV bs).1) ∧ Below w.heap.size w w' := by
  obtain ⟨i0, hi, hz0, hz1, hz2⟩ := info_parts info_u8
  have hs' := hs
  obtain ⟨A, c, rfl, hc1, hc2, hc3, hc4⟩ := hs
  unfold maxLen at hc2
  have htk : SliceAt w 1 (.slice A n c) (bs.take n).length (u8s (bs.take n)) := by
    have := hs'.take (k := n) (by omega)
    rw [Nat.mul_one] at this
    rw [List.length_take, Nat.min_eq_left (by omega)]
    simpa [u8s, List.map_take] using this
  have hwr : IntKind.i64.wrap ((bs.length : Int) - 2) = (n : Int) := by rw [IntWalk.i64_in _ (by omega)]; omega
  have hlt : (bs.take n).length = n := by rw [List.length_take]; omega
  have hS := Lib.hid (refClose_c (.slice A n c) (bs.take n) w.drew (htk.later (Below.refl _ _).drew) (by omega))
  have cv0 : ∀ W, Below w.heap.size w W → (convert 36 9 (.slice A bs.length c)).run Tryd.prog W = .ok (.string (strOf bs)) W := fun W hW => conv_str (hs'.later hW) Tryd.underlying36 Tryd.underlying5 Tryd.underlying9
  have CV := Lib.hid cv0
  have cvd := cv0 _ (Below.refl _ w).drew
  clear cv0
  have hcmp := Lib.hid (str_beq (Crc.close (bs.take n)) bs)
  have hopen : openV bs = if Crc.close (bs.take n) = bs then (bs.take n, 0) else ([], 42) := by unfold openV; rw [if_neg (by omega), hn, Nat.add_sub_cancel]
  have HO := Lib.hid hopen
  have HT := Lib.hid htk
  have HL := Lib.hid hlt
  have i1 : (0 : Int) ≤ (n : Int) := by omega
  have i4 : (n : Int) ≤ (c : Int) := by omega
  clear hopen htk hs' hc3 hc4 hlt
  have hclen := Lib.hid (show (Crc.close (bs.take n)).length = (bs.take n).length + 2 by simp [Crc.close])
  generalize Crc.close (bs.take n) = cl at *
  generalize hst : strOf bs = st at *
  have HST := Lib.hid hst
  clear hst
  have HN := Lib.hid hn
  have hn1 : bs.length ≤ n + 2 := by omega
  have hn2 : n + 2 ≤ bs.length := by omega
  clear hn
  go_enter Tryd.func47, Tryd.ntmps47
  go_wp2_with fail
  go_region_with (go_at_call 65; refine hS.out.mono ?_; rintro e w1 ⟨v1, rfl, ho1, hb1⟩; have hB : Below w.heap.size w w1 := (Below.refl _ w).drew.trans hb1; have cv1 := CV.out _ hB; have cv2 := conv_str (P := Tryd.prog) (dst := 9) (bs := cl) (by rw [hclen.out]; exact sliceAt_of_own ho1) Tryd.underlying36 Tryd.underlying5 Tryd.underlying9)
  all_goals
    have hcm := hcmp.out
    generalize strOf cl = sc at *
    by_cases he : cl = bs
    · rw [decide_eq_true he] at hcm
      simp only [hcm, Bool.not_true]
      have hq := Lib.hid (show openV bs = (bs.take n, 0) by rw [HO.out, if_pos he])
      clear he
      have hs2 := HT.out.later hB
      rw [HL.out] at hs2
      have hown := own_empty w1 5 1
      have hsrc := hs2.later ((Below.refl _ w1).alloc (Nat.le_refl _) (.cells #[] 5))
      go_wp2_with (at_builtin; refine wpList_append_src (by rfl) (.tmp 18) (.tmp 21) _ (by rfl) w1.heap.size 5 i0 _ 1 1 Tryd.underlying36 hi hz0 hz1 hz2 rfl (by omega) (.slice (some ⟨w1.heap.size, 0, none⟩) 0 0) 0 [] (by rfl) hown (.slice A n c) n (u8s (bs.take n)) (by rfl) hsrc (u8s_one _) (by simp only [maxLen]; omega) (by omega) (by simp) ?_; intro v2 w2 ho2 hg2 _)
      go_ret2
      simp only [Nat.zero_add, List.nil_append] at ho2
      rw [hq.out]
      have s1 := hB.size
      refine ⟨v2, rfl, ?_, below_own (hB.alloc (by omega) _) hg2 (by simp; omega) (by intro g hg; cases hg; exact s1)⟩
      rw [HL.out]
      exact own_base_le ho2 s1
    · rw [decide_eq_false he] at hcm
      simp only [hcm, Bool.not_false]
      have hq := Lib.hid (show openV bs = ([], 42) by rw [HO.out, if_neg he])
      clear he
      go_wp2
      go_ret2
      rw [hq.out]
      exact ⟨_, rfl, own_nil _ _ _ _, hB⟩
end Go.Proofs.YtlanlkpamnoekaaDoor
namespace Go.Proofs.YtlanlkpamnoekaaDoor
open Go.RowKit Rf Mem Bv Crc Str
attribute [local go_sem ↓] run_max2 run_min2
/-- a frame: its kind, its number, its payload -/
abbrev fv (k s : Int) (v : Value) : Value := .agg #[.int .u8 k, .int .u8 s, v]
/-- may a frame of this kind and so long a payload be? -/
def rightF (k : Int) (n : Nat) : Bool := decide (0 < k ∧ k < 4) && decide (n ≤ 59)
/-- block g holds a frame, its payload p -/
structure FVar (W : World) (g : Nat) (k s : Int) (v : Value) (p : List (BitVec 8)) : Prop where
  at_ : W.heap[g]? = some (.cells #[.int .u8 k, .int .u8 s, v] 41 (0, 0))
  sl : SliceAt W 1 v p.length (u8s p)
theorem below_new (W : World) (o : Obj) : Below W.heap.size W (W.alloc o) := (Below.refl _ W).alloc (Nat.le_refl _) _
theorem FVar.later {W W' : World} {g : Nat} {k s : Int} {v : Value} {p : List (BitVec 8)} (h : FVar W g k s v p) (hb : Below W.heap.size W W') : FVar W' g k s v p :=
  ⟨below_at hb h.at_ (Array.getElem?_eq_some_iff.1 h.at_).1, h.sl.later hb⟩
theorem FVar.c0 {W : World} {g : Nat} {k s : Int} {v : Value} {p : List (BitVec 8)} (h : FVar W g k s v p) : W.cell? ⟨g, 0, none⟩ = some (.int .u8 k) := by rw [cell_at h.at_]; rfl
theorem FVar.c1 {W : World} {g : Nat} {k s : Int} {v : Value} {p : List (BitVec 8)} (h : FVar W g k s v p) : W.cell? ⟨g, 1, none⟩ = some (.int .u8 s) := by rw [cell_at h.at_]; rfl
theorem FVar.c2 {W : World} {g : Nat} {k s : Int} {v : Value} {p : List (BitVec 8)} (h : FVar W g k s v p) : W.cell? ⟨g, 2, none⟩ = some v := by rw [cell_at h.at_]; rfl
theorem FVar.new {W : World} {k s : Int} {v : Value} {p : List (BitVec 8)} (h : SliceAt W 1 v p.length (u8s p)) : FVar (W.alloc (.cells #[.int .u8 k, .int .u8 s, v] 41)) W.heap.size k s v p :=
  ⟨new_at rfl _, h.later (below_new _ _)⟩
theorem load_frm {W : World} {g : Nat} {x y z : Value} {f : Nat × Nat} (hg : W.heap[g]? = some (.cells #[x, y, z] 41 f)) : (loadVar 41 ⟨g, 0, none⟩).run Tryd.prog W = .ok (.agg #[x, y, z]) W := by
  have c0 := cell_at hg 0
  have c1 := cell_at hg 1
  have c2 := cell_at hg 2
  simp only [List.getElem?_toArray, List.getElem?_cons_zero, List.getElem?_cons_succ] at c0 c1 c2
  simp [go_sem, c0, c1, c2]
theorem res_frm {fn : Func} {t : Tmp} (hf : fn.results = #[.cell t 41]) {tmps : Array Value} {W : World} {g : Nat} {x y z : Value} {f : Nat × Nat} (hs : tmps.getD t undef = .pointer (some ⟨g, 0, none⟩)) (hg : W.heap[g]? = some (.cells #[x, y, z] 41 f)) :
    (results fn tmps).run Tryd.prog W = .ok (.agg #[x, y, z]) W := by
  have hs' : tmps[t]?.getD undef = .pointer (some ⟨g, 0, none⟩) := by simpa using hs
  simp [results, hf, hs', asAddr, load_frm hg]
theorem res_frm2 {fn : Func} {t u : Tmp} (hf : fn.results = #[.cell t 41, .tmp u]) {tmps : Array Value} {W : World} {g : Nat} {x y z : Value} {f : Nat × Nat} (hs : tmps.getD t undef = .pointer (some ⟨g, 0, none⟩)) (hg : W.heap[g]? = some (.cells #[x, y, z] 41 f)) :
    (results fn tmps).run Tryd.prog W = .ok (.tuple #[.agg #[x, y, z], tmps.getD u undef]) W := by
  have hs' : tmps[t]?.getD undef = .pointer (some ⟨g, 0, none⟩) := by simpa using hs
  simp [results, hf, hs', asAddr, load_frm hg]
theorem rightF_cases (k : Int) (n : Nat) : (decide (0 < k) = false ∧ rightF k n = false) ∨ (decide (0 < k) = true ∧ decide (k < 4) = false ∧ rightF k n = false) ∨ (decide (0 < k) = true ∧ decide (k < 4) = true ∧ rightF k n = decide ((n : Int) ≤ 59)) := by
  unfold rightF
  by_cases h1 : 0 < k
  · by_cases h2 : k < 4
    · refine .inr (.inr ⟨decide_eq_true h1, decide_eq_true h2, ?_⟩)
      rw [decide_eq_true (show 0 < k ∧ k < 4 from ⟨h1, h2⟩), Bool.true_and, Bool.eq_iff_iff, decide_eq_true_eq, decide_eq_true_eq]; omega
    · exact .inr (.inl ⟨decide_eq_true h1, decide_eq_false h2, by rw [decide_eq_false (fun h => h2 h.2), Bool.false_and]⟩)
  · exact .inl ⟨decide_eq_false h1, by rw [decide_eq_false (fun h => h1 h.1), Bool.false_and]⟩
set_option maxHeartbeats 1000000 in
theorem Right_c (k s : Int) (v : Value) (p : List (BitVec 8)) (w : World) (hs : SliceAt w 1 v p.length (u8s p)) :
    Calls Tryd.prog 52 #[fv k s v] w fun e w' => e = .returned (.bool (rightF k p.length)) ∧ Below w.heap.size w w' := by
  have V := FVar.new (k := k) (s := s) hs
  have hB := below_new w (.cells #[.int .u8 k, .int .u8 s, v] 41)
  obtain ⟨A, c, rfl, _⟩ := hs.form
  clear hs
  rcases rightF_cases k p.length with ⟨q1, q3⟩ | ⟨q1, q2, q3⟩ | ⟨q1, q2, q3⟩
  all_goals
    rw [q3]
    clear q3
    go_enter Tryd.func52, Tryd.ntmps52
    go_wp2
    go_ret
    exact ⟨rfl, hB⟩
theorem ge1 (k : Int) : decide (1 ≤ k) = decide (0 < k) := by rw [Bool.eq_iff_iff, decide_eq_true_eq, decide_eq_true_eq]; omega
set_option maxHeartbeats 1000000 in
theorem refRight_c (k s : Int) (v : Value) (p : List (BitVec 8)) (w : World) (hs : SliceAt w 1 v p.length (u8s p)) :
    Calls Tryd.prog 48 #[fv k s v] w fun e w' => e = .returned (.bool (rightF k p.length)) ∧ Below w.heap.size w w' := by
  have V := FVar.new (k := k) (s := s) hs
  have hB := below_new w (.cells #[.int .u8 k, .int .u8 s, v] 41)
  obtain ⟨A, c, rfl, _⟩ := hs.form
  clear hs
  rcases rightF_cases k p.length with ⟨q1, q3⟩ | ⟨q1, q2, q3⟩ | ⟨q1, q2, q3⟩
  all_goals
    rw [q3]
    clear q3
    rw [← ge1] at q1
    go_enter Tryd.func48, Tryd.ntmps48
    go_wp2
    go_ret
    exact ⟨rfl, hB⟩
end Go.Proofs.YtlanlkpamnoekaaDoor
