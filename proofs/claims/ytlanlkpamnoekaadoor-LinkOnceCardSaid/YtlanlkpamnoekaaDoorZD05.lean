/- Lone runs in company: a metatheorem on the model, and the sender beside link.All. Nothing that was there is turned. -/
import Derived.Conc.Beside
import Derived.Conc.Events
set_option linter.unusedSimpArgs false
set_option linter.unusedVariables false
namespace Go.Proofs.YtlanlkpamnoekaaDoor.Lk
open Go

/-- What a record of a loop, or a block of another kind, may hold; 'q': may there be channels. -/
def OkObj (q : Prop) (C : Code → Prop) : Obj → Prop
  | .loop l => C l.assign ∧ C l.body ∧ ∀ c, l.pending = some c → C c
  | .deferred (some ds) => ds = []
  | .chan .. => q
  | .pending .. => False
  | _ => True

/-- The halts that come to an end by themselves. -/
def Fine : Halt → Prop
  | .panic _ | .stuck _ => True
  | .unsupported u => ∀ g, u ≠ .initOrder g
  | _ => False

/-- A row that is iced: every cell frozen. -/
def iced (c : Array Value) (t : TypeId) : Obj := .cells c t (0, c.size)

/-- The ghost world: the blocks of Z are bare. -/
structure Inv (q : Prop) (Z : Nat → Prop) (C : Code → Prop) (G : World) : Prop where
  ok : ∀ (i : Nat) (o : Obj), G.heap[i]? = some o → OkObj q C o
  bare : ∀ i : Nat, Z i → (∃ t f, G.heap[i]? = some (.cells #[] t f)) ∨ G.heap[i]? = some (.coro none) ∨ ∃ c t, G.heap[i]? = some (iced c t)

/-- What may truly stand where the ghost world holds an idle coroutine. -/
def Odd : Obj → Prop
  | .loop _ | .deferred _ | .chan .. | .pending .. | .coro _ => True
  | _ => False

/-- The true world: what it holds in Z is its own affair: cells of the same type where the ghost world has bare ones, else a record of another kind. -/
structure Rel (Z : Nat → Prop) (G A : World) : Prop where
  size : A.heap.size = G.heap.size
  same : ∀ i : Nat, ¬ Z i → A.heap[i]? = G.heap[i]?
  odd : ∀ i : Nat, Z i → (∃ t f c, G.heap[i]? = some (.cells #[] t f) ∧ A.heap[i]? = some (.cells c t f)) ∨ (∃ o, G.heap[i]? = some (.coro none) ∧ A.heap[i]? = some o ∧ Odd o) ∨ ∃ c t f, G.heap[i]? = some (iced c t) ∧ A.heap[i]? = some (.cells c t f)
  os : A.os = G.os
  out : A.output = G.output

def Agree (n : Nat) (G A : World) : Prop := ∀ i, i < n → ∀ q, A.tape (A.drawn + i) q = G.tape (G.drawn + i) q

/-- What may be listed: no write of a cell in Z; no mark that synchronises. -/
def EvA (Z : Nat → Prop) (e : Event) : Prop := (∀ a, e.loc = .cell a → e.write = true → ¬ Z a.block) ∧ (∀ m, e.loc = .mark m → m = .noRoom ∨ ∃ f, m = .extern f) ∧ ∀ r, e.loc = .obj r → e.write = true → ¬ Z r

section
variable {P : Program} {q : Prop} {Z : Nat → Prop} {C : Code → Prop} {α β : Type} {G A : World}

def Carried (P : Program) (q : Prop) (Z : Nat → Prop) (C : Code → Prop) (N : α → Prop) (s : Sem α) (G : World) : Prop :=
  (∃ h w, s.run P G = .halt h w ∧ Fine h ∧ Inv q Z C w) ∨
  ∃ a G' n, s.run P G = .ok a G' ∧ N a ∧ Inv q Z C G' ∧ G'.tape = G.tape ∧ G'.drawn = G.drawn + n ∧ G.heap.size ≤ G'.heap.size ∧
    ∀ A, Rel Z G A → Agree n G A → ∃ A', s.run P A = .ok a A' ∧ Rel Z G' A' ∧ A'.tape = A.tape ∧ A'.drawn = A.drawn + n ∧ (∀ i : Nat, Z i → A'.heap[i]? = A.heap[i]?) ∧
      ∀ es, (∀ e ∈ es, EvA Z e) → ∀ e ∈ s.events P A es, EvA Z e

def Meek (P : Program) (q : Prop) (Z : Nat → Prop) (C : Code → Prop) (N : α → Prop) (s : Sem α) : Prop := ∀ G, Inv q Z C G → Carried P q Z C N s G
/-- It comes to nothing on a ghost world. -/
def Dead (P : Program) (q : Prop) (Z : Nat → Prop) (C : Code → Prop) (s : Sem α) : Prop := ∀ G, Inv q Z C G → ∃ h w, s.run P G = .halt h w ∧ Fine h ∧ Inv q Z C w

theorem Dead.meek {N : α → Prop} {s : Sem α} (h : Dead P q Z C s) : Meek P q Z C N s := fun G hG => .inl (h G hG)
theorem Meek.mono {N N' : α → Prop} {s : Sem α} (h : Meek P q Z C N s) (hN : ∀ a, N a → N' a) : Meek P q Z C N' s := fun G hG =>
  (h G hG).imp id fun ⟨a, G', n, h1, h2, h3⟩ => ⟨a, G', n, h1, hN a h2, h3⟩

theorem Agree.of_le {n m : Nat} {G A : World} (h : Agree m G A) (hn : n ≤ m) : Agree n G A := fun i hi => h i (by omega)
theorem Agree.shift {n m : Nat} {G A G' A' : World} (h : Agree (n + m) G A) (g1 : G'.tape = G.tape) (g2 : G'.drawn = G.drawn + n) (a1 : A'.tape = A.tape) (a2 : A'.drawn = A.drawn + n) : Agree m G' A' := by
  intro i hi q
  rw [g1, g2, a1, a2, Nat.add_assoc, Nat.add_assoc]
  exact h (n + i) (by omega) q

theorem Meek.pure {N : α → Prop} {a : α} (h : N a) : Meek P q Z C N (Pure.pure a : Sem α) := fun G hG =>
  .inr ⟨a, G, 0, by simp, h, hG, rfl, rfl, Nat.le_refl _, fun A hA _ => ⟨A, by simp, hA, rfl, rfl, fun _ _ => rfl, fun es hes e he => hes e (by simpa using he)⟩⟩

theorem Meek.bind {N : α → Prop} {M : β → Prop} {s : Sem α} {f : α → Sem β} (hs : Meek P q Z C N s) (hf : ∀ a, N a → Meek P q Z C M (f a)) : Meek P q Z C M (s >>= f) := by
  intro G hG
  rcases hs G hG with ⟨h, w, hr, hfi⟩ | ⟨a, G1, n, hr, hN, hG1, t1, d1, z1, hc⟩
  · exact .inl ⟨h, w, by rw [Sem.run_bind, hr]; rfl, hfi⟩
  rcases hf a hN G1 hG1 with ⟨h, w, hr2, hfi⟩ | ⟨b, G2, m, hr2, hM, hG2, t2, d2, z2, hc2⟩
  · exact .inl ⟨h, w, by rw [Sem.run_bind, hr]; exact hr2, hfi⟩
  refine .inr ⟨b, G2, n + m, by rw [Sem.run_bind, hr]; exact hr2, hM, hG2, t2.trans t1, by rw [d2, d1, Nat.add_assoc], Nat.le_trans z1 z2, fun A hA hag => ?_⟩
  obtain ⟨A1, a1, a2, a3, a4, a5, a6⟩ := hc A hA (hag.of_le (by omega))
  obtain ⟨A2, b1, b2, b3, b4, b5, b6⟩ := hc2 A1 a2 (hag.shift t1 d1 a3 a4)
  refine ⟨A2, by rw [Sem.run_bind, a1]; exact b1, b2, b3.trans a3, by rw [b4, a4, Nat.add_assoc], fun i hi => (b5 i hi).trans (a5 i hi), fun es hes => ?_⟩
  rw [Sem.events_bind, a1]
  exact b6 _ (a6 es hes)

/-- Behind whatever is meek a dead end is a dead end. -/
theorem Meek.bindDead {N : α → Prop} {s : Sem α} {f : α → Sem β} (hs : Meek P q Z C N s) (hf : ∀ a, N a → Dead P q Z C (f a)) : Dead P q Z C (s >>= f) := by
  intro G hG
  rcases hs G hG with ⟨h, w, hr, hfi⟩ | ⟨a, G1, n, hr, hN, hG1, _⟩
  · exact ⟨h, w, by rw [Sem.run_bind, hr]; rfl, hfi⟩
  · obtain ⟨h, w, h1, h2⟩ := hf a hN G1 hG1
    exact ⟨h, w, by rw [Sem.run_bind, hr]; exact h1, h2⟩

theorem Dead.bind {s : Sem α} {f : α → Sem β} (hs : Dead P q Z C s) : Dead P q Z C (s >>= f) := by
  intro G hG
  obtain ⟨h, w, h1, h2⟩ := hs G hG
  exact ⟨h, w, by rw [Sem.run_bind, h1]; rfl, h2⟩
theorem Dead.halt {h : Halt} (hf : Fine h) : Dead P q Z C (Sem.halt h : Sem α) := fun G hG => ⟨h, G, rfl, hf, hG⟩
theorem Dead.stuck {why : String} : Dead P q Z C (stuck why : Sem α) := Dead.halt trivial
theorem Dead.goPanic {v : Value} : Dead P q Z C (goPanic v : Sem α) := Dead.halt trivial
theorem Dead.unsupported {u : Unsupported} (h : ∀ g, u ≠ .initOrder g) : Dead P q Z C (unsupported u : Sem α) := Dead.halt h

theorem Meek.program : Meek P q Z C (fun p => p = P) program := fun G hG =>
  .inr ⟨P, G, 0, rfl, rfl, hG, rfl, rfl, Nat.le_refl _, fun A hA _ => ⟨A, rfl, hA, rfl, rfl, fun _ _ => rfl, fun es hes e he => hes e he⟩⟩

theorem Meek.mark (m : Mark) (hm : m = .noRoom ∨ ∃ f, m = .extern f) : Meek P q Z C (fun _ => True) (Go.mark m) := fun G hG =>
  .inr ⟨(), G, 0, rfl, trivial, hG, rfl, rfl, Nat.le_refl _, fun A hA _ => ⟨A, rfl, hA, rfl, rfl, fun _ _ => rfl, fun es hes e he => by
    have he' : e ∈ es.push ⟨.mark m, false, true⟩ := he
    rcases Array.mem_push.1 he' with h | rfl
    · exact hes e h
    · exact ⟨fun a h => (by cases h), fun m' h => (by cases h; exact hm), fun r h => (by cases h)⟩⟩⟩
theorem Meek.noRoom : Meek P q Z C (fun _ => True) (Go.mark .noRoom) := Meek.mark _ (.inl rfl)

theorem Meek.choose (u : Question) : Meek P q Z C (fun _ => True) (choose u) := by
  intro G hG
  by_cases hu : u.forced = true
  · refine .inr ⟨0, G, 0, by simp [Go.choose, Sem.run, hu], trivial, hG, rfl, rfl, Nat.le_refl _, fun A hA _ => ⟨A, by simp [Go.choose, Sem.run, hu], hA, rfl, rfl, fun _ _ => rfl, fun es hes e he => hes e ?_⟩⟩
    have : (Go.choose u).events P A es = es := by simp only [Go.choose, Sem.events, Sem.runT, hu, if_true]
    exact this ▸ he
  · refine .inr ⟨u.cut (G.tape G.drawn u), { G with drawn := G.drawn + 1 }, 1, by simp [Go.choose, Sem.run, hu], trivial, ⟨hG.ok, hG.bare⟩, rfl, rfl, Nat.le_refl _, fun A hA hag => ⟨{ A with drawn := A.drawn + 1 }, ?_, ⟨hA.size, hA.same, hA.odd, hA.os, hA.out⟩, rfl, rfl, fun _ _ => rfl, fun es hes e he => hes e ?_⟩⟩
    · have := hag 0 (by omega) u
      simp only [Nat.add_zero] at this
      simp [Go.choose, Sem.run, hu, this]
    · have : (Go.choose u).events P A es = es := by simp only [Go.choose, Sem.events, Sem.runT, hu, if_false, Bool.false_eq_true]
      exact this ▸ he

/-! ### memory -/
theorem Inv.off {G : World} (hG : Inv q Z C G) {i : Nat} {o : Obj} (h : G.heap[i]? = some o) (ho : ∀ c e f, o ≠ .cells c e f) (hm : o ≠ .coro none) : ¬ Z i := fun hz => by
  rcases hG.bare i hz with ⟨t, f, hb⟩ | hb | ⟨c, t, hb⟩ <;> rw [hb] at h
  · exact ho _ _ _ (Option.some.inj h).symm
  · exact hm (Option.some.inj h).symm
  · exact ho _ _ _ (Option.some.inj h).symm

theorem Rel.cell {G A : World} (hA : Rel Z G A) {a : Addr} (h : ¬ Z a.block) : A.cell? a = G.cell? a := by unfold World.cell?; rw [hA.same _ h]
theorem Rel.froz {G A : World} (hA : Rel Z G A) {a : Addr} (h : ¬ Z a.block) : A.frozen? a = G.frozen? a := by unfold World.frozen?; rw [hA.same _ h]
theorem Rel.shp {G A : World} (hA : Rel Z G A) {r : Nat} (h : ¬ Z r) : A.shape? r = G.shape? r := by unfold World.shape?; rw [hA.same _ h]
theorem Rel.cell_up (h : Rel Z G A) {a : Addr} {v : Value} (hc : G.cell? a = some v) : A.cell? a = some v := by
  by_cases hz : Z a.block
  · unfold World.cell? at hc ⊢
    rcases h.odd _ hz with ⟨_, _, _, h1, _⟩ | ⟨_, h1, _⟩ | ⟨c, t, f, h1, h2⟩
    · rw [h1] at hc; simp at hc
    · rw [h1] at hc; simp at hc
    · rw [h1] at hc; rw [h2]; exact hc
  · rw [h.cell hz]; exact hc
/-- A cell of the ghost world that is not frozen is not veiled. -/
theorem Inv.cell_off {G : World} (hG : Inv q Z C G) {a : Addr} {v : Value} (h : G.cell? a = some v) (hf : G.frozen? a = false) : ¬ Z a.block := fun hz => by
  unfold World.cell? at h
  unfold World.frozen? at hf
  rcases hG.bare _ hz with ⟨t, f, hb⟩ | hb | ⟨c, t, hb⟩ <;> rw [hb] at h hf
  · simp at h
  · simp at h
  · simp only [iced] at h hf
    have : a.off < c.size := by
      rcases hs : a.spot with _ | _ <;> simp [hs] at h <;> first | exact (Array.getElem?_eq_some_iff.1 h).1 | skip
    simp [this] at hf

theorem seen_same {G A : World} {p : Program} {at_ : Addr} {u : TypeId} {k : Addr} {b : Bool} (h : A.heap[at_.block]? = G.heap[at_.block]?) : A.seen p at_ u k b = G.seen p at_ u k b := by
  unfold World.seen; rw [h]
theorem viewLoad_same {G A : World} {p : Program} {at_ : Addr} {u : TypeId} {k : Addr} {b : Bool} (h : A.heap[at_.block]? = G.heap[at_.block]?) : A.viewLoad p at_ u k b = G.viewLoad p at_ u k b := by
  unfold World.viewLoad; rw [seen_same h]

theorem bytes_pos {v : Value} {bs : List UInt8} (h : v.bytes? = some bs) : 0 < bs.length := by
  unfold Value.bytes? at h
  split at h <;> (try cases h)
  · simp
  · rename_i k n; cases k <;> simp [IntKind.bits, leBytes]
  · rename_i k n; cases k <;> simp [FloatKind.bytes, leBytes]
  · rename_i k a b; cases k <;> simp [FloatKind.bytes, leBytes]

/-- A view of a bare block shows nothing. -/
theorem seen_bare {G : World} {at_ : Addr} {u : TypeId} {k : Addr} {b : Bool} (hz : (∃ t f, G.heap[at_.block]? = some (.cells #[] t f)) ∨ G.heap[at_.block]? = some (.coro none)) : ∃ why, G.seen P at_ u k b = .error why := by
  unfold World.seen
  rcases hz with ⟨t, f, hb⟩ | hb <;> rw [hb]
  · by_cases hs : (k.spot.isSome || at_.spot.isSome) = true
    · simp only [hs, if_true]; exact ⟨_, rfl⟩
    simp only [hs, if_false, Bool.false_eq_true]
    cases plainCell P P.depth u k.off with
    | none => exact ⟨_, rfl⟩
    | some like =>
      cases hl : like.bytes? with
      | none => simp only [hl, Option.map_none]; exact ⟨_, rfl⟩
      | some bs =>
        have hpos := bytes_pos hl
        simp only [hl, Option.map_some]
        cases byteOfCell P P.depth u k.off with
        | none => exact ⟨_, rfl⟩
        | some β =>
          simp only []
          by_cases h0 : P.cellsOf t = 0
          · simp only [h0, if_true]; exact ⟨_, rfl⟩
          simp only [h0, if_false]
          cases byteOfCell P P.depth t (at_.off % P.cellsOf t) with
          | none => exact ⟨_, rfl⟩
          | some b0 =>
            simp only []
            have : ∀ x, ∃ why, seenCells P #[] t (bs.length + 1) x (x + bs.length) = .error why := by
              intro x
              unfold seenCells
              rw [if_neg (by omega)]
              by_cases hw : P.bytesOf t = 0
              · simp only [hw, if_true]; exact ⟨_, rfl⟩
              · simp only [hw, if_false]
                cases (cellHolding P P.depth t (x % P.bytesOf t)).map fun (i, s) => (x / P.bytesOf t * P.cellsOf t + i, x / P.bytesOf t * P.bytesOf t + s) with
                | none => exact ⟨_, rfl⟩
                | some y => exact ⟨_, rfl⟩
            obtain ⟨why, hw⟩ := this (at_.off / P.cellsOf t * P.bytesOf t + b0 + β)
            rw [hw]
            exact ⟨_, rfl⟩
  by_cases hs : (k.spot.isSome || at_.spot.isSome) = true
  · simp only [hs, if_true]; exact ⟨_, rfl⟩
  simp only [hs, if_false, Bool.false_eq_true]
  cases plainCell P P.depth u k.off with
  | none => exact ⟨_, rfl⟩
  | some like =>
    cases hl : like.bytes?.map (·.length) with
    | none => simp only [hl]; exact ⟨_, rfl⟩
    | some size =>
      simp only [hl]
      cases byteOfCell P P.depth u k.off with
      | none => exact ⟨_, rfl⟩
      | some β => exact ⟨_, rfl⟩

theorem seenCells_ne {p : Program} {c : Array Value} {e fuel x stop : Nat} {l : List (Nat × Nat × List UInt8)} (h : seenCells p c e (fuel + 1) x stop = .ok l) (hx : x < stop) : ∃ i s bs rest, l = (i, s, bs) :: rest ∧ i < c.size := by
  unfold seenCells at h
  rw [if_neg (by omega)] at h
  by_cases hw : p.bytesOf e = 0
  · simp only [hw, if_true] at h; cases h
  simp only [hw, if_false] at h
  split at h
  · cases h
  · rename_i i s _
    split at h
    · cases h
    · rename_i v hv
      split at h
      · cases h
      · cases h
      · rename_i bs _ _
        cases hr : seenCells p c e fuel (s + bs.length) stop with
        | error w => rw [hr] at h; cases h
        | ok r =>
          rw [hr] at h
          injection h with h
          subst h
          exact ⟨i, s, bs, r, rfl, (Array.getElem?_eq_some_iff.1 hv).1⟩

/-- A view of an iced row shows what the true one shows. -/
theorem seen_ice {G A : World} {c : Array Value} {t : TypeId} {f : Nat × Nat} {at_ : Addr} {u : TypeId} {k : Addr} {b : Bool} (hG : G.heap[at_.block]? = some (iced c t)) (hA : A.heap[at_.block]? = some (.cells c t f)) :
    (∃ why, G.seen P at_ u k b = .error why ∧ A.seen P at_ u k b = .error why) ∨
    ∃ first like cells, G.seen P at_ u k b = .ok (c, t, (0, c.size), first, like, cells) ∧ A.seen P at_ u k b = .ok (c, t, f, first, like, cells) ∧ ∃ i s bs rest, cells = (i, s, bs) :: rest ∧ i < c.size := by
  unfold World.seen
  rw [hG, hA]
  by_cases hs : (k.spot.isSome || at_.spot.isSome) = true
  · simp only [hs, if_true]; exact .inl ⟨_, rfl, rfl⟩
  simp only [hs, if_false, Bool.false_eq_true]
  cases plainCell P P.depth u k.off with
  | none => exact .inl ⟨_, rfl, rfl⟩
  | some like =>
    cases hl : like.bytes? with
    | none => simp only [hl, Option.map_none]; exact .inl ⟨_, rfl, rfl⟩
    | some bs =>
      have hpos := bytes_pos hl
      simp only [hl, Option.map_some]
      cases byteOfCell P P.depth u k.off with
      | none => exact .inl ⟨_, rfl, rfl⟩
      | some β =>
        simp only [iced]
        by_cases h0 : P.cellsOf t = 0
        · simp only [h0, if_true]; exact .inl ⟨_, rfl, rfl⟩
        simp only [h0, if_false]
        cases byteOfCell P P.depth t (at_.off % P.cellsOf t) with
        | none => exact .inl ⟨_, rfl, rfl⟩
        | some b0 =>
          simp only []
          generalize at_.off / P.cellsOf t * P.bytesOf t + b0 + β = x
          cases hsc : seenCells P c t (bs.length + 1) x (x + bs.length) with
          | error why => exact .inl ⟨why, rfl, rfl⟩
          | ok cells =>
            obtain ⟨i, s, b', rest, rfl, hi⟩ := seenCells_ne hsc (by omega)
            cases b with
            | false => exact .inr ⟨x, like, _, rfl, rfl, i, s, b', rest, rfl, hi⟩
            | true =>
              cases rest with
              | cons y r => exact .inl ⟨_, rfl, rfl⟩
              | nil =>
                by_cases hc : (s ≠ x || b'.length ≠ bs.length) = true
                · refine .inl ⟨ "memory seen as another type: an atomic access to a part of a cell", ?_, ?_⟩ <;> simp only [bind, Except.bind, hc, if_true] <;> rfl
                · refine .inr ⟨x, like, _, ?_, ?_, i, s, b', [], rfl, hi⟩ <;> simp only [bind, Except.bind, hc, if_false, Bool.false_eq_true, if_true] <;> rfl

theorem Meek.load (a : Addr) (m : Mode) : Meek P q Z C (fun _ => True) (load a m) := by
  intro G hG
  cases hc : G.cell? a with
  | some v =>
    refine .inr ⟨v, G, 0, by simp [Go.load, Sem.run, hc], trivial, hG, rfl, rfl, Nat.le_refl _, fun A hA _ => ⟨A, by simp [Go.load, Sem.run, hA.cell_up hc], hA, rfl, rfl, fun _ _ => rfl, fun es hes e he => ?_⟩⟩
    have : (Go.load a m).events P A es = es.push ⟨.cell a, false, m == .atomic⟩ := by simp only [Go.load, Sem.events, Sem.runT, hA.cell_up hc]
    rw [this] at he
    rcases Array.mem_push.1 he with h | rfl
    · exact hes e h
    · exact ⟨fun _ _ h => (by cases h), fun m h => (by cases h), fun r h => (by cases h)⟩
  | none =>
    have hrun : ∀ W : World, W.cell? a = none → (Go.load a m).run P W = match W.farLoad P a (m == .atomic) with
        | .ok (v, _) => .ok v W
        | .error h => .halt h W := fun W hW => by
      simp only [Go.load, Sem.run, hW]
      split <;> rename_i h <;> rw [h]
    cases hb : G.heap[a.block]? with
    | none => exact .inl ⟨.stuck "load: no such cell", G, by rw [hrun G hc]; unfold World.farLoad World.noCell; rw [hb], trivial, hG⟩
    | some o =>
      cases o with
      | view at_ u =>
        have hz := hG.off hb (by intro c e f; simp) (by simp)
        cases hv : G.viewLoad P at_ u a (m == .atomic) with
        | error why => exact .inl ⟨.unsupported (.unsafePointer why), G, by rw [hrun G hc]; unfold World.farLoad; rw [hb]; simp only [hv], fun g h => (by cases h), hG⟩
        | ok r =>
          have hsame : ∀ A, Rel Z G A → A.viewLoad P at_ u a (m == .atomic) = .ok r := by
            intro A hA
            by_cases hzz : Z at_.block
            · rcases hA.odd _ hzz with ⟨t, f, c, h1, _⟩ | ⟨o, h1, _⟩ | ⟨c, t, f, h1, h2⟩
              · obtain ⟨why, hw⟩ := seen_bare (P := P) (u := u) (k := a) (b := m == .atomic) (.inl ⟨_, _, h1⟩)
                unfold World.viewLoad at hv
                rw [hw] at hv
                cases hv
              · obtain ⟨why, hw⟩ := seen_bare (P := P) (u := u) (k := a) (b := m == .atomic) (.inr h1)
                unfold World.viewLoad at hv
                rw [hw] at hv
                cases hv
              · unfold World.viewLoad at hv ⊢
                rcases seen_ice (P := P) (u := u) (k := a) (b := m == .atomic) h1 h2 with ⟨why, e1, _⟩ | ⟨first, like, cells, e1, e2, _⟩
                · rw [e1] at hv; cases hv
                · rw [e1] at hv; rw [e2]; exact hv
            · rw [viewLoad_same (hA.same _ hzz)]; exact hv
          refine .inr ⟨r.1, G, 0, by rw [hrun G hc]; unfold World.farLoad; rw [hb]; simp only [hv], trivial, hG, rfl, rfl, Nat.le_refl _, fun A hA _ => ?_⟩
          have hA1 : A.cell? a = none := (hA.cell hz).trans hc
          have hf : A.farLoad P a (m == .atomic) = .ok r := by unfold World.farLoad; rw [hA.same _ hz, hb]; simp only [hsame A hA]
          refine ⟨A, by rw [hrun A hA1, hf], hA, rfl, rfl, fun _ _ => rfl, fun es hes e he => ?_⟩
          have : (Go.load a m).events P A es = es ++ r.2.toArray.map (⟨.cell ·, false, m == .atomic⟩) := by
            simp only [Go.load, Sem.events, Sem.runT, hA1, hf]
          rw [this] at he
          rcases Array.mem_append.1 he with h | h
          · exact hes e h
          · obtain ⟨x, _, rfl⟩ := Array.mem_map.1 h
            exact ⟨fun _ _ h => (by cases h), fun m h => (by cases h), fun r h => (by cases h)⟩
      | pending c e => exact absurd (hG.ok _ _ hb) (by simp [OkObj])
      | _ => exact .inl ⟨.stuck "load: no such cell", G, by rw [hrun G hc]; unfold World.farLoad World.noCell; rw [hb], trivial, hG⟩

theorem setCell_get (w : World) (a : Addr) (v : Value) (i : Nat) :
    (w.setCell a v).heap[i]? = if a.block = i then (w.heap[i]?).map (fun | .cells c e f => .cells (if a.spot.isSome then c else c.setIfInBounds a.off v) e f | o => o) else w.heap[i]? := by
  unfold World.setCell
  simp only [Array.getElem?_modify]
  rfl

theorem Inv.set_at {G : World} (hG : Inv q Z C G) {b : Nat} {o : Obj} (hz : ¬ Z b) (ho : OkObj q C o) : Inv q Z C { G with heap := G.heap.setIfInBounds b o } := by
  refine ⟨fun i x hx => ?_, fun i hi => ?_⟩
  · simp only [Array.getElem?_setIfInBounds] at hx
    split at hx
    · split at hx
      · obtain rfl := Option.some.inj hx; exact ho
      · cases hx
    · exact hG.ok i x hx
  · simp only [Array.getElem?_setIfInBounds]
    rw [if_neg (by rintro rfl; exact hz hi)]
    exact hG.bare i hi
theorem Rel.set_at {G A : World} (hA : Rel Z G A) {b : Nat} {o : Obj} (hz : ¬ Z b) : Rel Z { G with heap := G.heap.setIfInBounds b o } { A with heap := A.heap.setIfInBounds b o } := by
  refine ⟨by simp [hA.size], fun i hi => ?_, fun i hi => ?_, hA.os, hA.out⟩
  · simp only [Array.getElem?_setIfInBounds, hA.size, hA.same i hi]
  · have e1 : (G.heap.setIfInBounds b o)[i]? = G.heap[i]? := by simp only [Array.getElem?_setIfInBounds]; rw [if_neg (by rintro rfl; exact hz hi)]
    have e2 : (A.heap.setIfInBounds b o)[i]? = A.heap[i]? := by simp only [Array.getElem?_setIfInBounds]; rw [if_neg (by rintro rfl; exact hz hi)]
    simp only [e1, e2]
    exact hA.odd i hi

/-- What a view's store does, told of two worlds that hold the same there. -/
theorem viewStore_same {G A : World} {p : Program} {at_ : Addr} {u : TypeId} {k : Addr} {v : Value} {b : Bool} (h : A.heap[at_.block]? = G.heap[at_.block]?) :
    (∃ why, G.viewStore p at_ u k v b = .error why ∧ A.viewStore p at_ u k v b = .error why) ∨
    ∃ c e f l, G.viewStore p at_ u k v b = .ok ({ G with heap := G.heap.setIfInBounds at_.block (.cells c e f) }, l) ∧ A.viewStore p at_ u k v b = .ok ({ A with heap := A.heap.setIfInBounds at_.block (.cells c e f) }, l) ∧ ∀ x ∈ l, x.block = at_.block := by
  unfold World.viewStore
  rw [seen_same h]
  by_cases ht : (!tight p p.depth u) = true
  · simp only [ht, if_true]; exact .inl ⟨_, rfl, rfl⟩
  simp only [ht, if_false, Bool.false_eq_true]
  cases hs : G.seen p at_ u k b with
  | error why => exact .inl ⟨why, rfl, rfl⟩
  | ok r =>
    obtain ⟨c, e, f, first, like, cells⟩ := r
    cases hv : v.bytes? with
    | none => exact .inl ⟨_, rfl, rfl⟩
    | some bytes =>
      simp only [hv]
      by_cases hl : (some bytes.length ≠ like.bytes?.map (·.length))
      · refine .inl ⟨ "memory seen as another type: a value of another size", ?_, ?_⟩ <;> simp only [bind, Except.bind, hl, if_true, ne_eq, not_false_eq_true] <;> rfl
      · simp only [bind, Except.bind, hl, if_false, pure, Except.pure]
        split
        · rename_i why hw; exact .inl ⟨why, rfl, rfl⟩
        · rename_i c' hw
          refine .inr ⟨c', e, f, cells.map fun (i, _, _) => { block := at_.block, off := i }, rfl, rfl, fun x hx => ?_⟩
          obtain ⟨y, _, rfl⟩ := List.mem_map.1 hx
          rfl

theorem viewStore_err {G : World} {p : Program} {at_ : Addr} {u : TypeId} {k : Addr} {v : Value} {b : Bool} {why : String} (h : G.seen p at_ u k b = .error why) : ∃ why', G.viewStore p at_ u k v b = .error why' := by
  unfold World.viewStore
  rw [h]
  by_cases ht : (!tight p p.depth u) = true
  · simp only [ht, if_true]; exact ⟨_, rfl⟩
  · simp only [ht, if_false, Bool.false_eq_true]; exact ⟨_, rfl⟩

theorem viewStore_ice {G : World} {c : Array Value} {t : TypeId} {at_ : Addr} {u : TypeId} {k : Addr} {v : Value} {b : Bool} (hG : G.heap[at_.block]? = some (iced c t)) : ∃ why, G.viewStore P at_ u k v b = .error why := by
  rcases seen_ice (P := P) (u := u) (k := k) (b := b) hG (A := G) (f := (0, c.size)) hG with ⟨why, h, _⟩ | ⟨first, like, cells, h, _, i, s, bs, rest, rfl, hi⟩
  · exact viewStore_err h
  unfold World.viewStore
  rw [h]
  by_cases ht : (!tight P P.depth u) = true
  · simp only [ht, if_true]; exact ⟨_, rfl⟩
  simp only [ht, if_false, Bool.false_eq_true]
  cases hv : v.bytes? with
  | none => exact ⟨_, rfl⟩
  | some bytes =>
    by_cases hl : (some bytes.length ≠ like.bytes?.map (·.length))
    · refine ⟨ "memory seen as another type: a value of another size", ?_⟩
      simp only [bind, Except.bind, hl, if_true, ne_eq, not_false_eq_true]
      rfl
    · by_cases hp : (s < first || s + bs.length > first + bytes.length) = true
      · refine ⟨ "memory seen as another type: a part of a cell written", ?_⟩
        simp only [bind, Except.bind, hl, if_false, List.foldlM_cons, hp, if_true]
        rfl
      · have hf : (0 ≤ i && i < c.size) = true := by simp [hi]
        refine ⟨ "a write to bytes that a string shares", ?_⟩
        simp only [bind, Except.bind, hl, if_false, List.foldlM_cons, hp, Bool.false_eq_true, hf, if_true]
        rfl

theorem Meek.store (a : Addr) (v : Value) (m : Mode) : Meek P q Z C (fun _ => True) (store a v m) := by
  intro G hG
  by_cases hagg : (∃ c, v = .agg c) ∨ ∃ c, v = .tuple c
  · rcases hagg with ⟨c, rfl⟩ | ⟨c, rfl⟩ <;> exact .inl ⟨.stuck "store: not the value of one cell", G, rfl, trivial, hG⟩
  have hrun : ∀ W : World, (Go.store a v m).run P W = match W.cell? a with
      | some _ => if W.frozen? a then .halt (.unsupported (.unsafePointer "a write to bytes that a string shares")) W else .ok () (W.setCell a v)
      | none => match W.farStore P a v (m == .atomic) with
        | .ok (w, _) => .ok () w
        | .error h => .halt h W := by
    intro W
    cases v <;> first | (exact absurd (.inl ⟨_, rfl⟩) hagg) | (exact absurd (.inr ⟨_, rfl⟩) hagg) | (simp only [Go.store, Sem.run]; repeat' split) <;> simp_all
  have hev : ∀ (W : World) (es : Array Event), (Go.store a v m).events P W es = match W.cell? a with
      | some _ => if W.frozen? a then es else es.push ⟨.cell a, true, m == .atomic⟩
      | none => match W.farStore P a v (m == .atomic) with
        | .ok (_, touched) => es ++ touched.toArray.map (⟨.cell ·, true, m == .atomic⟩)
        | .error _ => es := by
    intro W es
    cases v <;> first | (exact absurd (.inl ⟨_, rfl⟩) hagg) | (exact absurd (.inr ⟨_, rfl⟩) hagg) | (simp only [Go.store, Sem.events, Sem.runT]; repeat' split) <;> simp_all [-Sem.runT_eq]
  cases hc : G.cell? a with
  | some old =>
    by_cases hf : G.frozen? a = true
    · exact .inl ⟨.unsupported (.unsafePointer "a write to bytes that a string shares"), G, by rw [hrun, hc]; simp only [hf, if_true], fun g h => (by cases h), hG⟩
    · have hz := hG.cell_off hc (by simpa using hf)
      refine .inr ⟨(), G.setCell a v, 0, by rw [hrun, hc]; simp only [hf, if_false, Bool.false_eq_true], trivial, ?_, rfl, rfl, by simp [World.setCell], fun A hA _ => ?_⟩
      · refine ⟨fun i x hx => ?_, fun i hi => ?_⟩
        · rw [setCell_get] at hx
          split at hx
          · obtain ⟨y, hy, rfl⟩ := Option.map_eq_some_iff.1 hx
            have := hG.ok i y hy
            cases y <;> first | exact this | trivial
          · exact hG.ok i x hx
        · rw [setCell_get, if_neg (by rintro rfl; exact hz hi)]
          exact hG.bare i hi
      · refine ⟨A.setCell a v, by rw [hrun, hA.cell hz, hc, hA.froz hz]; simp only [hf, if_false, Bool.false_eq_true], ⟨by simp [World.setCell, hA.size], fun i hi => by rw [setCell_get, setCell_get, hA.same i hi], fun i hi => ?_, hA.os, hA.out⟩, rfl, rfl, fun i hi => ?_, fun es hes e he => ?_⟩
        · have e1 : (G.setCell a v).heap[i]? = G.heap[i]? := by rw [setCell_get, if_neg (by rintro rfl; exact hz hi)]
          have e2 : (A.setCell a v).heap[i]? = A.heap[i]? := by rw [setCell_get, if_neg (by rintro rfl; exact hz hi)]
          rw [e1, e2]
          exact hA.odd i hi
        · rw [setCell_get, if_neg (by rintro rfl; exact hz hi)]
        · rw [hev, hA.cell hz, hc, hA.froz hz] at he
          simp only [hf, if_false, Bool.false_eq_true] at he
          rcases Array.mem_push.1 he with h | rfl
          · exact hes e h
          · exact ⟨fun x h _ => (by cases h; exact hz), fun m h => (by cases h), fun r h => (by cases h)⟩
  | none =>
    cases hb : G.heap[a.block]? with
    | none => exact .inl ⟨.stuck "store: no such cell", G, by rw [hrun G, hc]; unfold World.farStore World.noCell; rw [hb], trivial, hG⟩
    | some o =>
      cases o with
      | view at_ u =>
        have hz := hG.off hb (by intro c e f; simp) (by simp)
        cases hv : G.viewStore P at_ u a v (m == .atomic) with
        | error why => exact .inl ⟨.unsupported (.unsafePointer why), G, by rw [hrun G, hc]; unfold World.farStore; rw [hb]; simp only [hv], fun g h => (by cases h), hG⟩
        | ok r =>
          have hzz : ¬ Z at_.block := fun hz' => by
            rcases hG.bare _ hz' with h1 | h1 | ⟨c, t, h1⟩
            · obtain ⟨why, hw⟩ := seen_bare (P := P) (u := u) (k := a) (b := m == .atomic) (.inl h1)
              obtain ⟨w2, hw2⟩ := viewStore_err (v := v) hw
              rw [hw2] at hv
              cases hv
            · obtain ⟨why, hw⟩ := seen_bare (P := P) (u := u) (k := a) (b := m == .atomic) (.inr h1)
              obtain ⟨w2, hw2⟩ := viewStore_err (v := v) hw
              rw [hw2] at hv
              cases hv
            · obtain ⟨why, hw⟩ := viewStore_ice (P := P) (u := u) (k := a) (v := v) (b := m == .atomic) h1
              rw [hw] at hv
              cases hv
          obtain ⟨c, e, f, l, h1, _⟩ : ∃ c e f l, G.viewStore P at_ u a v (m == .atomic) = .ok ({ G with heap := G.heap.setIfInBounds at_.block (.cells c e f) }, l) ∧ True := by
            rcases viewStore_same (G := G) (A := G) (p := P) (at_ := at_) (u := u) (k := a) (v := v) (b := m == .atomic) rfl with ⟨why, hw, _⟩ | ⟨c, e, f, l, h1, _⟩
            · rw [hw] at hv; cases hv
            · exact ⟨c, e, f, l, h1, trivial⟩
          refine .inr ⟨(), { G with heap := G.heap.setIfInBounds at_.block (.cells c e f) }, 0, by rw [hrun G, hc]; unfold World.farStore; rw [hb]; simp only [h1], trivial, hG.set_at hzz trivial, rfl, rfl, by simp, fun A hA _ => ?_⟩
          have hA1 : A.cell? a = none := (hA.cell hz).trans hc
          rcases viewStore_same (G := G) (A := A) (p := P) (at_ := at_) (u := u) (k := a) (v := v) (b := m == .atomic) (hA.same _ hzz) with ⟨why, hw, _⟩ | ⟨c', e', f', l', g1, g2, g3⟩
          · rw [hw] at hv; cases hv
          rw [h1] at g1
          injection g1 with g1
          injection g1 with g1 gl
          have hobj : (.cells c e f : Obj) = .cells c' e' f' := by
            have hlt : at_.block < G.heap.size := by
              rcases Nat.lt_or_ge at_.block G.heap.size with h | h
              · exact h
              · exfalso
                have hn : G.heap[at_.block]? = none := Array.getElem?_eq_none h
                have : ∃ why, G.seen P at_ u a (m == .atomic) = .error why := by
                  unfold World.seen
                  rw [hn]
                  by_cases hs : (a.spot.isSome || at_.spot.isSome) = true
                  · simp only [hs, if_true]; exact ⟨_, rfl⟩
                  simp only [hs, if_false, Bool.false_eq_true]
                  cases plainCell P P.depth u a.off with
                  | none => exact ⟨_, rfl⟩
                  | some like =>
                    cases hl : like.bytes?.map (·.length) with
                    | none => simp only [hl]; exact ⟨_, rfl⟩
                    | some size =>
                      simp only [hl]
                      cases byteOfCell P P.depth u a.off with
                      | none => exact ⟨_, rfl⟩
                      | some β => exact ⟨_, rfl⟩
                obtain ⟨why, hw⟩ := this
                obtain ⟨w2, hw2⟩ := viewStore_err (v := v) hw
                rw [hw2] at hv
                cases hv
            have := congrArg (fun w : World => w.heap[at_.block]?) g1
            simpa [hlt] using this
          rw [← hobj] at g2
          refine ⟨{ A with heap := A.heap.setIfInBounds at_.block (.cells c e f) }, ?_, hA.set_at hzz, rfl, rfl, fun i hi => ?_, fun es hes x hx => ?_⟩
          · rw [hrun A, hA1]; unfold World.farStore; rw [hA.same _ hz, hb]; simp only [g2]
          · simp only [Array.getElem?_setIfInBounds]
            rw [if_neg (by rintro rfl; exact hzz hi)]
          · have hfs : A.farStore P a v (m == .atomic) = .ok ({ A with heap := A.heap.setIfInBounds at_.block (.cells c e f) }, l') := by
              unfold World.farStore; rw [hA.same _ hz, hb]; simp only [g2]
            rw [hev, hA1] at hx
            simp only [hfs] at hx
            rcases Array.mem_append.1 hx with h | h
            · exact hes x h
            · obtain ⟨y, hy, rfl⟩ := Array.mem_map.1 h
              exact ⟨fun z hz' _ => (by cases hz'; rw [g3 y (by simpa using hy)]; exact hzz), fun m h => (by cases h), fun r h => (by cases h)⟩
      | pending c e => exact absurd (hG.ok _ _ hb) (by simp [OkObj])
      | _ => exact .inl ⟨.stuck "store: no such cell", G, by rw [hrun G, hc]; unfold World.farStore World.noCell; rw [hb], trivial, hG⟩

theorem Meek.newObj (o : Obj) (ho : OkObj q C o) : Meek P q Z C (fun _ => True) (newObj o) := by
  intro G hG
  refine .inr ⟨G.heap.size, { G with heap := G.heap.push o }, 0, rfl, trivial, ⟨fun i x hx => ?_, fun i hi => ?_⟩, rfl, rfl, by simp, fun A hA _ => ⟨{ A with heap := A.heap.push o }, by simp [Go.newObj, Sem.run, hA.size], ⟨by simp [hA.size], fun i hi => ?_, fun i hi => ?_, hA.os, hA.out⟩, rfl, rfl, fun i hi => ?_, fun es hes e he => hes e he⟩⟩
  · simp only [Array.getElem?_push] at hx
    split at hx
    · obtain rfl := Option.some.inj hx; exact ho
    · exact hG.ok i x hx
  · have hlt : i < G.heap.size := by rcases hG.bare i hi with ⟨t, f, h⟩ | h | ⟨c, t, h⟩ <;> exact (Array.getElem?_eq_some_iff.1 h).1
    have e1 : (G.heap.push o)[i]? = G.heap[i]? := by simp only [Array.getElem?_push]; rw [if_neg (by omega)]
    simp only [e1]
    exact hG.bare i hi
  · simp only [Array.getElem?_push, hA.size, hA.same i hi]
  · have hlt : i < G.heap.size := by rcases hG.bare i hi with ⟨t, f, h⟩ | h | ⟨c, t, h⟩ <;> exact (Array.getElem?_eq_some_iff.1 h).1
    have e1 : (G.heap.push o)[i]? = G.heap[i]? := by simp only [Array.getElem?_push]; rw [if_neg (by omega)]
    have e2 : (A.heap.push o)[i]? = A.heap[i]? := by simp only [Array.getElem?_push, hA.size]; rw [if_neg (by omega)]
    simp only [e1, e2]
    exact hA.odd i hi
  · have hlt : i < G.heap.size := by rcases hG.bare i hi with ⟨t, f, h⟩ | h | ⟨c, t, h⟩ <;> exact (Array.getElem?_eq_some_iff.1 h).1
    simp only [Array.getElem?_push, hA.size]; rw [if_neg (by omega)]

theorem obj_run {r : Nat} {o : Obj} (hno : ∀ c e f, o ≠ .cells c e f) {W : World} (hW : W.heap[r]? = some o) : (Go.getObj r).run P W = .ok o W ∧ ∀ es, (Go.getObj r).events P W es = es.push ⟨.obj r, false, o.isChan⟩ := by
  constructor
  · simp only [Go.getObj, Sem.run, hW]
    try (cases o <;> first | rfl | exact absurd rfl (hno _ _ _))
  · intro es
    simp only [Go.getObj, Sem.events, Sem.runT, hW]
    try (cases o <;> first | rfl | exact absurd rfl (hno _ _ _))
theorem ev_obj {r : Nat} {w b : Bool} {es : Array Event} (hw : w = true → ¬ Z r) (hes : ∀ e ∈ es, EvA Z e) : ∀ e ∈ es.push ⟨.obj r, w, b⟩, EvA Z e := fun e he => by
  rcases Array.mem_push.1 he with h | rfl
  · exact hes e h
  · exact ⟨fun _ h => (by cases h), fun m h => (by cases h), fun r h hw' => (by cases h; exact hw hw')⟩

theorem Meek.getObj (r : Nat) (hz : ¬ Z r) : Meek P q Z C (fun o => OkObj q C o ∧ ∀ c e f, o ≠ .cells c e f) (getObj r) := by
  intro G hG
  cases hb : G.heap[r]? with
  | none => exact .inl ⟨.stuck "getObj: no such block", G, by simp [Go.getObj, Sem.run, hb], trivial, hG⟩
  | some o =>
    by_cases hcells : ∃ c e f, o = .cells c e f
    · obtain ⟨c, e, f, rfl⟩ := hcells
      exact .inl ⟨.stuck "getObj: a row of cells", G, by simp only [Go.getObj, Sem.run, hb], trivial, hG⟩
    have hno : ∀ c e f, o ≠ .cells c e f := fun c e f h => hcells ⟨c, e, f, h⟩
    refine .inr ⟨o, G, 0, (obj_run hno hb).1, ⟨hG.ok _ _ hb, hno⟩, hG, rfl, rfl, Nat.le_refl _, fun A hA _ => ⟨A, (obj_run hno ((hA.same _ hz).trans hb)).1, hA, rfl, rfl, fun _ _ => rfl, fun es hes e he => ?_⟩⟩
    rw [(obj_run hno ((hA.same _ hz).trans hb)).2] at he
    exact ev_obj (by first | exact fun _ => hz | exact fun h => (by cases h)) hes e he

/-- A record is got: of a veiled one what follows comes to nothing. -/
theorem Meek.getObjBind {N : β → Prop} (r : Nat) {f : Obj → Sem β} (h1 : ¬ Z r → ∀ o, OkObj q C o → Meek P q Z C N (f o)) (h2 : Dead P q Z C (f (.coro none))) : Meek P q Z C N (Go.getObj r >>= f) := by
  by_cases hz : Z r
  · intro G hG
    rcases hG.bare r hz with ⟨t, g, hb⟩ | hb | ⟨c, t, hb⟩
    rotate_left
    rotate_left
    · exact .inl ⟨.stuck "getObj: a row of cells", G, by rw [Sem.run_bind]; simp only [Go.getObj, Sem.run, hb, iced]; rfl, trivial, hG⟩
    · exact .inl ⟨.stuck "getObj: a row of cells", G, by rw [Sem.run_bind]; simp only [Go.getObj, Sem.run, hb]; rfl, trivial, hG⟩
    · obtain ⟨h, w, a, b⟩ := h2 G hG
      exact .inl ⟨h, w, by rw [Sem.run_bind, (obj_run (by intro c e f; simp) hb).1]; exact a, b⟩
  · exact Meek.bind (Meek.getObj r hz) fun o ho => h1 hz o ho.1

theorem Meek.setObj (r : Nat) (o : Obj) (ho : OkObj q C o) (hz : ¬ Z r) : Meek P q Z C (fun _ => True) (setObj r o) := by
  intro G hG
  cases hb : G.heap[r]? with
  | none => exact .inl ⟨.stuck "setObj: no such block", G, by simp [Go.setObj, Sem.run, hb], trivial, hG⟩
  | some x =>
    by_cases hcells : ∃ c e f, x = .cells c e f
    · obtain ⟨c, e, f, rfl⟩ := hcells
      exact .inl ⟨.stuck "setObj: a row of cells", G, by simp only [Go.setObj, Sem.run, hb], trivial, hG⟩
    have hno : ∀ c e f, x ≠ .cells c e f := fun c e f h => hcells ⟨c, e, f, h⟩
    have hrun : ∀ W : World, W.heap[r]? = some x → (Go.setObj r o).run P W = .ok () { W with heap := W.heap.setIfInBounds r o } ∧ ∀ es, (Go.setObj r o).events P W es = es.push ⟨.obj r, true, o.isChan⟩ := by
      intro W hW
      constructor
      · simp only [Go.setObj, Sem.run, hW]
        try (cases x <;> first | rfl | exact absurd rfl (hno _ _ _))
      · intro es
        simp only [Go.setObj, Sem.events, Sem.runT, hW]
        try (cases x <;> first | rfl | exact absurd rfl (hno _ _ _))
    refine .inr ⟨(), { G with heap := G.heap.setIfInBounds r o }, 0, (hrun G hb).1, trivial, hG.set_at hz ho, rfl, rfl, by simp, fun A hA _ => ⟨{ A with heap := A.heap.setIfInBounds r o }, (hrun A ((hA.same _ hz).trans hb)).1, hA.set_at hz, rfl, rfl, fun i hi => ?_, fun es hes e he => ?_⟩⟩
    · simp only [Array.getElem?_setIfInBounds]
      rw [if_neg (by rintro rfl; exact hz hi)]
    · rw [(hrun A ((hA.same _ hz).trans hb)).2] at he
      exact ev_obj (by first | exact fun _ => hz | exact fun h => (by cases h)) hes e he

/-- A block's shape is asked: what follows hangs on the elements' type alone, or comes to nothing at a bare block. -/
theorem Meek.shapeBind {N : β → Prop} (r : Nat) {f : Option (TypeId × Nat) → Sem β} (h1 : ∀ s, Meek P q Z C N (f s)) (h2 : ∀ t n, f (some (t, n)) = f (some (t, 0)) ∨ Dead P q Z C (f (some (t, 0)))) : Meek P q Z C N (Go.shape r >>= f) := by
  intro G hG
  have hrun : ∀ W : World, (Go.shape r >>= f).run P W = (f (W.shape? r)).run P W := fun W => by rw [Sem.run_bind]; rfl
  have hev : ∀ (W : World) es, (Go.shape r >>= f).events P W es = (f (W.shape? r)).events P W es := fun W es => by rw [Sem.events_bind]; rfl
  by_cases hdead : Dead P q Z C (f (G.shape? r))
  · obtain ⟨h, w, a, b⟩ := hdead G hG
    exact .inl ⟨h, w, by rw [hrun]; exact a, b⟩
  have hsame : ∀ A, Rel Z G A → f (A.shape? r) = f (G.shape? r) := by
    intro A hA
    by_cases hz : Z r
    · rcases hA.odd r hz with ⟨t, g, c, a1, a2⟩ | ⟨o, a1, a2, a3⟩ | ⟨c, t, g, a1, a2⟩
      rotate_left
      rotate_left
      · have e1 : A.shape? r = G.shape? r := by unfold World.shape?; rw [a1, a2]; rfl
        rw [e1]
      · have e1 : G.shape? r = some (t, 0) := by unfold World.shape?; rw [a1]; rfl
        have e2 : A.shape? r = some (t, c.size) := by unfold World.shape?; rw [a2]
        rw [e1] at hdead ⊢
        rw [e2]
        exact (h2 t c.size).elim id (fun h => absurd h hdead)
      · have e1 : G.shape? r = none := by unfold World.shape?; rw [a1]
        have e2 : A.shape? r = none := by unfold World.shape?; rw [a2]; cases o <;> first | rfl | exact a3.elim
        rw [e1, e2]
    · rw [hA.shp hz]
  rcases h1 (G.shape? r) G hG with ⟨h, w, a, b⟩ | ⟨b, G2, m, hr2, hM, hG2, t2, d2, z2, hc2⟩
  · exact .inl ⟨h, w, by rw [hrun]; exact a, b⟩
  · refine .inr ⟨b, G2, m, by rw [hrun]; exact hr2, hM, hG2, t2, d2, z2, fun A hA hag => ?_⟩
    obtain ⟨A2, b1, b2, b3, b4, b5, b6⟩ := hc2 A hA hag
    exact ⟨A2, by rw [hrun, hsame A hA]; exact b1, b2, b3, b4, b5, fun es hes => by rw [hev, hsame A hA]; exact b6 es hes⟩

theorem Dead.shapeBind (r : Nat) {f : Option (TypeId × Nat) → Sem β} (h : ∀ s, Dead P q Z C (f s)) : Dead P q Z C (Go.shape r >>= f) := by
  intro G hG
  obtain ⟨x, w, a, b⟩ := h (G.shape? r) G hG
  exact ⟨x, w, by rw [Sem.run_bind]; exact a, b⟩

/-- Whether a block is a number, a view: what is veiled is none, here and there. -/
theorem Meek.numberAt (r : Nat) : Meek P q Z C (fun _ => True) (numberAt r) := by
  by_cases hz : Z r
  · intro G hG
    have hgo : ∀ (W : World) (o : Obj), W.heap[r]? = some o → (∃ c t f, o = .cells c t f) ∨ Odd o ∨ o = .coro none → (Go.numberAt r).run P W = .ok none W ∧ ∀ es, (∀ e ∈ es, EvA Z e) → ∀ e ∈ (Go.numberAt r).events P W es, EvA Z e := by
      intro W o hW ho
      constructor
      · rcases ho with ⟨c, t, f, rfl⟩ | ho | rfl
        · simp [Go.numberAt, Go.shape, Sem.run_bind, Sem.run, World.shape?, hW]
        · cases o <;> first | exact ho.elim | (simp [Go.numberAt, Go.shape, Go.getObj, Sem.run_bind, Sem.run, World.shape?, hW]; done)
        · simp [Go.numberAt, Go.shape, Go.getObj, Sem.run_bind, Sem.run, World.shape?, hW]
      · intro es hes e he
        have : (Go.numberAt r).events P W es = es ∨ (Go.numberAt r).events P W es = es.push ⟨.obj r, false, o.isChan⟩ := by
          rcases ho with ⟨c, t, f, rfl⟩ | ho | rfl
          · left; simp [Go.numberAt, Go.shape, Go.getObj, Bind.bind, Sem.bind, Pure.pure, Sem.events, Sem.runT, World.shape?, hW, -Sem.runT_eq]
          · cases o <;> first | exact ho.elim | (right; unfold Go.numberAt Sem.events; simp only [Go.shape, Go.getObj, Bind.bind, Sem.bind, Pure.pure, Sem.runT, World.shape?, hW]; simp only [Option.isSome_none, Bool.false_eq_true, if_false, Sem.runT, hW])
          · right; unfold Go.numberAt Sem.events; simp only [Go.shape, Go.getObj, Bind.bind, Sem.bind, Pure.pure, Sem.runT, World.shape?, hW]; simp only [Option.isSome_none, Bool.false_eq_true, if_false, Sem.runT, hW]
        rcases this with h | h <;> rw [h] at he
        · exact hes e he
        · exact ev_obj (by first | exact fun _ => hz | exact fun h => (by cases h)) hes e he
    have hGo : ∃ o, G.heap[r]? = some o ∧ ((∃ c t f, o = .cells c t f) ∨ Odd o ∨ o = .coro none) := by
      rcases hG.bare r hz with ⟨t, f, hb⟩ | hb | ⟨c, t, hb⟩
      · exact ⟨_, hb, .inl ⟨_, _, _, rfl⟩⟩
      · exact ⟨_, hb, .inr (.inr rfl)⟩
      · exact ⟨_, hb, .inl ⟨_, _, _, rfl⟩⟩
    obtain ⟨o, ho, hk⟩ := hGo
    refine .inr ⟨none, G, 0, (hgo G o ho hk).1, trivial, hG, rfl, rfl, Nat.le_refl _, fun A hA _ => ?_⟩
    rcases hA.odd r hz with ⟨t, g, c, a1, a2⟩ | ⟨x, a1, a2, a3⟩ | ⟨c, t, g, a1, a2⟩
    rotate_left
    rotate_left
    · exact ⟨A, (hgo A _ a2 (.inl ⟨_, _, _, rfl⟩)).1, hA, rfl, rfl, fun _ _ => rfl, (hgo A _ a2 (.inl ⟨_, _, _, rfl⟩)).2⟩
    · exact ⟨A, (hgo A _ a2 (.inl ⟨_, _, _, rfl⟩)).1, hA, rfl, rfl, fun _ _ => rfl, (hgo A _ a2 (.inl ⟨_, _, _, rfl⟩)).2⟩
    · exact ⟨A, (hgo A _ a2 (.inr (.inl a3))).1, hA, rfl, rfl, fun _ _ => rfl, (hgo A _ a2 (.inr (.inl a3))).2⟩
  · unfold Go.numberAt
    intro G hG
    refine (Meek.bind (N := fun s => True) (s := Go.shape r) ?_ (fun s _ => ?_) : Meek P q Z C _ _) G hG
    · intro G hG
      exact .inr ⟨G.shape? r, G, 0, rfl, trivial, hG, rfl, rfl, Nat.le_refl _, fun A hA _ => ⟨A, by simp [Go.shape, Sem.run, hA.shp hz], hA, rfl, rfl, fun _ _ => rfl, fun es hes e he => hes e he⟩⟩
    cases s with
    | some x => exact Meek.pure trivial
    | none =>
      refine Meek.bind (Meek.getObj r hz) fun o _ => ?_
      cases o <;> exact Meek.pure trivial
theorem Meek.viewAt (r : Nat) : Meek P q Z C (fun _ => True) (viewAt r) := by
  by_cases hz : Z r
  · intro G hG
    have hgo : ∀ (W : World) (o : Obj), W.heap[r]? = some o → (∃ c t f, o = .cells c t f) ∨ Odd o ∨ o = .coro none → (Go.viewAt r).run P W = .ok none W ∧ ∀ es, (∀ e ∈ es, EvA Z e) → ∀ e ∈ (Go.viewAt r).events P W es, EvA Z e := by
      intro W o hW ho
      constructor
      · rcases ho with ⟨c, t, f, rfl⟩ | ho | rfl
        · simp [Go.viewAt, Go.shape, Sem.run_bind, Sem.run, World.shape?, hW]
        · cases o <;> first | exact ho.elim | (simp [Go.viewAt, Go.shape, Go.getObj, Sem.run_bind, Sem.run, World.shape?, hW]; done)
        · simp [Go.viewAt, Go.shape, Go.getObj, Sem.run_bind, Sem.run, World.shape?, hW]
      · intro es hes e he
        have : (Go.viewAt r).events P W es = es ∨ (Go.viewAt r).events P W es = es.push ⟨.obj r, false, o.isChan⟩ := by
          rcases ho with ⟨c, t, f, rfl⟩ | ho | rfl
          · left; simp [Go.viewAt, Go.shape, Go.getObj, Bind.bind, Sem.bind, Pure.pure, Sem.events, Sem.runT, World.shape?, hW, -Sem.runT_eq]
          · cases o <;> first | exact ho.elim | (right; unfold Go.viewAt Sem.events; simp only [Go.shape, Go.getObj, Bind.bind, Sem.bind, Pure.pure, Sem.runT, World.shape?, hW]; simp only [Option.isSome_none, Bool.false_eq_true, if_false, Sem.runT, hW])
          · right; unfold Go.viewAt Sem.events; simp only [Go.shape, Go.getObj, Bind.bind, Sem.bind, Pure.pure, Sem.runT, World.shape?, hW]; simp only [Option.isSome_none, Bool.false_eq_true, if_false, Sem.runT, hW]
        rcases this with h | h <;> rw [h] at he
        · exact hes e he
        · exact ev_obj (by first | exact fun _ => hz | exact fun h => (by cases h)) hes e he
    have hGo : ∃ o, G.heap[r]? = some o ∧ ((∃ c t f, o = .cells c t f) ∨ Odd o ∨ o = .coro none) := by
      rcases hG.bare r hz with ⟨t, f, hb⟩ | hb | ⟨c, t, hb⟩
      · exact ⟨_, hb, .inl ⟨_, _, _, rfl⟩⟩
      · exact ⟨_, hb, .inr (.inr rfl)⟩
      · exact ⟨_, hb, .inl ⟨_, _, _, rfl⟩⟩
    obtain ⟨o, ho, hk⟩ := hGo
    refine .inr ⟨none, G, 0, (hgo G o ho hk).1, trivial, hG, rfl, rfl, Nat.le_refl _, fun A hA _ => ?_⟩
    rcases hA.odd r hz with ⟨t, g, c, a1, a2⟩ | ⟨x, a1, a2, a3⟩ | ⟨c, t, g, a1, a2⟩
    rotate_left
    rotate_left
    · exact ⟨A, (hgo A _ a2 (.inl ⟨_, _, _, rfl⟩)).1, hA, rfl, rfl, fun _ _ => rfl, (hgo A _ a2 (.inl ⟨_, _, _, rfl⟩)).2⟩
    · exact ⟨A, (hgo A _ a2 (.inl ⟨_, _, _, rfl⟩)).1, hA, rfl, rfl, fun _ _ => rfl, (hgo A _ a2 (.inl ⟨_, _, _, rfl⟩)).2⟩
    · exact ⟨A, (hgo A _ a2 (.inr (.inl a3))).1, hA, rfl, rfl, fun _ _ => rfl, (hgo A _ a2 (.inr (.inl a3))).2⟩
  · unfold Go.viewAt
    intro G hG
    refine (Meek.bind (N := fun s => True) (s := Go.shape r) ?_ (fun s _ => ?_) : Meek P q Z C _ _) G hG
    · intro G hG
      exact .inr ⟨G.shape? r, G, 0, rfl, trivial, hG, rfl, rfl, Nat.le_refl _, fun A hA _ => ⟨A, by simp [Go.shape, Sem.run, hA.shp hz], hA, rfl, rfl, fun _ _ => rfl, fun es hes e he => hes e he⟩⟩
    cases s with
    | some x => exact Meek.pure trivial
    | none =>
      refine Meek.bind (Meek.getObj r hz) fun o _ => ?_
      cases o <;> exact Meek.pure trivial
end
end Go.Proofs.YtlanlkpamnoekaaDoor.Lk
namespace Go.Proofs.YtlanlkpamnoekaaDoor.Lk
open Go
section
variable {P : Program} {q : Prop} {Z : Nat → Prop} {C : Code → Prop} {α β : Type}

theorem Meek.stuck {N : α → Prop} {why : String} : Meek P q Z C N (Go.stuck why : Sem α) := Dead.stuck.meek
theorem Meek.goPanic {N : α → Prop} {v : Value} : Meek P q Z C N (Go.goPanic v : Sem α) := Dead.goPanic.meek
theorem Meek.unsup {N : α → Prop} {u : Unsupported} (h : ∀ g, u ≠ .initOrder g) : Meek P q Z C N (Go.unsupported u : Sem α) := (Dead.unsupported h).meek
theorem Meek.seq {N : α → Prop} {M : β → Prop} {s : Sem α} {f : α → Sem β} (hs : Meek P q Z C N s) (hf : ∀ a, N a → Meek P q Z C M (f a)) : Meek P q Z C M (s >>= f) := Meek.bind hs hf
theorem Meek.any {N : α → Prop} {s : Sem α} (h : Meek P q Z C N s) : Meek P q Z C (fun _ => True) s := h.mono fun _ _ => trivial

theorem Meek.ite {N : α → Prop} {c : Prop} [Decidable c] {a b : Sem α} (h1 : c → Meek P q Z C N a) (h2 : ¬ c → Meek P q Z C N b) : Meek P q Z C N (if c then a else b) := by
  split
  · exact h1 (by assumption)
  · exact h2 (by assumption)
theorem Dead.ite {c : Prop} [Decidable c] {a b : Sem α} (h1 : c → Dead P q Z C a) (h2 : ¬ c → Dead P q Z C b) : Dead P q Z C (if c then a else b) := by
  split
  · exact h1 (by assumption)
  · exact h2 (by assumption)

theorem meek_newRow (t : TypeId) (c : Array Value) : Meek P q Z C (fun _ => True) (newRow t c) := by
  unfold newRow; exact Meek.bind (Meek.newObj _ trivial) fun _ _ => Meek.pure trivial
theorem meek_newVar (t : TypeId) (v : Value) : Meek P q Z C (fun _ => True) (newVar t v) := meek_newRow _ _
theorem meek_typeInfo (t : TypeId) : Meek P q Z C (fun i => P.info? t = some i) (typeInfo t) := by
  unfold typeInfo
  refine Meek.bind Meek.program fun p hp => ?_
  subst hp
  split
  · exact Meek.pure (by assumption)
  · exact Meek.stuck
theorem meek_underlying (t : TypeId) : Meek P q Z C (fun d => P.underlying t = some d) (underlying t) := by
  unfold underlying
  refine Meek.bind Meek.program fun p hp => ?_
  subst hp
  split
  · exact Meek.pure (by assumption)
  · exact Meek.stuck
theorem meek_typeStr (t : TypeId) : Meek P q Z C (fun _ => True) (typeStr t) := by
  unfold typeStr
  refine Meek.bind (meek_typeInfo t) fun i _ => ?_
  simp only []
  split
  · exact Meek.unsup (fun g h => by cases h)
  · exact Meek.pure trivial
theorem meek_zeroValue (t : TypeId) : Meek P q Z C (fun _ => True) (zeroValue t) := by
  unfold zeroValue
  refine Meek.bind (meek_typeInfo t) fun i _ => ?_
  split
  · exact Meek.pure trivial
  · exact Meek.unsup (fun g h => by cases h)
theorem meek_sizeOf (t : TypeId) : Meek P q Z C (fun n => ∃ i, P.info? t = some i ∧ i.size = n) (sizeOf t) := by
  unfold sizeOf
  exact Meek.bind (meek_typeInfo t) fun i hi => Meek.pure ⟨i, hi, rfl⟩
theorem meek_isAgg (t : TypeId) : Meek P q Z C (fun _ => True) (isAgg t) := by
  unfold isAgg
  refine Meek.bind (meek_underlying t) fun d _ => ?_
  split <;> exact Meek.pure trivial
theorem meek_loadCellsFrom (a : Addr) : ∀ (n i : Nat) (acc : Array Value), Meek P q Z C (fun _ => True) (loadCellsFrom a i n acc)
  | 0, _, _ => Meek.pure trivial
  | n + 1, i, acc => by
    unfold loadCellsFrom
    exact Meek.bind (Meek.load _ _) fun v _ => meek_loadCellsFrom a n (i + 1) _
theorem meek_loadCells (a : Addr) (n : Nat) : Meek P q Z C (fun _ => True) (loadCells a n) := meek_loadCellsFrom _ _ _ _
theorem meek_storeCells (a : Addr) : ∀ (vs : List Value) (i : Nat), Meek P q Z C (fun _ => True) (storeCells a vs i)
  | [], _ => by unfold storeCells; exact Meek.pure trivial
  | v :: r, i => by
    unfold storeCells
    exact Meek.bind (Meek.store _ _ _) fun _ _ => meek_storeCells a r (i + 1)
theorem meek_loadVar (t : TypeId) (a : Addr) : Meek P q Z C (fun _ => True) (loadVar t a) := by
  unfold loadVar
  refine Meek.bind (meek_isAgg t) fun b _ => ?_
  split
  · exact Meek.bind (meek_sizeOf t) fun n _ => Meek.bind (meek_loadCells a n) fun _ _ => Meek.pure trivial
  · exact Meek.load _ _
theorem meek_storeVar (t : TypeId) (a : Addr) (v : Value) : Meek P q Z C (fun _ => True) (storeVar t a v) := by
  unfold storeVar
  refine Meek.bind (meek_sizeOf t) fun n _ => ?_
  split
  · exact Meek.bind (N := fun _ => True) Meek.stuck fun _ _ => meek_storeCells _ _ _
  · exact meek_storeCells _ _ _
theorem meek_elemOf (t : TypeId) : Meek P q Z C (fun _ => True) (elemOf t) := by
  unfold elemOf
  refine Meek.bind (meek_underlying t) fun d _ => ?_
  split
  · exact Meek.pure trivial
  · exact Meek.stuck
theorem meek_part (t : TypeId) (cs : Array Value) (off : Nat) : Meek P q Z C (fun _ => True) (part t cs off) := by
  unfold part
  refine Meek.bind (meek_isAgg t) fun b _ => ?_
  split
  · exact Meek.bind (meek_sizeOf t) fun n _ => Meek.pure trivial
  · split
    · exact Meek.pure trivial
    · exact Meek.stuck

theorem dead_runtimePanic (e : RuntimeError) : Dead P q Z C (runtimePanic e : Sem α) := by
  unfold runtimePanic
  refine Meek.bindDead (N := fun p => p = P) Meek.program fun p hp => ?_
  subst hp
  simp only []
  split <;> first
    | exact Dead.goPanic
    | exact Meek.bindDead (N := fun _ => True) (Meek.bind (meek_elemOf _) fun _ _ => meek_newVar _ _) fun _ _ => Dead.goPanic
    | exact Meek.bindDead (N := fun _ => True) (meek_elemOf _) fun _ _ => Meek.bindDead (N := fun _ => True) (meek_newVar _ _) fun _ _ => Dead.goPanic
theorem Meek.runtimePanic {N : α → Prop} (e : RuntimeError) : Meek P q Z C N (Go.runtimePanic e : Sem α) := (dead_runtimePanic e).meek
theorem dead_boundsPanic (k : IntKind) (x y : Int) (c : BoundsCode) : Dead P q Z C (boundsPanic k x y c : Sem α) := by
  unfold boundsPanic
  split
  · exact Meek.bindDead (N := fun _ => True) (Meek.bind (Meek.choose _) fun _ _ => Meek.pure trivial) fun _ _ => dead_runtimePanic _
  · exact Meek.bindDead (N := fun _ => True) (Meek.pure trivial) fun _ _ => dead_runtimePanic _
theorem Meek.boundsPanic {N : α → Prop} (k : IntKind) (x y : Int) (c : BoundsCode) : Meek P q Z C N (Go.boundsPanic k x y c : Sem α) := (dead_boundsPanic k x y c).meek

theorem meek_asIntOf (v : Value) : Meek P q Z C (fun _ => True) (asIntOf v) := by
  unfold asIntOf; split <;> first | exact Meek.pure trivial | exact Meek.unsup (fun g h => by cases h) | exact Meek.stuck
theorem meek_asInt (v : Value) : Meek P q Z C (fun _ => True) (asInt v) := by
  unfold asInt; exact Meek.bind (meek_asIntOf v) fun _ _ => Meek.pure trivial
theorem meek_asBool (v : Value) : Meek P q Z C (fun _ => True) (asBool v) := by
  unfold asBool; split <;> first | exact Meek.pure trivial | exact Meek.stuck
theorem meek_asString (v : Value) : Meek P q Z C (fun _ => True) (asString v) := by
  unfold asString; split <;> first | exact Meek.pure trivial | exact Meek.stuck
theorem meek_asAgg (v : Value) : Meek P q Z C (fun _ => True) (asAgg v) := by
  unfold asAgg; split <;> first | exact Meek.pure trivial | exact Meek.stuck
theorem meek_asAddr (v : Value) : Meek P q Z C (fun _ => True) (asAddr v) := by
  unfold asAddr; split <;> first | exact Meek.pure trivial | exact Meek.runtimePanic _ | exact Meek.stuck
theorem meek_askRoom (n : Nat) : Meek P q Z C (fun _ => True) (askRoom n) := by
  unfold askRoom; split <;> first | exact Meek.noRoom | exact Meek.pure trivial
theorem meek_behind (n : Addr) : Meek P q Z C (fun _ => True) (behindNumber n) := by
  unfold behindNumber; exact Meek.bind (Meek.numberAt _) fun _ _ => Meek.pure trivial
theorem meek_asNumber (a : Addr) (b : Bool) : Meek P q Z C (fun _ => True) (asNumber a b) := by
  unfold asNumber; exact Meek.bind (Meek.newObj _ trivial) fun _ _ => Meek.pure trivial
theorem meek_noView (a : Addr) : Meek P q Z C (fun _ => True) (noView a) := by
  unfold noView
  refine Meek.bind (Meek.viewAt _) fun _ _ => ?_
  split
  · exact Meek.unsup (fun g h => by cases h)
  · exact Meek.pure trivial

/-- An address's byte hangs on the elements' type alone. -/
theorem meek_byteOf (a : Addr) : Meek P q Z C (fun _ => True) (byteOf a) := by
  unfold byteOf
  split
  · exact Meek.pure trivial
  · refine Meek.bind Meek.program fun p _ => Meek.bind (meek_noView a) fun _ _ => Meek.shapeBind _ (fun s => ?_) (fun t n => .inl rfl)
    split
    · simp only []
      split
      · exact Meek.pure trivial
      · split
        · exact Meek.pure trivial
        · exact Meek.stuck
    · exact Meek.stuck
theorem meek_partAt (a : Addr) (c b : Nat) : Meek P q Z C (fun _ => True) (partAt a c b) := by
  unfold partAt
  exact Meek.bind (meek_byteOf a) fun _ _ => Meek.bind (meek_byteOf _) fun _ _ => Meek.pure trivial
theorem meek_fieldPlace (a : Addr) (f : Field) : Meek P q Z C (fun _ => True) (fieldPlace a f) := by
  unfold fieldPlace
  refine Meek.bind (meek_sizeOf _) fun n _ => ?_
  split
  · exact meek_partAt _ _ _
  · exact Meek.pure trivial
end
end Go.Proofs.YtlanlkpamnoekaaDoor.Lk
