/- Lone runs in company: a metatheorem on the model, and the sender beside link.All. Nothing that was there is turned. -/
import Derived.Test.YtlanlkpamnoekaaDoorZT06
import Derived.Conc.TokenWalk
import Derived.Test.YtlanlkpamnoekaaDoorProg
import Derived.KernelRfl
set_option linter.unusedSimpArgs false
set_option linter.unusedVariables false
namespace Go.Proofs.YtlanlkpamnoekaaDoor.Lk
open Go Go.Conc

def re (G : World) (τ : Tape) (d : Nat) : World := { G with tape := τ, drawn := d }
def Mv.app : Mv → List Frame → Option (Frame × List Frame)
  | .stay f, fs => some (f, fs)
  | .push f f', fs => some (f, f' :: fs)
  | .pop v, c :: fs => some (c.finish v, fs)
  | .pop _, [] => none

/-- What the program is to be. -/
structure Fit (P : Program) (bad : FuncId) (Z : Nat → Prop) : Prop where
  nice : NiceP P bad
  call : ∀ f args, Meek P False Z (NC P) (NN (NC P)) (callFunc f args)
  pre : ∀ args, BF (Frame.enter P bad args .normal)
/-- What T is to be: blind to the tape; no frame that a panic goes through. -/
structure Aim (T : Frame → List Frame → World → Prop) : Prop where
  re : ∀ f fs G τ d, T f fs G → T f fs (re G τ d)
  calm : ∀ f fs w, T f fs w → ∀ ch, f.mode ≠ .panicking ch

/-- The state: the frames' code is of the listed kinds, or the topmost is on its way to the go statement. -/
def SI (P : Program) (Z : Nat → Prop) (f : Frame) (fs : List Frame) (G : World) : Prop :=
  (∀ g ∈ fs, NF P g) ∧ ((NF P f ∧ Inv False Z (NC P) G) ∨ (BF f ∧ Inv True Z (NC P) G))

def Wins (P : Program) (T : Frame → List Frame → World → Prop) (f : Frame) (fs : List Frame) (G : World) : Prop :=
  ∃ n f' fs' w', runN P n (lone f (fs ++ [c0]) G) = .next (lone f' (fs' ++ [c0]) w') ∧ T f' fs' w'

def Lock (P : Program) (Z : Nat → Prop) (f : Frame) (mv : Mv) (n : Nat) (G G' : World) : Prop :=
  ∀ A, Rel Z G A → Agree n G A → ∃ A' es, Acts (fun K => stepG P true (Conc.G f K) A) mv A' es ∧ Rel Z G' A' ∧ A'.tape = A.tape ∧ A'.drawn = A.drawn + n ∧ (∀ i : Nat, Z i → A'.heap[i]? = A.heap[i]?) ∧ ∀ e ∈ es, EvA Z e

section
variable {P : Program} {Z : Nat → Prop} {bad : FuncId} {T : Frame → List Frame → World → Prop}

theorem okObj_mono {C : Code → Prop} {o : Obj} (h : OkObj False C o) : OkObj True C o := by
  unfold OkObj at *
  split at h <;> first | exact h | trivial | exact h.elim
theorem Inv.up {G : World} (h : Inv False Z (NC P) G) : Inv True Z (NC P) G := ⟨fun i o ho => okObj_mono (h.ok i o ho), h.bare⟩
theorem Inv.re {q : Prop} {G : World} (h : Inv q Z (NC P) G) (τ : Tape) (d : Nat) : Inv q Z (NC P) (re G τ d) := ⟨h.ok, h.bare⟩
theorem SI.re {f : Frame} {fs : List Frame} {G : World} (h : SI P Z f fs G) (τ : Tape) (d : Nat) : SI P Z f fs (re G τ d) := ⟨h.1, h.2.imp (fun x => ⟨x.1, x.2.re τ d⟩) fun x => ⟨x.1, x.2.re τ d⟩⟩
theorem Inv.bares {q : Prop} {G : World} (h : Inv q Z (NC P) G) : ∀ i : Nat, Z i → (∃ t f, G.heap[i]? = some (.cells #[] t f)) ∨ G.heap[i]? = some (.coro none) ∨ ∃ c t, G.heap[i]? = some (iced c t) := h.bare
theorem rel_refl {G : World} (h : ∀ i : Nat, Z i → (∃ t f, G.heap[i]? = some (.cells #[] t f)) ∨ G.heap[i]? = some (.coro none) ∨ ∃ c t, G.heap[i]? = some (iced c t)) (τ : Tape) (d : Nat) : Rel Z G (Lk.re G τ d) :=
  ⟨rfl, fun _ _ => rfl, fun i hi => (h i hi).imp (fun ⟨t, f, e⟩ => ⟨t, f, #[], e, e⟩) fun x => x.imp (fun e => ⟨_, e, e, trivial⟩) fun ⟨c, t, e⟩ => ⟨c, t, (0, c.size), e, e⟩, rfl, rfl⟩
theorem SI.bares {f : Frame} {fs : List Frame} {G : World} (h : SI P Z f fs G) : ∀ i : Nat, Z i → (∃ t f, G.heap[i]? = some (.cells #[] t f)) ∨ G.heap[i]? = some (.coro none) ∨ ∃ c t, G.heap[i]? = some (iced c t) := h.2.elim (fun x => x.2.bare) fun x => x.2.bare

theorem Acts.det {r : List Frame → GStep} {mv : Mv} {w w' : World} {es es' : Array Event} (h : Acts r mv w es) (h' : Acts r mv w' es') : w = w' := by
  cases mv with
  | stay f => have := (h []).symm.trans (h' []); injection this
  | push f f' => have := (h []).symm.trans (h' []); injection this
  | pop v => have := (h c0 []).symm.trans (h' c0 []); injection this
theorem Acts.step {f f' : Frame} {fs fs' : List Frame} {mv : Mv} {w w' : World} {es : Array Event} (h : Acts (fun K => stepG P true (Conc.G f K) w) mv w' es) (ha : mv.app fs = some (f', fs')) : step P (lone f (fs ++ [c0]) w) = .next (lone f' (fs' ++ [c0]) w') := by
  cases mv with
  | stay g => simp only [Mv.app, Option.some.injEq, Prod.mk.injEq] at ha; obtain ⟨rfl, rfl⟩ := ha; exact step_go (h _)
  | push g g' => simp only [Mv.app, Option.some.injEq, Prod.mk.injEq] at ha; obtain ⟨rfl, rfl⟩ := ha; exact step_go (h _)
  | pop v =>
    cases fs with
    | nil => cases ha
    | cons c fs => simp only [Mv.app, Option.some.injEq, Prod.mk.injEq] at ha; obtain ⟨rfl, rfl⟩ := ha; exact step_go (h c _)

/-- One step of a run that wins. -/
theorem one_step (hF : Fit P bad Z) (hT : Aim T) {f : Frame} {fs : List Frame} {G : World} (hS : SI P Z f fs G) (hn : ¬ T f fs G) (hw : Wins P T f fs G) :
    ∃ mv n f' fs' G', mv.app fs = some (f', fs') ∧ SI P Z f' fs' G' ∧ (∃ es, Acts (fun K => stepG P true (Conc.G f K) G) mv G' es) ∧ G'.tape = G.tape ∧ G'.drawn = G.drawn + n ∧ G.heap.size ≤ G'.heap.size ∧ (∀ i : Nat, Z i → G'.heap[i]? = G.heap[i]?) ∧ Lock P Z f mv n G G' := by
  obtain ⟨k, g, gs, w, hrun, ht⟩ := hw
  obtain ⟨hfs, hS2⟩ := hS
  have hdead : ¬ Never P T (lone f (fs ++ [c0]) G) := fun h => h k g gs w hrun ht
  have zsame : ∀ {mv : Mv} {G' : World} {n : Nat} {es : Array Event}, Acts (fun K => stepG P true (Conc.G f K) G) mv G' es → Lock P Z f mv n G G' → ∀ i : Nat, Z i → G'.heap[i]? = G.heap[i]? := by
    intro mv G' n es ha hl
    obtain ⟨A', es', b1, _, _, _, b5, _⟩ := hl G (rel_refl (hS2.elim (fun x => x.2.bare) fun x => x.2.bare) G.tape G.drawn) (fun _ _ _ => rfl)
    obtain rfl := ha.det b1
    exact b5
  rcases hS2 with ⟨hnf, hG⟩ | ⟨hbf, hG⟩
  · rcases follows_step hF.nice hF.call hnf hG with hd | ⟨mv, G', n, ⟨es, ha⟩, hm, hG', t1, d1, z1, hl⟩
    · exact absurd (never_dead hT.calm hfs hd hn) hdead
    cases mv with
    | stay f' => exact ⟨.stay f', n, f', fs, G', rfl, ⟨hfs, .inl ⟨hm.1 id, hG'⟩⟩, ⟨es, ha⟩, t1, d1, z1, zsame ha hl, hl⟩
    | push f' f2 =>
      refine ⟨.push f' f2, n, f', f2 :: fs, G', rfl, ⟨fun x hx => ?_, ?_⟩, ⟨es, ha⟩, t1, d1, z1, zsame ha hl, hl⟩
      · simp only [List.mem_cons] at hx
        rcases hx with rfl | hx
        · exact hm.2.2
        · exact hfs x hx
      · rcases hm.2.1 with h | ⟨args, rfl⟩
        · exact .inl ⟨h, hG'⟩
        · exact .inr ⟨hF.pre args, hG'.up⟩
    | pop v =>
      cases fs with
      | nil =>
        refine absurd (never_next (step_go (ha c0 [])) (never_foot v G') fun f' fs' w' e => ?_) hdead
        obtain ⟨rfl, e2, rfl⟩ := lone_inj e
        obtain rfl := app_foot (fs := []) e2
        exact hn
      | cons c fs => exact ⟨.pop v, n, c.finish v, fs, G', rfl, ⟨fun x hx => hfs x (by simp [hx]), .inl ⟨(hfs c (by simp)).finish v, hG'⟩⟩, ⟨es, ha⟩, t1, d1, z1, zsame ha hl, hl⟩
  · rcases follows_pre (bad := bad) hbf hG with hd | ⟨mv, G', n, ⟨es, ha⟩, hm, hG', t1, d1, z1, hl⟩
    · exact absurd (never_dead hT.calm hfs hd hn) hdead
    cases mv with
    | stay f' => exact ⟨.stay f', n, f', fs, G', rfl, ⟨hfs, .inr ⟨hm.2 trivial, hG'⟩⟩, ⟨es, ha⟩, t1, d1, z1, zsame ha hl, hl⟩
    | push f' f2 => exact absurd trivial hm.1
    | pop v => exact absurd trivial hm

theorem world_ext {w w' : World} (h1 : w.heap = w'.heap) (h2 : w.tape = w'.tape) (h3 : w.drawn = w'.drawn) (h4 : w.os = w'.os) (h5 : w.output = w'.output) : w = w' := by
  cases w; cases w'; simp only at h1 h2 h3 h4 h5; subst h1 h2 h3 h4 h5; rfl

/-- Where the lock leads from a world with another tape. -/
theorem Lock.to {f : Frame} {mv : Mv} {n : Nat} {G G' : World} (h : Lock P Z f mv n G G') (hb : ∀ i : Nat, Z i → (∃ t f, G.heap[i]? = some (.cells #[] t f)) ∨ G.heap[i]? = some (.coro none) ∨ ∃ c t, G.heap[i]? = some (iced c t)) (hz : ∀ i : Nat, Z i → G'.heap[i]? = G.heap[i]?) (τ : Tape) (d : Nat)
    (ha : ∀ i, i < n → ∀ q, τ (d + i) q = G.tape (G.drawn + i) q) : ∃ es, Acts (fun K => stepG P true (Conc.G f K) (re G τ d)) mv (re G' τ (d + n)) es := by
  obtain ⟨A', es, a1, a2, a3, a4, a5, _⟩ := h (re G τ d) (rel_refl hb τ d) ha
  have : A' = re G' τ (d + n) := by
    refine world_ext ?_ a3 a4 a2.os a2.out
    apply Array.ext_getElem?
    intro i
    by_cases hi : Z i
    · rw [a5 i hi]; exact (hz i hi).symm
    · exact a2.same i hi
  exact ⟨es, this ▸ a1⟩

theorem wins_zero {f : Frame} {fs : List Frame} {G : World} (h : T f fs G) : Wins P T f fs G := ⟨0, f, fs, G, rfl, h⟩
theorem Wins.of_step {f f' : Frame} {fs fs' : List Frame} {w w' : World} (h : step P (lone f (fs ++ [c0]) w) = .next (lone f' (fs' ++ [c0]) w')) (hw : Wins P T f' fs' w') : Wins P T f fs w := by
  obtain ⟨n, g, gs, x, h1, h2⟩ := hw
  exact ⟨n + 1, g, gs, x, by simp only [runN, h]; exact h1, h2⟩

/-- What the tape says elsewhere does not matter. -/
theorem wins_shift (hF : Fit P bad Z) (hT : Aim T) : ∀ (m : Nat) (f : Frame) (fs : List Frame) (G : World) (τ : Tape) (d : Nat), SI P Z f fs G → (∀ i q, τ (d + i) q = G.tape (G.drawn + i) q) →
    (∃ f' fs' w', runN P m (lone f (fs ++ [c0]) G) = .next (lone f' (fs' ++ [c0]) w') ∧ T f' fs' w') → Wins P T f fs (re G τ d) := by
  intro m
  induction m with
  | zero =>
    intro f fs G τ d _ _ ⟨f', fs', w', h, ht⟩
    simp only [runN, Stepped.next.injEq] at h
    obtain ⟨rfl, e2, rfl⟩ := lone_inj h
    obtain rfl := app_foot e2
    exact wins_zero (hT.re _ _ _ _ _ ht)
  | succ m ih =>
    intro f fs G τ d hS hag ⟨f', fs', w', h, ht⟩
    by_cases hT0 : T f fs G
    · exact wins_zero (hT.re _ _ _ _ _ hT0)
    obtain ⟨mv, n, f1, fs1, G1, happ, hS1, ⟨es, ha⟩, t1, d1, _, hz, hl⟩ := one_step hF hT hS hT0 ⟨m + 1, f', fs', w', h, ht⟩
    obtain ⟨es', hb⟩ := hl.to hS.bares hz τ d (fun i _ q => hag i q)
    refine Wins.of_step (hb.step happ) (ih f1 fs1 G1 τ (d + n) hS1 (fun i q => by rw [t1, d1, Nat.add_assoc, Nat.add_assoc]; exact hag (n + i) q) ⟨f', fs', w', ?_, ht⟩)
    simp only [runN, ha.step happ] at h
    exact h

/-- ████ THE TREE: at each node, whatever tape is laid there, a move that the ghost world and the true one share; every branch comes to T. ████ -/
inductive Tree (P : Program) (Z : Nat → Prop) (T : Frame → List Frame → World → Prop) : Frame → List Frame → World → Prop
  | stop (f : Frame) (fs : List Frame) (G : World) (h : T f fs G) : Tree P Z T f fs G
  | step (f : Frame) (fs : List Frame) (G : World) (mv : Tape → Nat → Mv) (f' : Tape → Nat → Frame) (fs' : Tape → Nat → List Frame) (G' : Tape → Nat → World) (happ : ∀ τ d, (mv τ d).app fs = some (f' τ d, fs' τ d))
      (hl : ∀ A, Rel Z G A → ∃ A' es, Acts (fun K => stepG P true (Conc.G f K) A) (mv A.tape A.drawn) A' es ∧ Rel Z (G' A.tape A.drawn) A' ∧ A'.tape = A.tape ∧ A.heap.size ≤ A'.heap.size ∧ (∀ i : Nat, Z i → A'.heap[i]? = A.heap[i]?) ∧ ∀ e ∈ es, EvA Z e)
      (ht : ∀ τ d, Tree P Z T (f' τ d) (fs' τ d) (G' τ d)) : Tree P Z T f fs G

/-- The next state wins on every tape too. -/
theorem wins_next (hF : Fit P bad Z) (hT : Aim T) {f f' : Frame} {fs fs' : List Frame} {G G' : World} {mv : Mv} {n : Nat} (hS : SI P Z f fs G) (hn : ¬ T f fs G) (hw : ∀ τ d, Wins P T f fs (re G τ d)) (happ : mv.app fs = some (f', fs')) (hS' : SI P Z f' fs' G')
    (hz : ∀ i : Nat, Z i → G'.heap[i]? = G.heap[i]?) (hl : Lock P Z f mv n G G') (τ' : Tape) (d' : Nat) : Wins P T f' fs' (re G' τ' d') := by
  let τ2 : Tape := fun i q => if i < G.drawn + n then G.tape i q else τ' (d' + (i - (G.drawn + n))) q
  obtain ⟨es, hb⟩ := hl.to hS.bares hz τ2 G.drawn (fun i hi q => by simp [τ2, hi])
  obtain ⟨m, g, gs, x, h1, h2⟩ := hw τ2 G.drawn
  cases m with
  | zero =>
    simp only [runN, Stepped.next.injEq] at h1
    obtain ⟨rfl, e2, rfl⟩ := lone_inj h1
    obtain rfl := app_foot e2
    exact absurd (hT.re _ _ _ G.tape G.drawn h2) hn
  | succ m =>
    simp only [runN, hb.step happ] at h1
    have := wins_shift hF hT m f' fs' (re G' τ2 (G.drawn + n)) τ' d' (hS'.re _ _) (fun i q => by
      have : ¬ (G.drawn + n + i < G.drawn + n) := by omega
      show _ = τ2 (G.drawn + n + i) q
      simp only [τ2, this, if_false]
      congr 1
      omega) ⟨g, gs, x, h1, h2⟩
    exact this
end
end Go.Proofs.YtlanlkpamnoekaaDoor.Lk
namespace Go.Proofs.YtlanlkpamnoekaaDoor.Lk
open Go Go.Conc
section
variable {P : Program} {Z : Nat → Prop} {bad : FuncId} {T : Frame → List Frame → World → Prop}

/-- A state that wins on every tape and has no tree. -/
structure Odds (P : Program) (Z : Nat → Prop) (T : Frame → List Frame → World → Prop) where
  f : Frame
  fs : List Frame
  G : World
  si : SI P Z f fs G
  wins : ∀ τ d, Wins P T f fs (re G τ d)
  no : ¬ Tree P Z (fun f fs G => T f fs G ∧ SI P Z f fs G) f fs G

theorem Odds.next (hF : Fit P bad Z) (hT : Aim T) (x : Odds P Z T) : ∃ (τ : Tape) (d n : Nat) (mv : Mv) (y : Odds P Z T), mv.app x.fs = some (y.f, y.fs) ∧ Lock P Z x.f mv n (re x.G τ d) y.G ∧ ∀ i : Nat, Z i → y.G.heap[i]? = x.G.heap[i]? := by
  have hn : ¬ T x.f x.fs x.G := fun h => x.no (.stop _ _ _ ⟨h, x.si⟩)
  have hn' : ∀ τ d, ¬ T x.f x.fs (re x.G τ d) := fun τ d h => hn (hT.re _ _ (re x.G τ d) x.G.tape x.G.drawn h)
  have hone := fun τ d => one_step hF hT (x.si.re τ d) (hn' τ d) (x.wins τ d)
  apply Classical.byContradiction
  intro hcon
  have htree : ∀ τ d, ∃ r : Mv × Nat × Frame × List Frame × World, r.1.app x.fs = some (r.2.2.1, r.2.2.2.1) ∧ x.G.heap.size ≤ r.2.2.2.2.heap.size ∧ Lock P Z x.f r.1 r.2.1 (re x.G τ d) r.2.2.2.2 ∧ Tree P Z (fun f fs G => T f fs G ∧ SI P Z f fs G) r.2.2.1 r.2.2.2.1 r.2.2.2.2 := by
    intro τ d
    obtain ⟨mv, n, f', fs', G', happ, hS', _, _, _, hsz, hz, hl⟩ := hone τ d
    refine ⟨(mv, n, f', fs', G'), happ, hsz, hl, Classical.byContradiction fun hno => hcon ⟨τ, d, n, mv, ⟨f', fs', G', hS', fun τ' d' => ?_, hno⟩, happ, hl, hz⟩⟩
    exact wins_next hF hT (x.si.re τ d) (hn' τ d) (fun τ2 d2 => x.wins τ2 d2) happ hS' hz hl τ' d'
  refine x.no (.step _ _ _ (fun τ d => (htree τ d).choose.1) (fun τ d => (htree τ d).choose.2.2.1) (fun τ d => (htree τ d).choose.2.2.2.1) (fun τ d => (htree τ d).choose.2.2.2.2) (fun τ d => (htree τ d).choose_spec.1) (fun A hA => ?_) fun τ d => (htree τ d).choose_spec.2.2.2)
  have hs := (htree A.tape A.drawn).choose_spec
  obtain ⟨A', es, a1, a2, a3, _, a5, a6⟩ := hs.2.2.1 A ⟨hA.size, hA.same, hA.odd, hA.os, hA.out⟩ (fun _ _ _ => rfl)
  exact ⟨A', es, a1, a2, a3, by rw [a2.size, hA.size]; exact hs.2.1, a5, a6⟩

/-- ████ FROM ONE LONE RUN FOR EACH TAPE: THE TREE. ████ -/
theorem tree_of (hF : Fit P bad Z) (hT : Aim T) {f : Frame} {fs : List Frame} {G : World} (hS : SI P Z f fs G) (hw : ∀ τ d, Wins P T f fs (re G τ d)) : Tree P Z (fun f fs G => T f fs G ∧ SI P Z f fs G) f fs G := by
  apply Classical.byContradiction
  intro hno
  have hnext : ∀ x : Odds P Z T, ∃ r : Tape × Nat × Nat × Mv × Odds P Z T, r.2.2.2.1.app x.fs = some (r.2.2.2.2.f, r.2.2.2.2.fs) ∧ Lock P Z x.f r.2.2.2.1 r.2.2.1 (re x.G r.1 r.2.1) r.2.2.2.2.G ∧ ∀ i : Nat, Z i → r.2.2.2.2.G.heap[i]? = x.G.heap[i]? := fun x => by
    obtain ⟨τ, d, n, mv, y, a, b, c⟩ := x.next hF hT
    exact ⟨(τ, d, n, mv, y), a, b, c⟩
  let τ : Odds P Z T → Tape := fun x => (hnext x).choose.1
  let d : Odds P Z T → Nat := fun x => (hnext x).choose.2.1
  let n : Odds P Z T → Nat := fun x => (hnext x).choose.2.2.1
  let nx : Odds P Z T → Odds P Z T := fun x => (hnext x).choose.2.2.2.2
  have h1 : ∀ x, (hnext x).choose.2.2.2.1.app x.fs = some ((nx x).f, (nx x).fs) := fun x => (hnext x).choose_spec.1
  have h2 : ∀ x, Lock P Z x.f (hnext x).choose.2.2.2.1 (n x) (re x.G (τ x) (d x)) (nx x).G := fun x => (hnext x).choose_spec.2.1
  have h3 : ∀ x, ∀ i : Nat, Z i → (nx x).G.heap[i]? = x.G.heap[i]? := fun x => (hnext x).choose_spec.2.2
  let xs : Nat → Odds P Z T := fun k => Nat.rec ⟨f, fs, G, hS, hw, hno⟩ (fun _ x => nx x) k
  have xs1 : ∀ k, xs (k + 1) = nx (xs k) := fun _ => rfl
  let c : Nat → Nat := fun k => Nat.rec 0 (fun j s => s + n (xs j)) k
  have c1 : ∀ k, c (k + 1) = c k + n (xs k) := fun _ => rfl
  have cmono : ∀ j k, j ≤ k → c j ≤ c k := by
    intro j k hjk
    induction hjk with
    | refl => exact Nat.le_refl _
    | step _ ih => exact Nat.le_trans ih (by rw [c1]; omega)
  have hdec : ∀ m, Decidable (∃ k, c k ≤ m ∧ m < c (k + 1)) := fun m => Classical.propDecidable _
  let σ : Tape := fun m q => @dite _ (∃ k, c k ≤ m ∧ m < c (k + 1)) (hdec m) (fun h => τ (xs h.choose) (d (xs h.choose) + (m - c h.choose)) q) (fun _ => 0)
  have hσ : ∀ k i, i < n (xs k) → ∀ q, σ (c k + i) q = τ (xs k) (d (xs k) + i) q := by
    intro k i hi q
    have hex : ∃ k', c k' ≤ c k + i ∧ c k + i < c (k' + 1) := ⟨k, by omega, by rw [c1]; omega⟩
    have hk : hex.choose = k := by
      have hs := hex.choose_spec
      rcases Nat.lt_trichotomy hex.choose k with h | h | h
      · have := cmono (hex.choose + 1) k h
        omega
      · exact h
      · have := cmono (k + 1) hex.choose h
        rw [c1] at this
        omega
    show (if h : ∃ k', c k' ≤ c k + i ∧ c k + i < c (k' + 1) then _ else _) = _
    rw [dif_pos hex]
    simp only [hk]
    congr 1
    omega
  have hrun : ∀ k, runN P k (lone f (fs ++ [c0]) (re G σ 0)) = .next (lone (xs k).f ((xs k).fs ++ [c0]) (re (xs k).G σ (c k))) := by
    intro k
    induction k with
    | zero => rfl
    | succ k ih =>
      rw [runN_add, ih]
      have hl := (h2 (xs k)).to (G := re (xs k).G (τ (xs k)) (d (xs k))) (xs k).si.bares (h3 (xs k)) σ (c k) (fun i hi q => hσ k i hi q)
      obtain ⟨es, ha⟩ := hl
      have := Acts.step ha (h1 (xs k))
      simp only [runN]
      have e : re (re (xs k).G (τ (xs k)) (d (xs k))) σ (c k) = re (xs k).G σ (c k) := rfl
      rw [e] at this
      rw [this]
  obtain ⟨m, g, gs, w, hm, ht⟩ := hw σ 0
  rw [hrun m] at hm
  simp only [Stepped.next.injEq] at hm
  obtain ⟨e1, e2, e3⟩ := lone_inj hm
  have e2 := app_foot e2
  subst e1 e2 e3
  exact (xs m).no (.stop _ _ _ ⟨hT.re _ _ (re (xs m).G σ (c m)) (xs m).G.tape (xs m).G.drawn ht, (xs m).si⟩)
end
end Go.Proofs.YtlanlkpamnoekaaDoor.Lk
namespace Go.Proofs.YtlanlkpamnoekaaDoor.Lk
open Go Go.Conc
open Go.ConcN (sumTo upd sumTo_upd upd_ne upd_same)

/-- What the others keep while goroutine 0 goes on; the number falls at each step of theirs. -/
structure Oth (P : Program) (Z V : Nat → Prop) (Q : Nat → Trace → Array Goroutine → World → Prop) : Prop where
  awake : ∀ μ t gs A i g, Q μ t gs A → 0 < i → gs[i]? = some g → awake g
  draw : ∀ μ t gs A d, Q μ t gs A → Q μ t gs (A.at d)
  own : ∀ μ t gs A a a' A' es, Q μ t gs A → gs[0]? = some a → a.status = .running → a'.status = .running → (∀ e ∈ es, EvA Z e) → (∀ i : Nat, Z i → A'.heap[i]? = A.heap[i]?) → A'.tape = A.tape → A.heap.size ≤ A'.heap.size →
    Q μ (t ++ MemOp.ofEvents 0 a.frame.fn a.frame.place es) ((gs.map (woken P a a' A')).setIfInBounds 0 a') A'
  other : ∀ μ t gs A a sl i g, Q μ t gs A → gs[0]? = some a → a.status = .running → 0 < i → gs[i]? = some g → g.status = .running →
    ∃ gs' A' ops μ', runT P (crowd gs A sl) i = (.next (crowd gs' A' sl), ops) ∧ μ' < μ ∧ gs'[0]? = some a ∧ gs'.size = gs.size ∧ (∀ G, Rel Z G A → Rel Z G A') ∧ (∀ i : Nat, ¬ V i → A'.heap[i]? = A.heap[i]?) ∧ A'.tape = A.tape ∧ A'.heap.size = A.heap.size ∧ Q μ' (t ++ ops) gs' A'

section
variable {P : Program} {Z V : Nat → Prop} {bad : FuncId} {T : Frame → List Frame → World → Prop} {Q : Nat → Trace → Array Goroutine → World → Prop}

theorem Rel.at {G A : World} (h : Rel Z G A) (d : Nat) : Rel Z G (A.at d) := ⟨h.size, h.same, h.odd, h.os, h.out⟩

/-- ████ THE TREE IN COMPANY, ON WHATEVER TAPE. ████ -/
theorem tree_run (O : Oth P Z V Q) {f : Frame} {fs : List Frame} {G : World} (hT : Tree P Z T f fs G) : ∀ (cs : List Frame) (μ : Nat) (t : Trace) (gs : Array Goroutine) (A : World) (sl : Option (Nat × Nat)), Rel Z G A → gs[0]? = some (Conc.G f (fs ++ cs)) → Q μ t gs A →
    ∃ (N : Nat) (gs' : Array Goroutine) (A' : World) (sl' : Option (Nat × Nat)) (t' : Trace) (μ' : Nat) (f' : Frame) (fs' : List Frame) (G' : World),
      runNT P N (crowd gs A sl) t = (.next (crowd gs' A' sl'), t') ∧ T f' fs' G' ∧ Rel Z G' A' ∧ (∀ i : Nat, Z i → ¬ V i → A'.heap[i]? = A.heap[i]?) ∧ gs'[0]? = some (Conc.G f' (fs' ++ cs)) ∧ gs'.size = gs.size ∧ A'.tape = A.tape ∧ A.heap.size ≤ A'.heap.size ∧ Q μ' t' gs' A' := by
  induction hT with
  | stop f fs G h => exact fun cs μ t gs A sl hA h0 hQ => ⟨0, gs, A, sl, t, μ, f, fs, G, rfl, h, hA, fun _ _ _ => rfl, h0, rfl, rfl, Nat.le_refl _, hQ⟩
  | step f fs G mv f' fs' G' happ hl _ ih =>
    intro cs μ
    induction μ using Nat.strongRecOn with
    | _ μ ihμ =>
    intro t gs A sl hA h0 hQ
    have haw : ∀ g ∈ gs, Go.Conc.awake g := by
      intro g hg
      obtain ⟨i, hi, rfl⟩ := Array.mem_iff_getElem.1 hg
      rcases Nat.eq_zero_or_pos i with rfl | hpos
      · have : gs[0] = Conc.G f (fs ++ cs) := by simpa [Array.getElem?_eq_getElem hi] using h0
        rw [this]; exact awake_of (.inl rfl)
      · exact O.awake μ t gs A i _ hQ hpos (Array.getElem?_eq_getElem hi)
    obtain ⟨i, g, d, sl', hi, hg, hst⟩ := crowd_pick (P := P) (w := A) (sl := sl) haw ⟨0, _, h0, rfl⟩
    have hQ' := O.draw μ t gs A d hQ
    have hA' := hA.at d
    rcases Nat.eq_zero_or_pos i with rfl | hpos
    · obtain rfl : g = Conc.G f (fs ++ cs) := by rw [h0] at hi; exact (Option.some.inj hi).symm
      obtain ⟨A', es, ha, hR, ht, hsz, hz, hev⟩ := hl (A.at d) hA'
      have hlt : 0 < gs.size := (Array.getElem?_eq_some_iff.1 h0).1
      have key : ∃ a', stepG P (0 == 0) (Conc.G f (fs ++ cs)) (A.at d) = .go a' A' es ∧ a' = Conc.G (f' (A.at d).tape (A.at d).drawn) (fs' (A.at d).tape (A.at d).drawn ++ cs) := by
        have happ' := happ (A.at d).tape (A.at d).drawn
        cases hm : mv (A.at d).tape (A.at d).drawn with
        | stay g =>
          rw [hm] at ha happ'
          simp only [Mv.app, Option.some.injEq, Prod.mk.injEq] at happ'
          exact ⟨_, ha (fs ++ cs), by rw [← happ'.1, ← happ'.2]⟩
        | push g g' =>
          rw [hm] at ha happ'
          simp only [Mv.app, Option.some.injEq, Prod.mk.injEq] at happ'
          exact ⟨_, ha (fs ++ cs), by rw [← happ'.1, ← happ'.2]; rfl⟩
        | pop v =>
          rw [hm] at ha happ'
          cases fs with
          | nil => cases happ'
          | cons c fs =>
            simp only [Mv.app, Option.some.injEq, Prod.mk.injEq] at happ'
            exact ⟨_, ha c (fs ++ cs), by rw [← happ'.1, ← happ'.2]⟩
      obtain ⟨a', hgo, rfl⟩ := key
      have hrunT := runT_crowd_go (P := P) (sl := sl') (i := 0) hi hgo
      have hQ2 := O.own μ t gs (A.at d) _ (Conc.G (f' (A.at d).tape (A.at d).drawn) (fs' (A.at d).tape (A.at d).drawn ++ cs)) A' es hQ' h0 rfl rfl hev hz ht hsz
      obtain ⟨N, gs2, A2, sl2, t2, μ2, g2, gs2', G2, r1, r2, r3, rv, r4, r5, r6, r7, r8⟩ := ih (A.at d).tape (A.at d).drawn cs μ _ _ A' sl' hR (by simp [hlt]) hQ2
      exact ⟨N + 1, gs2, A2, sl2, t2, μ2, g2, gs2', G2, by simp only [runNT, hst, hrunT]; exact r1, r2, r3, fun i hi hv => (rv i hi hv).trans (hz i hi), r4, by rw [r5]; simp, r6.trans ht, Nat.le_trans hsz r7, r8⟩
    · obtain ⟨gs', A', ops, μ', h1, h2, h3, h4, h5, hv0, h6, h7, h8⟩ := O.other μ t gs (A.at d) _ sl' i g hQ' h0 rfl hpos hi hg
      obtain ⟨N, gs2, A2, sl2, t2, μ2, g2, gs2', G2, r1, r2, r3, rv, r4, r5, r6, r7, r8⟩ := ihμ μ' h2 (t ++ ops) gs' A' sl' (h5 G hA') h3 h8
      exact ⟨N + 1, gs2, A2, sl2, t2, μ2, g2, gs2', G2, by simp only [runNT, hst, h1]; exact r1, r2, r3, fun i hi hv => (rv i hi hv).trans (hv0 i hv), r4, r5.trans h4, r6.trans h6, by rw [h7] at r7; exact r7, r8⟩

/-! ### leavers -/
theorem ops_by (i : Nat) (fn : FuncId) (pos : String) (es : Array Event) : ∀ op ∈ MemOp.ofEvents i fn pos es, op.g = i := by
  intro op hop
  rw [ofEvents_eq] at hop
  obtain ⟨e, _, rfl⟩ := Array.mem_map.1 hop
  rfl
theorem low_some (es : Array Event) : ∃ B, ∀ e ∈ es, (MemAct.ofEvent e).low B := by
  obtain ⟨l⟩ := es
  induction l with
  | nil => exact ⟨0, by simp⟩
  | cons e l ih =>
    obtain ⟨B, hB⟩ := ih
    have : ∃ B1, (MemAct.ofEvent e).low B1 := by
      cases MemAct.ofEvent e with
      | access x =>
        obtain ⟨loc, wr, sy⟩ := x
        cases loc with
        | cell a => exact ⟨a.block + 1, Nat.lt_succ_self _⟩
        | obj r => exact ⟨r + 1, Nat.lt_succ_self _⟩
        | _ => exact ⟨0, trivial⟩
      | mark m => cases m <;> first | exact ⟨0, trivial⟩ | (rename_i a; exact ⟨a.block + 1, Nat.lt_succ_self _⟩)
      | go c => exact ⟨0, trivial⟩
      | start => exact ⟨0, trivial⟩
      | send c _ | sendDone c _ | recv c _ _ | recvDone c _ | close c | recvClosed c => exact ⟨c + 1, Nat.lt_succ_self _⟩
    obtain ⟨B1, h1⟩ := this
    refine ⟨max B B1, fun x hx => ?_⟩
    simp only [List.mem_toArray, List.mem_cons] at hx
    rcases hx with rfl | hx
    · exact MemAct.low_mono (by omega) h1
    · exact MemAct.low_mono (by omega) (hB x (by simpa using hx))
theorem evA_loc {e : Event} (h : EvA Z e) : e.loc ≠ .mark .disable ∧ e.loc ≠ .mark .enable := ⟨fun h' => (by rcases h.2.1 _ h' with x | ⟨_, x⟩ <;> cases x), fun h' => (by rcases h.2.1 _ h' with x | ⟨_, x⟩ <;> cases x)⟩

/-- All others only leave; goroutine 0 knows all that was done. -/
def QL (P : Program) (μ : Nat) (t : Trace) (gs : Array Goroutine) (_ : World) : Prop := ∃ (q : Nat → Nat) (B : Nat), Leavers P t gs q ∧ Past (fun _ => False) B t ∧ μ = sumTo gs.size q

theorem oth_leavers : Oth P Z (fun _ => False) (QL P) where
  awake := fun μ t gs A i g ⟨q, B, hL, _, _⟩ hpos hi => awake_of ((hL.old i _ hpos hi).status.elim .inl fun x => .inr (.inr x))
  draw := fun _ _ _ _ _ h => h
  own := fun μ t gs A a a' A' es ⟨q, B, hL, hP, hμ⟩ h0 hrun hrun' hev _ _ _ => by
    obtain ⟨B1, hB1⟩ := low_some es
    have hsz : ((gs.map (woken P a a' A')).setIfInBounds 0 a').size = gs.size := by simp
    refine ⟨q, max B B1, ⟨fun j x hj hx => ?_, fun j hj => ?_⟩, (hP.mono (Nat.le_max_left B B1)).own fun e he => ⟨fun x _ h => h.elim, (evA_loc (hev e he)).1, (evA_loc (hev e he)).2, MemAct.low_mono (Nat.le_max_right B B1) (hB1 e he)⟩, by rw [hsz]; exact hμ⟩
    · have hne : 0 ≠ j := by omega
      rw [Array.getElem?_setIfInBounds_ne hne, Array.getElem?_map] at hx
      obtain ⟨y, hy, rfl⟩ := Option.map_eq_some_iff.1 hx
      have hq := hL.old j y hj hy
      rw [woken_quitsD hq, Deaf_other t (by omega) _ (ops_by _ _ _ _)]
      exact hq
    · rw [Deaf_other t (g' := 0) (by simp at hj; have := (Array.getElem?_eq_some_iff.1 h0).1; omega) _ (ops_by _ _ _ _)]
      exact hL.above j (by simpa using hj)
  other := fun μ t gs A a sl i g ⟨q, B, hL, hP, hμ⟩ h0 hrun hpos hi hg => by
    have hq := hL.old i g hpos hi
    have hi0 : (i == 0) = false := by simp; omega
    have hlt : i < gs.size := (Array.getElem?_eq_some_iff.1 hi).1
    cases hqi : q i with
    | zero => rw [hqi] at hq; rw [hq.1] at hg; cases hg
    | succ k =>
      rw [hqi] at hq
      rcases hq with ⟨hf, _⟩ | ⟨_, g', es, hm, hstp, hq'⟩
      · rw [hf] at hg; cases hg
      have hrunT := runT_crowd_go (P := P) (gs := gs) (sl := sl) (i := i) hi (by rw [hi0]; exact hstp A)
      have hsz : ((gs.map (woken P g g' A)).setIfInBounds i g').size = gs.size := by simp
      have hsum : sumTo gs.size (upd q i k) + (k + 1) = sumTo gs.size q + k := by
        have := sumTo_upd q k id hlt
        simpa [hqi] using this
      have hne : i ≠ 0 := by omega
      refine ⟨_, A, _, sumTo gs.size (upd q i k), hrunT, by omega, ?_, hsz, fun _ h => h, fun _ _ => rfl, rfl, rfl, upd q i k, B, ⟨fun j x hj hx => ?_, fun j hj => ?_⟩, hP.mute hne hm, by rw [hsz]⟩
      · rw [Array.getElem?_setIfInBounds_ne hne, Array.getElem?_map, h0]
        simp [woken_run hrun]
      · by_cases hji : i = j
        · subst hji
          rw [Array.getElem?_setIfInBounds_self_of_lt (by simpa using hlt)] at hx
          obtain rfl := Option.some.inj hx
          rw [upd_same, Deaf_own]
          exact hq'
        · rw [Array.getElem?_setIfInBounds_ne hji, Array.getElem?_map] at hx
          obtain ⟨y, hy, rfl⟩ := Option.map_eq_some_iff.1 hx
          have hqj := hL.old j y hj hy
          rw [woken_quitsD hqj, upd_ne q k (Ne.symm hji), Deaf_other t hji _ (ops_by _ _ _ _)]
          exact hqj
      · rw [Deaf_other t (g' := i) (by simp at hj; omega) _ (ops_by _ _ _ _)]
        exact hL.above j (by simpa using hj)
end
end Go.Proofs.YtlanlkpamnoekaaDoor.Lk
namespace Go.Proofs.YtlanlkpamnoekaaDoor.Lk
open Go Go.Conc

section
variable {Still : Loc → Prop} {Mem Loose : Nat → Prop} {B s c : Nat} {K K' : Nat → Prop} {t u : Trace}

theorem noRace_free {said : Bool} (h : ¬ Race said t) (hn : ∀ op ∈ u, ∀ b, op.act.touch? = some b → b.loc.isMemory = false) : ¬ Race said (t ++ u) := by
  rintro ⟨i, j, hij, ⟨a, b, ha, hb, hc⟩, n1, n2⟩
  obtain ⟨x, hx, hxa⟩ := touch_of ha
  obtain ⟨y, hy, hyb⟩ := touch_of hb
  rcases getElem?_append_cases hy with ⟨hj, hy'⟩ | ⟨_, hyu⟩
  · have hi : i < t.size := Nat.lt_trans hij hj
    have hx' : t[i]? = some x := by rw [← getElem?_append_old (u := u) hi]; exact hx
    exact h ⟨i, j, hij, ⟨a, b, by simp [Trace.act?, hx', hxa], by simp [Trace.act?, hy', hyb], hc⟩, fun e => n1 (hb_app u e), fun e => n2 (hb_app u e)⟩
  · have := hn y hyu b hyb
    rw [← hc.1, hc.2.1] at this
    cases this

theorem appFree (H : PastG Still Mem Loose B K t) (hS : ∀ l, Still l → l.isMemory = true) (hK : ∀ i, K i → K' i) (hn : ∀ op ∈ u, ∀ b, op.act.touch? = some b → b.loc.isMemory = false) (hd : ∀ g, Mem g → Deaf (t ++ u) g = Deaf t g) (hl : ∀ op ∈ u, op.act.low B) : PastG Still Mem Loose B K' (t ++ u) := by
  refine ⟨fun said => noRace_free (H.clean said) hn, fun i a ha hm => ?_, fun i a ha hw hs g hg => ?_, fun g hg => (hd g hg).trans (H.hears g hg), seen_app H.seen hl⟩
  · obtain ⟨x, hx, hxa⟩ := touch_of ha
    rcases getElem?_append_cases hx with ⟨_, hx'⟩ | ⟨_, hxu⟩
    · exact H.old_known hK hx' hxa hm
    · have := hn x hxu a hxa
      rw [hm] at this; cases this
  · obtain ⟨x, hx, hxa⟩ := touch_of ha
    rcases getElem?_append_cases hx with ⟨_, hx'⟩ | ⟨_, hxu⟩
    · exact (H.wrote i a (by rw [touchAt_of hx']; exact hxa) hw hs g hg).app u
    · have := hn x hxu a hxa
      rw [hS _ hs] at this; cases this

/-- Goroutine 0 holds; s alone is loose. -/
def Two (Still : Loc → Prop) (B s : Nat) (t : Trace) : Prop := PastH Still (fun g => g = 0 ∨ g = s) (fun g => g = s) B 0 t

theorem Two.mono {B' : Nat} (H : Two Still B s t) (h : B ≤ B') : Two Still B' s t := PastG.mono H h
theorem Two.meet (H : Two Still B s t) (hS : ∀ l, Still l → l.isMemory = true) (fs : FuncId) (ps : String) (f0 : FuncId) (p0 : String) (k cap : Nat) (hc : c < B) : Two Still B s (t ++ met s 0 fs ps f0 p0 c k cap) :=
  appFree H hS (fun _ => Knows.app _) (fun op hop b hb => by rw [met_mute _ _ _ _ _ _ _ _ _ op hop] at hb; cases hb) (fun g _ => Deaf_quiet (met_quiet _ _ _ _ _ _ _ _ _ g)) fun op hop => by
    simp only [met, List.mem_toArray, List.mem_cons, List.not_mem_nil, or_false] at hop
    rcases hop with rfl | rfl | rfl | rfl <;> exact hc

/-- s has closed channel c; all that it touched is ahead of that. -/
def Shut (c s : Nat) (t : Trace) : Prop := ∃ m op, t[m]? = some op ∧ op.g = s ∧ op.act = .close c ∧ t.deaf s m = 0 ∧ ∀ i a, touchAt t i = some a → a.loc.isMemory = true → t.g? i = some s → i < m

theorem Shut.app (H : Shut c s t) (hu : ∀ op ∈ u, op.g = s → ∀ b, op.act.touch? = some b → b.loc.isMemory = false) : Shut c s (t ++ u) := by
  obtain ⟨m, op, hm, hg, ha, hd, hi⟩ := H
  have hlt := lt_size_of_getElem? hm
  refine ⟨m, op, by rw [getElem?_append_old hlt]; exact hm, hg, ha, by rw [deaf_old (Nat.le_of_lt hlt)]; exact hd, fun i a hia hmem hgi => ?_⟩
  obtain ⟨x, hx, hxa⟩ := touch_of hia
  rcases getElem?_append_cases hx with ⟨hil, hx'⟩ | ⟨_, hxu⟩
  · exact hi i a (by rw [touchAt_of hx']; exact hxa) hmem (by rw [← g?_old hil]; exact hgi)
  · have h1 : x.g = s := by have := g?_of hx; rw [hgi] at this; exact (Option.some.inj this).symm
    have := hu x hxu h1 a hxa
    rw [hmem] at this; cases this

theorem close_touch (h : Nat) (fn : FuncId) (pos : String) (c : Nat) : ∀ op ∈ MemOp.ofEvents h fn pos (closeEvents c), ∀ b, op.act.touch? = some b → b.write = false ∧ b.loc = .obj c := by
  intro op hop b hb
  rw [closeOps] at hop
  simp only [List.mem_toArray, List.mem_cons, List.not_mem_nil, or_false] at hop
  rcases hop with rfl | rfl
  · simp only [MemAct.touch?, Option.some.injEq] at hb
    subst hb; exact ⟨rfl, rfl⟩
  · cases hb
theorem close_quiet (h : Nat) (fn : FuncId) (pos : String) (c g : Nat) : ∀ op ∈ MemOp.ofEvents h fn pos (closeEvents c), ∀ d, deafStep g d op = d := by
  intro op hop d
  rw [closeOps] at hop
  simp only [List.mem_toArray, List.mem_cons, List.not_mem_nil, or_false] at hop
  rcases hop with rfl | rfl <;> rfl

theorem Two.close (H : Two Still B s t) (hS : Still (.obj c)) (fn : FuncId) (pos : String) (hc : c < B) :
    Two Still B s (t ++ MemOp.ofEvents s fn pos (closeEvents c)) ∧ Shut c s (t ++ MemOp.ofEvents s fn pos (closeEvents c)) := by
  refine ⟨PastH.appRead H (.inr rfl) rfl (ops_by _ _ _ _) (fun op hop b hb => by obtain ⟨x, y⟩ := close_touch _ _ _ _ op hop b hb; exact ⟨x, y ▸ hS⟩) (Deaf_quiet (close_quiet _ _ _ _ s)) fun op hop => ?_, ?_⟩
  · rw [closeOps] at hop
    simp only [List.mem_toArray, List.mem_cons, List.not_mem_nil, or_false] at hop
    rcases hop with rfl | rfl <;> exact hc
  · have hm : (t ++ MemOp.ofEvents s fn pos (closeEvents c))[t.size + 1]? = some { g := s, fn := fn, pos := pos, act := .close c } := by rw [at_new, closeOps]; rfl
    refine ⟨t.size + 1, _, hm, rfl, rfl, ?_, fun i a hia hmem hgi => ?_⟩
    · rw [deaf_quiet (close_quiet _ _ _ _ s) 1 (by rw [closeOps]; simp)]
      exact H.hears s (.inr rfl)
    · obtain ⟨x, hx, hxa⟩ := touch_of hia
      have hi2 := lt_size_of_getElem? hx
      rw [Array.size_append, closeOps] at hi2
      simp only [List.size_toArray, List.length_cons, List.length_nil] at hi2
      rcases Nat.lt_or_ge i (t.size + 1) with h | h
      · exact h
      · obtain rfl : i = t.size + 1 := by omega
        rw [hm] at hx
        obtain rfl := Option.some.inj hx
        cases hxa

/-- Goroutine 0 finds the channel closed: it knows all. -/
theorem Two.take (H : Two Still B s t) (hS : ∀ l, Still l → l.isMemory = true) (hX : Shut c s t) (fj : FuncId) (pj : String) (hc : c < B) : Past (fun _ => False) B (t ++ #[{ g := 0, fn := fj, pos := pj, act := .recvClosed c }]) := by
  obtain ⟨m, op, hm, hg, ha, hd, hi⟩ := hX
  have hlt := lt_size_of_getElem? hm
  generalize hu : (#[{ g := 0, fn := fj, pos := pj, act := .recvClosed c }] : Trace) = u
  have hn : ∀ op ∈ u, ∀ b, op.act.touch? = some b → b.loc.isMemory = false := by
    intro op hop b hb
    subst hu
    simp only [List.mem_toArray, List.mem_cons, List.not_mem_nil, or_false] at hop
    subst hop; cases hb
  have hq : ∀ g, ∀ op ∈ u, ∀ d, deafStep g d op = d := by
    intro g op hop d
    subst hu
    simp only [List.mem_toArray, List.mem_cons, List.not_mem_nil, or_false] at hop
    subst hop; rfl
  have e0 : (t ++ u)[t.size]? = some { g := 0, fn := fj, pos := pj, act := .recvClosed c } := by subst hu; simp
  have hm' : (t ++ u)[m]? = some op := by rw [getElem?_append_old hlt]; exact hm
  have edge : HappensBefore (t ++ u) m t.size :=
    Relation.TransGen.single (.inr ⟨.closed (by rw [act?_of hm', ha]) (act?_of e0), ⟨s, by rw [g?_of hm', hg], by rw [deaf_old (Nat.le_of_lt hlt)]; exact hd⟩, ⟨0, g?_of e0, by rw [deaf_old (Nat.le_refl _)]; exact H.hears 0 (.inl rfl)⟩⟩)
  have H' : PastG Still (fun g => g = 0 ∨ g = s) (fun g => g = s) B (Knows (t ++ u) 0) (t ++ u) := appFree H hS (fun _ => Knows.app u) hn (fun g _ => Deaf_quiet (hq g)) (fun op hop => by
    subst hu
    simp only [List.mem_toArray, List.mem_cons, List.not_mem_nil, or_false] at hop
    subst hop; exact hc)
  refine PastH.toPast (Still := Still) (Mem := fun g => g = 0 ∨ g = s) (Loose := fun _ => False) ⟨H'.clean, fun i a hia hmem => .inl ?_, H'.wrote, H'.hears, H'.seen⟩ (.inl rfl) (fun _ h => h)
  rcases H'.known i a hia hmem with hk | ⟨_, _, g, hgi, rfl⟩
  · exact hk
  · obtain ⟨x, hx, hxa⟩ := touch_of hia
    rcases getElem?_append_cases hx with ⟨hil, hx'⟩ | ⟨_, hxu⟩
    · have him := hi i a (by rw [touchAt_of hx']; exact hxa) hmem (by rw [← g?_old hil]; exact hgi)
      have hxg : x.g = op.g := by have := g?_of hx; rw [hgi] at this; rw [hg]; exact (Option.some.inj this).symm
      exact ⟨t.size, _, e0, rfl, .inr ((hb_po him hx hm' hxg).trans edge)⟩
    · have := hn x hxu a hxa
      rw [hmem] at this; cases this

/-- At the go statement. -/
theorem Two.hire (H : Past (fun _ => False) B t) (hS : ∀ l, Still l → l.isMemory = true) (hs0 : Deaf t s = 0) (fh : FuncId) (ph : String) (fc : FuncId) : Two Still B s (t ++ #[{ g := 0, fn := fh, pos := ph, act := .go s }, { g := s, fn := fc, pos := ph, act := .start }]) := by
  have h := PastH.hire (PastH.ofPast H hS) rfl hs0 fh ph fc
  exact PastG.loosen h fun g hg => hg.elim False.elim id

/-- Goroutine 0's own. -/
theorem Two.own (H : Two Still B s t) (hu : ∀ op ∈ u, op.g = 0) (hs : ∀ op ∈ u, ∀ b, op.act.touch? = some b → Still b.loc → b.write = false) (hd : Deaf (t ++ u) 0 = Deaf t 0) (hl : ∀ op ∈ u, op.act.low B) : Two Still B s (t ++ u) := PastH.appH H hu hs hd hl
/-- The sender's reads. -/
theorem Two.read (H : Two Still B s t) (hu : ∀ op ∈ u, op.g = s) (hr : ∀ op ∈ u, ∀ b, op.act.touch? = some b → b.write = false ∧ Still b.loc) (hd : Deaf (t ++ u) s = Deaf t s) (hl : ∀ op ∈ u, op.act.low B) : Two Still B s (t ++ u) := PastH.appRead H (.inr rfl) rfl hu hr hd hl
/-- A leaver's. -/
theorem Two.mute {g : Nat} (H : Two Still B s t) (h0 : g ≠ 0) (hs : g = s → Deaf (t ++ u) g = Deaf t g) (hu : ∀ op ∈ u, op.g = g) (hn : ∀ op ∈ u, op.act.touch? = none) (hl : ∀ op ∈ u, op.act.low B) : Two Still B s (t ++ u) := PastH.appMute H hu hn (fun h => h.elim (fun e => absurd e h0) hs) hl
end
end Go.Proofs.YtlanlkpamnoekaaDoor.Lk
namespace Go.Proofs.YtlanlkpamnoekaaDoor.Lk
open Go Go.Conc
open Go.ConcN (sumTo upd sumTo_upd upd_ne upd_same)

/-- What is fixed while the sender lives. -/
structure Env where
  K : World → Prop
  Still : Loc → Prop
  B : Nat
  s : Nat
  ce : Nat
  ee : Nat
  kat : ∀ A d, K A → K (A.at d)
  kc : ∀ A cap buf cl a b tm, K A → K (A.setChan ce cap buf cl a b tm)
  ke : ∀ A cap buf cl a b tm, K A → K (A.setChan ee cap buf cl a b tm)
  mem : ∀ l, Still l → l.isMemory = true
  endS : Still (.obj ee)
  ne : ce ≠ ee
  cB : ce < B
  eB : ee < B
  pos : 0 < s
/-- What goroutine 0 leaves alone. -/
structure Env.Off (E : Env) (Z : Nat → Prop) : Prop where
  keep : ∀ A A', E.K A → (∀ i : Nat, Z i → A'.heap[i]? = A.heap[i]?) → E.K A'
  cell : ∀ a, E.Still (.cell a) → Z a.block
  obj : ∀ r, E.Still (.obj r) → Z r
  zc : Z E.ce
  ze : Z E.ee

section
variable {P : Program} {E : Env}

/-- It stands at its next send; or, nothing being left, at the close. -/
def AtS (P : Program) (E : Env) : List Value → Goroutine → Prop
  | [], g => g.status = .running ∧ mayWake P g = true ∧ ∃ g', (∀ w k, E.K w → w.heap[E.ee]? = some (.chan 0 #[] false k k false) → stepG P false g w = .go g' (w.setChan E.ee 0 #[] true k k false) (closeEvents E.ee)) ∧ QuitsIn P 4 g'
  | v :: vs, g => g.status = .running ∧ ∃ g₂ z es, (∀ e ∈ es, EvC E.Still E.B e) ∧ (∀ w, E.K w → stepG P false g w = .comm g₂ #[scase E.ce v z] true .send w es) ∧
      ∃ k, ∀ w, Goes P false (RK E.K) (DS E.Still E.B) (fun g _ => AtS P E vs g) k (Go.Conc.served g₂ undef) w

/-- It is on its way, n = k + 6, or parked, n = 0. -/
def Live (P : Program) (E : Env) (vs : List Value) (n : Nat) (g : Goroutine) : Prop :=
  (∃ k w₀, n = k + 6 ∧ Goes P false (RK E.K) (DS E.Still E.B) (fun g _ => AtS P E vs g) k g w₀) ∨
  (n = 0 ∧ ∃ v rest g₂ z k, vs = v :: rest ∧ g = parked g₂ #[scase E.ce v z] .send ∧ ∀ w, Goes P false (RK E.K) (DS E.Still E.B) (fun g _ => AtS P E rest g) k (Go.Conc.served g₂ undef) w)

structure SX (P : Program) (E : Env) (vs : List Value) (q : Nat → Nat) (B : Nat) (t : Trace) (gs : Array Goroutine) (A : World) : Prop where
  hB : E.B ≤ B
  lt : E.s < gs.size
  keep : E.K A
  come : ∃ k, A.heap[E.ce]? = some (.chan 0 #[] false k k false)
  two : Two E.Still B E.s t
  above : ∀ j, gs.size ≤ j → Deaf t j = 0
  old : ∀ i g, 0 < i → i ≠ E.s → gs[i]? = some g → QuitsD P (q i) (Deaf t i) g
  me : ∃ g, gs[E.s]? = some g ∧ ((∃ k, A.heap[E.ee]? = some (.chan 0 #[] false k k false) ∧ Live P E vs (q E.s) g) ∨ (vs = [] ∧ ∃ k, A.heap[E.ee]? = some (.chan 0 #[] true k k false) ∧ Shut E.ee E.s t ∧ QuitsIn P (q E.s) g))

theorem atS_run {vs : List Value} {g : Goroutine} (h : AtS P E vs g) : g.status = .running := by
  cases vs <;> exact h.1
theorem goes_run {vs : List Value} {k : Nat} {g : Goroutine} {w A : World} (hK : E.K A) (h : Goes P false (RK E.K) (DS E.Still E.B) (fun g _ => AtS P E vs g) k g w) : g.status = .running := by
  cases k with
  | zero => exact atS_run (h A hK)
  | succ k => exact h.elim (fun x => atS_run (x A hK)) (·.1)

theorem live_status {vs : List Value} {n : Nat} {g : Goroutine} {A : World} (hK : E.K A) (h : Live P E vs n g) : (g.status = .running ∧ 0 < n) ∨ (g.status = .blocked ∧ n = 0) := by
  rcases h with ⟨k, w, rfl, hg⟩ | ⟨rfl, v, rest, g₂, z, k, _, rfl, _⟩
  · exact .inl ⟨goes_run hK hg, by omega⟩
  · exact .inr ⟨rfl, rfl⟩

variable {vs : List Value} {q : Nat → Nat} {B : Nat} {t : Trace} {gs : Array Goroutine} {A : World}

/-- The others are left as they are where the come channel is open. -/
theorem SX.fixed {w : World} (H : SX P E vs q B t gs A) (hw : ∃ k, w.heap[E.ce]? = some (.chan 0 #[] false k k false)) {i : Nat} {g : Goroutine} (hi : 0 < i) (hg : gs[i]? = some g) (a a' : Goroutine) : woken P a a' w g = g := by
  by_cases e : i = E.s
  · subst e
    obtain ⟨x, hx, hk⟩ := H.me
    rw [hg] at hx
    obtain rfl := Option.some.inj hx
    rcases hk with ⟨_, _, hL⟩ | ⟨_, _, _, _, hq⟩
    · rcases hL with ⟨k, w₀, hn, hg⟩ | ⟨_, v, rest, g₂, z, k, _, rfl, _⟩
      · exact woken_run (goes_run H.keep hg)
      · obtain ⟨k, hk⟩ := hw
        exact woken_send_open a a' hk
    · exact woken_quitsD (QuitsD.of_quitsIn hq)
  · exact woken_quitsD (H.old i g hi e hg)

theorem SX.awake (H : SX P E vs q B t gs A) {i : Nat} {g : Goroutine} (hi : 0 < i) (hg : gs[i]? = some g) : Go.Conc.awake g := by
  by_cases e : i = E.s
  · subst e
    obtain ⟨x, hx, hk⟩ := H.me
    rw [hg] at hx
    obtain rfl := Option.some.inj hx
    rcases hk with ⟨_, _, hL⟩ | ⟨_, _, _, _, hq⟩
    · exact awake_of ((live_status H.keep hL).elim (fun x => .inl x.1) fun x => .inr (.inl x.1))
    · exact awake_of (hq.status.elim .inl fun x => .inr (.inr x))
  · exact awake_of ((H.old i g hi e hg).status.elim .inl fun x => .inr (.inr x))

/-- Nobody but goroutine 0 ever receives. -/
theorem SX.noRecv (H : SX P E vs q B t gs A) {i : Nat} {g : Goroutine} (hi : 0 < i) (hg : gs[i]? = some g) (c : Nat) : offersAt g c false = [] := by
  have hquit : ∀ {n d : Nat} {g : Goroutine}, QuitsD P n d g → offersAt g c false = [] := fun h => offersAt_of_not_blocked (fun hb => by rcases h.status with z | z <;> rw [z] at hb <;> cases hb) c false
  by_cases e : i = E.s
  · subst e
    obtain ⟨x, hx, hk⟩ := H.me
    rw [hg] at hx
    obtain rfl := Option.some.inj hx
    rcases hk with ⟨_, _, hL⟩ | ⟨_, _, _, _, hq⟩
    · rcases hL with ⟨k, w₀, hn, hg⟩ | ⟨_, v, rest, g₂, z, k, _, rfl, _⟩
      · exact offersAt_of_not_blocked (fun hb => by rw [goes_run H.keep hg] at hb; cases hb) c false
      · exact offersAt_parked_send' _ _ _ _ _ _
    · exact hquit (QuitsD.of_quitsIn hq)
  · exact hquit (H.old i g hi e hg)

theorem SX.draw (H : SX P E vs q B t gs A) (d : Nat) : SX P E vs q B t gs (A.at d) :=
  ⟨H.hB, H.lt, E.kat A d H.keep, H.come, H.two, H.above, H.old, H.me⟩

/-- Another's record is laid anew; the world stands. -/
theorem SX.put (H : SX P E vs q B t gs A) {i n : Nat} {g' : Goroutine} {ops : Array MemOp} {gs' : Array Goroutine} (hlt : i < gs.size) (h0 : i ≠ 0) (hs : i ≠ E.s) (hsz : gs'.size = gs.size) (hother : ∀ x, 0 < x → x ≠ i → gs'[x]? = gs[x]?) (hself : gs'[i]? = some g')
    (hops : ∀ op ∈ ops, op.g = i) (hq : QuitsD P n (Deaf (t ++ ops) i) g') (htwo : Two E.Still B E.s (t ++ ops)) : SX P E vs (upd q i n) B (t ++ ops) gs' A := by
  refine ⟨H.hB, by rw [hsz]; exact H.lt, H.keep, H.come, htwo, fun j hj => ?_, fun j x hj hjs hx => ?_, ?_⟩
  · rw [Deaf_other t (g' := i) (by omega) _ hops]
    exact H.above j (by omega)
  · by_cases e : j = i
    · subst e
      rw [hself] at hx
      obtain rfl := Option.some.inj hx
      rw [upd_same]; exact hq
    · rw [hother j hj e] at hx
      rw [upd_ne q n e, Deaf_other t (fun z => e z.symm) _ hops]
      exact H.old j x hj hjs hx
  · obtain ⟨x, hx, hk⟩ := H.me
    refine ⟨x, by rw [hother _ E.pos (Ne.symm hs)]; exact hx, ?_⟩
    rw [upd_ne q n (Ne.symm hs)]
    refine hk.imp id fun ⟨h1, k, h2, h3, h4⟩ => ⟨h1, k, h2, h3.app fun op hop hg => absurd ((hops op hop).symm.trans hg) hs, h4⟩

/-- The sender's record is laid anew. -/
theorem SX.mine (H : SX P E vs q B t gs A) {vs' : List Value} {n : Nat} {g' : Goroutine} {ops : Array MemOp} {gs' : Array Goroutine} {A' : World} (hsz : gs'.size = gs.size) (hother : ∀ x, 0 < x → x ≠ E.s → gs'[x]? = gs[x]?) (hself : gs'[E.s]? = some g')
    (hops : ∀ op ∈ ops, op.g = E.s ∨ op.g = 0) (hK : E.K A') (hc : ∃ k, A'.heap[E.ce]? = some (.chan 0 #[] false k k false)) (htwo : Two E.Still B E.s (t ++ ops))
    (hme : (∃ k, A'.heap[E.ee]? = some (.chan 0 #[] false k k false) ∧ Live P E vs' n g') ∨ (vs' = [] ∧ ∃ k, A'.heap[E.ee]? = some (.chan 0 #[] true k k false) ∧ Shut E.ee E.s (t ++ ops) ∧ QuitsIn P n g')) :
    SX P E vs' (upd q E.s n) B (t ++ ops) gs' A' := by
  have hde : ∀ j, 0 < j → j ≠ E.s → Deaf (t ++ ops) j = Deaf t j := fun j hj hjs => by
    obtain ⟨l⟩ := ops
    rw [Deaf_append]
    have : ∀ (l : List MemOp) (d : Nat), (∀ op ∈ l, op.g = E.s ∨ op.g = 0) → l.foldl (deafStep j) d = d := by
      intro l
      induction l with
      | nil => intro d _; rfl
      | cons y l ih =>
        intro d h
        have hy : y.g ≠ j := by rcases h y (by simp) with e | e <;> omega
        rw [List.foldl_cons, ih _ fun op hop => h op (by simp [hop])]
        unfold deafStep
        cases y.act with
        | mark m => cases m <;> simp [hy]
        | _ => rfl
    exact this l _ fun op hop => hops op (by simpa using hop)
  refine ⟨H.hB, by rw [hsz]; exact H.lt, hK, hc, htwo, fun j hj => ?_, fun j x hj hjs hx => ?_, ⟨g', hself, ?_⟩⟩
  · have := H.lt
    rw [hde j (by omega) (by omega)]
    exact H.above j (by omega)
  · rw [hother j hj hjs] at hx
    rw [upd_ne q n hjs, hde j hj hjs]
    exact H.old j x hj hjs hx
  · rw [upd_same]; exact hme

theorem Rel.setZ {Z : Nat → Prop} {G A : World} (h : Rel Z G A) {c cap : Nat} {buf : Array Value} {cl : Bool} {a b : Nat} {tm : Bool} (hz : Z c) (hc : ∃ cap buf cl a b tm, A.heap[c]? = some (.chan cap buf cl a b tm)) : Rel Z G (A.setChan c cap buf cl a b tm) := by
  obtain ⟨cap0, buf0, cl0, a0, b0, tm0, hc⟩ := hc
  refine ⟨by rw [← h.size]; simp [World.setChan], fun i hi => ?_, fun i hi => ?_, h.os, h.out⟩
  · rw [heap_setChan_ne _ _ _ _ _ _ _ (fun e => hi (by rw [← e]; exact hz))]; exact h.same i hi
  · by_cases e : c = i
    · subst e
      rw [heap_setChan_self _ hc]
      rcases h.odd c hi with ⟨ty, f, x, _, h2⟩ | ⟨o, h1, _, _⟩ | ⟨_, _, _, _, h2⟩
      · rw [hc] at h2; cases h2
      · exact .inr (.inl ⟨_, h1, rfl, trivial⟩)
      · rw [hc] at h2; cases h2
    · rw [heap_setChan_ne _ _ _ _ _ _ _ e]; exact h.odd i hi
end
end Go.Proofs.YtlanlkpamnoekaaDoor.Lk
namespace Go.Proofs.YtlanlkpamnoekaaDoor.Lk
open Go Go.Conc
open Go.ConcN (sumTo upd sumTo_upd upd_ne upd_same)
section
variable {P : Program} {E : Env} {vs : List Value} {q : Nat → Nat} {B : Nat} {t : Trace} {gs : Array Goroutine} {A : World}

theorem mute_free {i : Nat} {fn : FuncId} {pos : String} {es : Array Event} (h : ∀ e ∈ es, Event.mute e = true) : (∀ op ∈ MemOp.ofEvents i fn pos es, op.act.touch? = none) ∧ ∀ B, ∀ op ∈ MemOp.ofEvents i fn pos es, op.act.low B := by
  constructor
  · intro op hop
    obtain ⟨e, he, rfl⟩ := Go.Conc.mem_ofEvents hop
    exact touch_mute (h e he)
  · intro B op hop
    obtain ⟨e, he, rfl⟩ := Go.Conc.mem_ofEvents hop
    exact low_mute (h e he) B

/-- What is laid anew at i; what the others become. -/
theorem laid {i : Nat} {g g' : Goroutine} {W : World} (hlt : i < gs.size) : ((gs.map (woken P g g' W)).setIfInBounds i g').size = gs.size ∧ ((gs.map (woken P g g' W)).setIfInBounds i g')[i]? = some g' ∧
    ∀ x y, x ≠ i → gs[x]? = some y → ((gs.map (woken P g g' W)).setIfInBounds i g')[x]? = some (woken P g g' W y) := by
  refine ⟨by simp, Array.getElem?_setIfInBounds_self_of_lt (by simpa using hlt), fun x y hx hy => ?_⟩
  rw [Array.getElem?_setIfInBounds_ne (fun e => hx e.symm), Array.getElem?_map, hy]; rfl
theorem SX.others (H : SX P E vs q B t gs A) {i : Nat} {g g' : Goroutine} {W : World} (hlt : i < gs.size) (hW : ∃ k, W.heap[E.ce]? = some (.chan 0 #[] false k k false)) (x : Nat) (h0 : 0 < x) (hx : x ≠ i) : ((gs.map (woken P g g' W)).setIfInBounds i g')[x]? = gs[x]? := by
  rw [Array.getElem?_setIfInBounds_ne (fun e => hx e.symm), Array.getElem?_map]
  cases e : gs[x]? with
  | none => rfl
  | some y => simp [H.fixed hW h0 e g g']

/-- A leaver's step. -/
theorem leaver_step (H : SX P E vs q B t gs A) {sl : Option (Nat × Nat)} {i : Nat} {g : Goroutine} (hi : 0 < i) (his : i ≠ E.s) (hg : gs[i]? = some g) (hrun : g.status = .running) :
    ∃ g' ops n, runT P (crowd gs A sl) i = (.next (crowd ((gs.map (woken P g g' A)).setIfInBounds i g') A sl), ops) ∧ n < q i ∧ SX P E vs (upd q i n) B (t ++ ops) ((gs.map (woken P g g' A)).setIfInBounds i g') A := by
  have hq := H.old i g hi his hg
  have hi0 : (i == 0) = false := by simp; omega
  have hlt : i < gs.size := (Array.getElem?_eq_some_iff.1 hg).1
  cases hqi : q i with
  | zero => rw [hqi] at hq; rw [hq.1] at hrun; cases hrun
  | succ k =>
    rw [hqi] at hq
    rcases hq with ⟨hf, _⟩ | ⟨_, g', es, hm, hstp, hq'⟩
    · rw [hf] at hrun; cases hrun
    obtain ⟨l1, l2, l3⟩ := laid (P := P) (g := g) (g' := g') (W := A) hlt
    obtain ⟨m1, m2⟩ := mute_free (i := i) (fn := g.frame.fn) (pos := g.frame.place) hm
    refine ⟨g', _, k, runT_crowd_go (P := P) (gs := gs) (sl := sl) (i := i) hg (by rw [hi0]; exact hstp A), by omega, ?_⟩
    exact H.put hlt (by omega) his l1 (fun x h0 hx => H.others hlt H.come x h0 hx) l2 (ops_by _ _ _ _) (by rw [Deaf_own]; exact hq') (H.two.mute (g := i) (by omega) (fun e => absurd e his) (ops_by _ _ _ _) m1 (m2 B))

/-- The sender's step: it walks on, or leaves; it closes; it stands at its send. -/
theorem sender_step (H : SX P E vs q B t gs A) {sl : Option (Nat × Nat)} {g : Goroutine} (hg : gs[E.s]? = some g) (hrun : g.status = .running) :
    (∃ g' ops n, runT P (crowd gs A sl) E.s = (.next (crowd ((gs.map (woken P g g' A)).setIfInBounds E.s g') A sl), ops) ∧ n < q E.s ∧ ((∃ k, A.heap[E.ee]? = some (.chan 0 #[] false k k false)) → 0 < n) ∧ SX P E vs (upd q E.s n) B (t ++ ops) ((gs.map (woken P g g' A)).setIfInBounds E.s g') A) ∨
    (∃ g' ops k, vs = [] ∧ A.heap[E.ee]? = some (.chan 0 #[] false k k false) ∧ mayWake P g = true ∧ (g'.status = .running ∨ g'.status = .finished) ∧
      runT P (crowd gs A sl) E.s = (.next (crowd ((gs.map (woken P g g' (A.setChan E.ee 0 #[] true k k false))).setIfInBounds E.s g') (A.setChan E.ee 0 #[] true k k false) sl), ops) ∧ 5 < q E.s ∧
      SX P E vs (upd q E.s 4) B (t ++ ops) ((gs.map (woken P g g' (A.setChan E.ee 0 #[] true k k false))).setIfInBounds E.s g') (A.setChan E.ee 0 #[] true k k false)) ∨
    (∃ v rest, vs = v :: rest ∧ AtS P E vs g ∧ 0 < q E.s ∧ ∃ k, A.heap[E.ee]? = some (.chan 0 #[] false k k false)) := by
  have hi0 : (E.s == 0) = false := by have := E.pos; simp; omega
  have hlt := H.lt
  obtain ⟨x, hx, hme⟩ := H.me
  rw [hg] at hx
  obtain rfl := Option.some.inj hx
  rcases hme with ⟨ke, hke, hL⟩ | ⟨rfl, ke, hke, hsh, hq⟩
  · obtain ⟨k, w₀, hn, hG⟩ : ∃ k w₀, q E.s = k + 6 ∧ Goes P false (RK E.K) (DS E.Still E.B) (fun g _ => AtS P E vs g) k g w₀ := by
      rcases hL with h | ⟨_, v, rest, g₂, z, k, _, rfl, _⟩
      · exact h
      · cases hrun
    have hcase : AtS P E vs g ∨ ∃ k' g' es, k = k' + 1 ∧ stepG P false g A = .go g' A es ∧ (∀ e ∈ es, EvC E.Still E.B e) ∧ Goes P false (RK E.K) (DS E.Still E.B) (fun g _ => AtS P E vs g) k' g' A := by
      cases k with
      | zero => exact .inl (hG A H.keep)
      | succ k' =>
        rcases hG with hstop | ⟨_, hstep⟩
        · exact .inl (hstop A H.keep)
        · have hs := hstep A H.keep
          cases hgo : stepG P false g A with
          | go g' w' es =>
            rw [hgo, goes_go] at hs
            obtain ⟨⟨rfl, hes⟩, hG'⟩ := hs
            exact .inr ⟨k', g', es, rfl, rfl, hes, hG'⟩
          | _ => rw [hgo] at hs; exact hs.elim
    rcases hcase with hat | ⟨k', g', es, rfl, hgo, hes, hG'⟩
    · cases vs with
      | cons v rest => exact .inr (.inr ⟨v, rest, rfl, hat, by omega, ke, hke⟩)
      | nil =>
        obtain ⟨_, hmw, g', hst, hq⟩ := hat
        refine .inr (.inl ⟨g', _, ke, rfl, hke, hmw, hq.status, runT_crowd_go (sl := sl) hg (by rw [hi0]; exact hst A ke H.keep hke), by omega, ?_⟩)
        obtain ⟨kc, hkc⟩ := H.come
        have hW : ∃ k, (A.setChan E.ee 0 #[] true ke ke false).heap[E.ce]? = some (.chan 0 #[] false k k false) := ⟨kc, by rw [heap_setChan_ne _ _ _ _ _ _ _ (Ne.symm E.ne)]; exact hkc⟩
        obtain ⟨l1, l2, l3⟩ := laid (P := P) (g := g) (g' := g') (W := A.setChan E.ee 0 #[] true ke ke false) hlt
        obtain ⟨c1, c2⟩ := H.two.close E.endS g.frame.fn g.frame.place (by have := E.eB; have := H.hB; omega)
        refine H.mine l1 (fun x h0 hx => H.others hlt hW x h0 hx) l2 (fun op hop => .inl (ops_by _ _ _ _ op hop)) (E.ke A _ _ _ _ _ _ H.keep) hW c1 (.inr ⟨rfl, ke, heap_setChan_self _ hke _ _ _ _ _ _, c2, ?_⟩)
        exact hq
    · obtain ⟨hops, hr, hl, hd⟩ := evC_ops (i := E.s) (fn := g.frame.fn) (pos := g.frame.place) hes
      obtain ⟨l1, l2, l3⟩ := laid (P := P) (g := g) (g' := g') (W := A) hlt
      refine .inl ⟨g', _, k' + 6, runT_crowd_go (sl := sl) hg (by rw [hi0]; exact hgo), by omega, fun _ => by omega, ?_⟩
      exact H.mine l1 (fun x h0 hx => H.others hlt H.come x h0 hx) l2 (fun op hop => .inl (hops op hop)) H.keep H.come (H.two.read hops hr (hd t) fun op hop => MemAct.low_mono H.hB (hl op hop)) (.inl ⟨ke, hke, .inl ⟨k', A, rfl, hG'⟩⟩)
  · refine .inl ?_
    cases hqi : q E.s with
    | zero => rw [hqi] at hq; rw [show g.status = .finished from hq] at hrun; cases hrun
    | succ k =>
      rw [hqi] at hq
      rcases hq with hf | ⟨_, g', hstp, hq'⟩
      · rw [hf] at hrun; cases hrun
      obtain ⟨l1, l2, l3⟩ := laid (P := P) (g := g) (g' := g') (W := A) hlt
      have hno : MemOp.ofEvents E.s g.frame.fn g.frame.place #[] = #[] := by simp [MemOp.ofEvents]
      refine ⟨g', _, k, runT_crowd_go (sl := sl) hg (by rw [hi0]; exact hstp A), by omega, fun ⟨k2, h2⟩ => (by rw [hke] at h2; cases h2), ?_⟩
      rw [hno]
      exact H.mine l1 (fun x h0 hx => H.others hlt H.come x h0 hx) l2 (fun op hop => by simp at hop) H.keep H.come (by simpa using H.two) (.inr ⟨rfl, ke, hke, by simpa using hsh, hq'⟩)

/-- The sender parks: goroutine 0 offers no receive. -/
theorem sender_parks (H : SX P E vs q B t gs A) {sl : Option (Nat × Nat)} {g : Goroutine} (hg : gs[E.s]? = some g) {v : Value} {rest : List Value} (hvs : vs = v :: rest) (hat : AtS P E vs g) (he : ∃ k, A.heap[E.ee]? = some (.chan 0 #[] false k k false)) (h0 : ∀ a, gs[0]? = some a → offersAt a E.ce false = []) :
    ∃ g' ops, runT P (crowd gs A sl) E.s = (.next (crowd (gs.setIfInBounds E.s g') A sl), ops) ∧ SX P E vs (upd q E.s 0) B (t ++ ops) (gs.setIfInBounds E.s g') A := by
  have hi0 : (E.s == 0) = false := by have := E.pos; simp; omega
  have hlt := H.lt
  subst hvs
  obtain ⟨_, g₂, z, es, hes, hst, k, hk⟩ := hat
  obtain ⟨kc, hkc⟩ := H.come
  obtain ⟨ke, hke⟩ := he
  obtain ⟨hops, hr, hl, hd⟩ := evC_ops (i := E.s) (fn := g.frame.fn) (pos := g.frame.place) hes
  refine ⟨parked g₂ #[scase E.ce v z] .send, _, crowd_waits (sl := sl) hg (by rw [hi0]; exact hst A H.keep) fun cc hcc => ?_, ?_⟩
  · simp only [List.mem_toArray, List.mem_cons, List.not_mem_nil, or_false] at hcc
    subst hcc
    refine ways_send_none hkc (Nat.le_refl _) (partners_nil fun j x hx => ?_)
    rcases getElem?_stand gs E.s j x hx with ⟨_, rfl⟩ | ⟨hj, hx'⟩
    · exact offersAt_ph _ _
    · rcases Nat.eq_zero_or_pos j with rfl | hpos
      · exact h0 x hx'
      · exact H.noRecv hpos hx' _
  · exact H.mine (by simp) (fun x _ hx => Array.getElem?_setIfInBounds_ne (fun e => hx e.symm)) (Array.getElem?_setIfInBounds_self_of_lt hlt) (fun op hop => .inl (hops op hop)) H.keep H.come (H.two.read hops hr (hd t) fun op hop => MemAct.low_mono H.hB (hl op hop))
      (.inl ⟨ke, hke, .inr ⟨rfl, v, rest, g₂, z, k, rfl, rfl, hk⟩⟩)
end
end Go.Proofs.YtlanlkpamnoekaaDoor.Lk
namespace Go.Proofs.YtlanlkpamnoekaaDoor.Lk
open Go Go.Conc
open Go.ConcN (sumTo upd sumTo_upd upd_ne upd_same)
section
variable {P : Program} {E : Env} {vs : List Value} {q : Nat → Nat} {B : Nat} {t : Trace} {gs : Array Goroutine} {A : World} {Z : Nat → Prop}

theorem evA_still (hZ : E.Off Z) {e : Event} (he : EvA Z e) : ∀ b, (MemAct.ofEvent e).touch? = some b → E.Still b.loc → b.write = false := by
  intro b hb hS
  obtain ⟨loc, wr, sy⟩ := e
  obtain ⟨h1, h2, h3⟩ := he
  cases wr with
  | false =>
    cases loc with
    | mark m =>
      rcases h2 m rfl with rfl | ⟨f, rfl⟩ <;> cases hb
    | _ =>
      simp [MemAct.ofEvent, MemAct.touch?] at hb
      subst hb; rfl
  | true =>
    cases loc with
    | mark m => rcases h2 m rfl with rfl | ⟨f, rfl⟩ <;> cases hb
    | cell a =>
      simp [MemAct.ofEvent, MemAct.touch?] at hb
      subst hb
      exact absurd (hZ.cell a hS) (h1 a rfl rfl)
    | obj r =>
      cases sy with
      | true => cases hb
      | false =>
        simp [MemAct.ofEvent, MemAct.touch?] at hb
        subst hb
        exact absurd (hZ.obj r hS) (h3 r rfl rfl)
    | _ =>
      simp [MemAct.ofEvent, MemAct.touch?] at hb
      subst hb
      have := E.mem _ hS
      cases this

theorem SX.up (H : SX P E vs q B t gs A) {B' : Nat} (h : B ≤ B') : SX P E vs q B' t gs A := ⟨Nat.le_trans H.hB h, H.lt, H.keep, H.come, H.two.mono h, H.above, H.old, H.me⟩

/-- Goroutine 0's own step. -/
theorem SX.own (H : SX P E vs q B t gs A) (hZ : E.Off Z) {a a' : Goroutine} {A' : World} {es : Array Event} (h0 : gs[0]? = some a) (hev : ∀ e ∈ es, EvA Z e) (hz : ∀ i : Nat, Z i → A'.heap[i]? = A.heap[i]?) :
    ∃ B', SX P E vs q B' (t ++ MemOp.ofEvents 0 a.frame.fn a.frame.place es) ((gs.map (woken P a a' A')).setIfInBounds 0 a') A' := by
  obtain ⟨B1, hB1⟩ := low_some es
  have hlt0 : 0 < gs.size := by have := H.lt; omega
  obtain ⟨kc, hkc⟩ := H.come
  have hc' : ∃ k, A'.heap[E.ce]? = some (.chan 0 #[] false k k false) := ⟨kc, by rw [hz _ hZ.zc]; exact hkc⟩
  obtain ⟨l1, l2, l3⟩ := laid (P := P) (g := a) (g' := a') (W := A') hlt0
  have hops := ops_by 0 a.frame.fn a.frame.place es
  have ho : ∀ x, 0 < x → ((gs.map (woken P a a' A')).setIfInBounds 0 a')[x]? = gs[x]? := fun x hx => H.others hlt0 hc' x hx (by omega)
  have htwo : Two E.Still (max B B1) E.s (t ++ MemOp.ofEvents 0 a.frame.fn a.frame.place es) := by
    refine (H.two.mono (Nat.le_max_left B B1)).own hops (fun op hop b hb hS => ?_) (by rw [Deaf_own]; exact deafBehind_still (fun e he => evA_loc (hev e he)) _) fun op hop => ?_
    · obtain ⟨e, he, rfl⟩ := Go.Conc.mem_ofEvents hop
      exact evA_still hZ (hev e he) b hb hS
    · obtain ⟨e, he, rfl⟩ := Go.Conc.mem_ofEvents hop
      exact MemAct.low_mono (Nat.le_max_right B B1) (hB1 e he)
  refine ⟨max B B1, Nat.le_trans H.hB (Nat.le_max_left _ _), by rw [l1]; exact H.lt, hZ.keep A A' H.keep hz, hc', htwo, fun j hj => ?_, fun j x hj hjs hx => ?_, ?_⟩
  · rw [l1] at hj
    rw [Deaf_other t (g' := 0) (by omega) _ hops]
    exact H.above j hj
  · rw [ho j hj] at hx
    rw [Deaf_other t (by omega) _ hops]
    exact H.old j x hj hjs hx
  · obtain ⟨x, hx, hk⟩ := H.me
    refine ⟨x, by rw [ho _ E.pos]; exact hx, ?_⟩
    refine hk.imp (fun ⟨k, h1, h2⟩ => ⟨k, by rw [hz _ hZ.ze]; exact h1, h2⟩) fun ⟨h1, k, h2, h3, h4⟩ => ⟨h1, k, by rw [hz _ hZ.ze]; exact h2, h3.app fun op hop hg => ?_, h4⟩
    have := E.pos
    have := hops op hop
    omega

/-- What the others keep. -/
def QS (P : Program) (E : Env) (vs : List Value) (μ : Nat) (t : Trace) (gs : Array Goroutine) (A : World) : Prop := ∃ q B, SX P E vs q B t gs A ∧ μ = sumTo gs.size q

theorem sum_less {n i k : Nat} {q : Nat → Nat} (hi : i < n) (hk : k < q i) : sumTo n (upd q i k) < sumTo n q := by
  have h : sumTo n (upd q i k) + q i = sumTo n q + k := by
    have := sumTo_upd q k id hi
    simpa using this
  omega

theorem oth_snd (hZ : E.Off Z) : Oth P Z (fun i => i = E.ce ∨ i = E.ee) (QS P E vs) where
  awake := fun μ t gs A i g ⟨q, B, H, _⟩ hpos hi => H.awake hpos hi
  draw := fun μ t gs A d ⟨q, B, H, h⟩ => ⟨q, B, H.draw d, h⟩
  own := fun μ t gs A a a' A' es ⟨q, B, H, hμ⟩ h0 _ _ hev hz _ _ => by
    obtain ⟨B', H'⟩ := H.own hZ (a' := a') h0 hev hz
    exact ⟨q, B', H', by simpa using hμ⟩
  other := fun μ t gs A a sl i g ⟨q, B, H, hμ⟩ h0 hrun hpos hi hg => by
    have hlt : i < gs.size := (Array.getElem?_eq_some_iff.1 hi).1
    have hkeep : ∀ (g g' : Goroutine) (W : World), ((gs.map (woken P g g' W)).setIfInBounds i g')[0]? = some a := fun g g' W => by
      rw [Array.getElem?_setIfInBounds_ne (by omega), Array.getElem?_map, h0]
      simp [woken_run hrun]
    by_cases hs : i = E.s
    · subst hs
      rcases sender_step (sl := sl) H hi hg with ⟨g', ops, n, h1, h2, _, h3⟩ | ⟨g', ops, k, rfl, hk, _, _, h1, h2, h3⟩ | ⟨v, rest, rfl, hat, hq0, hk⟩
      · exact ⟨_, A, ops, _, h1, by rw [hμ]; exact sum_less hlt h2, hkeep _ _ _, by simp, fun _ h => h, fun _ _ => rfl, rfl, rfl, _, B, h3, by simp⟩
      · exact ⟨_, _, ops, _, h1, by rw [hμ]; exact sum_less (k := 4) hlt (by omega), hkeep _ _ _, by simp, fun G hG => Rel.setZ hG hZ.ze ⟨_, _, _, _, _, _, hk⟩, fun i hi => heap_setChan_ne _ _ _ _ _ _ _ (fun e => hi (.inr e.symm)), rfl, by simp [World.setChan], _, B, h3, by simp⟩
      · obtain ⟨g', ops, h1, h2⟩ := sender_parks (sl := sl) H hi rfl hat hk (fun x hx => by
          rw [h0] at hx
          obtain rfl := Option.some.inj hx
          exact offersAt_of_not_blocked (by rw [hrun]; simp) _ _)
        exact ⟨_, A, ops, _, h1, by rw [hμ]; exact sum_less hlt hq0, by rw [Array.getElem?_setIfInBounds_ne (by omega)]; exact h0, by simp, fun _ h => h, fun _ _ => rfl, rfl, rfl, _, B, h2, by simp⟩
    · obtain ⟨g', ops, n, h1, h2, h3⟩ := leaver_step (sl := sl) H hpos hs hi hg
      exact ⟨_, A, ops, _, h1, by rw [hμ]; exact sum_less hlt h2, hkeep _ _ _, by simp, fun _ h => h, fun _ _ => rfl, rfl, rfl, _, B, h3, by simp⟩

end
end Go.Proofs.YtlanlkpamnoekaaDoor.Lk
namespace Go.Proofs.YtlanlkpamnoekaaDoor.Lk
open Go Go.Conc
open Go.ConcN (sumTo upd sumTo_upd upd_ne upd_same)

def scs (E : Env) (z₁ z₂ : Value) : Array CommCase := #[rcase E.ce z₁, rcase E.ee z₂]
/-- Goroutine 0 stands at the select. -/
def AtSel (P : Program) (E : Env) (z₁ z₂ : Value) (g g₂ : Goroutine) : Prop :=
  g.status = .running ∧ g.frame = g₂.frame ∧ g.callers = g₂.callers ∧ g.dying = g₂.dying ∧ ∃ es, (∀ e ∈ es, EvC E.Still E.B e) ∧ ∀ w, E.K w → stepG P true g w = .comm g₂ (scs E z₁ z₂) true .select w es

section
variable {P : Program} {E : Env} {vs : List Value} {q : Nat → Nat} {B : Nat} {t : Trace} {gs : Array Goroutine} {A : World} {Z : Nat → Prop} {z₁ z₂ : Value} {g₂ : Goroutine}

theorem AtSel.tries {g : Goroutine} (h : AtSel P E z₁ z₂ g g₂) (cs : Array CommCase) (sh : CommShape) : AtSel P E z₁ z₂ { parked g₂ cs sh with status := .running } g₂ := by
  obtain ⟨_, h1, h2, h3, es, hes, hst⟩ := h
  exact ⟨rfl, rfl, rfl, rfl, es, hes, fun w hw => by rw [← hst w hw]; exact stepG_same h1.symm h2.symm h3.symm w⟩

/-- What the others have turned: the two channels. -/
def Held (E : Env) (A A' : World) : Prop := (∀ Z, E.Off Z → ∀ G, Rel Z G A → Rel Z G A') ∧ ∀ i : Nat, i ≠ E.ce → i ≠ E.ee → A'.heap[i]? = A.heap[i]?
theorem Held.trans {A A' A'' : World} (h : Held E A A') (k : Held E A' A'') : Held E A A'' := ⟨fun Z hZ G hG => k.1 Z hZ G (h.1 Z hZ G hG), fun i h1 h2 => (k.2 i h1 h2).trans (h.2 i h1 h2)⟩
theorem Held.setc {A A' : World} {cap0 c1 c2 cap : Nat} {cl : Bool} {buf buf' : Array Value} {cl' : Bool} {x y : Nat} {tm tm' : Bool} (h : Held E A A') (hc : A'.heap[E.ce]? = some (.chan cap0 buf cl c1 c2 tm)) : Held E A (A'.setChan E.ce cap buf' cl' x y tm') :=
  ⟨fun Z hZ G hG => Rel.setZ (h.1 Z hZ G hG) hZ.zc ⟨_, _, _, _, _, _, hc⟩, fun i h1 h2 => (heap_setChan_ne _ _ _ _ _ _ _ (fun e => h1 e.symm)).trans (h.2 i h1 h2)⟩
theorem Held.sete {A A' : World} {cap0 c1 c2 cap : Nat} {cl : Bool} {buf buf' : Array Value} {cl' : Bool} {x y : Nat} {tm tm' : Bool} (h : Held E A A') (hc : A'.heap[E.ee]? = some (.chan cap0 buf cl c1 c2 tm)) : Held E A (A'.setChan E.ee cap buf' cl' x y tm') :=
  ⟨fun Z hZ G hG => Rel.setZ (h.1 Z hZ G hG) hZ.ze ⟨_, _, _, _, _, _, hc⟩, fun i h1 h2 => (heap_setChan_ne _ _ _ _ _ _ _ (fun e => h2 e.symm)).trans (h.2 i h1 h2)⟩

/-- What becomes of the select. -/
def Served (P : Program) (E : Env) (z₁ z₂ : Value) (g₂ : Goroutine) (vs : List Value) (n : Nat) (A : World) (t' : Trace) (gs' : Array Goroutine) (A' : World) : Prop :=
  gs'.size = n ∧ A'.tape = A.tape ∧ A'.heap.size = A.heap.size ∧ Held E A A' ∧
  ((∃ v rest μ, vs = v :: rest ∧ gs'[0]? = some (Go.Conc.served g₂ (commResult (scs E z₁ z₂) .select 0 v true)) ∧ QS P E rest μ t' gs' A') ∨
   (∃ μ, vs = [] ∧ gs'[0]? = some (Go.Conc.served g₂ (commResult (scs E z₁ z₂) .select 1 z₂ false)) ∧ E.K A' ∧ QL P μ t' gs' A'))

theorem scs_other (m : Nat) (cc : CommCase) (hm : m ≠ 0) (h : (scs E z₁ z₂)[m]? = some cc) : m = 1 ∧ cc = rcase E.ee z₂ := by
  rcases m with _ | _ | m
  · exact absurd rfl hm
  · simp [scs] at h
    exact ⟨rfl, h.symm⟩
  · simp [scs] at h
theorem scs_other1 (m : Nat) (cc : CommCase) (hm : m ≠ 1) (h : (scs E z₁ z₂)[m]? = some cc) : m = 0 ∧ cc = rcase E.ce z₁ := by
  rcases m with _ | _ | m
  · simp [scs] at h
    exact ⟨rfl, h.symm⟩
  · exact absurd rfl hm
  · simp [scs] at h

/-- Who offers a send: the sender alone, at the come channel, if it is parked. -/
theorem SX.noSend (H : SX P E vs q B t gs A) {i : Nat} {g : Goroutine} (hi : 0 < i) (hg : gs[i]? = some g) (c : Nat) (hc : i = E.s → c ≠ E.ce ∨ q E.s ≠ 0 ∨ g.status ≠ .blocked) : offersAt g c true = [] := by
  have hquit : ∀ {n d : Nat} {g : Goroutine}, QuitsD P n d g → offersAt g c true = [] := fun h => offersAt_of_not_blocked (fun hb => by rcases h.status with z | z <;> rw [z] at hb <;> cases hb) c true
  by_cases e : i = E.s
  · subst e
    obtain ⟨x, hx, hk⟩ := H.me
    rw [hg] at hx
    obtain rfl := Option.some.inj hx
    rcases hk with ⟨_, _, hL⟩ | ⟨_, _, _, _, hq⟩
    · rcases hL with ⟨k, w₀, hn, hg⟩ | ⟨h0, v, rest, g₂, z, k, _, rfl, _⟩
      · exact offersAt_of_not_blocked (fun hb => by rw [goes_run H.keep hg] at hb; cases hb) c true
      · rw [offersAt_parked_send, if_neg]
        rcases hc rfl with x | x | x
        · exact fun e => x e.symm
        · exact absurd h0 x
        · exact absurd rfl x
    · exact hquit (QuitsD.of_quitsIn hq)
  · exact hquit (H.old i g hi e hg)

/-- The sender hands its value to goroutine 0: what all have become. -/
theorem SX.met (H : SX P E vs q B t gs A) {rest : List Value} {g : Goroutine} {k kc : Nat} {u : Trace} {gs' : Array Goroutine} (fs : FuncId) (ps : String) (f0 : FuncId) (p0 : String)
    (hkc : A.heap[E.ce]? = some (.chan 0 #[] false kc kc false)) (he : ∃ k, A.heap[E.ee]? = some (.chan 0 #[] false k k false)) (hgo : ∀ w, Goes P false (RK E.K) (DS E.Still E.B) (fun g _ => AtS P E rest g) k g w)
    (hsz : gs'.size = gs.size) (ho : ∀ x, 0 < x → x ≠ E.s → gs'[x]? = gs[x]?) (hme : gs'[E.s]? = some g) (hu : ∀ op ∈ u, op.g = E.s ∨ op.g = 0) (htwo : Two E.Still B E.s (t ++ u)) :
    SX P E rest (upd q E.s (k + 6)) B (t ++ (u ++ met E.s 0 fs ps f0 p0 E.ce kc 0)) gs' (A.setChan E.ce 0 #[] false (kc + 1) (kc + 1) false) := by
  obtain ⟨ke, hke⟩ := he
  refine H.mine hsz ho hme (fun op hop => ?_) (E.kc A _ _ _ _ _ _ H.keep) ⟨kc + 1, heap_setChan_self _ hkc _ _ _ _ _ _⟩ ?_ (.inl ⟨ke, by rw [heap_setChan_ne _ _ _ _ _ _ _ E.ne]; exact hke, .inl ⟨k, A, rfl, hgo A⟩⟩)
  · rcases Array.mem_append.1 hop with h | h
    · exact hu op h
    · simp only [Go.Conc.met, List.mem_toArray, List.mem_cons, List.not_mem_nil, or_false] at h
      rcases h with rfl | rfl | rfl | rfl
      · exact .inl rfl
      · exact .inr rfl
      · exact .inl rfl
      · exact .inr rfl
  · rw [← Array.append_assoc]
    exact htwo.meet E.mem fs ps f0 p0 kc 0 (by have := E.cB; have := H.hB; omega)

/-- Goroutine 0's record alone is laid anew. -/
theorem SX.zero (H : SX P E vs q B t gs A) {gs' : Array Goroutine} {fn : FuncId} {pos : String} {es : Array Event} (hes : ∀ e ∈ es, EvC E.Still E.B e) (hsz : gs'.size = gs.size) (ho : ∀ x, 0 < x → gs'[x]? = gs[x]?) :
    SX P E vs q B (t ++ MemOp.ofEvents 0 fn pos es) gs' A := by
  obtain ⟨hops, hr, hl, hd⟩ := evC_ops (i := 0) (fn := fn) (pos := pos) hes
  have hpos := E.pos
  refine ⟨H.hB, by rw [hsz]; exact H.lt, H.keep, H.come, H.two.own hops (fun op hop b hb _ => (hr op hop b hb).1) (hd t) (fun op hop => MemAct.low_mono H.hB (hl op hop)), fun j hj => ?_, fun j x hj hjs hx => ?_, ?_⟩
  · have := H.lt
    rw [Deaf_other t (g' := 0) (by omega) _ hops]
    exact H.above j (by omega)
  · rw [ho j hj] at hx
    rw [Deaf_other t (by omega) _ hops]
    exact H.old j x hj hjs hx
  · obtain ⟨x, hx, hk⟩ := H.me
    refine ⟨x, by rw [ho _ hpos]; exact hx, ?_⟩
    refine hk.imp id fun ⟨h1, k, h2, h3, h4⟩ => ⟨h1, k, h2, h3.app fun op hop hg => ?_, h4⟩
    have := hops op hop
    omega

theorem sum_pick {n : Nat} {q : Nat → Nat} {i : Nat} (hi : i < n) : q i ≤ sumTo n q := by
  have h : sumTo n (upd q i 0) + q i = sumTo n q + 0 := by
    have := sumTo_upd q 0 id hi
    simpa using this
  omega

theorem sel_go : ∀ (m : Nat) (q : Nat → Nat) (B : Nat) (t : Trace) (gs : Array Goroutine) (A : World) (sl : Option (Nat × Nat)) (a a₀ : Goroutine), SX P E vs q B t gs A → gs[0]? = some a → AtSel P E z₁ z₂ a₀ g₂ →
    ((a = a₀ ∧ m = sumTo gs.size q + 1) ∨ (a = parked g₂ (scs E z₁ z₂) .select ∧ (∃ k, A.heap[E.ee]? = some (.chan 0 #[] false k k false)) ∧ 0 < q E.s ∧ m = sumTo gs.size q)) →
    ∃ N gs' A' sl' t', runNT P N (crowd gs A sl) t = (.next (crowd gs' A' sl'), t') ∧ Served P E z₁ z₂ g₂ vs gs.size A t' gs' A' := by
  intro m
  induction m using Nat.strongRecOn with
  | _ m ih =>
  intro q B t gs A sl a a₀ H h0 hat hph
  -- a step that leads on
  have hnext : ∀ (d : Nat) (sl' sl2 : Option (Nat × Nat)) (i : Nat) (gs2 : Array Goroutine) (A2 : World) (ops : Array MemOp) (q2 : Nat → Nat) (B2 m2 : Nat) (a2 a3 : Goroutine), stepT P (crowd gs A sl) = runT P (crowd gs (A.at d) sl') i → runT P (crowd gs (A.at d) sl') i = (.next (crowd gs2 A2 sl2), ops) →
      gs2.size = gs.size → A2.tape = A.tape → A2.heap.size = A.heap.size → Held E A A2 → m2 < m → SX P E vs q2 B2 (t ++ ops) gs2 A2 → gs2[0]? = some a2 → AtSel P E z₁ z₂ a3 g₂ →
      ((a2 = a3 ∧ m2 = sumTo gs2.size q2 + 1) ∨ (a2 = parked g₂ (scs E z₁ z₂) .select ∧ (∃ k, A2.heap[E.ee]? = some (.chan 0 #[] false k k false)) ∧ 0 < q2 E.s ∧ m2 = sumTo gs2.size q2)) →
      ∃ N gs' A' sl' t', runNT P N (crowd gs A sl) t = (.next (crowd gs' A' sl'), t') ∧ Served P E z₁ z₂ g₂ vs gs.size A t' gs' A' := by
    intro d sl' sl2 i gs2 A2 ops q2 B2 m2 a2 a3 h1 h2 hsz ht hhs hrel hm H2 h02 hat2 hph2
    obtain ⟨N, gs', A', sl3, t', r1, r2, r3, r4, r5, r6⟩ := ih m2 hm q2 B2 (t ++ ops) gs2 A2 sl2 a2 a3 H2 h02 hat2 hph2
    exact ⟨N + 1, gs', A', sl3, t', by simp only [runNT, h1, h2]; exact r1, r2.trans hsz, r3.trans ht, r4.trans hhs, hrel.trans r5, r6⟩
  have hdone : ∀ (d : Nat) (sl' sl2 : Option (Nat × Nat)) (i : Nat) (gs2 : Array Goroutine) (A2 : World) (ops : Array MemOp), stepT P (crowd gs A sl) = runT P (crowd gs (A.at d) sl') i → runT P (crowd gs (A.at d) sl') i = (.next (crowd gs2 A2 sl2), ops) →
      Served P E z₁ z₂ g₂ vs gs.size A (t ++ ops) gs2 A2 → ∃ N gs' A' sl' t', runNT P N (crowd gs A sl) t = (.next (crowd gs' A' sl'), t') ∧ Served P E z₁ z₂ g₂ vs gs.size A t' gs' A' :=
    fun d sl' sl2 i gs2 A2 ops h1 h2 h3 => ⟨1, gs2, A2, sl2, t ++ ops, by simp only [runNT, h1, h2], h3⟩
  have hlt0 : 0 < gs.size := by have := H.lt; omega
  have hltS := H.lt
  have hposS := E.pos
  have hsl : ∀ {i : Nat} {g : Goroutine}, i = E.s → gs[i]? = some g → g.status = .running ∨ q E.s = 0 → True := fun _ _ _ => trivial
  have haw : ∀ g ∈ gs, Go.Conc.awake g := by
    intro g hg
    obtain ⟨i, hi, rfl⟩ := Array.mem_iff_getElem.1 hg
    rcases Nat.eq_zero_or_pos i with rfl | hpos
    · have : gs[0] = a := by simpa [Array.getElem?_eq_getElem hi] using h0
      rw [this]
      rcases hph with ⟨rfl, _⟩ | ⟨rfl, _⟩
      · exact awake_of (.inl hat.1)
      · exact awake_of (.inr (.inl rfl))
    · exact H.awake hpos (Array.getElem?_eq_getElem hi)
  have hsome : ∃ (i : Nat) (g : Goroutine), gs[i]? = some g ∧ g.status = .running := by
    rcases hph with ⟨rfl, _⟩ | ⟨rfl, ⟨ke, hke⟩, hq0, _⟩
    · exact ⟨0, _, h0, hat.1⟩
    · obtain ⟨x, hx, hk⟩ := H.me
      rcases hk with ⟨_, _, hL⟩ | ⟨_, k, hk, _⟩
      · exact ⟨E.s, x, hx, (live_status H.keep hL).elim (·.1) fun y => by omega⟩
      · rw [hke] at hk; cases hk
  obtain ⟨i, g, d, sl', hi, hg, hs⟩ := crowd_pick (P := P) (w := A) (sl := sl) haw hsome
  have Hd := H.draw d
  have hltI : i < gs.size := (Array.getElem?_eq_some_iff.1 hi).1
  -- another's mute or quiet step: goroutine 0's record stays
  have hkeep : ∀ (g g' : Goroutine) (W : World), 0 < i → (∃ k, W.heap[E.ce]? = some (.chan 0 #[] false k k false)) → (a = a₀ ∨ ∃ k, W.heap[E.ee]? = some (.chan 0 #[] false k k false)) → ((gs.map (woken P g g' W)).setIfInBounds i g')[0]? = some a := by
    intro g g' W hpos ⟨kc, hkc⟩ hor
    rw [Array.getElem?_setIfInBounds_ne (by omega), Array.getElem?_map, h0]
    simp only [Option.map_some, Option.some.injEq]
    rcases hor with rfl | ⟨ke, hke⟩
    · exact woken_run hat.1
    · rcases hph with ⟨rfl, _⟩ | ⟨rfl, _⟩
      · exact woken_run hat.1
      · refine woken_of_again (again_all_open fun cc hcc => ?_)
        simp only [scs, List.mem_toArray, List.mem_cons, List.not_mem_nil, or_false] at hcc
        rcases hcc with rfl | rfl
        · exact ⟨_, _, _, _, _, _, _, rfl, hkc⟩
        · exact ⟨_, _, _, _, _, _, _, rfl, hke⟩
  have hopen : a = a₀ ∨ ∃ k, (A.at d).heap[E.ee]? = some (.chan 0 #[] false k k false) := hph.imp (·.1) fun x => x.2.1
  have hrelAt : Held E A (A.at d) := ⟨fun Z _ G hG => hG.at d, fun _ _ _ => rfl⟩
  rcases Nat.eq_zero_or_pos i with rfl | hpos
  · -- goroutine 0
    obtain rfl : g = a := by rw [h0] at hi; exact (Option.some.inj hi).symm
    rcases hph with ⟨rfl, hm⟩ | ⟨rfl, _⟩
    rotate_left
    · cases hg
    obtain ⟨_, _, _, _, es, hes, hst⟩ := id hat
    have hst' : stepG P (0 == 0) g (A.at d) = .comm g₂ (scs E z₁ z₂) true .select (A.at d) es := hst _ Hd.keep
    obtain ⟨kc, hkc⟩ := Hd.come
    obtain ⟨x, hx, hk⟩ := Hd.me
    obtain ⟨hops, hr, hl, hd⟩ := evC_ops (i := 0) (fn := g.frame.fn) (pos := g.frame.place) hes
    have nosend : ∀ c, (∀ y, gs[E.s]? = some y → c ≠ E.ce ∨ q E.s ≠ 0 ∨ y.status ≠ .blocked) → partners (gs.setIfInBounds 0 ph) c true = [] := fun c hc => partners_nil fun j y hy => by
      rcases getElem?_stand gs 0 j y hy with ⟨_, rfl⟩ | ⟨hj, hy'⟩
      · exact offersAt_ph _ _
      · exact Hd.noSend (by omega) hy' c fun e => hc y (e ▸ hy')
    rcases hk with ⟨ke, hke, hL⟩ | ⟨rfl, ke, hke, hsh, hq⟩
    · rcases hL with ⟨k, w₀, hn, hG⟩ | ⟨hq0, v, rest, g₁, z, k, rfl, rfl, hgo⟩
      · -- it waits
        have hsum := sum_pick (q := q) hltS
        have hcw := crowd_waits (P := P) (sl := sl') (i := 0) h0 hst' fun cc hcc => (by
          simp only [scs, List.mem_toArray, List.mem_cons, List.not_mem_nil, or_false] at hcc
          rcases hcc with rfl | rfl
          · exact ways_recv_none hkc (nosend _ fun _ _ => .inr (.inl (by omega)))
          · exact ways_recv_none hke (nosend _ fun _ _ => .inr (.inl (by omega))))
        refine hnext d sl' sl' 0 _ _ _ q B (sumTo gs.size q) (parked g₂ (scs E z₁ z₂) .select) g hs hcw (by simp) rfl rfl hrelAt (by omega) (Hd.zero hes (by simp) fun x hx => Array.getElem?_setIfInBounds_ne (by omega)) (Array.getElem?_setIfInBounds_self_of_lt hlt0) hat ?_
        exact .inr ⟨rfl, ⟨ke, hke⟩, by omega, by simp⟩
      · -- it meets the sender, which is parked
        have hp : partners (gs.setIfInBounds 0 ph) E.ce true = [(E.s, 0)] := by
          have := partners_one (gs := gs.setIfInBounds 0 ph) (r := E.ce) (send := true) (stand_get (i := 0) (j := E.s) (by omega) hx) fun j y hj hy => (by
            rcases getElem?_stand gs 0 j y hy with ⟨_, rfl⟩ | ⟨hj0, hy'⟩
            · exact offersAt_ph _ _
            · exact Hd.noSend (by omega) hy' _ fun e => absurd e hj)
          rw [this, offersAt_parked_send, if_pos rfl]
          rfl
        have hcw := crowd_sel_recv_meets (P := P) (sl := sl') (i := 0) (j := E.s) (k := 0) (c := E.ce) (z := z₁) h0 hst' rfl (fun m c' hm hc' => (by
          obtain ⟨_, rfl⟩ := scs_other m c' hm hc'
          exact ways_recv_none hke (nosend _ fun _ _ => .inl (Ne.symm E.ne)))) hkc (by omega) hx hp
        refine hdone d sl' sl' 0 _ _ _ hs hcw ⟨by simp, rfl, by simp only [World.setChan, Array.size_setIfInBounds]; rfl, hrelAt.setc hkc, .inl ⟨v, rest, _, rfl, ?_, upd q E.s (k + 6), B, ?_, rfl⟩⟩
        · rw [Array.getElem?_setIfInBounds_self_of_lt (by simpa using hlt0), finishComm_served]
          rfl
        · exact Hd.met (u := MemOp.ofEvents 0 g.frame.fn g.frame.place es) g₁.frame.fn g₁.frame.place g₂.frame.fn g₂.frame.place hkc ⟨ke, hke⟩ hgo (by simp) (fun x hx hxs => by rw [Array.getElem?_setIfInBounds_ne (by omega), Array.getElem?_setIfInBounds_ne (fun e => hxs e.symm)])
            (by rw [Array.getElem?_setIfInBounds_ne (by omega), Array.getElem?_setIfInBounds_self_of_lt hltS, finishComm_send]) (fun op hop => .inr (hops op hop)) (Hd.two.own hops (fun op hop b hb _ => (hr op hop b hb).1) (hd t) fun op hop => MemAct.low_mono Hd.hB (hl op hop))
    · -- the end is closed
      have hcw := crowd_sel_recv_closed (P := P) (sl := sl') (i := 0) (k := 1) (c := E.ee) (z := z₂) h0 hst' rfl (fun m c' hm hc' => (by
          obtain ⟨_, rfl⟩ := scs_other1 m c' hm hc'
          exact ways_recv_none hkc (nosend _ fun y hy => .inr (.inr (by
            rw [hx] at hy
            obtain rfl := Option.some.inj hy
            rcases hq.status with e | e <;> rw [e] <;> simp))))) hke (nosend _ fun _ _ => .inl (Ne.symm E.ne))
      have hB : E.ee < B := by have := E.eB; have := H.hB; omega
      have htwo := Hd.two.own hops (fun op hop b hb _ => (hr op hop b hb).1) (hd t) fun op hop => MemAct.low_mono Hd.hB (hl op hop)
      have hpast := htwo.take E.mem (hsh.app fun op hop hgs => by have := hops op hop; omega) g₂.frame.fn g₂.frame.place hB
      rw [Array.append_assoc] at hpast
      have hall : ∀ op ∈ MemOp.ofEvents 0 g.frame.fn g.frame.place es ++ #[{ g := 0, fn := g₂.frame.fn, pos := g₂.frame.place, act := .recvClosed E.ee }], op.g = 0 := by
        intro op hop
        rcases Array.mem_append.1 hop with h | h
        · exact hops op h
        · simp only [List.mem_toArray, List.mem_cons, List.not_mem_nil, or_false] at h
          subst h; rfl
      refine hdone d sl' sl' 0 _ _ _ hs hcw ⟨by simp, rfl, rfl, hrelAt, .inr ⟨_, rfl, ?_, Hd.keep, q, B, ⟨fun j y hj hy => ?_, fun j hj => ?_⟩, hpast, rfl⟩⟩
      · rw [Array.getElem?_setIfInBounds_self_of_lt hlt0, finishComm_served]
        rfl
      · rw [Array.getElem?_setIfInBounds_ne (by omega)] at hy
        rw [Deaf_other t (by omega) _ hall]
        by_cases hjs : j = E.s
        · subst hjs
          rw [hx] at hy
          obtain rfl := Option.some.inj hy
          rw [H.two.hears E.s (.inr rfl)]
          exact QuitsD.of_quitsIn hq
        · exact Hd.old j y hj hjs hy
      · simp only [Array.size_setIfInBounds] at hj
        rw [Deaf_other t (g' := 0) (by omega) _ hall]
        exact Hd.above j hj
  · by_cases his : i = E.s
    · subst his
      have hi0 : (E.s == 0) = false := by simp; omega
      rcases sender_step (sl := sl') Hd hi hg with ⟨g', ops, n, h1, h2, hn0, h3⟩ | ⟨g', ops, k, rfl, hk, hmw, hst', h1, h2, h3⟩ | ⟨v, rest, rfl, hats, hq0, ke, hke⟩
      · have hsum := sum_less hltI h2
        refine hnext d sl' sl' E.s _ _ ops _ B (m - (sumTo gs.size q - sumTo gs.size (upd q E.s n))) a a₀ hs h1 (by simp) rfl rfl hrelAt ?_ h3 (hkeep _ _ _ hpos Hd.come hopen) hat ?_
        · rcases hph with ⟨_, hm⟩ | ⟨_, _, _, hm⟩ <;> omega
        · rcases hph with ⟨e, hm⟩ | ⟨e, hk, hq0, hm⟩
          · exact .inl ⟨e, by simp; omega⟩
          · exact .inr ⟨e, hk, by rw [upd_same]; exact hn0 hk, by simp; omega⟩
      · have hsum : sumTo gs.size (upd q E.s 4) + q E.s = sumTo gs.size q + 4 := by
          have := sumTo_upd q 4 id hltI
          simpa using this
        obtain ⟨kc, hkc⟩ := Hd.come
        have hkc' : ((A.at d).setChan E.ee 0 #[] true k k false).heap[E.ce]? = some (.chan 0 #[] false kc kc false) := by rw [heap_setChan_ne _ _ _ _ _ _ _ (Ne.symm E.ne)]; exact hkc
        have hrel : Held E A ((A.at d).setChan E.ee 0 #[] true k k false) := hrelAt.sete hk
        rcases hph with ⟨rfl, hm⟩ | ⟨rfl, _, _, hm⟩
        · exact hnext d sl' sl' E.s _ _ ops _ B (sumTo gs.size (upd q E.s 4) + 1) a a hs h1 (by simp) rfl (by simp only [World.setChan, Array.size_setIfInBounds]; rfl) hrel (by omega) h3 (hkeep _ _ _ hpos ⟨kc, hkc'⟩ (.inl rfl)) hat (.inl ⟨rfl, by simp⟩)
        · refine hnext d sl' sl' E.s _ _ ops _ B (sumTo gs.size (upd q E.s 4) + 1) { parked g₂ (scs E z₁ z₂) .select with status := .running } _ hs h1 (by simp) rfl (by simp only [World.setChan, Array.size_setIfInBounds]; rfl) hrel (by omega) h3 ?_ (hat.tries _ _) (.inl ⟨rfl, by simp⟩)
          rw [Array.getElem?_setIfInBounds_ne (by omega), Array.getElem?_map, h0]
          simp only [Option.map_some, Option.some.injEq]
          have : woken P g g' ((A.at d).setChan E.ee 0 #[] true k k false) (parked g₂ (scs E z₁ z₂) .select) = (parked g₂ (scs E z₁ z₂) .select).again ((A.at d).setChan E.ee 0 #[] true k k false) := by
            rcases hst' with e | e <;> simp [woken, hmw, e]
          rw [this]
          exact again_some_closed (k := 1) (c := E.ee) (z := z₂) rfl (heap_setChan_self _ hk _ _ _ _ _ _)
      · rcases hph with ⟨rfl, hm⟩ | ⟨rfl, _, _, hm⟩
        · obtain ⟨g', ops, h1, h2⟩ := sender_parks (sl := sl') Hd hi rfl hats ⟨ke, hke⟩ (fun x hx => by
            rw [h0] at hx
            obtain rfl := Option.some.inj hx
            exact offersAt_of_not_blocked (by rw [hat.1]; simp) _ _)
          have hsum := sum_less hltI hq0
          exact hnext d sl' sl' E.s _ _ ops _ B (sumTo gs.size (upd q E.s 0) + 1) a a hs h1 (by simp) rfl rfl hrelAt (by omega) h2 (by rw [Array.getElem?_setIfInBounds_ne (by omega)]; exact h0) hat (.inl ⟨rfl, by simp⟩)
        · obtain ⟨_, g₁, z, es, hes, hst, k, hgo⟩ := hats
          obtain ⟨kc, hkc⟩ := Hd.come
          obtain ⟨hops, hr, hl, hd⟩ := evC_ops (i := E.s) (fn := g.frame.fn) (pos := g.frame.place) hes
          have hp : partners (gs.setIfInBounds E.s ph) E.ce false = [(0, 0)] := by
            have := partners_one (gs := gs.setIfInBounds E.s ph) (r := E.ce) (send := false) (stand_get (i := E.s) (j := 0) (by omega) h0) fun j y hj hy => (by
              rcases getElem?_stand gs E.s j y hy with ⟨_, rfl⟩ | ⟨hj0, hy'⟩
              · exact offersAt_ph _ _
              · exact Hd.noRecv (by omega) hy' _)
            rw [this, offersAt_parked_at (k := 0) (z := z₁) rfl fun m cc hm hc => (by
              obtain ⟨_, rfl⟩ := scs_other m cc hm hc
              simp only [rcase, ne_eq, Value.chan.injEq, Option.some.injEq]
              exact Ne.symm E.ne)]
            rfl
          have hcw := crowd_send_meets_sel (P := P) (sl := sl') (i := E.s) (j := 0) (k := 0) (c := E.ce) hi (by rw [hi0]; exact hst _ Hd.keep) hkc (by omega) h0 (by rfl) hp
          refine hdone d sl' sl' E.s _ _ _ hs hcw ⟨by simp, rfl, by simp only [World.setChan, Array.size_setIfInBounds]; rfl, hrelAt.setc hkc, .inl ⟨v, rest, _, rfl, ?_, upd q E.s (k + 6), B, ?_, rfl⟩⟩
          · rw [Array.getElem?_setIfInBounds_ne (by omega), Array.getElem?_setIfInBounds_self_of_lt hlt0, finishComm_served]
            rfl
          · exact Hd.met (u := MemOp.ofEvents E.s g.frame.fn g.frame.place es) g₁.frame.fn g₁.frame.place g₂.frame.fn g₂.frame.place hkc ⟨ke, hke⟩ hgo (by simp) (fun x hx hxs => by rw [Array.getElem?_setIfInBounds_ne (fun e => hxs e.symm), Array.getElem?_setIfInBounds_ne (by omega)])
              (by rw [Array.getElem?_setIfInBounds_self_of_lt (by simpa using hltS), finishComm_send]) (fun op hop => .inl (hops op hop)) (Hd.two.read hops hr (hd t) fun op hop => MemAct.low_mono Hd.hB (hl op hop))
    · obtain ⟨g', ops, n, h1, h2, h3⟩ := leaver_step (sl := sl') Hd hpos his hi hg
      have hsum := sum_less hltI h2
      refine hnext d sl' sl' i _ _ ops _ B (m - (sumTo gs.size q - sumTo gs.size (upd q i n))) a a₀ hs h1 (by simp) rfl rfl hrelAt ?_ h3 (hkeep _ _ _ hpos Hd.come hopen) hat ?_
      · rcases hph with ⟨_, hm⟩ | ⟨_, _, _, hm⟩ <;> omega
      · rcases hph with ⟨e, hm⟩ | ⟨e, hk, hq0, hm⟩
        · exact .inl ⟨e, by simp; omega⟩
        · exact .inr ⟨e, hk, by rw [upd_ne q n (fun e => his e.symm)]; exact hq0, by simp; omega⟩
end
end Go.Proofs.YtlanlkpamnoekaaDoor.Lk
namespace Go.Proofs.YtlanlkpamnoekaaDoor.Lk
open Go Go.Conc
open Go.ConcN (sumTo upd sumTo_upd upd_ne upd_same)
section
variable {P : Program} {E : Env} {Z : Nat → Prop} {Q : Nat → Trace → Array Goroutine → World → Prop}

/-- Goroutine 0 stands at the go statement; those that were there only leave. -/
theorem hires {μ : Nat} {t : Trace} {gs : Array Goroutine} {A : World} {sl : Option (Nat × Nat)} {a a' child : Goroutine} {vs : List Value} {k : Nat} (hpos : E.s = gs.size) (hQ : QL P μ t gs A) (h0 : gs[0]? = some a) (hrun : a.status = .running)
    (hst : ∀ d, stepG P true a (A.at d) = .spawn a' child (A.at d) #[]) (hc : ∃ k, A.heap[E.ce]? = some (.chan 0 #[] false k k false)) (he : ∃ k, A.heap[E.ee]? = some (.chan 0 #[] false k k false)) (hK : E.K A)
    (hgo : ∀ w, Goes P false (RK E.K) (DS E.Still E.B) (fun g _ => AtS P E vs g) k child w) :
    ∃ (N : Nat) (gs' : Array Goroutine) (sl' : Option (Nat × Nat)) (t' : Trace) (μ' d : Nat), runNT P N (crowd gs A sl) t = (.next (crowd gs' (A.at d) sl'), t') ∧ gs'[0]? = some a' ∧ gs'.size = gs.size + 1 ∧ QS P E vs μ' t' gs' (A.at d) := by
  obtain ⟨N, gs1, d0, sl1, sl2, t1, q, B, d, r1, r2, r3, r4, hL, hP⟩ : ∃ (N : Nat) (gs1 : Array Goroutine) (d0 : Nat) (sl1 sl2 : Option (Nat × Nat)) (t1 : Trace) (q : Nat → Nat) (B d : Nat), runNT P N (crowd gs A sl) t = (.next (crowd gs1 (A.at d0) sl1), t1) ∧
      stepT P (crowd gs1 (A.at d0) sl1) = runT P (crowd gs1 (A.at d) sl2) 0 ∧ gs1[0]? = some a ∧ gs1.size = gs.size ∧ Leavers P t1 gs1 q ∧ Past (fun _ => False) B t1 := by
    have key : ∀ (μ : Nat) (t : Trace) (gs : Array Goroutine) (d : Nat) (sl : Option (Nat × Nat)), QL P μ t gs A → gs[0]? = some a → ∃ (N : Nat) (gs1 : Array Goroutine) (d0 : Nat) (sl1 sl2 : Option (Nat × Nat)) (t1 : Trace) (q : Nat → Nat) (B d2 : Nat), runNT P N (crowd gs (A.at d) sl) t = (.next (crowd gs1 (A.at d0) sl1), t1) ∧
      stepT P (crowd gs1 (A.at d0) sl1) = runT P (crowd gs1 (A.at d2) sl2) 0 ∧ gs1[0]? = some a ∧ gs1.size = gs.size ∧ Leavers P t1 gs1 q ∧ Past (fun _ => False) B t1 := by
      intro μ
      induction μ using Nat.strongRecOn with
      | _ μ ih =>
      intro t gs d sl hQ h0
      have O : Oth P (fun _ => False) (fun _ => False) (QL P) := oth_leavers
      have haw : ∀ g ∈ gs, Go.Conc.awake g := by
        intro g hg
        obtain ⟨i, hi, rfl⟩ := Array.mem_iff_getElem.1 hg
        rcases Nat.eq_zero_or_pos i with rfl | hpos
        · have : gs[0] = a := by simpa [Array.getElem?_eq_getElem hi] using h0
          rw [this]; exact awake_of (.inl hrun)
        · exact O.awake μ t gs A i _ hQ hpos (Array.getElem?_eq_getElem hi)
      obtain ⟨i, g, d2, sl', hi, hg, hs⟩ := crowd_pick (P := P) (w := A.at d) (sl := sl) haw ⟨0, _, h0, hrun⟩
      rcases Nat.eq_zero_or_pos i with rfl | hpos
      · obtain ⟨q, B, hL, hP, _⟩ := hQ
        exact ⟨0, gs, d, sl, sl', t, q, B, d2, rfl, hs, h0, rfl, hL, hP⟩
      · obtain ⟨q, B, hL, hP, hμ⟩ := hQ
        have hq := hL.old i g hpos hi
        have hi0 : (i == 0) = false := by simp; omega
        have hlt : i < gs.size := (Array.getElem?_eq_some_iff.1 hi).1
        cases hqi : q i with
        | zero => rw [hqi] at hq; rw [hq.1] at hg; cases hg
        | succ k =>
          have hq0 := hq
          rw [hqi] at hq
          rcases hq with ⟨hf, _⟩ | ⟨_, g', es, hm, hstp, hq'⟩
          · rw [hf] at hg; cases hg
          have hrunT := runT_crowd_go (P := P) (gs := gs) (sl := sl') (i := i) hi (by rw [hi0]; exact hstp (A.at d2))
          have hlt' : sumTo gs.size (upd q i k) < μ := by rw [hμ]; exact sum_less hlt (by omega)
          obtain ⟨l1, l2, l3⟩ := laid (P := P) (g := g) (g' := g') (W := A.at d2) hlt
          have hL2 : Leavers P (t ++ MemOp.ofEvents i g.frame.fn g.frame.place es) ((gs.map (woken P g g' (A.at d2))).setIfInBounds i g') (upd q i k) := by
            refine ⟨fun j x hj hx => ?_, fun j hj => ?_⟩
            · by_cases hji : j = i
              · subst hji
                rw [l2] at hx
                obtain rfl := Option.some.inj hx
                rw [upd_same, Deaf_own]
                exact hq'
              · rw [Array.getElem?_setIfInBounds_ne (fun e => hji e.symm), Array.getElem?_map] at hx
                obtain ⟨y, hy, rfl⟩ := Option.map_eq_some_iff.1 hx
                have hqj := hL.old j y hj hy
                rw [woken_quitsD hqj, upd_ne q k hji, Deaf_other t (fun e => hji e.symm) _ (ops_by _ _ _ _)]
                exact hqj
            · rw [l1] at hj
              rw [Deaf_other t (g' := i) (by omega) _ (ops_by _ _ _ _)]
              exact hL.above j hj
          obtain ⟨N, gs2, d3, sl2, sl3, t2, q2, B2, d4, r1, r2, r3, r4, r5, r6⟩ := ih _ hlt' (t ++ MemOp.ofEvents i g.frame.fn g.frame.place es) ((gs.map (woken P g g' (A.at d2))).setIfInBounds i g') d2 sl' ⟨upd q i k, B, hL2, hP.mute (by omega) hm, by rw [l1]⟩ (by rw [l3 0 a (by omega) h0, woken_run hrun])
          exact ⟨N + 1, gs2, d3, sl2, sl3, t2, q2, B2, d4, by simp only [runNT, hs]; rw [show (A.at d).at d2 = A.at d2 from rfl, hrunT]; exact r1, r2, r3, r4.trans l1, r5, r6⟩
    exact key μ t gs A.drawn sl hQ h0
  have hlt : 0 < gs1.size := (Array.getElem?_eq_some_iff.1 r3).1
  have hsp := runT_crowd_spawn (P := P) (sl := sl2) (i := 0) r3 (show stepG P (0 == 0) a (A.at d) = _ from hst d)
  have hops : MemOp.ofEvents 0 a.frame.fn a.frame.place #[] = #[] := by simp [MemOp.ofEvents]
  rw [hops] at hsp
  have hs : E.s = gs1.size := by omega
  refine ⟨N + 1, (gs1.setIfInBounds 0 a').push child, sl2, t1 ++ #[{ g := 0, fn := a.frame.fn, pos := a.frame.place, act := .go gs1.size }, { g := gs1.size, fn := child.frame.fn, pos := a.frame.place, act := .start }], _, d, ?_, ?_, by simp [r4], upd q E.s (k + 6), max B E.B, ?_, rfl⟩
  · rw [runNT_add, r1]
    simp only [runNT, r2, hsp]
    rfl
  · rw [Array.getElem?_push, if_neg (by simp; omega), Array.getElem?_setIfInBounds_self_of_lt hlt]
  have hold : ∀ x, 0 < x → x ≠ E.s → ((gs1.setIfInBounds 0 a').push child)[x]? = gs1[x]? := by
    intro x hx hxs
    rw [Array.getElem?_push]
    rw [if_neg (by simp; omega), Array.getElem?_setIfInBounds_ne (by omega)]
  have hgs : ∀ op ∈ (#[{ g := 0, fn := a.frame.fn, pos := a.frame.place, act := .go gs1.size }, { g := gs1.size, fn := child.frame.fn, pos := a.frame.place, act := .start }] : Trace), ∀ j, ∀ d, deafStep j d op = d := by
    intro op hop j d
    simp only [List.mem_toArray, List.mem_cons, List.not_mem_nil, or_false] at hop
    rcases hop with rfl | rfl <;> rfl
  have hdf : ∀ j, Deaf (t1 ++ #[{ g := 0, fn := a.frame.fn, pos := a.frame.place, act := .go gs1.size }, { g := gs1.size, fn := child.frame.fn, pos := a.frame.place, act := .start }]) j = Deaf t1 j := fun j => Deaf_quiet fun op hop => hgs op hop j
  obtain ⟨kc, hkc⟩ := hc
  obtain ⟨ke, hke⟩ := he
  refine ⟨Nat.le_max_right _ _, by simp; omega, E.kat A d hK, ⟨kc, hkc⟩, ?_, fun j hj => ?_, fun j x hj hjs hx => ?_, child, ?_, .inl ⟨ke, hke, .inl ⟨k, A, by rw [upd_same], hgo A⟩⟩⟩
  · have h1 := Two.hire (Still := E.Still) (s := gs1.size) (hP.mono (Nat.le_max_left B E.B)) E.mem (hL.above _ (Nat.le_refl _)) a.frame.fn a.frame.place child.frame.fn
    rw [hs]; exact h1
  · rw [hdf]
    exact hL.above j (by simp at hj; omega)
  · rw [hold j hj hjs] at hx
    rw [hdf, upd_ne q _ hjs]
    exact hL.old j x hj hx
  · rw [hs, Array.getElem?_push]
    simp
end
end Go.Proofs.YtlanlkpamnoekaaDoor.Lk
namespace Go.Proofs.YtlanlkpamnoekaaDoor.Lk
open Go Go.Conc
section
variable {P : Program} {Z : Nat → Prop} {q : Prop} {C : Code → Prop}

/-! ### a world laid bare -/
def isCells : Obj → Prop
  | .cells .. => True
  | _ => False
/-- The blocks of Y that are cells, and all that is harmful. -/
def Zset (Y : Nat → Prop) (A : World) (i : Nat) : Prop := ∃ o, A.heap[i]? = some o ∧ (Odd o ∨ (Y i ∧ isCells o))
/-- A row is iced, whatever is no row laid bare. -/
def iceObj : Obj → Obj
  | .cells c t _ => iced c t
  | _ => .coro none
open Classical in
noncomputable def scrub (Z : Nat → Prop) (A : World) : World := { A with heap := A.heap.mapIdx fun i o => if Z i then iceObj o else o }
theorem scrub_get (Z : Nat → Prop) (A : World) (i : Nat) (o : Obj) (h : A.heap[i]? = some o) : ((Z i → (scrub Z A).heap[i]? = some (iceObj o)) ∧ (¬ Z i → (scrub Z A).heap[i]? = some o)) := by
  unfold scrub
  constructor <;> intro hz <;> simp [Array.getElem?_mapIdx, h, hz]
theorem scrub_none (Z : Nat → Prop) (A : World) (i : Nat) (h : A.heap[i]? = none) : (scrub Z A).heap[i]? = none := by
  unfold scrub; simp [Array.getElem?_mapIdx, h]
theorem scrub_off (Z : Nat → Prop) (A : World) (i : Nat) (h : ¬ Z i) : (scrub Z A).heap[i]? = A.heap[i]? := by
  cases ha : A.heap[i]? with
  | none => exact scrub_none Z A i ha
  | some o => exact (scrub_get Z A i o ha).2 h
theorem scrub_inv (Y : Nat → Prop) (A : World) : Inv False (Zset Y A) C (scrub (Zset Y A) A) := by
  refine ⟨fun i o ho => ?_, fun i hi => ?_⟩
  · cases ha : A.heap[i]? with
    | none => rw [scrub_none _ _ _ ha] at ho; cases ho
    | some x =>
      by_cases hz : Zset Y A i
      · rw [(scrub_get _ A i x ha).1 hz] at ho
        obtain rfl := Option.some.inj ho
        cases x <;> trivial
      · rw [(scrub_get _ A i x ha).2 hz] at ho
        obtain rfl := Option.some.inj ho
        have : ¬ Odd x := fun h => hz ⟨x, ha, .inl h⟩
        cases x <;> first | trivial | exact absurd trivial this
  · obtain ⟨o, ho, hk⟩ := hi
    have h := (scrub_get (Zset Y A) A i o ho).1 ⟨o, ho, hk⟩
    cases o <;> first | exact .inr (.inr ⟨_, _, h⟩) | exact .inr (.inl h)
theorem scrub_rel (Y : Nat → Prop) (A : World) : Rel (Zset Y A) (scrub (Zset Y A) A) A := by
  refine ⟨by simp [scrub], fun i hi => (scrub_off _ A i hi).symm, fun i hi => ?_, rfl, rfl⟩
  obtain ⟨o, ho, hk⟩ := hi
  have h := (scrub_get (Zset Y A) A i o ho).1 ⟨o, ho, hk⟩
  have hodd : ¬ isCells o → Odd o := fun hn => hk.elim id fun x => absurd x.2 hn
  cases o with
  | cells c t f => exact .inr (.inr ⟨c, t, f, h, ho⟩)
  | _ => exact .inr (.inl ⟨_, h, ho, hodd id⟩)
/-- A cell reads the same there. -/
theorem scrub_cell {Z : Nat → Prop} {A : World} {a : Addr} {v : Value} (hc : A.cell? a = some v) : (scrub Z A).cell? a = some v := by
  unfold World.cell? at hc ⊢
  cases ho : A.heap[a.block]? with
  | none => rw [ho] at hc; cases hc
  | some o =>
    rw [ho] at hc
    by_cases hz : Z a.block
    · rw [(scrub_get Z A _ o ho).1 hz]
      cases o <;> first | exact hc | (simp at hc)
    · rw [(scrub_get Z A _ o ho).2 hz]; exact hc

/-! ### functions without a body -/
theorem call_body {f : FuncId} {fn : Func} (hfn : P.funcs[f]? = some fn) (hb : fn.body.isSome = true) (hn : fn.name ≠ "runtime.NumGoroutine") (args : Array Value) : Meek P q Z C (NN C) (callFunc f args) := by
  unfold callFunc
  refine Meek.bind Meek.program fun p hp => ?_
  subst hp
  rw [hfn]
  dsimp only
  rw [if_neg (by simpa using hn), if_neg (by cases h : fn.body <;> simp_all)]
  exact Meek.pure trivial
theorem call_none {f : FuncId} (hfn : P.funcs[f]? = none) (args : Array Value) : Meek P q Z C (NN C) (callFunc f args) := by
  unfold callFunc
  refine Meek.bind Meek.program fun p hp => ?_
  subst hp
  rw [hfn]
  exact Meek.stuck
theorem call_extern {f : FuncId} {fn : Func} (hfn : P.funcs[f]? = some fn) (hb : fn.body = none) (hn : fn.name ≠ "runtime.NumGoroutine") (hx : Extern.findNext fn = none) (hf : ∀ e, Extern.find fn = some e → ∀ args, Meek P q Z C (fun _ => True) (e args)) (args : Array Value) :
    Meek P q Z C (NN C) (callFunc f args) := by
  unfold callFunc
  refine Meek.bind Meek.program fun p hp => ?_
  subst hp
  rw [hfn]
  dsimp only
  rw [if_neg (by simpa using hn), if_pos (by rw [hb]; rfl)]
  refine Meek.bind (Meek.mark _ (.inr ⟨f, rfl⟩)) fun _ _ => ?_
  rw [hx]
  dsimp only
  cases he : Extern.find fn with
  | some e => exact Meek.bind (hf e he args) fun _ _ => Meek.pure trivial
  | none =>
    dsimp only
    refine Meek.ite (fun _ => Meek.pure trivial) (fun _ => Meek.unsup (fun g h => by cases h))

theorem meek_text (s : String) : Meek P q Z C (fun _ => True) (Extern.RuntimeError.text s) := Meek.pure trivial
theorem meek_described (v) : Meek P q Z C (fun _ => True) (Extern.RuntimeError.described v) := by
  unfold Extern.RuntimeError.described
  repeat' first
    | with_reducible exact Meek.pure trivial
    | with_reducible exact Meek.stuck
    | with_reducible exact Meek.goPanic
    | with_reducible exact Meek.unsup (fun g h => by cases h)
    | with_reducible exact Meek.runtimePanic _
    | with_reducible exact Meek.boundsPanic _ _ _ _
    | with_reducible exact Meek.noRoom
    | with_reducible exact MkA.any
    | with_reducible refine Meek.bind (N := fun _ => True) ?_ fun _ _ => ?_
    | with_reducible refine Meek.ite (fun _ => ?_) (fun _ => ?_)
    | split
    | dsimp only
theorem meek_pkgpathOf (i) : Meek P q Z C (fun _ => True) (Extern.RuntimeError.pkgpathOf i) := by
  unfold Extern.RuntimeError.pkgpathOf
  repeat' first
    | with_reducible exact Meek.pure trivial
    | with_reducible exact Meek.stuck
    | with_reducible exact Meek.goPanic
    | with_reducible exact Meek.unsup (fun g h => by cases h)
    | with_reducible exact Meek.runtimePanic _
    | with_reducible exact Meek.boundsPanic _ _ _ _
    | with_reducible exact Meek.noRoom
    | with_reducible exact MkA.any
    | with_reducible refine Meek.bind (N := fun _ => True) ?_ fun _ _ => ?_
    | with_reducible refine Meek.ite (fun _ => ?_) (fun _ => ?_)
    | split
    | dsimp only
theorem meek_typeAssertionError (a) : Meek P q Z C (fun _ => True) (Extern.RuntimeError.typeAssertionError a) := by
  unfold Extern.RuntimeError.typeAssertionError
  repeat' first
    | with_reducible exact Meek.pure trivial
    | with_reducible exact Meek.stuck
    | with_reducible exact Meek.goPanic
    | with_reducible exact Meek.unsup (fun g h => by cases h)
    | with_reducible exact Meek.runtimePanic _
    | with_reducible exact Meek.boundsPanic _ _ _ _
    | with_reducible exact (meek_described _).any
    | with_reducible exact (meek_text _).any
    | with_reducible exact (meek_pkgpathOf _).any
    | with_reducible exact Meek.noRoom
    | with_reducible exact MkA.any
    | with_reducible refine Meek.bind (N := fun _ => True) ?_ fun _ _ => ?_
    | with_reducible refine Meek.ite (fun _ => ?_) (fun _ => ?_)
    | split
    | dsimp only
theorem meek_boundsError (a) : Meek P q Z C (fun _ => True) (Extern.RuntimeError.boundsError a) := by
  unfold Extern.RuntimeError.boundsError
  have st : Meek P q Z C (fun _ => True) (stuck "boundsError expected" : Sem Value) := Meek.stuck
  obtain ⟨l⟩ := a
  rcases l with _ | ⟨v, _ | ⟨v2, r⟩⟩
  · exact st
  · cases v with
    | agg cs =>
      obtain ⟨cl⟩ := cs
      rcases cl with _ | ⟨a, _ | ⟨b, _ | ⟨c, _ | ⟨d, _ | ⟨e, r⟩⟩⟩⟩⟩ <;> (try exact st)
      cases a <;> (try exact st)
      cases b <;> (try exact st)
      cases c <;> (try exact st)
      cases d <;> (try exact st)
      rename_i k1 x k2 y sg k3 code
      have e : Extern.RuntimeError.boundsError #[.agg #[.int k1 x, .int k2 y, .bool sg, .int k3 code]] = Extern.RuntimeError.boundsError #[.agg #[.int k1 x, .int k2 y, .bool sg, .int k3 code]] := rfl
      conv at e => lhs; delta Extern.RuntimeError.boundsError; whnf
      show Meek P q Z C (fun _ => True) (Extern.RuntimeError.boundsError #[.agg #[.int k1 x, .int k2 y, .bool sg, .int k3 code]])
      rw [← e]
      split
      · exact meek_text _
      · exact Meek.stuck
    | _ => exact st
  · exact st
theorem meek_unhashable (a) : Meek P q Z C (fun _ => True) (Extern.RuntimeError.unhashableTypeError a) := by
  unfold Extern.RuntimeError.unhashableTypeError
  have st : Meek P q Z C (fun _ => True) (stuck "unhashableTypeError expected" : Sem Value) := Meek.stuck
  obtain ⟨l⟩ := a
  rcases l with _ | ⟨v, _ | ⟨v2, r⟩⟩
  · exact st
  · cases v with
    | agg cs =>
      obtain ⟨cl⟩ := cs
      rcases cl with _ | ⟨t, _ | ⟨b, r⟩⟩
      · exact st
      · refine Meek.bind (s := Extern.RuntimeError.described t) (meek_described t) fun x _ => ?_
        split
        · exact meek_text _
        · exact Meek.runtimePanic _
      · exact st
    | _ => exact st
  · exact st
theorem meek_errorRows : ∀ r ∈ Extern.RuntimeError.rows, ∀ args, Meek P q Z C (fun _ => True) (r.2 args) := by
  intro r hr args
  simp only [Extern.RuntimeError.rows, List.mem_cons, List.not_mem_nil, or_false] at hr
  rcases hr with rfl | rfl | rfl | rfl | rfl | rfl | rfl | rfl | rfl | rfl | rfl | rfl | rfl | rfl | rfl <;> dsimp only
  · repeat' first
      | with_reducible exact Meek.pure trivial
      | with_reducible exact Meek.stuck
      | with_reducible exact Meek.goPanic
      | with_reducible exact Meek.unsup (fun g h => by cases h)
      | with_reducible exact Meek.runtimePanic _
      | with_reducible exact Meek.boundsPanic _ _ _ _
      | with_reducible exact Meek.noRoom
      | with_reducible exact MkA.any
      | with_reducible refine Meek.bind (N := fun _ => True) ?_ fun _ _ => ?_
      | with_reducible refine Meek.ite (fun _ => ?_) (fun _ => ?_)
      | split
      | dsimp only
  · repeat' first
      | with_reducible exact Meek.pure trivial
      | with_reducible exact Meek.stuck
      | with_reducible exact Meek.goPanic
      | with_reducible exact Meek.unsup (fun g h => by cases h)
      | with_reducible exact Meek.runtimePanic _
      | with_reducible exact Meek.boundsPanic _ _ _ _
      | with_reducible exact Meek.noRoom
      | with_reducible exact MkA.any
      | with_reducible refine Meek.bind (N := fun _ => True) ?_ fun _ _ => ?_
      | with_reducible refine Meek.ite (fun _ => ?_) (fun _ => ?_)
      | split
      | dsimp only
  · repeat' first
      | with_reducible exact Meek.pure trivial
      | with_reducible exact Meek.stuck
      | with_reducible exact Meek.goPanic
      | with_reducible exact Meek.unsup (fun g h => by cases h)
      | with_reducible exact Meek.runtimePanic _
      | with_reducible exact Meek.boundsPanic _ _ _ _
      | with_reducible exact Meek.noRoom
      | with_reducible exact MkA.any
      | with_reducible refine Meek.bind (N := fun _ => True) ?_ fun _ _ => ?_
      | with_reducible refine Meek.ite (fun _ => ?_) (fun _ => ?_)
      | split
      | dsimp only
  · repeat' first
      | with_reducible exact Meek.pure trivial
      | with_reducible exact Meek.stuck
      | with_reducible exact Meek.goPanic
      | with_reducible exact Meek.unsup (fun g h => by cases h)
      | with_reducible exact Meek.runtimePanic _
      | with_reducible exact Meek.boundsPanic _ _ _ _
      | with_reducible exact Meek.noRoom
      | with_reducible exact MkA.any
      | with_reducible refine Meek.bind (N := fun _ => True) ?_ fun _ _ => ?_
      | with_reducible refine Meek.ite (fun _ => ?_) (fun _ => ?_)
      | split
      | dsimp only
  · exact meek_boundsError _
  · exact meek_typeAssertionError _
  · exact meek_text _
  · exact meek_unhashable _
  · exact Meek.pure trivial
  · exact Meek.pure trivial
  · exact Meek.pure trivial
  · exact Meek.pure trivial
  · exact Meek.pure trivial
  · exact Meek.pure trivial
  · exact Meek.pure trivial
end
end Go.Proofs.YtlanlkpamnoekaaDoor.Lk
