/- Lone runs in company: a metatheorem on the model, and the sender beside link.All. Nothing that was there is turned. -/
import Derived.Test.YtlanlkpamnoekaaDoorZD08
import Derived.Conc.TokenWalk
import Derived.Test.YtlanlkpamnoekaaDoorProg
import Derived.KernelRfl
import Derived.Calls
set_option linter.unusedSimpArgs false
set_option linter.unusedVariables false
namespace Go.Proofs.YtlanlkpamnoekaaDoor.Lk
open Go Go.Conc

section
variable {Still : Loc → Prop} {Mem Loose : Nat → Prop} {B s c : Nat} {K K' : Nat → Prop} {t u : Trace}

theorem noRace_free {said : Bool} (h : ¬ Race said t) (hn : ∀ op ∈ u, ∀ b, op.act.touch? = some b → b.loc.isMemory = false) : ¬ Race said (t ++ u) := by
  rintro ⟨i, j, hij, ⟨a, b, ha, hb, hc⟩, n1, n2⟩
  obtain ⟨x, hx, hxa⟩ := touch_of ha
  obtain ⟨y, hy, hyb⟩ := touch_of hb
  rcases getElem?_append_cases hy with ⟨hj, hy'⟩ | ⟨_, hyu⟩
  · have hi : i < t.size := Nat.lt_trans hij hj
    have hx' : t[i]? = some x := by rw [← getElem?_append_old (u := u) hi]; exact hx
    exact h ⟨i, j, hij, ⟨a, b, by simp [Trace.act?, hx', hxa], by simp [Trace.act?, hy', hyb], hc⟩, fun e => n1 (hb_app u e), fun e => n2 (hb_app u e)⟩
  · have := hn y hyu b hyb
    rw [← hc.1, hc.2.1] at this
    cases this

theorem appFree (H : PastG Still Mem Loose B K t) (hS : ∀ l, Still l → l.isMemory = true) (hK : ∀ i, K i → K' i) (hn : ∀ op ∈ u, ∀ b, op.act.touch? = some b → b.loc.isMemory = false) (hd : ∀ g, Mem g → Deaf (t ++ u) g = Deaf t g) (hl : ∀ op ∈ u, op.act.low B) : PastG Still Mem Loose B K' (t ++ u) := by
  refine ⟨fun said => noRace_free (H.clean said) hn, fun i a ha hm => ?_, fun i a ha hw hs g hg => ?_, fun g hg => (hd g hg).trans (H.hears g hg), seen_app H.seen hl⟩
  · obtain ⟨x, hx, hxa⟩ := touch_of ha
    rcases getElem?_append_cases hx with ⟨_, hx'⟩ | ⟨_, hxu⟩
    · exact H.old_known hK hx' hxa hm
    · have := hn x hxu a hxa
      rw [hm] at this; cases this
  · obtain ⟨x, hx, hxa⟩ := touch_of ha
    rcases getElem?_append_cases hx with ⟨_, hx'⟩ | ⟨_, hxu⟩
    · exact (H.wrote i a (by rw [touchAt_of hx']; exact hxa) hw hs g hg).app u
    · have := hn x hxu a hxa
      rw [hS _ hs] at this; cases this

/-- Goroutine 0 holds; s alone is loose. -/
def Two (Still : Loc → Prop) (B s : Nat) (t : Trace) : Prop := PastH Still (fun g => g = 0 ∨ g = s) (fun g => g = s) B 0 t

theorem Two.mono {B' : Nat} (H : Two Still B s t) (h : B ≤ B') : Two Still B' s t := PastG.mono H h
theorem Two.meet (H : Two Still B s t) (hS : ∀ l, Still l → l.isMemory = true) (fs : FuncId) (ps : String) (f0 : FuncId) (p0 : String) (k cap : Nat) (hc : c < B) : Two Still B s (t ++ met s 0 fs ps f0 p0 c k cap) :=
  appFree H hS (fun _ => Knows.app _) (fun op hop b hb => by rw [met_mute _ _ _ _ _ _ _ _ _ op hop] at hb; cases hb) (fun g _ => Deaf_quiet (met_quiet _ _ _ _ _ _ _ _ _ g)) fun op hop => by
    simp only [met, List.mem_toArray, List.mem_cons, List.not_mem_nil, or_false] at hop
    rcases hop with rfl | rfl | rfl | rfl <;> exact hc

/-- s has closed channel c; all that it touched is ahead of that. -/
def Shut (c s : Nat) (t : Trace) : Prop := ∃ m op, t[m]? = some op ∧ op.g = s ∧ op.act = .close c ∧ t.deaf s m = 0 ∧ ∀ i a, touchAt t i = some a → a.loc.isMemory = true → t.g? i = some s → i < m

theorem Shut.app (H : Shut c s t) (hu : ∀ op ∈ u, op.g = s → ∀ b, op.act.touch? = some b → b.loc.isMemory = false) : Shut c s (t ++ u) := by
  obtain ⟨m, op, hm, hg, ha, hd, hi⟩ := H
  have hlt := lt_size_of_getElem? hm
  refine ⟨m, op, by rw [getElem?_append_old hlt]; exact hm, hg, ha, by rw [deaf_old (Nat.le_of_lt hlt)]; exact hd, fun i a hia hmem hgi => ?_⟩
  obtain ⟨x, hx, hxa⟩ := touch_of hia
  rcases getElem?_append_cases hx with ⟨hil, hx'⟩ | ⟨_, hxu⟩
  · exact hi i a (by rw [touchAt_of hx']; exact hxa) hmem (by rw [← g?_old hil]; exact hgi)
  · have h1 : x.g = s := by have := g?_of hx; rw [hgi] at this; exact (Option.some.inj this).symm
    have := hu x hxu h1 a hxa
    rw [hmem] at this; cases this

theorem close_touch (h : Nat) (fn : FuncId) (pos : String) (c : Nat) : ∀ op ∈ MemOp.ofEvents h fn pos (closeEvents c), ∀ b, op.act.touch? = some b → b.write = false ∧ b.loc = .obj c := by
  intro op hop b hb
  rw [closeOps] at hop
  simp only [List.mem_toArray, List.mem_cons, List.not_mem_nil, or_false] at hop
  rcases hop with rfl | rfl
  · simp only [MemAct.touch?, Option.some.injEq] at hb
    subst hb; exact ⟨rfl, rfl⟩
  · cases hb
theorem close_quiet (h : Nat) (fn : FuncId) (pos : String) (c g : Nat) : ∀ op ∈ MemOp.ofEvents h fn pos (closeEvents c), ∀ d, deafStep g d op = d := by
  intro op hop d
  rw [closeOps] at hop
  simp only [List.mem_toArray, List.mem_cons, List.not_mem_nil, or_false] at hop
  rcases hop with rfl | rfl <;> rfl

theorem Two.close (H : Two Still B s t) (hS : Still (.obj c)) (fn : FuncId) (pos : String) (hc : c < B) :
    Two Still B s (t ++ MemOp.ofEvents s fn pos (closeEvents c)) ∧ Shut c s (t ++ MemOp.ofEvents s fn pos (closeEvents c)) := by
  refine ⟨PastH.appRead H (.inr rfl) rfl (ops_by _ _ _ _) (fun op hop b hb => by obtain ⟨x, y⟩ := close_touch _ _ _ _ op hop b hb; exact ⟨x, y ▸ hS⟩) (Deaf_quiet (close_quiet _ _ _ _ s)) fun op hop => ?_, ?_⟩
  · rw [closeOps] at hop
    simp only [List.mem_toArray, List.mem_cons, List.not_mem_nil, or_false] at hop
    rcases hop with rfl | rfl <;> exact hc
  · have hm : (t ++ MemOp.ofEvents s fn pos (closeEvents c))[t.size + 1]? = some { g := s, fn := fn, pos := pos, act := .close c } := by rw [at_new, closeOps]; rfl
    refine ⟨t.size + 1, _, hm, rfl, rfl, ?_, fun i a hia hmem hgi => ?_⟩
    · rw [deaf_quiet (close_quiet _ _ _ _ s) 1 (by rw [closeOps]; simp)]
      exact H.hears s (.inr rfl)
    · obtain ⟨x, hx, hxa⟩ := touch_of hia
      have hi2 := lt_size_of_getElem? hx
      rw [Array.size_append, closeOps] at hi2
      simp only [List.size_toArray, List.length_cons, List.length_nil] at hi2
      rcases Nat.lt_or_ge i (t.size + 1) with h | h
      · exact h
      · obtain rfl : i = t.size + 1 := by omega
        rw [hm] at hx
        obtain rfl := Option.some.inj hx
        cases hxa

/-- Goroutine 0 finds the channel closed: it knows all. -/
theorem Two.take (H : Two Still B s t) (hS : ∀ l, Still l → l.isMemory = true) (hX : Shut c s t) (fj : FuncId) (pj : String) (hc : c < B) : Past (fun _ => False) B (t ++ #[{ g := 0, fn := fj, pos := pj, act := .recvClosed c }]) := by
  obtain ⟨m, op, hm, hg, ha, hd, hi⟩ := hX
  have hlt := lt_size_of_getElem? hm
  generalize hu : (#[{ g := 0, fn := fj, pos := pj, act := .recvClosed c }] : Trace) = u
  have hn : ∀ op ∈ u, ∀ b, op.act.touch? = some b → b.loc.isMemory = false := by
    intro op hop b hb
    subst hu
    simp only [List.mem_toArray, List.mem_cons, List.not_mem_nil, or_false] at hop
    subst hop; cases hb
  have hq : ∀ g, ∀ op ∈ u, ∀ d, deafStep g d op = d := by
    intro g op hop d
    subst hu
    simp only [List.mem_toArray, List.mem_cons, List.not_mem_nil, or_false] at hop
    subst hop; rfl
  have e0 : (t ++ u)[t.size]? = some { g := 0, fn := fj, pos := pj, act := .recvClosed c } := by subst hu; simp
  have hm' : (t ++ u)[m]? = some op := by rw [getElem?_append_old hlt]; exact hm
  have edge : HappensBefore (t ++ u) m t.size :=
    Relation.TransGen.single (.inr ⟨.closed (by rw [act?_of hm', ha]) (act?_of e0), ⟨s, by rw [g?_of hm', hg], by rw [deaf_old (Nat.le_of_lt hlt)]; exact hd⟩, ⟨0, g?_of e0, by rw [deaf_old (Nat.le_refl _)]; exact H.hears 0 (.inl rfl)⟩⟩)
  have H' : PastG Still (fun g => g = 0 ∨ g = s) (fun g => g = s) B (Knows (t ++ u) 0) (t ++ u) := appFree H hS (fun _ => Knows.app u) hn (fun g _ => Deaf_quiet (hq g)) (fun op hop => by
    subst hu
    simp only [List.mem_toArray, List.mem_cons, List.not_mem_nil, or_false] at hop
    subst hop; exact hc)
  refine PastH.toPast (Still := Still) (Mem := fun g => g = 0 ∨ g = s) (Loose := fun _ => False) ⟨H'.clean, fun i a hia hmem => .inl ?_, H'.wrote, H'.hears, H'.seen⟩ (.inl rfl) (fun _ h => h)
  rcases H'.known i a hia hmem with hk | ⟨_, _, g, hgi, rfl⟩
  · exact hk
  · obtain ⟨x, hx, hxa⟩ := touch_of hia
    rcases getElem?_append_cases hx with ⟨hil, hx'⟩ | ⟨_, hxu⟩
    · have him := hi i a (by rw [touchAt_of hx']; exact hxa) hmem (by rw [← g?_old hil]; exact hgi)
      have hxg : x.g = op.g := by have := g?_of hx; rw [hgi] at this; rw [hg]; exact (Option.some.inj this).symm
      exact ⟨t.size, _, e0, rfl, .inr ((hb_po him hx hm' hxg).trans edge)⟩
    · have := hn x hxu a hxa
      rw [hmem] at this; cases this

/-- At the go statement. -/
theorem Two.hire (H : Past (fun _ => False) B t) (hS : ∀ l, Still l → l.isMemory = true) (hs0 : Deaf t s = 0) (fh : FuncId) (ph : String) (fc : FuncId) : Two Still B s (t ++ #[{ g := 0, fn := fh, pos := ph, act := .go s }, { g := s, fn := fc, pos := ph, act := .start }]) := by
  have h := PastH.hire (PastH.ofPast H hS) rfl hs0 fh ph fc
  exact PastG.loosen h fun g hg => hg.elim False.elim id

/-- Goroutine 0's own. -/
theorem Two.own (H : Two Still B s t) (hu : ∀ op ∈ u, op.g = 0) (hs : ∀ op ∈ u, ∀ b, op.act.touch? = some b → Still b.loc → b.write = false) (hd : Deaf (t ++ u) 0 = Deaf t 0) (hl : ∀ op ∈ u, op.act.low B) : Two Still B s (t ++ u) := PastH.appH H hu hs hd hl
/-- The sender's reads. -/
theorem Two.read (H : Two Still B s t) (hu : ∀ op ∈ u, op.g = s) (hr : ∀ op ∈ u, ∀ b, op.act.touch? = some b → b.write = false ∧ Still b.loc) (hd : Deaf (t ++ u) s = Deaf t s) (hl : ∀ op ∈ u, op.act.low B) : Two Still B s (t ++ u) := PastH.appRead H (.inr rfl) rfl hu hr hd hl
/-- A leaver's. -/
theorem Two.mute {g : Nat} (H : Two Still B s t) (h0 : g ≠ 0) (hs : g = s → Deaf (t ++ u) g = Deaf t g) (hu : ∀ op ∈ u, op.g = g) (hn : ∀ op ∈ u, op.act.touch? = none) (hl : ∀ op ∈ u, op.act.low B) : Two Still B s (t ++ u) := PastH.appMute H hu hn (fun h => h.elim (fun e => absurd e h0) hs) hl
end
end Go.Proofs.YtlanlkpamnoekaaDoor.Lk
namespace Go.Proofs.YtlanlkpamnoekaaDoor.Lk
open Go Go.Conc
open Go.ConcN (sumTo upd sumTo_upd upd_ne upd_same)

/-- What is fixed while the sender lives. -/
structure Env where
  K : World → Prop
  Still : Loc → Prop
  B : Nat
  s : Nat
  ce : Nat
  ee : Nat
  kat : ∀ A d, K A → K (A.at d)
  kc : ∀ A cap buf cl a b tm, K A → K (A.setChan ce cap buf cl a b tm)
  ke : ∀ A cap buf cl a b tm, K A → K (A.setChan ee cap buf cl a b tm)
  mem : ∀ l, Still l → l.isMemory = true
  endS : Still (.obj ee)
  ne : ce ≠ ee
  cB : ce < B
  eB : ee < B
  pos : 0 < s
/-- What goroutine 0 leaves alone. -/
structure Env.Off (E : Env) (Z : Nat → Prop) : Prop where
  keep : ∀ A A', E.K A → (∀ i : Nat, Z i → A'.heap[i]? = A.heap[i]?) → E.K A'
  cell : ∀ a, E.Still (.cell a) → Z a.block
  obj : ∀ r, E.Still (.obj r) → Z r
  zc : Z E.ce
  ze : Z E.ee

section
variable {P : Program} {E : Env}

/-- It stands at its next send; or, nothing being left, at the close. -/
def AtS (P : Program) (E : Env) : List Value → Goroutine → Prop
  | [], g => g.status = .running ∧ mayWake P g = true ∧ ∃ g', (∀ w k, E.K w → w.heap[E.ee]? = some (.chan 0 #[] false k k false) → stepG P false g w = .go g' (w.setChan E.ee 0 #[] true k k false) (closeEvents E.ee)) ∧ QuitsIn P 4 g'
  | v :: vs, g => g.status = .running ∧ ∃ g₂ z es, (∀ e ∈ es, EvC E.Still E.B e) ∧ (∀ w, E.K w → stepG P false g w = .comm g₂ #[scase E.ce v z] true .send w es) ∧
      ∃ k, ∀ w, Goes P false (RK E.K) (DS E.Still E.B) (fun g _ => AtS P E vs g) k (Go.Conc.served g₂ undef) w

/-- It is on its way, n = k + 6, or parked, n = 0. -/
def Live (P : Program) (E : Env) (vs : List Value) (n : Nat) (g : Goroutine) : Prop :=
  (∃ k w₀, n = k + 6 ∧ Goes P false (RK E.K) (DS E.Still E.B) (fun g _ => AtS P E vs g) k g w₀) ∨
  (n = 0 ∧ ∃ v rest g₂ z k, vs = v :: rest ∧ g = parked g₂ #[scase E.ce v z] .send ∧ ∀ w, Goes P false (RK E.K) (DS E.Still E.B) (fun g _ => AtS P E rest g) k (Go.Conc.served g₂ undef) w)

structure SX (P : Program) (E : Env) (vs : List Value) (q : Nat → Nat) (B : Nat) (t : Trace) (gs : Array Goroutine) (A : World) : Prop where
  hB : E.B ≤ B
  lt : E.s < gs.size
  keep : E.K A
  come : ∃ k, A.heap[E.ce]? = some (.chan 0 #[] false k k false)
  two : Two E.Still B E.s t
  above : ∀ j, gs.size ≤ j → Deaf t j = 0
  old : ∀ i g, 0 < i → i ≠ E.s → gs[i]? = some g → QuitsD P (q i) (Deaf t i) g
  me : ∃ g, gs[E.s]? = some g ∧ ((∃ k, A.heap[E.ee]? = some (.chan 0 #[] false k k false) ∧ Live P E vs (q E.s) g) ∨ (vs = [] ∧ ∃ k, A.heap[E.ee]? = some (.chan 0 #[] true k k false) ∧ Shut E.ee E.s t ∧ QuitsIn P (q E.s) g))

theorem atS_run {vs : List Value} {g : Goroutine} (h : AtS P E vs g) : g.status = .running := by
  cases vs <;> exact h.1
theorem goes_run {vs : List Value} {k : Nat} {g : Goroutine} {w A : World} (hK : E.K A) (h : Goes P false (RK E.K) (DS E.Still E.B) (fun g _ => AtS P E vs g) k g w) : g.status = .running := by
  cases k with
  | zero => exact atS_run (h A hK)
  | succ k => exact h.elim (fun x => atS_run (x A hK)) (·.1)

theorem live_status {vs : List Value} {n : Nat} {g : Goroutine} {A : World} (hK : E.K A) (h : Live P E vs n g) : (g.status = .running ∧ 0 < n) ∨ (g.status = .blocked ∧ n = 0) := by
  rcases h with ⟨k, w, rfl, hg⟩ | ⟨rfl, v, rest, g₂, z, k, _, rfl, _⟩
  · exact .inl ⟨goes_run hK hg, by omega⟩
  · exact .inr ⟨rfl, rfl⟩

variable {vs : List Value} {q : Nat → Nat} {B : Nat} {t : Trace} {gs : Array Goroutine} {A : World}

/-- The others are left as they are where the come channel is open. -/
theorem SX.fixed {w : World} (H : SX P E vs q B t gs A) (hw : ∃ k, w.heap[E.ce]? = some (.chan 0 #[] false k k false)) {i : Nat} {g : Goroutine} (hi : 0 < i) (hg : gs[i]? = some g) (a a' : Goroutine) : woken P a a' w g = g := by
  by_cases e : i = E.s
  · subst e
    obtain ⟨x, hx, hk⟩ := H.me
    rw [hg] at hx
    obtain rfl := Option.some.inj hx
    rcases hk with ⟨_, _, hL⟩ | ⟨_, _, _, _, hq⟩
    · rcases hL with ⟨k, w₀, hn, hg⟩ | ⟨_, v, rest, g₂, z, k, _, rfl, _⟩
      · exact woken_run (goes_run H.keep hg)
      · obtain ⟨k, hk⟩ := hw
        exact woken_send_open a a' hk
    · exact woken_quitsD (QuitsD.of_quitsIn hq)
  · exact woken_quitsD (H.old i g hi e hg)

theorem SX.awake (H : SX P E vs q B t gs A) {i : Nat} {g : Goroutine} (hi : 0 < i) (hg : gs[i]? = some g) : Go.Conc.awake g := by
  by_cases e : i = E.s
  · subst e
    obtain ⟨x, hx, hk⟩ := H.me
    rw [hg] at hx
    obtain rfl := Option.some.inj hx
    rcases hk with ⟨_, _, hL⟩ | ⟨_, _, _, _, hq⟩
    · exact awake_of ((live_status H.keep hL).elim (fun x => .inl x.1) fun x => .inr (.inl x.1))
    · exact awake_of (hq.status.elim .inl fun x => .inr (.inr x))
  · exact awake_of ((H.old i g hi e hg).status.elim .inl fun x => .inr (.inr x))

/-- Nobody but goroutine 0 ever receives. -/
theorem SX.noRecv (H : SX P E vs q B t gs A) {i : Nat} {g : Goroutine} (hi : 0 < i) (hg : gs[i]? = some g) (c : Nat) : offersAt g c false = [] := by
  have hquit : ∀ {n d : Nat} {g : Goroutine}, QuitsD P n d g → offersAt g c false = [] := fun h => offersAt_of_not_blocked (fun hb => by rcases h.status with z | z <;> rw [z] at hb <;> cases hb) c false
  by_cases e : i = E.s
  · subst e
    obtain ⟨x, hx, hk⟩ := H.me
    rw [hg] at hx
    obtain rfl := Option.some.inj hx
    rcases hk with ⟨_, _, hL⟩ | ⟨_, _, _, _, hq⟩
    · rcases hL with ⟨k, w₀, hn, hg⟩ | ⟨_, v, rest, g₂, z, k, _, rfl, _⟩
      · exact offersAt_of_not_blocked (fun hb => by rw [goes_run H.keep hg] at hb; cases hb) c false
      · exact offersAt_parked_send' _ _ _ _ _ _
    · exact hquit (QuitsD.of_quitsIn hq)
  · exact hquit (H.old i g hi e hg)

theorem SX.draw (H : SX P E vs q B t gs A) (d : Nat) : SX P E vs q B t gs (A.at d) :=
  ⟨H.hB, H.lt, E.kat A d H.keep, H.come, H.two, H.above, H.old, H.me⟩

/-- Another's record is laid anew; the world stands. -/
theorem SX.put (H : SX P E vs q B t gs A) {i n : Nat} {g' : Goroutine} {ops : Array MemOp} {gs' : Array Goroutine} (hlt : i < gs.size) (h0 : i ≠ 0) (hs : i ≠ E.s) (hsz : gs'.size = gs.size) (hother : ∀ x, 0 < x → x ≠ i → gs'[x]? = gs[x]?) (hself : gs'[i]? = some g')
    (hops : ∀ op ∈ ops, op.g = i) (hq : QuitsD P n (Deaf (t ++ ops) i) g') (htwo : Two E.Still B E.s (t ++ ops)) : SX P E vs (upd q i n) B (t ++ ops) gs' A := by
  refine ⟨H.hB, by rw [hsz]; exact H.lt, H.keep, H.come, htwo, fun j hj => ?_, fun j x hj hjs hx => ?_, ?_⟩
  · rw [Deaf_other t (g' := i) (by omega) _ hops]
    exact H.above j (by omega)
  · by_cases e : j = i
    · subst e
      rw [hself] at hx
      obtain rfl := Option.some.inj hx
      rw [upd_same]; exact hq
    · rw [hother j hj e] at hx
      rw [upd_ne q n e, Deaf_other t (fun z => e z.symm) _ hops]
      exact H.old j x hj hjs hx
  · obtain ⟨x, hx, hk⟩ := H.me
    refine ⟨x, by rw [hother _ E.pos (Ne.symm hs)]; exact hx, ?_⟩
    rw [upd_ne q n (Ne.symm hs)]
    refine hk.imp id fun ⟨h1, k, h2, h3, h4⟩ => ⟨h1, k, h2, h3.app fun op hop hg => absurd ((hops op hop).symm.trans hg) hs, h4⟩

/-- The sender's record is laid anew. -/
theorem SX.mine (H : SX P E vs q B t gs A) {vs' : List Value} {n : Nat} {g' : Goroutine} {ops : Array MemOp} {gs' : Array Goroutine} {A' : World} (hsz : gs'.size = gs.size) (hother : ∀ x, 0 < x → x ≠ E.s → gs'[x]? = gs[x]?) (hself : gs'[E.s]? = some g')
    (hops : ∀ op ∈ ops, op.g = E.s ∨ op.g = 0) (hK : E.K A') (hc : ∃ k, A'.heap[E.ce]? = some (.chan 0 #[] false k k false)) (htwo : Two E.Still B E.s (t ++ ops))
    (hme : (∃ k, A'.heap[E.ee]? = some (.chan 0 #[] false k k false) ∧ Live P E vs' n g') ∨ (vs' = [] ∧ ∃ k, A'.heap[E.ee]? = some (.chan 0 #[] true k k false) ∧ Shut E.ee E.s (t ++ ops) ∧ QuitsIn P n g')) :
    SX P E vs' (upd q E.s n) B (t ++ ops) gs' A' := by
  have hde : ∀ j, 0 < j → j ≠ E.s → Deaf (t ++ ops) j = Deaf t j := fun j hj hjs => by
    obtain ⟨l⟩ := ops
    rw [Deaf_append]
    have : ∀ (l : List MemOp) (d : Nat), (∀ op ∈ l, op.g = E.s ∨ op.g = 0) → l.foldl (deafStep j) d = d := by
      intro l
      induction l with
      | nil => intro d _; rfl
      | cons y l ih =>
        intro d h
        have hy : y.g ≠ j := by rcases h y (by simp) with e | e <;> omega
        rw [List.foldl_cons, ih _ fun op hop => h op (by simp [hop])]
        unfold deafStep
        cases y.act with
        | mark m => cases m <;> simp [hy]
        | _ => rfl
    exact this l _ fun op hop => hops op (by simpa using hop)
  refine ⟨H.hB, by rw [hsz]; exact H.lt, hK, hc, htwo, fun j hj => ?_, fun j x hj hjs hx => ?_, ⟨g', hself, ?_⟩⟩
  · have := H.lt
    rw [hde j (by omega) (by omega)]
    exact H.above j (by omega)
  · rw [hother j hj hjs] at hx
    rw [upd_ne q n hjs, hde j hj hjs]
    exact H.old j x hj hjs hx
  · rw [upd_same]; exact hme

theorem Rel.setZ {Z : Nat → Prop} {G A : World} (h : Rel Z G A) {c cap : Nat} {buf : Array Value} {cl : Bool} {a b : Nat} {tm : Bool} (hz : Z c) (hc : ∃ cap buf cl a b tm, A.heap[c]? = some (.chan cap buf cl a b tm)) : Rel Z G (A.setChan c cap buf cl a b tm) := by
  obtain ⟨cap0, buf0, cl0, a0, b0, tm0, hc⟩ := hc
  refine ⟨by rw [← h.size]; simp [World.setChan], fun i hi => ?_, fun i hi => ?_, h.os, h.out⟩
  · rw [heap_setChan_ne _ _ _ _ _ _ _ (fun e => hi (by rw [← e]; exact hz))]; exact h.same i hi
  · by_cases e : c = i
    · subst e
      rw [heap_setChan_self _ hc]
      rcases h.odd c hi with ⟨ty, f, x, _, h2⟩ | ⟨o, h1, _, _⟩ | ⟨_, _, _, _, h2⟩
      · rw [hc] at h2; cases h2
      · exact .inr (.inl ⟨_, h1, rfl, trivial⟩)
      · rw [hc] at h2; cases h2
    · rw [heap_setChan_ne _ _ _ _ _ _ _ e]; exact h.odd i hi
end
end Go.Proofs.YtlanlkpamnoekaaDoor.Lk
namespace Go.Proofs.YtlanlkpamnoekaaDoor.Lk
open Go Go.Conc
open Go.ConcN (sumTo upd sumTo_upd upd_ne upd_same)
section
variable {P : Program} {E : Env} {vs : List Value} {q : Nat → Nat} {B : Nat} {t : Trace} {gs : Array Goroutine} {A : World}

theorem mute_free {i : Nat} {fn : FuncId} {pos : String} {es : Array Event} (h : ∀ e ∈ es, Event.mute e = true) : (∀ op ∈ MemOp.ofEvents i fn pos es, op.act.touch? = none) ∧ ∀ B, ∀ op ∈ MemOp.ofEvents i fn pos es, op.act.low B := by
  constructor
  · intro op hop
    obtain ⟨e, he, rfl⟩ := Go.Conc.mem_ofEvents hop
    exact touch_mute (h e he)
  · intro B op hop
    obtain ⟨e, he, rfl⟩ := Go.Conc.mem_ofEvents hop
    exact low_mute (h e he) B

/-- What is laid anew at i; what the others become. -/
theorem laid {i : Nat} {g g' : Goroutine} {W : World} (hlt : i < gs.size) : ((gs.map (woken P g g' W)).setIfInBounds i g').size = gs.size ∧ ((gs.map (woken P g g' W)).setIfInBounds i g')[i]? = some g' ∧
    ∀ x y, x ≠ i → gs[x]? = some y → ((gs.map (woken P g g' W)).setIfInBounds i g')[x]? = some (woken P g g' W y) := by
  refine ⟨by simp, Array.getElem?_setIfInBounds_self_of_lt (by simpa using hlt), fun x y hx hy => ?_⟩
  rw [Array.getElem?_setIfInBounds_ne (fun e => hx e.symm), Array.getElem?_map, hy]; rfl
theorem SX.others (H : SX P E vs q B t gs A) {i : Nat} {g g' : Goroutine} {W : World} (hlt : i < gs.size) (hW : ∃ k, W.heap[E.ce]? = some (.chan 0 #[] false k k false)) (x : Nat) (h0 : 0 < x) (hx : x ≠ i) : ((gs.map (woken P g g' W)).setIfInBounds i g')[x]? = gs[x]? := by
  rw [Array.getElem?_setIfInBounds_ne (fun e => hx e.symm), Array.getElem?_map]
  cases e : gs[x]? with
  | none => rfl
  | some y => simp [H.fixed hW h0 e g g']

/-- A leaver's step. -/
theorem leaver_step (H : SX P E vs q B t gs A) {sl : Option (Nat × Nat)} {i : Nat} {g : Goroutine} (hi : 0 < i) (his : i ≠ E.s) (hg : gs[i]? = some g) (hrun : g.status = .running) :
    ∃ g' ops n, runT P (crowd gs A sl) i = (.next (crowd ((gs.map (woken P g g' A)).setIfInBounds i g') A sl), ops) ∧ n < q i ∧ SX P E vs (upd q i n) B (t ++ ops) ((gs.map (woken P g g' A)).setIfInBounds i g') A := by
  have hq := H.old i g hi his hg
  have hi0 : (i == 0) = false := by simp; omega
  have hlt : i < gs.size := (Array.getElem?_eq_some_iff.1 hg).1
  cases hqi : q i with
  | zero => rw [hqi] at hq; rw [hq.1] at hrun; cases hrun
  | succ k =>
    rw [hqi] at hq
    rcases hq with ⟨hf, _⟩ | ⟨_, g', es, hm, hstp, hq'⟩
    · rw [hf] at hrun; cases hrun
    obtain ⟨l1, l2, l3⟩ := laid (P := P) (g := g) (g' := g') (W := A) hlt
    obtain ⟨m1, m2⟩ := mute_free (i := i) (fn := g.frame.fn) (pos := g.frame.place) hm
    refine ⟨g', _, k, runT_crowd_go (P := P) (gs := gs) (sl := sl) (i := i) hg (by rw [hi0]; exact hstp A), by omega, ?_⟩
    exact H.put hlt (by omega) his l1 (fun x h0 hx => H.others hlt H.come x h0 hx) l2 (ops_by _ _ _ _) (by rw [Deaf_own]; exact hq') (H.two.mute (g := i) (by omega) (fun e => absurd e his) (ops_by _ _ _ _) m1 (m2 B))

/-- The sender's step: it walks on, or leaves; it closes; it stands at its send. -/
theorem sender_step (H : SX P E vs q B t gs A) {sl : Option (Nat × Nat)} {g : Goroutine} (hg : gs[E.s]? = some g) (hrun : g.status = .running) :
    (∃ g' ops n, runT P (crowd gs A sl) E.s = (.next (crowd ((gs.map (woken P g g' A)).setIfInBounds E.s g') A sl), ops) ∧ n < q E.s ∧ ((∃ k, A.heap[E.ee]? = some (.chan 0 #[] false k k false)) → 0 < n) ∧ SX P E vs (upd q E.s n) B (t ++ ops) ((gs.map (woken P g g' A)).setIfInBounds E.s g') A) ∨
    (∃ g' ops k, vs = [] ∧ A.heap[E.ee]? = some (.chan 0 #[] false k k false) ∧ mayWake P g = true ∧ (g'.status = .running ∨ g'.status = .finished) ∧
      runT P (crowd gs A sl) E.s = (.next (crowd ((gs.map (woken P g g' (A.setChan E.ee 0 #[] true k k false))).setIfInBounds E.s g') (A.setChan E.ee 0 #[] true k k false) sl), ops) ∧ 5 < q E.s ∧
      SX P E vs (upd q E.s 4) B (t ++ ops) ((gs.map (woken P g g' (A.setChan E.ee 0 #[] true k k false))).setIfInBounds E.s g') (A.setChan E.ee 0 #[] true k k false)) ∨
    (∃ v rest, vs = v :: rest ∧ AtS P E vs g ∧ 0 < q E.s ∧ ∃ k, A.heap[E.ee]? = some (.chan 0 #[] false k k false)) := by
  have hi0 : (E.s == 0) = false := by have := E.pos; simp; omega
  have hlt := H.lt
  obtain ⟨x, hx, hme⟩ := H.me
  rw [hg] at hx
  obtain rfl := Option.some.inj hx
  rcases hme with ⟨ke, hke, hL⟩ | ⟨rfl, ke, hke, hsh, hq⟩
  · obtain ⟨k, w₀, hn, hG⟩ : ∃ k w₀, q E.s = k + 6 ∧ Goes P false (RK E.K) (DS E.Still E.B) (fun g _ => AtS P E vs g) k g w₀ := by
      rcases hL with h | ⟨_, v, rest, g₂, z, k, _, rfl, _⟩
      · exact h
      · cases hrun
    have hcase : AtS P E vs g ∨ ∃ k' g' es, k = k' + 1 ∧ stepG P false g A = .go g' A es ∧ (∀ e ∈ es, EvC E.Still E.B e) ∧ Goes P false (RK E.K) (DS E.Still E.B) (fun g _ => AtS P E vs g) k' g' A := by
      cases k with
      | zero => exact .inl (hG A H.keep)
      | succ k' =>
        rcases hG with hstop | ⟨_, hstep⟩
        · exact .inl (hstop A H.keep)
        · have hs := hstep A H.keep
          cases hgo : stepG P false g A with
          | go g' w' es =>
            rw [hgo, goes_go] at hs
            obtain ⟨⟨rfl, hes⟩, hG'⟩ := hs
            exact .inr ⟨k', g', es, rfl, rfl, hes, hG'⟩
          | _ => rw [hgo] at hs; exact hs.elim
    rcases hcase with hat | ⟨k', g', es, rfl, hgo, hes, hG'⟩
    · cases vs with
      | cons v rest => exact .inr (.inr ⟨v, rest, rfl, hat, by omega, ke, hke⟩)
      | nil =>
        obtain ⟨_, hmw, g', hst, hq⟩ := hat
        refine .inr (.inl ⟨g', _, ke, rfl, hke, hmw, hq.status, runT_crowd_go (sl := sl) hg (by rw [hi0]; exact hst A ke H.keep hke), by omega, ?_⟩)
        obtain ⟨kc, hkc⟩ := H.come
        have hW : ∃ k, (A.setChan E.ee 0 #[] true ke ke false).heap[E.ce]? = some (.chan 0 #[] false k k false) := ⟨kc, by rw [heap_setChan_ne _ _ _ _ _ _ _ (Ne.symm E.ne)]; exact hkc⟩
        obtain ⟨l1, l2, l3⟩ := laid (P := P) (g := g) (g' := g') (W := A.setChan E.ee 0 #[] true ke ke false) hlt
        obtain ⟨c1, c2⟩ := H.two.close E.endS g.frame.fn g.frame.place (by have := E.eB; have := H.hB; omega)
        refine H.mine l1 (fun x h0 hx => H.others hlt hW x h0 hx) l2 (fun op hop => .inl (ops_by _ _ _ _ op hop)) (E.ke A _ _ _ _ _ _ H.keep) hW c1 (.inr ⟨rfl, ke, heap_setChan_self _ hke _ _ _ _ _ _, c2, ?_⟩)
        exact hq
    · obtain ⟨hops, hr, hl, hd⟩ := evC_ops (i := E.s) (fn := g.frame.fn) (pos := g.frame.place) hes
      obtain ⟨l1, l2, l3⟩ := laid (P := P) (g := g) (g' := g') (W := A) hlt
      refine .inl ⟨g', _, k' + 6, runT_crowd_go (sl := sl) hg (by rw [hi0]; exact hgo), by omega, fun _ => by omega, ?_⟩
      exact H.mine l1 (fun x h0 hx => H.others hlt H.come x h0 hx) l2 (fun op hop => .inl (hops op hop)) H.keep H.come (H.two.read hops hr (hd t) fun op hop => MemAct.low_mono H.hB (hl op hop)) (.inl ⟨ke, hke, .inl ⟨k', A, rfl, hG'⟩⟩)
  · refine .inl ?_
    cases hqi : q E.s with
    | zero => rw [hqi] at hq; rw [show g.status = .finished from hq] at hrun; cases hrun
    | succ k =>
      rw [hqi] at hq
      rcases hq with hf | ⟨_, g', hstp, hq'⟩
      · rw [hf] at hrun; cases hrun
      obtain ⟨l1, l2, l3⟩ := laid (P := P) (g := g) (g' := g') (W := A) hlt
      have hno : MemOp.ofEvents E.s g.frame.fn g.frame.place #[] = #[] := by simp [MemOp.ofEvents]
      refine ⟨g', _, k, runT_crowd_go (sl := sl) hg (by rw [hi0]; exact hstp A), by omega, fun ⟨k2, h2⟩ => (by rw [hke] at h2; cases h2), ?_⟩
      rw [hno]
      exact H.mine l1 (fun x h0 hx => H.others hlt H.come x h0 hx) l2 (fun op hop => by simp at hop) H.keep H.come (by simpa using H.two) (.inr ⟨rfl, ke, hke, by simpa using hsh, hq'⟩)

/-- The sender parks: goroutine 0 offers no receive. -/
theorem sender_parks (H : SX P E vs q B t gs A) {sl : Option (Nat × Nat)} {g : Goroutine} (hg : gs[E.s]? = some g) {v : Value} {rest : List Value} (hvs : vs = v :: rest) (hat : AtS P E vs g) (he : ∃ k, A.heap[E.ee]? = some (.chan 0 #[] false k k false)) (h0 : ∀ a, gs[0]? = some a → offersAt a E.ce false = []) :
    ∃ g' ops, runT P (crowd gs A sl) E.s = (.next (crowd (gs.setIfInBounds E.s g') A sl), ops) ∧ SX P E vs (upd q E.s 0) B (t ++ ops) (gs.setIfInBounds E.s g') A := by
  have hi0 : (E.s == 0) = false := by have := E.pos; simp; omega
  have hlt := H.lt
  subst hvs
  obtain ⟨_, g₂, z, es, hes, hst, k, hk⟩ := hat
  obtain ⟨kc, hkc⟩ := H.come
  obtain ⟨ke, hke⟩ := he
  obtain ⟨hops, hr, hl, hd⟩ := evC_ops (i := E.s) (fn := g.frame.fn) (pos := g.frame.place) hes
  refine ⟨parked g₂ #[scase E.ce v z] .send, _, crowd_waits (sl := sl) hg (by rw [hi0]; exact hst A H.keep) fun cc hcc => ?_, ?_⟩
  · simp only [List.mem_toArray, List.mem_cons, List.not_mem_nil, or_false] at hcc
    subst hcc
    refine ways_send_none hkc (Nat.le_refl _) (partners_nil fun j x hx => ?_)
    rcases getElem?_stand gs E.s j x hx with ⟨_, rfl⟩ | ⟨hj, hx'⟩
    · exact offersAt_ph _ _
    · rcases Nat.eq_zero_or_pos j with rfl | hpos
      · exact h0 x hx'
      · exact H.noRecv hpos hx' _
  · exact H.mine (by simp) (fun x _ hx => Array.getElem?_setIfInBounds_ne (fun e => hx e.symm)) (Array.getElem?_setIfInBounds_self_of_lt hlt) (fun op hop => .inl (hops op hop)) H.keep H.come (H.two.read hops hr (hd t) fun op hop => MemAct.low_mono H.hB (hl op hop))
      (.inl ⟨ke, hke, .inr ⟨rfl, v, rest, g₂, z, k, rfl, rfl, hk⟩⟩)
end
end Go.Proofs.YtlanlkpamnoekaaDoor.Lk
namespace Go.Proofs.YtlanlkpamnoekaaDoor.Lk
open Go Go.Conc
open Go.ConcN (sumTo upd sumTo_upd upd_ne upd_same)
section
variable {P : Program} {E : Env} {vs : List Value} {q : Nat → Nat} {B : Nat} {t : Trace} {gs : Array Goroutine} {A : World} {Z : Nat → Prop}

theorem evA_still (hZ : E.Off Z) {e : Event} (he : EvA Z e) : ∀ b, (MemAct.ofEvent e).touch? = some b → E.Still b.loc → b.write = false := by
  intro b hb hS
  obtain ⟨loc, wr, sy⟩ := e
  obtain ⟨h1, h2, h3⟩ := he
  cases wr with
  | false =>
    cases loc with
    | mark m =>
      rcases h2 m rfl with rfl | ⟨f, rfl⟩ <;> cases hb
    | _ =>
      simp [MemAct.ofEvent, MemAct.touch?] at hb
      subst hb; rfl
  | true =>
    cases loc with
    | mark m => rcases h2 m rfl with rfl | ⟨f, rfl⟩ <;> cases hb
    | cell a =>
      simp [MemAct.ofEvent, MemAct.touch?] at hb
      subst hb
      exact absurd (hZ.cell a hS) (h1 a rfl rfl)
    | obj r =>
      cases sy with
      | true => cases hb
      | false =>
        simp [MemAct.ofEvent, MemAct.touch?] at hb
        subst hb
        exact absurd (hZ.obj r hS) (h3 r rfl rfl)
    | _ =>
      simp [MemAct.ofEvent, MemAct.touch?] at hb
      subst hb
      have := E.mem _ hS
      cases this

theorem SX.up (H : SX P E vs q B t gs A) {B' : Nat} (h : B ≤ B') : SX P E vs q B' t gs A := ⟨Nat.le_trans H.hB h, H.lt, H.keep, H.come, H.two.mono h, H.above, H.old, H.me⟩

/-- Goroutine 0's own step. -/
theorem SX.own (H : SX P E vs q B t gs A) (hZ : E.Off Z) {a a' : Goroutine} {A' : World} {es : Array Event} (h0 : gs[0]? = some a) (hev : ∀ e ∈ es, EvA Z e) (hz : ∀ i : Nat, Z i → A'.heap[i]? = A.heap[i]?) :
    ∃ B', SX P E vs q B' (t ++ MemOp.ofEvents 0 a.frame.fn a.frame.place es) ((gs.map (woken P a a' A')).setIfInBounds 0 a') A' := by
  obtain ⟨B1, hB1⟩ := low_some es
  have hlt0 : 0 < gs.size := by have := H.lt; omega
  obtain ⟨kc, hkc⟩ := H.come
  have hc' : ∃ k, A'.heap[E.ce]? = some (.chan 0 #[] false k k false) := ⟨kc, by rw [hz _ hZ.zc]; exact hkc⟩
  obtain ⟨l1, l2, l3⟩ := laid (P := P) (g := a) (g' := a') (W := A') hlt0
  have hops := ops_by 0 a.frame.fn a.frame.place es
  have ho : ∀ x, 0 < x → ((gs.map (woken P a a' A')).setIfInBounds 0 a')[x]? = gs[x]? := fun x hx => H.others hlt0 hc' x hx (by omega)
  have htwo : Two E.Still (max B B1) E.s (t ++ MemOp.ofEvents 0 a.frame.fn a.frame.place es) := by
    refine (H.two.mono (Nat.le_max_left B B1)).own hops (fun op hop b hb hS => ?_) (by rw [Deaf_own]; exact deafBehind_still (fun e he => evA_loc (hev e he)) _) fun op hop => ?_
    · obtain ⟨e, he, rfl⟩ := Go.Conc.mem_ofEvents hop
      exact evA_still hZ (hev e he) b hb hS
    · obtain ⟨e, he, rfl⟩ := Go.Conc.mem_ofEvents hop
      exact MemAct.low_mono (Nat.le_max_right B B1) (hB1 e he)
  refine ⟨max B B1, Nat.le_trans H.hB (Nat.le_max_left _ _), by rw [l1]; exact H.lt, hZ.keep A A' H.keep hz, hc', htwo, fun j hj => ?_, fun j x hj hjs hx => ?_, ?_⟩
  · rw [l1] at hj
    rw [Deaf_other t (g' := 0) (by omega) _ hops]
    exact H.above j hj
  · rw [ho j hj] at hx
    rw [Deaf_other t (by omega) _ hops]
    exact H.old j x hj hjs hx
  · obtain ⟨x, hx, hk⟩ := H.me
    refine ⟨x, by rw [ho _ E.pos]; exact hx, ?_⟩
    refine hk.imp (fun ⟨k, h1, h2⟩ => ⟨k, by rw [hz _ hZ.ze]; exact h1, h2⟩) fun ⟨h1, k, h2, h3, h4⟩ => ⟨h1, k, by rw [hz _ hZ.ze]; exact h2, h3.app fun op hop hg => ?_, h4⟩
    have := E.pos
    have := hops op hop
    omega

/-- What the others keep. -/
def QS (P : Program) (E : Env) (vs : List Value) (μ : Nat) (t : Trace) (gs : Array Goroutine) (A : World) : Prop := ∃ q B, SX P E vs q B t gs A ∧ μ = sumTo gs.size q

theorem sum_less {n i k : Nat} {q : Nat → Nat} (hi : i < n) (hk : k < q i) : sumTo n (upd q i k) < sumTo n q := by
  have h : sumTo n (upd q i k) + q i = sumTo n q + k := by
    have := sumTo_upd q k id hi
    simpa using this
  omega

theorem oth_snd (hZ : E.Off Z) : Oth P Z (fun i => i = E.ce ∨ i = E.ee) (QS P E vs) where
  awake := fun μ t gs A i g ⟨q, B, H, _⟩ hpos hi => H.awake hpos hi
  draw := fun μ t gs A d ⟨q, B, H, h⟩ => ⟨q, B, H.draw d, h⟩
  own := fun μ t gs A a a' A' es ⟨q, B, H, hμ⟩ h0 _ _ hev hz _ _ => by
    obtain ⟨B', H'⟩ := H.own hZ (a' := a') h0 hev hz
    exact ⟨q, B', H', by simpa using hμ⟩
  other := fun μ t gs A a sl i g ⟨q, B, H, hμ⟩ h0 hrun hpos hi hg => by
    have hlt : i < gs.size := (Array.getElem?_eq_some_iff.1 hi).1
    have hkeep : ∀ (g g' : Goroutine) (W : World), ((gs.map (woken P g g' W)).setIfInBounds i g')[0]? = some a := fun g g' W => by
      rw [Array.getElem?_setIfInBounds_ne (by omega), Array.getElem?_map, h0]
      simp [woken_run hrun]
    by_cases hs : i = E.s
    · subst hs
      rcases sender_step (sl := sl) H hi hg with ⟨g', ops, n, h1, h2, _, h3⟩ | ⟨g', ops, k, rfl, hk, _, _, h1, h2, h3⟩ | ⟨v, rest, rfl, hat, hq0, hk⟩
      · exact ⟨_, A, ops, _, h1, by rw [hμ]; exact sum_less hlt h2, hkeep _ _ _, by simp, fun _ h => h, fun _ _ => rfl, rfl, rfl, _, B, h3, by simp⟩
      · exact ⟨_, _, ops, _, h1, by rw [hμ]; exact sum_less (k := 4) hlt (by omega), hkeep _ _ _, by simp, fun G hG => Rel.setZ hG hZ.ze ⟨_, _, _, _, _, _, hk⟩, fun i hi => heap_setChan_ne _ _ _ _ _ _ _ (fun e => hi (.inr e.symm)), rfl, by simp [World.setChan], _, B, h3, by simp⟩
      · obtain ⟨g', ops, h1, h2⟩ := sender_parks (sl := sl) H hi rfl hat hk (fun x hx => by
          rw [h0] at hx
          obtain rfl := Option.some.inj hx
          exact offersAt_of_not_blocked (by rw [hrun]; simp) _ _)
        exact ⟨_, A, ops, _, h1, by rw [hμ]; exact sum_less hlt hq0, by rw [Array.getElem?_setIfInBounds_ne (by omega)]; exact h0, by simp, fun _ h => h, fun _ _ => rfl, rfl, rfl, _, B, h2, by simp⟩
    · obtain ⟨g', ops, n, h1, h2, h3⟩ := leaver_step (sl := sl) H hpos hs hi hg
      exact ⟨_, A, ops, _, h1, by rw [hμ]; exact sum_less hlt h2, hkeep _ _ _, by simp, fun _ h => h, fun _ _ => rfl, rfl, rfl, _, B, h3, by simp⟩

end
end Go.Proofs.YtlanlkpamnoekaaDoor.Lk
namespace Go.Proofs.YtlanlkpamnoekaaDoor.Lk
open Go Go.Conc
open Go.ConcN (sumTo upd sumTo_upd upd_ne upd_same)

def scs (E : Env) (z₁ z₂ : Value) : Array CommCase := #[rcase E.ce z₁, rcase E.ee z₂]
/-- Goroutine 0 stands at the select. -/
def AtSel (P : Program) (E : Env) (z₁ z₂ : Value) (g g₂ : Goroutine) : Prop :=
  g.status = .running ∧ g.frame = g₂.frame ∧ g.callers = g₂.callers ∧ g.dying = g₂.dying ∧ ∃ es, (∀ e ∈ es, EvC E.Still E.B e) ∧ ∀ w, E.K w → stepG P true g w = .comm g₂ (scs E z₁ z₂) true .select w es

section
variable {P : Program} {E : Env} {vs : List Value} {q : Nat → Nat} {B : Nat} {t : Trace} {gs : Array Goroutine} {A : World} {Z : Nat → Prop} {z₁ z₂ : Value} {g₂ : Goroutine}

theorem AtSel.tries {g : Goroutine} (h : AtSel P E z₁ z₂ g g₂) (cs : Array CommCase) (sh : CommShape) : AtSel P E z₁ z₂ { parked g₂ cs sh with status := .running } g₂ := by
  obtain ⟨_, h1, h2, h3, es, hes, hst⟩ := h
  exact ⟨rfl, rfl, rfl, rfl, es, hes, fun w hw => by rw [← hst w hw]; exact stepG_same h1.symm h2.symm h3.symm w⟩

/-- What the others have turned: the two channels. -/
def Held (E : Env) (A A' : World) : Prop := (∀ Z, E.Off Z → ∀ G, Rel Z G A → Rel Z G A') ∧ ∀ i : Nat, i ≠ E.ce → i ≠ E.ee → A'.heap[i]? = A.heap[i]?
theorem Held.trans {A A' A'' : World} (h : Held E A A') (k : Held E A' A'') : Held E A A'' := ⟨fun Z hZ G hG => k.1 Z hZ G (h.1 Z hZ G hG), fun i h1 h2 => (k.2 i h1 h2).trans (h.2 i h1 h2)⟩
theorem Held.setc {A A' : World} {cap0 c1 c2 cap : Nat} {cl : Bool} {buf buf' : Array Value} {cl' : Bool} {x y : Nat} {tm tm' : Bool} (h : Held E A A') (hc : A'.heap[E.ce]? = some (.chan cap0 buf cl c1 c2 tm)) : Held E A (A'.setChan E.ce cap buf' cl' x y tm') :=
  ⟨fun Z hZ G hG => Rel.setZ (h.1 Z hZ G hG) hZ.zc ⟨_, _, _, _, _, _, hc⟩, fun i h1 h2 => (heap_setChan_ne _ _ _ _ _ _ _ (fun e => h1 e.symm)).trans (h.2 i h1 h2)⟩
theorem Held.sete {A A' : World} {cap0 c1 c2 cap : Nat} {cl : Bool} {buf buf' : Array Value} {cl' : Bool} {x y : Nat} {tm tm' : Bool} (h : Held E A A') (hc : A'.heap[E.ee]? = some (.chan cap0 buf cl c1 c2 tm)) : Held E A (A'.setChan E.ee cap buf' cl' x y tm') :=
  ⟨fun Z hZ G hG => Rel.setZ (h.1 Z hZ G hG) hZ.ze ⟨_, _, _, _, _, _, hc⟩, fun i h1 h2 => (heap_setChan_ne _ _ _ _ _ _ _ (fun e => h2 e.symm)).trans (h.2 i h1 h2)⟩

/-- What becomes of the select. -/
def Served (P : Program) (E : Env) (z₁ z₂ : Value) (g₂ : Goroutine) (vs : List Value) (n : Nat) (A : World) (t' : Trace) (gs' : Array Goroutine) (A' : World) : Prop :=
  gs'.size = n ∧ A'.tape = A.tape ∧ A'.heap.size = A.heap.size ∧ Held E A A' ∧
  ((∃ v rest μ, vs = v :: rest ∧ gs'[0]? = some (Go.Conc.served g₂ (commResult (scs E z₁ z₂) .select 0 v true)) ∧ QS P E rest μ t' gs' A') ∨
   (∃ μ, vs = [] ∧ gs'[0]? = some (Go.Conc.served g₂ (commResult (scs E z₁ z₂) .select 1 z₂ false)) ∧ E.K A' ∧ QL P μ t' gs' A'))

theorem scs_other (m : Nat) (cc : CommCase) (hm : m ≠ 0) (h : (scs E z₁ z₂)[m]? = some cc) : m = 1 ∧ cc = rcase E.ee z₂ := by
  rcases m with _ | _ | m
  · exact absurd rfl hm
  · simp [scs] at h
    exact ⟨rfl, h.symm⟩
  · simp [scs] at h
theorem scs_other1 (m : Nat) (cc : CommCase) (hm : m ≠ 1) (h : (scs E z₁ z₂)[m]? = some cc) : m = 0 ∧ cc = rcase E.ce z₁ := by
  rcases m with _ | _ | m
  · simp [scs] at h
    exact ⟨rfl, h.symm⟩
  · exact absurd rfl hm
  · simp [scs] at h

/-- Who offers a send: the sender alone, at the come channel, if it is parked. -/
theorem SX.noSend (H : SX P E vs q B t gs A) {i : Nat} {g : Goroutine} (hi : 0 < i) (hg : gs[i]? = some g) (c : Nat) (hc : i = E.s → c ≠ E.ce ∨ q E.s ≠ 0 ∨ g.status ≠ .blocked) : offersAt g c true = [] := by
  have hquit : ∀ {n d : Nat} {g : Goroutine}, QuitsD P n d g → offersAt g c true = [] := fun h => offersAt_of_not_blocked (fun hb => by rcases h.status with z | z <;> rw [z] at hb <;> cases hb) c true
  by_cases e : i = E.s
  · subst e
    obtain ⟨x, hx, hk⟩ := H.me
    rw [hg] at hx
    obtain rfl := Option.some.inj hx
    rcases hk with ⟨_, _, hL⟩ | ⟨_, _, _, _, hq⟩
    · rcases hL with ⟨k, w₀, hn, hg⟩ | ⟨h0, v, rest, g₂, z, k, _, rfl, _⟩
      · exact offersAt_of_not_blocked (fun hb => by rw [goes_run H.keep hg] at hb; cases hb) c true
      · rw [offersAt_parked_send, if_neg]
        rcases hc rfl with x | x | x
        · exact fun e => x e.symm
        · exact absurd h0 x
        · exact absurd rfl x
    · exact hquit (QuitsD.of_quitsIn hq)
  · exact hquit (H.old i g hi e hg)

/-- The sender hands its value to goroutine 0: what all have become. -/
theorem SX.met (H : SX P E vs q B t gs A) {rest : List Value} {g : Goroutine} {k kc : Nat} {u : Trace} {gs' : Array Goroutine} (fs : FuncId) (ps : String) (f0 : FuncId) (p0 : String)
    (hkc : A.heap[E.ce]? = some (.chan 0 #[] false kc kc false)) (he : ∃ k, A.heap[E.ee]? = some (.chan 0 #[] false k k false)) (hgo : ∀ w, Goes P false (RK E.K) (DS E.Still E.B) (fun g _ => AtS P E rest g) k g w)
    (hsz : gs'.size = gs.size) (ho : ∀ x, 0 < x → x ≠ E.s → gs'[x]? = gs[x]?) (hme : gs'[E.s]? = some g) (hu : ∀ op ∈ u, op.g = E.s ∨ op.g = 0) (htwo : Two E.Still B E.s (t ++ u)) :
    SX P E rest (upd q E.s (k + 6)) B (t ++ (u ++ met E.s 0 fs ps f0 p0 E.ce kc 0)) gs' (A.setChan E.ce 0 #[] false (kc + 1) (kc + 1) false) := by
  obtain ⟨ke, hke⟩ := he
  refine H.mine hsz ho hme (fun op hop => ?_) (E.kc A _ _ _ _ _ _ H.keep) ⟨kc + 1, heap_setChan_self _ hkc _ _ _ _ _ _⟩ ?_ (.inl ⟨ke, by rw [heap_setChan_ne _ _ _ _ _ _ _ E.ne]; exact hke, .inl ⟨k, A, rfl, hgo A⟩⟩)
  · rcases Array.mem_append.1 hop with h | h
    · exact hu op h
    · simp only [Go.Conc.met, List.mem_toArray, List.mem_cons, List.not_mem_nil, or_false] at h
      rcases h with rfl | rfl | rfl | rfl
      · exact .inl rfl
      · exact .inr rfl
      · exact .inl rfl
      · exact .inr rfl
  · rw [← Array.append_assoc]
    exact htwo.meet E.mem fs ps f0 p0 kc 0 (by have := E.cB; have := H.hB; omega)

/-- Goroutine 0's record alone is laid anew. -/
theorem SX.zero (H : SX P E vs q B t gs A) {gs' : Array Goroutine} {fn : FuncId} {pos : String} {es : Array Event} (hes : ∀ e ∈ es, EvC E.Still E.B e) (hsz : gs'.size = gs.size) (ho : ∀ x, 0 < x → gs'[x]? = gs[x]?) :
    SX P E vs q B (t ++ MemOp.ofEvents 0 fn pos es) gs' A := by
  obtain ⟨hops, hr, hl, hd⟩ := evC_ops (i := 0) (fn := fn) (pos := pos) hes
  have hpos := E.pos
  refine ⟨H.hB, by rw [hsz]; exact H.lt, H.keep, H.come, H.two.own hops (fun op hop b hb _ => (hr op hop b hb).1) (hd t) (fun op hop => MemAct.low_mono H.hB (hl op hop)), fun j hj => ?_, fun j x hj hjs hx => ?_, ?_⟩
  · have := H.lt
    rw [Deaf_other t (g' := 0) (by omega) _ hops]
    exact H.above j (by omega)
  · rw [ho j hj] at hx
    rw [Deaf_other t (by omega) _ hops]
    exact H.old j x hj hjs hx
  · obtain ⟨x, hx, hk⟩ := H.me
    refine ⟨x, by rw [ho _ hpos]; exact hx, ?_⟩
    refine hk.imp id fun ⟨h1, k, h2, h3, h4⟩ => ⟨h1, k, h2, h3.app fun op hop hg => ?_, h4⟩
    have := hops op hop
    omega

theorem sum_pick {n : Nat} {q : Nat → Nat} {i : Nat} (hi : i < n) : q i ≤ sumTo n q := by
  have h : sumTo n (upd q i 0) + q i = sumTo n q + 0 := by
    have := sumTo_upd q 0 id hi
    simpa using this
  omega

theorem sel_go : ∀ (m : Nat) (q : Nat → Nat) (B : Nat) (t : Trace) (gs : Array Goroutine) (A : World) (sl : Option (Nat × Nat)) (a a₀ : Goroutine), SX P E vs q B t gs A → gs[0]? = some a → AtSel P E z₁ z₂ a₀ g₂ →
    ((a = a₀ ∧ m = sumTo gs.size q + 1) ∨ (a = parked g₂ (scs E z₁ z₂) .select ∧ (∃ k, A.heap[E.ee]? = some (.chan 0 #[] false k k false)) ∧ 0 < q E.s ∧ m = sumTo gs.size q)) →
    ∃ N gs' A' sl' t', runNT P N (crowd gs A sl) t = (.next (crowd gs' A' sl'), t') ∧ Served P E z₁ z₂ g₂ vs gs.size A t' gs' A' := by
  intro m
  induction m using Nat.strongRecOn with
  | _ m ih =>
  intro q B t gs A sl a a₀ H h0 hat hph
  -- a step that leads on
  have hnext : ∀ (d : Nat) (sl' sl2 : Option (Nat × Nat)) (i : Nat) (gs2 : Array Goroutine) (A2 : World) (ops : Array MemOp) (q2 : Nat → Nat) (B2 m2 : Nat) (a2 a3 : Goroutine), stepT P (crowd gs A sl) = runT P (crowd gs (A.at d) sl') i → runT P (crowd gs (A.at d) sl') i = (.next (crowd gs2 A2 sl2), ops) →
      gs2.size = gs.size → A2.tape = A.tape → A2.heap.size = A.heap.size → Held E A A2 → m2 < m → SX P E vs q2 B2 (t ++ ops) gs2 A2 → gs2[0]? = some a2 → AtSel P E z₁ z₂ a3 g₂ →
      ((a2 = a3 ∧ m2 = sumTo gs2.size q2 + 1) ∨ (a2 = parked g₂ (scs E z₁ z₂) .select ∧ (∃ k, A2.heap[E.ee]? = some (.chan 0 #[] false k k false)) ∧ 0 < q2 E.s ∧ m2 = sumTo gs2.size q2)) →
      ∃ N gs' A' sl' t', runNT P N (crowd gs A sl) t = (.next (crowd gs' A' sl'), t') ∧ Served P E z₁ z₂ g₂ vs gs.size A t' gs' A' := by
    intro d sl' sl2 i gs2 A2 ops q2 B2 m2 a2 a3 h1 h2 hsz ht hhs hrel hm H2 h02 hat2 hph2
    obtain ⟨N, gs', A', sl3, t', r1, r2, r3, r4, r5, r6⟩ := ih m2 hm q2 B2 (t ++ ops) gs2 A2 sl2 a2 a3 H2 h02 hat2 hph2
    exact ⟨N + 1, gs', A', sl3, t', by simp only [runNT, h1, h2]; exact r1, r2.trans hsz, r3.trans ht, r4.trans hhs, hrel.trans r5, r6⟩
  have hdone : ∀ (d : Nat) (sl' sl2 : Option (Nat × Nat)) (i : Nat) (gs2 : Array Goroutine) (A2 : World) (ops : Array MemOp), stepT P (crowd gs A sl) = runT P (crowd gs (A.at d) sl') i → runT P (crowd gs (A.at d) sl') i = (.next (crowd gs2 A2 sl2), ops) →
      Served P E z₁ z₂ g₂ vs gs.size A (t ++ ops) gs2 A2 → ∃ N gs' A' sl' t', runNT P N (crowd gs A sl) t = (.next (crowd gs' A' sl'), t') ∧ Served P E z₁ z₂ g₂ vs gs.size A t' gs' A' :=
    fun d sl' sl2 i gs2 A2 ops h1 h2 h3 => ⟨1, gs2, A2, sl2, t ++ ops, by simp only [runNT, h1, h2], h3⟩
  have hlt0 : 0 < gs.size := by have := H.lt; omega
  have hltS := H.lt
  have hposS := E.pos
  have hsl : ∀ {i : Nat} {g : Goroutine}, i = E.s → gs[i]? = some g → g.status = .running ∨ q E.s = 0 → True := fun _ _ _ => trivial
  have haw : ∀ g ∈ gs, Go.Conc.awake g := by
    intro g hg
    obtain ⟨i, hi, rfl⟩ := Array.mem_iff_getElem.1 hg
    rcases Nat.eq_zero_or_pos i with rfl | hpos
    · have : gs[0] = a := by simpa [Array.getElem?_eq_getElem hi] using h0
      rw [this]
      rcases hph with ⟨rfl, _⟩ | ⟨rfl, _⟩
      · exact awake_of (.inl hat.1)
      · exact awake_of (.inr (.inl rfl))
    · exact H.awake hpos (Array.getElem?_eq_getElem hi)
  have hsome : ∃ (i : Nat) (g : Goroutine), gs[i]? = some g ∧ g.status = .running := by
    rcases hph with ⟨rfl, _⟩ | ⟨rfl, ⟨ke, hke⟩, hq0, _⟩
    · exact ⟨0, _, h0, hat.1⟩
    · obtain ⟨x, hx, hk⟩ := H.me
      rcases hk with ⟨_, _, hL⟩ | ⟨_, k, hk, _⟩
      · exact ⟨E.s, x, hx, (live_status H.keep hL).elim (·.1) fun y => by omega⟩
      · rw [hke] at hk; cases hk
  obtain ⟨i, g, d, sl', hi, hg, hs⟩ := crowd_pick (P := P) (w := A) (sl := sl) haw hsome
  have Hd := H.draw d
  have hltI : i < gs.size := (Array.getElem?_eq_some_iff.1 hi).1
  -- another's mute or quiet step: goroutine 0's record stays
  have hkeep : ∀ (g g' : Goroutine) (W : World), 0 < i → (∃ k, W.heap[E.ce]? = some (.chan 0 #[] false k k false)) → (a = a₀ ∨ ∃ k, W.heap[E.ee]? = some (.chan 0 #[] false k k false)) → ((gs.map (woken P g g' W)).setIfInBounds i g')[0]? = some a := by
    intro g g' W hpos ⟨kc, hkc⟩ hor
    rw [Array.getElem?_setIfInBounds_ne (by omega), Array.getElem?_map, h0]
    simp only [Option.map_some, Option.some.injEq]
    rcases hor with rfl | ⟨ke, hke⟩
    · exact woken_run hat.1
    · rcases hph with ⟨rfl, _⟩ | ⟨rfl, _⟩
      · exact woken_run hat.1
      · refine woken_of_again (again_all_open fun cc hcc => ?_)
        simp only [scs, List.mem_toArray, List.mem_cons, List.not_mem_nil, or_false] at hcc
        rcases hcc with rfl | rfl
        · exact ⟨_, _, _, _, _, _, _, rfl, hkc⟩
        · exact ⟨_, _, _, _, _, _, _, rfl, hke⟩
  have hopen : a = a₀ ∨ ∃ k, (A.at d).heap[E.ee]? = some (.chan 0 #[] false k k false) := hph.imp (·.1) fun x => x.2.1
  have hrelAt : Held E A (A.at d) := ⟨fun Z _ G hG => hG.at d, fun _ _ _ => rfl⟩
  rcases Nat.eq_zero_or_pos i with rfl | hpos
  · -- goroutine 0
    obtain rfl : g = a := by rw [h0] at hi; exact (Option.some.inj hi).symm
    rcases hph with ⟨rfl, hm⟩ | ⟨rfl, _⟩
    rotate_left
    · cases hg
    obtain ⟨_, _, _, _, es, hes, hst⟩ := id hat
    have hst' : stepG P (0 == 0) g (A.at d) = .comm g₂ (scs E z₁ z₂) true .select (A.at d) es := hst _ Hd.keep
    obtain ⟨kc, hkc⟩ := Hd.come
    obtain ⟨x, hx, hk⟩ := Hd.me
    obtain ⟨hops, hr, hl, hd⟩ := evC_ops (i := 0) (fn := g.frame.fn) (pos := g.frame.place) hes
    have nosend : ∀ c, (∀ y, gs[E.s]? = some y → c ≠ E.ce ∨ q E.s ≠ 0 ∨ y.status ≠ .blocked) → partners (gs.setIfInBounds 0 ph) c true = [] := fun c hc => partners_nil fun j y hy => by
      rcases getElem?_stand gs 0 j y hy with ⟨_, rfl⟩ | ⟨hj, hy'⟩
      · exact offersAt_ph _ _
      · exact Hd.noSend (by omega) hy' c fun e => hc y (e ▸ hy')
    rcases hk with ⟨ke, hke, hL⟩ | ⟨rfl, ke, hke, hsh, hq⟩
    · rcases hL with ⟨k, w₀, hn, hG⟩ | ⟨hq0, v, rest, g₁, z, k, rfl, rfl, hgo⟩
      · -- it waits
        have hsum := sum_pick (q := q) hltS
        have hcw := crowd_waits (P := P) (sl := sl') (i := 0) h0 hst' fun cc hcc => (by
          simp only [scs, List.mem_toArray, List.mem_cons, List.not_mem_nil, or_false] at hcc
          rcases hcc with rfl | rfl
          · exact ways_recv_none hkc (nosend _ fun _ _ => .inr (.inl (by omega)))
          · exact ways_recv_none hke (nosend _ fun _ _ => .inr (.inl (by omega))))
        refine hnext d sl' sl' 0 _ _ _ q B (sumTo gs.size q) (parked g₂ (scs E z₁ z₂) .select) g hs hcw (by simp) rfl rfl hrelAt (by omega) (Hd.zero hes (by simp) fun x hx => Array.getElem?_setIfInBounds_ne (by omega)) (Array.getElem?_setIfInBounds_self_of_lt hlt0) hat ?_
        exact .inr ⟨rfl, ⟨ke, hke⟩, by omega, by simp⟩
      · -- it meets the sender, which is parked
        have hp : partners (gs.setIfInBounds 0 ph) E.ce true = [(E.s, 0)] := by
          have := partners_one (gs := gs.setIfInBounds 0 ph) (r := E.ce) (send := true) (stand_get (i := 0) (j := E.s) (by omega) hx) fun j y hj hy => (by
            rcases getElem?_stand gs 0 j y hy with ⟨_, rfl⟩ | ⟨hj0, hy'⟩
            · exact offersAt_ph _ _
            · exact Hd.noSend (by omega) hy' _ fun e => absurd e hj)
          rw [this, offersAt_parked_send, if_pos rfl]
          rfl
        have hcw := crowd_sel_recv_meets (P := P) (sl := sl') (i := 0) (j := E.s) (k := 0) (c := E.ce) (z := z₁) h0 hst' rfl (fun m c' hm hc' => (by
          obtain ⟨_, rfl⟩ := scs_other m c' hm hc'
          exact ways_recv_none hke (nosend _ fun _ _ => .inl (Ne.symm E.ne)))) hkc (by omega) hx hp
        refine hdone d sl' sl' 0 _ _ _ hs hcw ⟨by simp, rfl, by simp only [World.setChan, Array.size_setIfInBounds]; rfl, hrelAt.setc hkc, .inl ⟨v, rest, _, rfl, ?_, upd q E.s (k + 6), B, ?_, rfl⟩⟩
        · rw [Array.getElem?_setIfInBounds_self_of_lt (by simpa using hlt0), finishComm_served]
          rfl
        · exact Hd.met (u := MemOp.ofEvents 0 g.frame.fn g.frame.place es) g₁.frame.fn g₁.frame.place g₂.frame.fn g₂.frame.place hkc ⟨ke, hke⟩ hgo (by simp) (fun x hx hxs => by rw [Array.getElem?_setIfInBounds_ne (by omega), Array.getElem?_setIfInBounds_ne (fun e => hxs e.symm)])
            (by rw [Array.getElem?_setIfInBounds_ne (by omega), Array.getElem?_setIfInBounds_self_of_lt hltS, finishComm_send]) (fun op hop => .inr (hops op hop)) (Hd.two.own hops (fun op hop b hb _ => (hr op hop b hb).1) (hd t) fun op hop => MemAct.low_mono Hd.hB (hl op hop))
    · -- the end is closed
      have hcw := crowd_sel_recv_closed (P := P) (sl := sl') (i := 0) (k := 1) (c := E.ee) (z := z₂) h0 hst' rfl (fun m c' hm hc' => (by
          obtain ⟨_, rfl⟩ := scs_other1 m c' hm hc'
          exact ways_recv_none hkc (nosend _ fun y hy => .inr (.inr (by
            rw [hx] at hy
            obtain rfl := Option.some.inj hy
            rcases hq.status with e | e <;> rw [e] <;> simp))))) hke (nosend _ fun _ _ => .inl (Ne.symm E.ne))
      have hB : E.ee < B := by have := E.eB; have := H.hB; omega
      have htwo := Hd.two.own hops (fun op hop b hb _ => (hr op hop b hb).1) (hd t) fun op hop => MemAct.low_mono Hd.hB (hl op hop)
      have hpast := htwo.take E.mem (hsh.app fun op hop hgs => by have := hops op hop; omega) g₂.frame.fn g₂.frame.place hB
      rw [Array.append_assoc] at hpast
      have hall : ∀ op ∈ MemOp.ofEvents 0 g.frame.fn g.frame.place es ++ #[{ g := 0, fn := g₂.frame.fn, pos := g₂.frame.place, act := .recvClosed E.ee }], op.g = 0 := by
        intro op hop
        rcases Array.mem_append.1 hop with h | h
        · exact hops op h
        · simp only [List.mem_toArray, List.mem_cons, List.not_mem_nil, or_false] at h
          subst h; rfl
      refine hdone d sl' sl' 0 _ _ _ hs hcw ⟨by simp, rfl, rfl, hrelAt, .inr ⟨_, rfl, ?_, Hd.keep, q, B, ⟨fun j y hj hy => ?_, fun j hj => ?_⟩, hpast, rfl⟩⟩
      · rw [Array.getElem?_setIfInBounds_self_of_lt hlt0, finishComm_served]
        rfl
      · rw [Array.getElem?_setIfInBounds_ne (by omega)] at hy
        rw [Deaf_other t (by omega) _ hall]
        by_cases hjs : j = E.s
        · subst hjs
          rw [hx] at hy
          obtain rfl := Option.some.inj hy
          rw [H.two.hears E.s (.inr rfl)]
          exact QuitsD.of_quitsIn hq
        · exact Hd.old j y hj hjs hy
      · simp only [Array.size_setIfInBounds] at hj
        rw [Deaf_other t (g' := 0) (by omega) _ hall]
        exact Hd.above j hj
  · by_cases his : i = E.s
    · subst his
      have hi0 : (E.s == 0) = false := by simp; omega
      rcases sender_step (sl := sl') Hd hi hg with ⟨g', ops, n, h1, h2, hn0, h3⟩ | ⟨g', ops, k, rfl, hk, hmw, hst', h1, h2, h3⟩ | ⟨v, rest, rfl, hats, hq0, ke, hke⟩
      · have hsum := sum_less hltI h2
        refine hnext d sl' sl' E.s _ _ ops _ B (m - (sumTo gs.size q - sumTo gs.size (upd q E.s n))) a a₀ hs h1 (by simp) rfl rfl hrelAt ?_ h3 (hkeep _ _ _ hpos Hd.come hopen) hat ?_
        · rcases hph with ⟨_, hm⟩ | ⟨_, _, _, hm⟩ <;> omega
        · rcases hph with ⟨e, hm⟩ | ⟨e, hk, hq0, hm⟩
          · exact .inl ⟨e, by simp; omega⟩
          · exact .inr ⟨e, hk, by rw [upd_same]; exact hn0 hk, by simp; omega⟩
      · have hsum : sumTo gs.size (upd q E.s 4) + q E.s = sumTo gs.size q + 4 := by
          have := sumTo_upd q 4 id hltI
          simpa using this
        obtain ⟨kc, hkc⟩ := Hd.come
        have hkc' : ((A.at d).setChan E.ee 0 #[] true k k false).heap[E.ce]? = some (.chan 0 #[] false kc kc false) := by rw [heap_setChan_ne _ _ _ _ _ _ _ (Ne.symm E.ne)]; exact hkc
        have hrel : Held E A ((A.at d).setChan E.ee 0 #[] true k k false) := hrelAt.sete hk
        rcases hph with ⟨rfl, hm⟩ | ⟨rfl, _, _, hm⟩
        · exact hnext d sl' sl' E.s _ _ ops _ B (sumTo gs.size (upd q E.s 4) + 1) a a hs h1 (by simp) rfl (by simp only [World.setChan, Array.size_setIfInBounds]; rfl) hrel (by omega) h3 (hkeep _ _ _ hpos ⟨kc, hkc'⟩ (.inl rfl)) hat (.inl ⟨rfl, by simp⟩)
        · refine hnext d sl' sl' E.s _ _ ops _ B (sumTo gs.size (upd q E.s 4) + 1) { parked g₂ (scs E z₁ z₂) .select with status := .running } _ hs h1 (by simp) rfl (by simp only [World.setChan, Array.size_setIfInBounds]; rfl) hrel (by omega) h3 ?_ (hat.tries _ _) (.inl ⟨rfl, by simp⟩)
          rw [Array.getElem?_setIfInBounds_ne (by omega), Array.getElem?_map, h0]
          simp only [Option.map_some, Option.some.injEq]
          have : woken P g g' ((A.at d).setChan E.ee 0 #[] true k k false) (parked g₂ (scs E z₁ z₂) .select) = (parked g₂ (scs E z₁ z₂) .select).again ((A.at d).setChan E.ee 0 #[] true k k false) := by
            rcases hst' with e | e <;> simp [woken, hmw, e]
          rw [this]
          exact again_some_closed (k := 1) (c := E.ee) (z := z₂) rfl (heap_setChan_self _ hk _ _ _ _ _ _)
      · rcases hph with ⟨rfl, hm⟩ | ⟨rfl, _, _, hm⟩
        · obtain ⟨g', ops, h1, h2⟩ := sender_parks (sl := sl') Hd hi rfl hats ⟨ke, hke⟩ (fun x hx => by
            rw [h0] at hx
            obtain rfl := Option.some.inj hx
            exact offersAt_of_not_blocked (by rw [hat.1]; simp) _ _)
          have hsum := sum_less hltI hq0
          exact hnext d sl' sl' E.s _ _ ops _ B (sumTo gs.size (upd q E.s 0) + 1) a a hs h1 (by simp) rfl rfl hrelAt (by omega) h2 (by rw [Array.getElem?_setIfInBounds_ne (by omega)]; exact h0) hat (.inl ⟨rfl, by simp⟩)
        · obtain ⟨_, g₁, z, es, hes, hst, k, hgo⟩ := hats
          obtain ⟨kc, hkc⟩ := Hd.come
          obtain ⟨hops, hr, hl, hd⟩ := evC_ops (i := E.s) (fn := g.frame.fn) (pos := g.frame.place) hes
          have hp : partners (gs.setIfInBounds E.s ph) E.ce false = [(0, 0)] := by
            have := partners_one (gs := gs.setIfInBounds E.s ph) (r := E.ce) (send := false) (stand_get (i := E.s) (j := 0) (by omega) h0) fun j y hj hy => (by
              rcases getElem?_stand gs E.s j y hy with ⟨_, rfl⟩ | ⟨hj0, hy'⟩
              · exact offersAt_ph _ _
              · exact Hd.noRecv (by omega) hy' _)
            rw [this, offersAt_parked_at (k := 0) (z := z₁) rfl fun m cc hm hc => (by
              obtain ⟨_, rfl⟩ := scs_other m cc hm hc
              simp only [rcase, ne_eq, Value.chan.injEq, Option.some.injEq]
              exact Ne.symm E.ne)]
            rfl
          have hcw := crowd_send_meets_sel (P := P) (sl := sl') (i := E.s) (j := 0) (k := 0) (c := E.ce) hi (by rw [hi0]; exact hst _ Hd.keep) hkc (by omega) h0 (by rfl) hp
          refine hdone d sl' sl' E.s _ _ _ hs hcw ⟨by simp, rfl, by simp only [World.setChan, Array.size_setIfInBounds]; rfl, hrelAt.setc hkc, .inl ⟨v, rest, _, rfl, ?_, upd q E.s (k + 6), B, ?_, rfl⟩⟩
          · rw [Array.getElem?_setIfInBounds_ne (by omega), Array.getElem?_setIfInBounds_self_of_lt hlt0, finishComm_served]
            rfl
          · exact Hd.met (u := MemOp.ofEvents E.s g.frame.fn g.frame.place es) g₁.frame.fn g₁.frame.place g₂.frame.fn g₂.frame.place hkc ⟨ke, hke⟩ hgo (by simp) (fun x hx hxs => by rw [Array.getElem?_setIfInBounds_ne (fun e => hxs e.symm), Array.getElem?_setIfInBounds_ne (by omega)])
              (by rw [Array.getElem?_setIfInBounds_self_of_lt (by simpa using hltS), finishComm_send]) (fun op hop => .inl (hops op hop)) (Hd.two.read hops hr (hd t) fun op hop => MemAct.low_mono Hd.hB (hl op hop))
    · obtain ⟨g', ops, n, h1, h2, h3⟩ := leaver_step (sl := sl') Hd hpos his hi hg
      have hsum := sum_less hltI h2
      refine hnext d sl' sl' i _ _ ops _ B (m - (sumTo gs.size q - sumTo gs.size (upd q i n))) a a₀ hs h1 (by simp) rfl rfl hrelAt ?_ h3 (hkeep _ _ _ hpos Hd.come hopen) hat ?_
      · rcases hph with ⟨_, hm⟩ | ⟨_, _, _, hm⟩ <;> omega
      · rcases hph with ⟨e, hm⟩ | ⟨e, hk, hq0, hm⟩
        · exact .inl ⟨e, by simp; omega⟩
        · exact .inr ⟨e, hk, by rw [upd_ne q n (fun e => his e.symm)]; exact hq0, by simp; omega⟩
end
end Go.Proofs.YtlanlkpamnoekaaDoor.Lk
namespace Go.Proofs.YtlanlkpamnoekaaDoor.Lk
open Go Go.Conc
open Go.ConcN (sumTo upd sumTo_upd upd_ne upd_same)
section
variable {P : Program} {E : Env} {Z : Nat → Prop} {Q : Nat → Trace → Array Goroutine → World → Prop}

/-- Goroutine 0 stands at the go statement; those that were there only leave. -/
theorem hires {μ : Nat} {t : Trace} {gs : Array Goroutine} {A : World} {sl : Option (Nat × Nat)} {a a' child : Goroutine} {vs : List Value} {k : Nat} (hpos : E.s = gs.size) (hQ : QL P μ t gs A) (h0 : gs[0]? = some a) (hrun : a.status = .running)
    (hst : ∀ d, stepG P true a (A.at d) = .spawn a' child (A.at d) #[]) (hc : ∃ k, A.heap[E.ce]? = some (.chan 0 #[] false k k false)) (he : ∃ k, A.heap[E.ee]? = some (.chan 0 #[] false k k false)) (hK : E.K A)
    (hgo : ∀ w, Goes P false (RK E.K) (DS E.Still E.B) (fun g _ => AtS P E vs g) k child w) :
    ∃ (N : Nat) (gs' : Array Goroutine) (sl' : Option (Nat × Nat)) (t' : Trace) (μ' d : Nat), runNT P N (crowd gs A sl) t = (.next (crowd gs' (A.at d) sl'), t') ∧ gs'[0]? = some a' ∧ gs'.size = gs.size + 1 ∧ QS P E vs μ' t' gs' (A.at d) := by
  obtain ⟨N, gs1, d0, sl1, sl2, t1, q, B, d, r1, r2, r3, r4, hL, hP⟩ : ∃ (N : Nat) (gs1 : Array Goroutine) (d0 : Nat) (sl1 sl2 : Option (Nat × Nat)) (t1 : Trace) (q : Nat → Nat) (B d : Nat), runNT P N (crowd gs A sl) t = (.next (crowd gs1 (A.at d0) sl1), t1) ∧
      stepT P (crowd gs1 (A.at d0) sl1) = runT P (crowd gs1 (A.at d) sl2) 0 ∧ gs1[0]? = some a ∧ gs1.size = gs.size ∧ Leavers P t1 gs1 q ∧ Past (fun _ => False) B t1 := by
    have key : ∀ (μ : Nat) (t : Trace) (gs : Array Goroutine) (d : Nat) (sl : Option (Nat × Nat)), QL P μ t gs A → gs[0]? = some a → ∃ (N : Nat) (gs1 : Array Goroutine) (d0 : Nat) (sl1 sl2 : Option (Nat × Nat)) (t1 : Trace) (q : Nat → Nat) (B d2 : Nat), runNT P N (crowd gs (A.at d) sl) t = (.next (crowd gs1 (A.at d0) sl1), t1) ∧
      stepT P (crowd gs1 (A.at d0) sl1) = runT P (crowd gs1 (A.at d2) sl2) 0 ∧ gs1[0]? = some a ∧ gs1.size = gs.size ∧ Leavers P t1 gs1 q ∧ Past (fun _ => False) B t1 := by
      intro μ
      induction μ using Nat.strongRecOn with
      | _ μ ih =>
      intro t gs d sl hQ h0
      have O : Oth P (fun _ => False) (fun _ => False) (QL P) := oth_leavers
      have haw : ∀ g ∈ gs, Go.Conc.awake g := by
        intro g hg
        obtain ⟨i, hi, rfl⟩ := Array.mem_iff_getElem.1 hg
        rcases Nat.eq_zero_or_pos i with rfl | hpos
        · have : gs[0] = a := by simpa [Array.getElem?_eq_getElem hi] using h0
          rw [this]; exact awake_of (.inl hrun)
        · exact O.awake μ t gs A i _ hQ hpos (Array.getElem?_eq_getElem hi)
      obtain ⟨i, g, d2, sl', hi, hg, hs⟩ := crowd_pick (P := P) (w := A.at d) (sl := sl) haw ⟨0, _, h0, hrun⟩
      rcases Nat.eq_zero_or_pos i with rfl | hpos
      · obtain ⟨q, B, hL, hP, _⟩ := hQ
        exact ⟨0, gs, d, sl, sl', t, q, B, d2, rfl, hs, h0, rfl, hL, hP⟩
      · obtain ⟨q, B, hL, hP, hμ⟩ := hQ
        have hq := hL.old i g hpos hi
        have hi0 : (i == 0) = false := by simp; omega
        have hlt : i < gs.size := (Array.getElem?_eq_some_iff.1 hi).1
        cases hqi : q i with
        | zero => rw [hqi] at hq; rw [hq.1] at hg; cases hg
        | succ k =>
          have hq0 := hq
          rw [hqi] at hq
          rcases hq with ⟨hf, _⟩ | ⟨_, g', es, hm, hstp, hq'⟩
          · rw [hf] at hg; cases hg
          have hrunT := runT_crowd_go (P := P) (gs := gs) (sl := sl') (i := i) hi (by rw [hi0]; exact hstp (A.at d2))
          have hlt' : sumTo gs.size (upd q i k) < μ := by rw [hμ]; exact sum_less hlt (by omega)
          obtain ⟨l1, l2, l3⟩ := laid (P := P) (g := g) (g' := g') (W := A.at d2) hlt
          have hL2 : Leavers P (t ++ MemOp.ofEvents i g.frame.fn g.frame.place es) ((gs.map (woken P g g' (A.at d2))).setIfInBounds i g') (upd q i k) := by
            refine ⟨fun j x hj hx => ?_, fun j hj => ?_⟩
            · by_cases hji : j = i
              · subst hji
                rw [l2] at hx
                obtain rfl := Option.some.inj hx
                rw [upd_same, Deaf_own]
                exact hq'
              · rw [Array.getElem?_setIfInBounds_ne (fun e => hji e.symm), Array.getElem?_map] at hx
                obtain ⟨y, hy, rfl⟩ := Option.map_eq_some_iff.1 hx
                have hqj := hL.old j y hj hy
                rw [woken_quitsD hqj, upd_ne q k hji, Deaf_other t (fun e => hji e.symm) _ (ops_by _ _ _ _)]
                exact hqj
            · rw [l1] at hj
              rw [Deaf_other t (g' := i) (by omega) _ (ops_by _ _ _ _)]
              exact hL.above j hj
          obtain ⟨N, gs2, d3, sl2, sl3, t2, q2, B2, d4, r1, r2, r3, r4, r5, r6⟩ := ih _ hlt' (t ++ MemOp.ofEvents i g.frame.fn g.frame.place es) ((gs.map (woken P g g' (A.at d2))).setIfInBounds i g') d2 sl' ⟨upd q i k, B, hL2, hP.mute (by omega) hm, by rw [l1]⟩ (by rw [l3 0 a (by omega) h0, woken_run hrun])
          exact ⟨N + 1, gs2, d3, sl2, sl3, t2, q2, B2, d4, by simp only [runNT, hs]; rw [show (A.at d).at d2 = A.at d2 from rfl, hrunT]; exact r1, r2, r3, r4.trans l1, r5, r6⟩
    exact key μ t gs A.drawn sl hQ h0
  have hlt : 0 < gs1.size := (Array.getElem?_eq_some_iff.1 r3).1
  have hsp := runT_crowd_spawn (P := P) (sl := sl2) (i := 0) r3 (show stepG P (0 == 0) a (A.at d) = _ from hst d)
  have hops : MemOp.ofEvents 0 a.frame.fn a.frame.place #[] = #[] := by simp [MemOp.ofEvents]
  rw [hops] at hsp
  have hs : E.s = gs1.size := by omega
  refine ⟨N + 1, (gs1.setIfInBounds 0 a').push child, sl2, t1 ++ #[{ g := 0, fn := a.frame.fn, pos := a.frame.place, act := .go gs1.size }, { g := gs1.size, fn := child.frame.fn, pos := a.frame.place, act := .start }], _, d, ?_, ?_, by simp [r4], upd q E.s (k + 6), max B E.B, ?_, rfl⟩
  · rw [runNT_add, r1]
    simp only [runNT, r2, hsp]
    rfl
  · rw [Array.getElem?_push, if_neg (by simp; omega), Array.getElem?_setIfInBounds_self_of_lt hlt]
  have hold : ∀ x, 0 < x → x ≠ E.s → ((gs1.setIfInBounds 0 a').push child)[x]? = gs1[x]? := by
    intro x hx hxs
    rw [Array.getElem?_push]
    rw [if_neg (by simp; omega), Array.getElem?_setIfInBounds_ne (by omega)]
  have hgs : ∀ op ∈ (#[{ g := 0, fn := a.frame.fn, pos := a.frame.place, act := .go gs1.size }, { g := gs1.size, fn := child.frame.fn, pos := a.frame.place, act := .start }] : Trace), ∀ j, ∀ d, deafStep j d op = d := by
    intro op hop j d
    simp only [List.mem_toArray, List.mem_cons, List.not_mem_nil, or_false] at hop
    rcases hop with rfl | rfl <;> rfl
  have hdf : ∀ j, Deaf (t1 ++ #[{ g := 0, fn := a.frame.fn, pos := a.frame.place, act := .go gs1.size }, { g := gs1.size, fn := child.frame.fn, pos := a.frame.place, act := .start }]) j = Deaf t1 j := fun j => Deaf_quiet fun op hop => hgs op hop j
  obtain ⟨kc, hkc⟩ := hc
  obtain ⟨ke, hke⟩ := he
  refine ⟨Nat.le_max_right _ _, by simp; omega, E.kat A d hK, ⟨kc, hkc⟩, ?_, fun j hj => ?_, fun j x hj hjs hx => ?_, child, ?_, .inl ⟨ke, hke, .inl ⟨k, A, by rw [upd_same], hgo A⟩⟩⟩
  · have h1 := Two.hire (Still := E.Still) (s := gs1.size) (hP.mono (Nat.le_max_left B E.B)) E.mem (hL.above _ (Nat.le_refl _)) a.frame.fn a.frame.place child.frame.fn
    rw [hs]; exact h1
  · rw [hdf]
    exact hL.above j (by simp at hj; omega)
  · rw [hold j hj hjs] at hx
    rw [hdf, upd_ne q _ hjs]
    exact hL.old j x hj hx
  · rw [hs, Array.getElem?_push]
    simp
end
end Go.Proofs.YtlanlkpamnoekaaDoor.Lk
namespace Go.Proofs.YtlanlkpamnoekaaDoor.Lk
open Go Go.Conc
section
variable {P : Program} {Z : Nat → Prop} {q : Prop} {C : Code → Prop}

/-! ### a world laid bare -/
def isCells : Obj → Prop
  | .cells .. => True
  | _ => False
/-- The blocks of Y that are cells, and all that is harmful. -/
def Zset (Y : Nat → Prop) (A : World) (i : Nat) : Prop := ∃ o, A.heap[i]? = some o ∧ (Odd o ∨ (Y i ∧ isCells o))
def bareObj : Obj → Obj
  | .cells _ t f => .cells #[] t f
  | _ => .coro none
/-- A row is iced, whatever is no row laid bare. -/
def iceObj : Obj → Obj
  | .cells c t _ => iced c t
  | _ => .coro none
open Classical in
noncomputable def scrub (Z : Nat → Prop) (A : World) : World := { A with heap := A.heap.mapIdx fun i o => if Z i then iceObj o else o }
theorem scrub_get (Z : Nat → Prop) (A : World) (i : Nat) (o : Obj) (h : A.heap[i]? = some o) : ((Z i → (scrub Z A).heap[i]? = some (iceObj o)) ∧ (¬ Z i → (scrub Z A).heap[i]? = some o)) := by
  unfold scrub
  constructor <;> intro hz <;> simp [Array.getElem?_mapIdx, h, hz]
theorem scrub_none (Z : Nat → Prop) (A : World) (i : Nat) (h : A.heap[i]? = none) : (scrub Z A).heap[i]? = none := by
  unfold scrub; simp [Array.getElem?_mapIdx, h]
theorem scrub_off (Z : Nat → Prop) (A : World) (i : Nat) (h : ¬ Z i) : (scrub Z A).heap[i]? = A.heap[i]? := by
  cases ha : A.heap[i]? with
  | none => exact scrub_none Z A i ha
  | some o => exact (scrub_get Z A i o ha).2 h
theorem scrub_inv (Y : Nat → Prop) (A : World) : Inv False (Zset Y A) C (scrub (Zset Y A) A) := by
  refine ⟨fun i o ho => ?_, fun i hi => ?_⟩
  · cases ha : A.heap[i]? with
    | none => rw [scrub_none _ _ _ ha] at ho; cases ho
    | some x =>
      by_cases hz : Zset Y A i
      · rw [(scrub_get _ A i x ha).1 hz] at ho
        obtain rfl := Option.some.inj ho
        cases x <;> trivial
      · rw [(scrub_get _ A i x ha).2 hz] at ho
        obtain rfl := Option.some.inj ho
        have : ¬ Odd x := fun h => hz ⟨x, ha, .inl h⟩
        cases x <;> first | trivial | exact absurd trivial this
  · obtain ⟨o, ho, hk⟩ := hi
    have h := (scrub_get (Zset Y A) A i o ho).1 ⟨o, ho, hk⟩
    cases o <;> first | exact .inr (.inr ⟨_, _, h⟩) | exact .inr (.inl h)
theorem scrub_rel (Y : Nat → Prop) (A : World) : Rel (Zset Y A) (scrub (Zset Y A) A) A := by
  refine ⟨by simp [scrub], fun i hi => (scrub_off _ A i hi).symm, fun i hi => ?_, rfl, rfl⟩
  obtain ⟨o, ho, hk⟩ := hi
  have h := (scrub_get (Zset Y A) A i o ho).1 ⟨o, ho, hk⟩
  have hodd : ¬ isCells o → Odd o := fun hn => hk.elim id fun x => absurd x.2 hn
  cases o with
  | cells c t f => exact .inr (.inr ⟨c, t, f, h, ho⟩)
  | _ => exact .inr (.inl ⟨_, h, ho, hodd id⟩)
/-- A cell reads the same there. -/
theorem scrub_cell {Z : Nat → Prop} {A : World} {a : Addr} {v : Value} (hc : A.cell? a = some v) : (scrub Z A).cell? a = some v := by
  unfold World.cell? at hc ⊢
  cases ho : A.heap[a.block]? with
  | none => rw [ho] at hc; cases hc
  | some o =>
    rw [ho] at hc
    by_cases hz : Z a.block
    · rw [(scrub_get Z A _ o ho).1 hz]
      cases o <;> first | exact hc | (simp at hc)
    · rw [(scrub_get Z A _ o ho).2 hz]; exact hc

/-! ### functions without a body -/
theorem call_body {f : FuncId} {fn : Func} (hfn : P.funcs[f]? = some fn) (hb : fn.body.isSome = true) (hn : fn.name ≠ "runtime.NumGoroutine") (args : Array Value) : Meek P q Z C (NN C) (callFunc f args) := by
  unfold callFunc
  refine Meek.bind Meek.program fun p hp => ?_
  subst hp
  rw [hfn]
  dsimp only
  rw [if_neg (by simpa using hn), if_neg (by cases h : fn.body <;> simp_all)]
  exact Meek.pure trivial
theorem call_none {f : FuncId} (hfn : P.funcs[f]? = none) (args : Array Value) : Meek P q Z C (NN C) (callFunc f args) := by
  unfold callFunc
  refine Meek.bind Meek.program fun p hp => ?_
  subst hp
  rw [hfn]
  exact Meek.stuck
theorem call_extern {f : FuncId} {fn : Func} (hfn : P.funcs[f]? = some fn) (hb : fn.body = none) (hn : fn.name ≠ "runtime.NumGoroutine") (hx : Extern.findNext fn = none) (hf : ∀ e, Extern.find fn = some e → ∀ args, Meek P q Z C (fun _ => True) (e args)) (args : Array Value) :
    Meek P q Z C (NN C) (callFunc f args) := by
  unfold callFunc
  refine Meek.bind Meek.program fun p hp => ?_
  subst hp
  rw [hfn]
  dsimp only
  rw [if_neg (by simpa using hn), if_pos (by rw [hb]; rfl)]
  refine Meek.bind (Meek.mark _ (.inr ⟨f, rfl⟩)) fun _ _ => ?_
  rw [hx]
  dsimp only
  cases he : Extern.find fn with
  | some e => exact Meek.bind (hf e he args) fun _ _ => Meek.pure trivial
  | none =>
    dsimp only
    refine Meek.ite (fun _ => Meek.pure trivial) (fun _ => Meek.unsup (fun g h => by cases h))

theorem meek_text (s : String) : Meek P q Z C (fun _ => True) (Extern.RuntimeError.text s) := Meek.pure trivial
theorem meek_described (v) : Meek P q Z C (fun _ => True) (Extern.RuntimeError.described v) := by
  unfold Extern.RuntimeError.described
  repeat' first
    | with_reducible exact Meek.pure trivial
    | with_reducible exact Meek.stuck
    | with_reducible exact Meek.goPanic
    | with_reducible exact Meek.unsup (fun g h => by cases h)
    | with_reducible exact Meek.runtimePanic _
    | with_reducible exact Meek.boundsPanic _ _ _ _
    | with_reducible exact Meek.noRoom
    | with_reducible exact (Meek.choose _).any
    | with_reducible exact (Meek.load _ _).any
    | with_reducible exact (Meek.store _ _ _).any
    | with_reducible exact (meek_typeInfo _).any
    | with_reducible exact (meek_underlying _).any
    | with_reducible exact (meek_typeStr _).any
    | with_reducible exact (meek_zeroValue _).any
    | with_reducible exact (meek_sizeOf _).any
    | with_reducible exact (meek_isAgg _).any
    | with_reducible exact (meek_loadCells _ _).any
    | with_reducible exact (meek_storeCells _ _ _).any
    | with_reducible exact (meek_loadVar _ _).any
    | with_reducible exact (meek_storeVar _ _ _).any
    | with_reducible exact (meek_newRow _ _).any
    | with_reducible exact (meek_newVar _ _).any
    | with_reducible exact (meek_elemOf _).any
    | with_reducible exact (meek_part _ _ _).any
    | with_reducible exact (meek_asIntOf _).any
    | with_reducible exact (meek_asInt _).any
    | with_reducible exact (meek_asBool _).any
    | with_reducible exact (meek_asString _).any
    | with_reducible exact (meek_asAgg _).any
    | with_reducible exact (meek_asAddr _).any
    | with_reducible exact (meek_askRoom _).any
    | with_reducible exact (meek_behind _).any
    | with_reducible exact (meek_asNumber _ _).any
    | with_reducible exact (meek_noView _).any
    | with_reducible exact (meek_byteOf _).any
    | with_reducible exact (meek_fieldPlace _ _).any
    | with_reducible exact (Meek.viewAt _).any
    | with_reducible exact (Meek.numberAt _).any
    | with_reducible exact (Meek.program).any
    | with_reducible refine Meek.bind (N := fun _ => True) ?_ fun _ _ => ?_
    | with_reducible refine Meek.ite (fun _ => ?_) (fun _ => ?_)
    | split
    | dsimp only
theorem meek_pkgpathOf (i) : Meek P q Z C (fun _ => True) (Extern.RuntimeError.pkgpathOf i) := by
  unfold Extern.RuntimeError.pkgpathOf
  repeat' first
    | with_reducible exact Meek.pure trivial
    | with_reducible exact Meek.stuck
    | with_reducible exact Meek.goPanic
    | with_reducible exact Meek.unsup (fun g h => by cases h)
    | with_reducible exact Meek.runtimePanic _
    | with_reducible exact Meek.boundsPanic _ _ _ _
    | with_reducible exact Meek.noRoom
    | with_reducible exact (Meek.choose _).any
    | with_reducible exact (Meek.load _ _).any
    | with_reducible exact (Meek.store _ _ _).any
    | with_reducible exact (meek_typeInfo _).any
    | with_reducible exact (meek_underlying _).any
    | with_reducible exact (meek_typeStr _).any
    | with_reducible exact (meek_zeroValue _).any
    | with_reducible exact (meek_sizeOf _).any
    | with_reducible exact (meek_isAgg _).any
    | with_reducible exact (meek_loadCells _ _).any
    | with_reducible exact (meek_storeCells _ _ _).any
    | with_reducible exact (meek_loadVar _ _).any
    | with_reducible exact (meek_storeVar _ _ _).any
    | with_reducible exact (meek_newRow _ _).any
    | with_reducible exact (meek_newVar _ _).any
    | with_reducible exact (meek_elemOf _).any
    | with_reducible exact (meek_part _ _ _).any
    | with_reducible exact (meek_asIntOf _).any
    | with_reducible exact (meek_asInt _).any
    | with_reducible exact (meek_asBool _).any
    | with_reducible exact (meek_asString _).any
    | with_reducible exact (meek_asAgg _).any
    | with_reducible exact (meek_asAddr _).any
    | with_reducible exact (meek_askRoom _).any
    | with_reducible exact (meek_behind _).any
    | with_reducible exact (meek_asNumber _ _).any
    | with_reducible exact (meek_noView _).any
    | with_reducible exact (meek_byteOf _).any
    | with_reducible exact (meek_fieldPlace _ _).any
    | with_reducible exact (Meek.viewAt _).any
    | with_reducible exact (Meek.numberAt _).any
    | with_reducible exact (Meek.program).any
    | with_reducible refine Meek.bind (N := fun _ => True) ?_ fun _ _ => ?_
    | with_reducible refine Meek.ite (fun _ => ?_) (fun _ => ?_)
    | split
    | dsimp only
theorem meek_typeAssertionError (a) : Meek P q Z C (fun _ => True) (Extern.RuntimeError.typeAssertionError a) := by
  unfold Extern.RuntimeError.typeAssertionError
  repeat' first
    | with_reducible exact Meek.pure trivial
    | with_reducible exact Meek.stuck
    | with_reducible exact Meek.goPanic
    | with_reducible exact Meek.unsup (fun g h => by cases h)
    | with_reducible exact Meek.runtimePanic _
    | with_reducible exact Meek.boundsPanic _ _ _ _
    | with_reducible exact (meek_described _).any
    | with_reducible exact (meek_text _).any
    | with_reducible exact (meek_pkgpathOf _).any
    | with_reducible exact Meek.noRoom
    | with_reducible exact (Meek.choose _).any
    | with_reducible exact (Meek.load _ _).any
    | with_reducible exact (Meek.store _ _ _).any
    | with_reducible exact (meek_typeInfo _).any
    | with_reducible exact (meek_underlying _).any
    | with_reducible exact (meek_typeStr _).any
    | with_reducible exact (meek_zeroValue _).any
    | with_reducible exact (meek_sizeOf _).any
    | with_reducible exact (meek_isAgg _).any
    | with_reducible exact (meek_loadCells _ _).any
    | with_reducible exact (meek_storeCells _ _ _).any
    | with_reducible exact (meek_loadVar _ _).any
    | with_reducible exact (meek_storeVar _ _ _).any
    | with_reducible exact (meek_newRow _ _).any
    | with_reducible exact (meek_newVar _ _).any
    | with_reducible exact (meek_elemOf _).any
    | with_reducible exact (meek_part _ _ _).any
    | with_reducible exact (meek_asIntOf _).any
    | with_reducible exact (meek_asInt _).any
    | with_reducible exact (meek_asBool _).any
    | with_reducible exact (meek_asString _).any
    | with_reducible exact (meek_asAgg _).any
    | with_reducible exact (meek_asAddr _).any
    | with_reducible exact (meek_askRoom _).any
    | with_reducible exact (meek_behind _).any
    | with_reducible exact (meek_asNumber _ _).any
    | with_reducible exact (meek_noView _).any
    | with_reducible exact (meek_byteOf _).any
    | with_reducible exact (meek_fieldPlace _ _).any
    | with_reducible exact (Meek.viewAt _).any
    | with_reducible exact (Meek.numberAt _).any
    | with_reducible exact (Meek.program).any
    | with_reducible refine Meek.bind (N := fun _ => True) ?_ fun _ _ => ?_
    | with_reducible refine Meek.ite (fun _ => ?_) (fun _ => ?_)
    | split
    | dsimp only
theorem meek_boundsError (a) : Meek P q Z C (fun _ => True) (Extern.RuntimeError.boundsError a) := by
  unfold Extern.RuntimeError.boundsError
  have st : Meek P q Z C (fun _ => True) (stuck "boundsError expected" : Sem Value) := Meek.stuck
  obtain ⟨l⟩ := a
  rcases l with _ | ⟨v, _ | ⟨v2, r⟩⟩
  · exact st
  · cases v with
    | agg cs =>
      obtain ⟨cl⟩ := cs
      rcases cl with _ | ⟨a, _ | ⟨b, _ | ⟨c, _ | ⟨d, _ | ⟨e, r⟩⟩⟩⟩⟩ <;> (try exact st)
      cases a <;> (try exact st)
      cases b <;> (try exact st)
      cases c <;> (try exact st)
      cases d <;> (try exact st)
      rename_i k1 x k2 y sg k3 code
      have e : Extern.RuntimeError.boundsError #[.agg #[.int k1 x, .int k2 y, .bool sg, .int k3 code]] = Extern.RuntimeError.boundsError #[.agg #[.int k1 x, .int k2 y, .bool sg, .int k3 code]] := rfl
      conv at e => lhs; delta Extern.RuntimeError.boundsError; whnf
      show Meek P q Z C (fun _ => True) (Extern.RuntimeError.boundsError #[.agg #[.int k1 x, .int k2 y, .bool sg, .int k3 code]])
      rw [← e]
      split
      · exact meek_text _
      · exact Meek.stuck
    | _ => exact st
  · exact st
theorem meek_unhashable (a) : Meek P q Z C (fun _ => True) (Extern.RuntimeError.unhashableTypeError a) := by
  unfold Extern.RuntimeError.unhashableTypeError
  have st : Meek P q Z C (fun _ => True) (stuck "unhashableTypeError expected" : Sem Value) := Meek.stuck
  obtain ⟨l⟩ := a
  rcases l with _ | ⟨v, _ | ⟨v2, r⟩⟩
  · exact st
  · cases v with
    | agg cs =>
      obtain ⟨cl⟩ := cs
      rcases cl with _ | ⟨t, _ | ⟨b, r⟩⟩
      · exact st
      · refine Meek.bind (s := Extern.RuntimeError.described t) (meek_described t) fun x _ => ?_
        split
        · exact meek_text _
        · exact Meek.runtimePanic _
      · exact st
    | _ => exact st
  · exact st
theorem meek_errorRows : ∀ r ∈ Extern.RuntimeError.rows, ∀ args, Meek P q Z C (fun _ => True) (r.2 args) := by
  intro r hr args
  simp only [Extern.RuntimeError.rows, List.mem_cons, List.not_mem_nil, or_false] at hr
  rcases hr with rfl | rfl | rfl | rfl | rfl | rfl | rfl | rfl | rfl | rfl | rfl | rfl | rfl | rfl | rfl <;> dsimp only
  · repeat' first
      | with_reducible exact Meek.pure trivial
      | with_reducible exact Meek.stuck
      | with_reducible exact Meek.goPanic
      | with_reducible exact Meek.unsup (fun g h => by cases h)
      | with_reducible exact Meek.runtimePanic _
      | with_reducible exact Meek.boundsPanic _ _ _ _
      | with_reducible exact Meek.noRoom
      | with_reducible exact (Meek.choose _).any
      | with_reducible exact (Meek.load _ _).any
      | with_reducible exact (Meek.store _ _ _).any
      | with_reducible exact (meek_typeInfo _).any
      | with_reducible exact (meek_underlying _).any
      | with_reducible exact (meek_typeStr _).any
      | with_reducible exact (meek_zeroValue _).any
      | with_reducible exact (meek_sizeOf _).any
      | with_reducible exact (meek_isAgg _).any
      | with_reducible exact (meek_loadCells _ _).any
      | with_reducible exact (meek_storeCells _ _ _).any
      | with_reducible exact (meek_loadVar _ _).any
      | with_reducible exact (meek_storeVar _ _ _).any
      | with_reducible exact (meek_newRow _ _).any
      | with_reducible exact (meek_newVar _ _).any
      | with_reducible exact (meek_elemOf _).any
      | with_reducible exact (meek_part _ _ _).any
      | with_reducible exact (meek_asIntOf _).any
      | with_reducible exact (meek_asInt _).any
      | with_reducible exact (meek_asBool _).any
      | with_reducible exact (meek_asString _).any
      | with_reducible exact (meek_asAgg _).any
      | with_reducible exact (meek_asAddr _).any
      | with_reducible exact (meek_askRoom _).any
      | with_reducible exact (meek_behind _).any
      | with_reducible exact (meek_asNumber _ _).any
      | with_reducible exact (meek_noView _).any
      | with_reducible exact (meek_byteOf _).any
      | with_reducible exact (meek_fieldPlace _ _).any
      | with_reducible exact (Meek.viewAt _).any
      | with_reducible exact (Meek.numberAt _).any
      | with_reducible exact (Meek.program).any
      | with_reducible refine Meek.bind (N := fun _ => True) ?_ fun _ _ => ?_
      | with_reducible refine Meek.ite (fun _ => ?_) (fun _ => ?_)
      | split
      | dsimp only
  · repeat' first
      | with_reducible exact Meek.pure trivial
      | with_reducible exact Meek.stuck
      | with_reducible exact Meek.goPanic
      | with_reducible exact Meek.unsup (fun g h => by cases h)
      | with_reducible exact Meek.runtimePanic _
      | with_reducible exact Meek.boundsPanic _ _ _ _
      | with_reducible exact Meek.noRoom
      | with_reducible exact (Meek.choose _).any
      | with_reducible exact (Meek.load _ _).any
      | with_reducible exact (Meek.store _ _ _).any
      | with_reducible exact (meek_typeInfo _).any
      | with_reducible exact (meek_underlying _).any
      | with_reducible exact (meek_typeStr _).any
      | with_reducible exact (meek_zeroValue _).any
      | with_reducible exact (meek_sizeOf _).any
      | with_reducible exact (meek_isAgg _).any
      | with_reducible exact (meek_loadCells _ _).any
      | with_reducible exact (meek_storeCells _ _ _).any
      | with_reducible exact (meek_loadVar _ _).any
      | with_reducible exact (meek_storeVar _ _ _).any
      | with_reducible exact (meek_newRow _ _).any
      | with_reducible exact (meek_newVar _ _).any
      | with_reducible exact (meek_elemOf _).any
      | with_reducible exact (meek_part _ _ _).any
      | with_reducible exact (meek_asIntOf _).any
      | with_reducible exact (meek_asInt _).any
      | with_reducible exact (meek_asBool _).any
      | with_reducible exact (meek_asString _).any
      | with_reducible exact (meek_asAgg _).any
      | with_reducible exact (meek_asAddr _).any
      | with_reducible exact (meek_askRoom _).any
      | with_reducible exact (meek_behind _).any
      | with_reducible exact (meek_asNumber _ _).any
      | with_reducible exact (meek_noView _).any
      | with_reducible exact (meek_byteOf _).any
      | with_reducible exact (meek_fieldPlace _ _).any
      | with_reducible exact (Meek.viewAt _).any
      | with_reducible exact (Meek.numberAt _).any
      | with_reducible exact (Meek.program).any
      | with_reducible refine Meek.bind (N := fun _ => True) ?_ fun _ _ => ?_
      | with_reducible refine Meek.ite (fun _ => ?_) (fun _ => ?_)
      | split
      | dsimp only
  · repeat' first
      | with_reducible exact Meek.pure trivial
      | with_reducible exact Meek.stuck
      | with_reducible exact Meek.goPanic
      | with_reducible exact Meek.unsup (fun g h => by cases h)
      | with_reducible exact Meek.runtimePanic _
      | with_reducible exact Meek.boundsPanic _ _ _ _
      | with_reducible exact Meek.noRoom
      | with_reducible exact (Meek.choose _).any
      | with_reducible exact (Meek.load _ _).any
      | with_reducible exact (Meek.store _ _ _).any
      | with_reducible exact (meek_typeInfo _).any
      | with_reducible exact (meek_underlying _).any
      | with_reducible exact (meek_typeStr _).any
      | with_reducible exact (meek_zeroValue _).any
      | with_reducible exact (meek_sizeOf _).any
      | with_reducible exact (meek_isAgg _).any
      | with_reducible exact (meek_loadCells _ _).any
      | with_reducible exact (meek_storeCells _ _ _).any
      | with_reducible exact (meek_loadVar _ _).any
      | with_reducible exact (meek_storeVar _ _ _).any
      | with_reducible exact (meek_newRow _ _).any
      | with_reducible exact (meek_newVar _ _).any
      | with_reducible exact (meek_elemOf _).any
      | with_reducible exact (meek_part _ _ _).any
      | with_reducible exact (meek_asIntOf _).any
      | with_reducible exact (meek_asInt _).any
      | with_reducible exact (meek_asBool _).any
      | with_reducible exact (meek_asString _).any
      | with_reducible exact (meek_asAgg _).any
      | with_reducible exact (meek_asAddr _).any
      | with_reducible exact (meek_askRoom _).any
      | with_reducible exact (meek_behind _).any
      | with_reducible exact (meek_asNumber _ _).any
      | with_reducible exact (meek_noView _).any
      | with_reducible exact (meek_byteOf _).any
      | with_reducible exact (meek_fieldPlace _ _).any
      | with_reducible exact (Meek.viewAt _).any
      | with_reducible exact (Meek.numberAt _).any
      | with_reducible exact (Meek.program).any
      | with_reducible refine Meek.bind (N := fun _ => True) ?_ fun _ _ => ?_
      | with_reducible refine Meek.ite (fun _ => ?_) (fun _ => ?_)
      | split
      | dsimp only
  · repeat' first
      | with_reducible exact Meek.pure trivial
      | with_reducible exact Meek.stuck
      | with_reducible exact Meek.goPanic
      | with_reducible exact Meek.unsup (fun g h => by cases h)
      | with_reducible exact Meek.runtimePanic _
      | with_reducible exact Meek.boundsPanic _ _ _ _
      | with_reducible exact Meek.noRoom
      | with_reducible exact (Meek.choose _).any
      | with_reducible exact (Meek.load _ _).any
      | with_reducible exact (Meek.store _ _ _).any
      | with_reducible exact (meek_typeInfo _).any
      | with_reducible exact (meek_underlying _).any
      | with_reducible exact (meek_typeStr _).any
      | with_reducible exact (meek_zeroValue _).any
      | with_reducible exact (meek_sizeOf _).any
      | with_reducible exact (meek_isAgg _).any
      | with_reducible exact (meek_loadCells _ _).any
      | with_reducible exact (meek_storeCells _ _ _).any
      | with_reducible exact (meek_loadVar _ _).any
      | with_reducible exact (meek_storeVar _ _ _).any
      | with_reducible exact (meek_newRow _ _).any
      | with_reducible exact (meek_newVar _ _).any
      | with_reducible exact (meek_elemOf _).any
      | with_reducible exact (meek_part _ _ _).any
      | with_reducible exact (meek_asIntOf _).any
      | with_reducible exact (meek_asInt _).any
      | with_reducible exact (meek_asBool _).any
      | with_reducible exact (meek_asString _).any
      | with_reducible exact (meek_asAgg _).any
      | with_reducible exact (meek_asAddr _).any
      | with_reducible exact (meek_askRoom _).any
      | with_reducible exact (meek_behind _).any
      | with_reducible exact (meek_asNumber _ _).any
      | with_reducible exact (meek_noView _).any
      | with_reducible exact (meek_byteOf _).any
      | with_reducible exact (meek_fieldPlace _ _).any
      | with_reducible exact (Meek.viewAt _).any
      | with_reducible exact (Meek.numberAt _).any
      | with_reducible exact (Meek.program).any
      | with_reducible refine Meek.bind (N := fun _ => True) ?_ fun _ _ => ?_
      | with_reducible refine Meek.ite (fun _ => ?_) (fun _ => ?_)
      | split
      | dsimp only
  · exact meek_boundsError _
  · exact meek_typeAssertionError _
  · exact meek_text _
  · exact meek_unhashable _
  · exact Meek.pure trivial
  · exact Meek.pure trivial
  · exact Meek.pure trivial
  · exact Meek.pure trivial
  · exact Meek.pure trivial
  · exact Meek.pure trivial
  · exact Meek.pure trivial
end
end Go.Proofs.YtlanlkpamnoekaaDoor.Lk
namespace Go.Proofs.YtlanlkpamnoekaaDoor.Lk
open Go Go.Conc

/-- The machine comes to X. -/
def Run (P : Program) (m : Machine) (t : Trace) (X : Machine → Trace → Prop) : Prop := ∃ N m' t', runNT P N m t = (.next m', t') ∧ X m' t'
/-- Goroutine 0 stands at f, its callers cs; the others keep Q. -/
def St (Q : Nat → Trace → Array Goroutine → World → Prop) (f : Frame) (cs : List Frame) (A : World) (m : Machine) (t : Trace) : Prop := ∃ μ gs sl, m = crowd gs A sl ∧ gs[0]? = some (Conc.G f cs) ∧ Q μ t gs A
def To (Q : Nat → Trace → Array Goroutine → World → Prop) (T : Frame → List Frame → World → Prop) (m : Machine) (t : Trace) : Prop := ∃ f cs A, T f cs A ∧ St Q f cs A m t

section
variable {P : Program} {m : Machine} {t : Trace} {X X' : Machine → Trace → Prop}
theorem Run.here (h : X m t) : Run P m t X := ⟨0, m, t, rfl, h⟩
theorem Run.bind (h : Run P m t X) (hX : ∀ m t, X m t → Run P m t X') : Run P m t X' := by
  obtain ⟨N, m1, t1, h1, h2⟩ := h
  obtain ⟨N2, m2, t2, h3, h4⟩ := hX m1 t1 h2
  exact ⟨N + N2, m2, t2, by rw [runNT_add, h1]; exact h3, h4⟩
theorem Run.mono (h : Run P m t X) (hX : ∀ m t, X m t → X' m t) : Run P m t X' := h.bind fun m t x => .here (hX m t x)
end

section
variable {P : Program} {bad : FuncId} {Z V : Nat → Prop} {Q : Nat → Trace → Array Goroutine → World → Prop} {T : Frame → List Frame → World → Prop} {f : Frame} {fs cs : List Frame} {G A : World} {m : Machine} {t : Trace}

/-- Frames that a lone stretch may stand at. -/
def Good0 (P : Program) (f : Frame) (fs : List Frame) : Prop := (∀ g ∈ fs, NF P g) ∧ (NF P f ∨ BF f)
theorem Good0.si (h : Good0 P f fs) (hG : Inv False Z (NC P) G) : SI P Z f fs G := ⟨h.1, h.2.imp (fun x => ⟨x, hG⟩) fun x => ⟨x, hG.up⟩⟩

/-- ████ A LONE STRETCH IN COMPANY. ████ -/
theorem lone_run (O : Oth P Z V Q) (hF : Fit P bad Z) (hT : Aim T) (hS : SI P Z f fs G) (hA : Rel Z G A) (hw : ∀ τ d, Wins P T f fs (re G τ d)) (h : St Q f (fs ++ cs) A m t) :
    Run P m t (To Q fun f' cs' A' => ∃ fs' G', cs' = fs' ++ cs ∧ T f' fs' G' ∧ SI P Z f' fs' G' ∧ Rel Z G' A' ∧ A.heap.size ≤ A'.heap.size ∧ A'.tape = A.tape ∧ ∀ i : Nat, Z i → ¬ V i → A'.heap[i]? = A.heap[i]?) := by
  obtain ⟨μ, gs, sl, rfl, h0, hQ⟩ := h
  obtain ⟨N, gs', A', sl', t', μ', f', fs', G', r1, r2, r3, rv, r4, r5, r6, r7, r8⟩ := tree_run O (tree_of hF hT hS hw) cs μ t gs A sl hA h0 hQ
  exact ⟨N, _, t', r1, f', fs' ++ cs, A', ⟨fs', G', rfl, r2.1, r2.2, r3, r7, r6, rv⟩, μ', gs', sl', rfl, r4, r8⟩

/-- The same, all others leaving. -/
theorem lone_run0 (hF : ∀ Z, Fit P bad Z) (hT : Aim T) (hS : Good0 P f fs) (hw : ∀ τ d, Wins P T f fs (re (scrub (Zset (fun _ => False) A) A) τ d)) (h : St (QL P) f (fs ++ cs) A m t) :
    Run P m t (To (QL P) fun f' cs' A' => ∃ fs' G', cs' = fs' ++ cs ∧ T f' fs' G' ∧ Good0 P f' fs' ∧ Rel (Zset (fun _ => False) A) G' A' ∧ A.heap.size ≤ A'.heap.size ∧ A'.tape = A.tape ∧ ∀ i : Nat, Zset (fun _ => False) A i → A'.heap[i]? = A.heap[i]?) :=
  (lone_run oth_leavers (hF _) hT (hS.si (scrub_inv _ A)) (scrub_rel _ A) hw h).mono fun _ _ ⟨f', cs', A', ⟨fs', G', h1, h2, h3, h4, h5, ht, hv⟩, h6⟩ => ⟨f', cs', A', ⟨fs', G', h1, h2, ⟨h3.1, h3.2.imp (·.1) (·.1)⟩, h4, h5, ht, fun i hi => hv i hi fun h => h⟩, h6⟩

/-! ### what is known of a block, there and here -/
/-- Below, but for the tape. -/
structure Under (B : Nat) (w w' : World) : Prop where
  os : w'.os = w.os
  output : w'.output = w.output
  size : w.heap.size ≤ w'.heap.size
  block : ∀ k : Nat, k < B → w'.heap[k]? = w.heap[k]?
theorem Under.of {B : Nat} {w w' : World} (h : Go.RowKit.Below B w w') : Under B w w' := ⟨h.os, h.output, h.size, h.block⟩
/-- From the ghost worlds to the true ones. -/
theorem Under.lift {B : Nat} {Y V : Nat → Prop} {A A' G' : World} (hU : Under B (scrub (Zset Y A) A) G') (hR : Rel (Zset Y A) G' A') (ht : A'.tape = A.tape) (hV : ∀ i : Nat, Zset Y A i → ¬ V i → A'.heap[i]? = A.heap[i]?) (hv : ∀ i, V i → B ≤ i) : Go.RowKit.Below B A A' := by
  refine ⟨hR.os.trans hU.os, ht, hR.out.trans hU.output, ?_, fun k hk => ?_⟩
  · rw [hR.size]
    exact Nat.le_trans (by simp [scrub]) hU.size
  · by_cases hz : Zset Y A k
    · exact hV k hz fun h => by have := hv k h; omega
    · rw [hR.same k hz, hU.block k hk, scrub_off _ _ _ hz]
/-- A row that is not frozen at all. -/
theorem Rel.cells0 (h : Rel Z G A) {i : Nat} {c : Array Value} {ty : TypeId} (hc : G.heap[i]? = some (.cells c ty (0, 0))) (hn : 0 < c.size) : A.heap[i]? = some (.cells c ty (0, 0)) := by
  by_cases hz : Z i
  · rcases h.odd _ hz with ⟨_, _, _, h1, _⟩ | ⟨_, h1, _⟩ | ⟨c', t', f', h1, h2⟩
    · rw [hc] at h1; simp at h1; have := h1.1; subst this; simp at hn
    · rw [hc] at h1; cases h1
    · rw [hc] at h1
      simp only [iced, Option.some.injEq, Obj.cells.injEq, Prod.mk.injEq] at h1
      obtain ⟨rfl, _, _, h3⟩ := h1
      omega
  · rw [h.same _ hz]; exact hc
theorem Rel.cells_up (h : Rel Z G A) {i : Nat} {c : Array Value} {ty : TypeId} {f : Nat × Nat} (hc : G.heap[i]? = some (.cells c ty f)) (hn : c ≠ #[]) : ∃ f', A.heap[i]? = some (.cells c ty f') := by
  by_cases hz : Z i
  · rcases h.odd _ hz with ⟨_, _, _, h1, _⟩ | ⟨_, h1, _⟩ | ⟨c', t', f', h1, h2⟩
    · rw [hc] at h1; simp at h1; exact absurd h1.1 hn
    · rw [hc] at h1; cases h1
    · rw [hc] at h1
      simp only [iced, Option.some.injEq, Obj.cells.injEq] at h1
      obtain ⟨rfl, rfl, _⟩ := h1
      exact ⟨f', h2⟩
  · exact ⟨f, by rw [h.same _ hz]; exact hc⟩

/-! ### a lone stretch, step by step -/
variable {b : Frame} {a : Act} {k : List Item} {w : World}
theorem Wins.steps {f' : Frame} {fs' : List Frame} {w' : World} (h : Steps P (lone f (fs ++ [c0]) w) (lone f' (fs' ++ [c0]) w')) (h' : Wins P T f' fs' w') : Wins P T f fs w := by
  obtain ⟨n, hn⟩ := h
  obtain ⟨n', g, gs, x, h1, h2⟩ := h'
  exact ⟨n + n', g, gs, x, by rw [runN_add, hn]; exact h1, h2⟩
theorem Wins.stop (h : T f fs w) : Wins P T f fs w := ⟨0, f, fs, w, rfl, h⟩
/-- Only the normal way out. -/
def nrm (R : Act → World → Prop) : Exit → Act → World → Prop
  | .normal, a, w => R a w
  | _, _, _ => False
theorem nrm_lets {R : Act → World → Prop} : ¬ LetsOut (nrm R) := fun ⟨_, _, h⟩ => h
theorem Wins.wp {c : Code} {R : Act → World → Prop} (h : c.wp P (nrm R) a w) (hk : ∀ a' w', R a' w' → Wins P T (b.at a' k) fs w') : Wins P T (b.at a (.code c :: k)) fs w := by
  obtain ⟨e, a', w', hq, har⟩ := h b k (fs ++ [c0])
  cases e with
  | normal => exact .steps har (hk a' w' hq)
  | _ => exact hq.elim
/-- .. or the function's end. -/
def nrt (R S : Act → World → Prop) : Exit → Act → World → Prop
  | .normal, a, w => R a w
  | .ret, a, w => S a w
  | _, _, _ => False
theorem Wins.wpr {c : Code} {R S : Act → World → Prop} (h : c.wp P (nrt R S) a w) (hk : ∀ a' w', R a' w' → Wins P T (b.at a' k) fs w') (hr : ∀ a' w' todo, S a' w' → Wins P T { b.at a' todo with mode := .returning } fs w') : Wins P T (b.at a (.code c :: k)) fs w := by
  obtain ⟨e, a', w', hq, har⟩ := h b k (fs ++ [c0])
  cases e with
  | normal => exact .steps har (hk a' w' hq)
  | ret => obtain ⟨todo, har⟩ := har; exact .steps har (hr a' w' todo hq)
  | _ => exact hq.elim
theorem Wins.seq {x y : Code} (h : Wins P T (b.at a (.code x :: .code y :: k)) fs w) : Wins P T (b.at a (.code (.seq x y) :: k)) fs w := .steps (.one step_seq) h
theorem Wins.cond {c : Operand} {x y : Code} (t : Bool) (hc : a.eval c = .bool t) (h : Wins P T (b.at a (.code (if t then x else y) :: k)) fs w) : Wins P T (b.at a (.code (.cond c x y) :: k)) fs w := .steps (.one (step_cond hc)) h
theorem Wins.skip (h : Wins P T (b.at a k) fs w) : Wins P T (b.at a (.code .skip :: k)) fs w := .steps (.one step_skip) h
theorem Wins.block {id : Nat} {c : Code} (h : Wins P T (b.at a (.code c :: .inBlock id :: k)) fs w) : Wins P T (b.at a (.code (.block id c) :: k)) fs w := .steps (.one step_block) h
theorem Wins.inBlock {id : Nat} (h : Wins P T (b.at a k) fs w) : Wins P T (b.at a (.inBlock id :: k)) fs w := .steps (.one step_inBlock) h
theorem Wins.loop {c : Code} (h : Wins P T (b.at a (.code c :: .inLoop c :: k)) fs w) : Wins P T (b.at a (.code (.loop c) :: k)) fs w := .steps (.one step_loop) h
theorem Wins.inLoop {c : Code} (h : Wins P T (b.at a (.code c :: .inLoop c :: k)) fs w) : Wins P T (b.at a (.inLoop c :: k)) fs w := .steps (.one step_inLoop) h
theorem Wins.ret (h : Wins P T { b.at a (.code .ret :: k) with mode := .returning } fs w) : Wins P T (b.at a (.code .ret :: k)) fs w := .steps (.one step_ret) h
theorem Wins.done (h : Wins P T { b.at a [] with mode := .returning } fs w) : Wins P T (b.at a []) fs w := .steps (.one step_end) h
theorem Wins.region {id : Nat} {ops : Array Oper} (h : Wins P T (b.at a (.inRegion ops (List.range ops.size) :: k)) fs w) : Wins P T (b.at a (.code (.region id ops false) :: k)) fs w := .steps (.one step_region) h
theorem Wins.regionEnd {ops : Array Oper} (h : Wins P T (b.at a k) fs w) : Wins P T (b.at a (.inRegion ops [] :: k)) fs w := .steps (.one step_region_end) h
theorem Wins.leave {c : Frame} {v : Value} {fr : Frame} (h : fr.leaving P w (.returned v)) (hk : Wins P T (c.finish v) fs w) : Wins P T fr (c :: fs) w := .steps (.one (step_leave_returned h)) hk

/-- The first operations of a region. -/
theorem steps_ops {ops : Array Oper} {R : Act → World → Prop} (l2 : List Nat) : ∀ (l1 : List Nat) (a : Act) (w : World), wpOps P ops (nrm R) l1 a w → ∀ (b : Frame) (k : List Item) (cs : List Frame),
    ∃ a' w', R a' w' ∧ Steps P (lone (b.at a (.inRegion ops (l1 ++ l2) :: k)) cs w) (lone (b.at a' (.inRegion ops l2 :: k)) cs w') := by
  intro l1
  induction l1 with
  | nil => exact fun a w h b k cs => ⟨a, w, h, .refl _ _⟩
  | cons i rest ih =>
    intro a w h b k cs
    simp only [wpOps] at h
    cases ho : ops[i]? with
    | none =>
      simp only [ho] at h
      obtain ⟨a', w', hq, har⟩ := ih a w h b k cs
      have hs := step_op_skip (P := P) (b := b) (a := a) (k := k) (cs := cs) (w := w) (ops := ops) (i := i) (rest := rest ++ l2) (by simp [ho])
      simp only [ho, Option.bind_none, Act.put] at hs
      exact ⟨a', w', hq, .head hs har⟩
    | some o =>
      simp only [ho] at h
      by_cases hw : Region.wanted o (yielded ops a.tmps) = true
      · simp only [hw, if_true] at h
        rcases h with h | ⟨_, hq⟩
        case inr => exact absurd hq nrm_lets
        simp only [Oper.wp, Oper.upon] at h
        have hg := stepG_op (P := P) (b := b) (k := k) (cs := cs) (w := w) (rest := rest ++ l2) ho hw
        have hfin : ∀ v, (b.at a (.inRegion ops (i :: (rest ++ l2)) :: k)).finish v = b.at (a.put o.dst v) (.inRegion ops (rest ++ l2) :: k) := by
          intro v; rw [Frame.finish_at, ho]; rfl
        rw [List.cons_append]
        split at h
        · rename_i v w' hr
          obtain ⟨a', w'', hq, har⟩ := ih _ _ h b k cs
          refine ⟨a', w'', hq, .head (step_lone_go ?_) har⟩
          rw [hg, ← hfin]; simp [stepG.apply, hr]
        · rename_i w' hr
          obtain ⟨a', w'', hq, har⟩ := ih _ _ h b k cs
          refine ⟨a', w'', hq, .head (step_lone_go ?_) har⟩
          rw [hg, ← hfin]; simp [stepG.apply, hr]
        · rename_i d w' hr
          obtain ⟨a', w'', hq, har⟩ := ih _ _ h b k cs
          refine ⟨a', w'', hq, .head (step_lone_go ?_) har⟩
          have : ({ b.at a (.inRegion ops (i :: (rest ++ l2)) :: k) with defers := d :: a.defers } : Frame).finish undef =
              b.at ({ a with defers := d :: a.defers }.put o.dst undef) (.inRegion ops (rest ++ l2) :: k) := by
            have := Frame.finish_at b { a with defers := d :: a.defers } ops i (rest ++ l2) k undef
            rw [ho] at this; exact this
          rw [hg]; simp only [stepG.apply, Sem.runT_eq, hr, GStep.bare_after]
          exact congrArg (fun fr => GStep.go { frame := fr, callers := cs, status := .running, dying := none } w') this
        · rename_i f args w' hr
          obtain ⟨e, w'', fr, hR, hsteps, _, hleave⟩ := h (b.at a (.inRegion ops (i :: (rest ++ l2)) :: k) :: cs)
          have henter : step P (lone (b.at a (.inRegion ops (i :: (rest ++ l2)) :: k)) cs w) =
              .next (lone (Frame.enter P f args .normal) (b.at a (.inRegion ops (i :: (rest ++ l2)) :: k) :: cs) w') :=
            step_lone_go (by rw [hg]; simp [stepG.apply, hr, Frame.at])
          cases e with
          | returned v =>
            obtain ⟨a', w₃, hq, har⟩ := ih _ _ hR b k cs
            refine ⟨a', w₃, hq, .head henter ((hsteps.trans (.one ?_)).trans har)⟩
            rw [← hfin]; exact step_leave_returned hleave
          | panicked chain => exact hR.elim
          | outgrown => exact absurd hR nrm_lets
        · rename_i row args w' hr
          obtain ⟨v, w'', hR, hsteps⟩ := h (b.at a (.inRegion ops (i :: (rest ++ l2)) :: k)) cs
          have henter : step P (lone (b.at a (.inRegion ops (i :: (rest ++ l2)) :: k)) cs w) =
              .next (lone (Frame.ofRow P row args .normal) (b.at a (.inRegion ops (i :: (rest ++ l2)) :: k) :: cs) w') :=
            step_lone_go (by rw [hg]; simp [stepG.apply, hr, Frame.at])
          obtain ⟨a', w₃, hq, har⟩ := ih _ _ hR b k cs
          refine ⟨a', w₃, hq, .head henter (hsteps.trans ?_)⟩
          rw [hfin]; exact har
        · exact h.elim
        · exact h.elim
      · simp only [hw, if_false, Bool.false_eq_true] at h
        obtain ⟨a', w', hq, har⟩ := ih _ _ h b k cs
        have hs := step_op_skip (P := P) (b := b) (a := a) (k := k) (cs := cs) (w := w) (ops := ops) (i := i) (rest := rest ++ l2)
          (by simp [ho]; simpa using hw)
        simp only [ho, Option.bind_some] at hs
        exact ⟨a', w', hq, .head hs har⟩
theorem Wins.ops {ops : Array Oper} {R : Act → World → Prop} (l1 l2 : List Nat) {l : List Nat} (hl : l = l1 ++ l2) (h : wpOps P ops (nrm R) l1 a w) (hk : ∀ a' w', R a' w' → Wins P T (b.at a' (.inRegion ops l2 :: k)) fs w') : Wins P T (b.at a (.inRegion ops l :: k)) fs w := by
  subst hl
  obtain ⟨a', w', hq, har⟩ := steps_ops l2 l1 a w h b k (fs ++ [c0])
  exact .steps har (hk a' w' hq)
/-- A call is entered. -/
theorem Wins.call {ops : Array Oper} {i : Nat} {rest : List Nat} {o : Oper} {g : FuncId} {args : Array Value} {w' : World} (ho : ops[i]? = some o) (hw : Region.wanted o (yielded ops a.tmps) = true) (hr : (execOp a.eval o).run P w = .ok (.enter g args) w')
    (h : Wins P T (Frame.enter P g args .normal) (b.at a (.inRegion ops (i :: rest) :: k) :: fs) w') : Wins P T (b.at a (.inRegion ops (i :: rest) :: k)) fs w := by
  refine .steps (.one (step_lone_go ?_)) h
  rw [stepG_op ho hw]
  simp [stepG.apply, hr, Frame.at]
end
end Go.Proofs.YtlanlkpamnoekaaDoor.Lk
