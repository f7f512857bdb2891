/- Link, in company. Nothing that was there is turned. -/
import Derived.Test.YtlanlkpamnoekaaDoorZD15
import Derived.Test.YtlanlkpamnoekaaDoorZD10
import Derived.Test.YtlanlkpamnoekaaDoorZD13
import Derived.Test.YtlanlkpamnoekaaDoorZD02
import Derived.Deep.CutRange
import Derived.Test.YtlanlkpamnoekaaDoorZD14
set_option linter.unusedSimpArgs false
set_option linter.unusedVariables false
namespace Go.Proofs.YtlanlkpamnoekaaDoor.Lk
open Go Go.Conc Go.RowKit Mem Rf

theorem cell_setChan (w : World) {a : Addr} {c cap : Nat} {buf : Array Value} {cl : Bool} {x y : Nat} {tm : Bool} (h : c ≠ a.block) : (w.setChan c cap buf cl x y tm).cell? a = w.cell? a := by
  unfold World.cell?
  rw [heap_setChan_ne _ _ _ _ _ _ _ h]
theorem KL.setChan {bl bc be ce ee : Nat} {A : Option Addr} {n c b off : Nat} {vs : List Value} {w : World} (h : KL bl bc be ce ee A n c b off vs w) {x cap : Nat} {buf : Array Value} {cl : Bool} {y z : Nat} {tm : Bool} (h1 : x ≠ bl) (h2 : x ≠ bc) (h3 : x ≠ be) (h4 : 0 < n → x ≠ b) (hl : vs.length = n) :
    KL bl bc be ce ee A n c b off vs (w.setChan x cap buf cl y z tm) :=
  ⟨(cell_setChan w h1).trans h.l, (cell_setChan w h2).trans h.m, (cell_setChan w h3).trans h.e, fun i u hu => (cell_setChan w (h4 (by have := (List.getElem?_eq_some_iff.1 hu).1; omega))).trans (h.s i u hu)⟩

/-- What the sender's variables, the row and the channels are. -/
structure Lay14 (bl bc be ce ee : Nat) (A : Option Addr) (n c b off : Nat) (vs : List Value) (s B : Nat) : Prop where
  hA : 0 < n → A = some ⟨b, off, none⟩
  len : vs.length = n
  most : n ≤ c ∧ c ≤ 9223372036854775807
  ne : ce ≠ ee
  c1 : ce ≠ bl ∧ ce ≠ bc ∧ ce ≠ be ∧ (0 < n → ce ≠ b)
  e1 : ee ≠ bl ∧ ee ≠ bc ∧ ee ≠ be ∧ (0 < n → ee ≠ b)
  lt : bl < B ∧ bc < B ∧ be < B ∧ ce < B ∧ ee < B ∧ (0 < n → b < B)
  pos : 0 < s
def Y14 (bl bc be n b : Nat) (i : Nat) : Prop := i = bl ∨ i = bc ∨ i = be ∨ (0 < n ∧ i = b)

section
variable {bl bc be ce ee : Nat} {A : Option Addr} {n c b off : Nat} {vs : List Value} {s B : Nat}
def env14 (h : Lay14 bl bc be ce ee A n c b off vs s B) : Env where
  K := KL bl bc be ce ee A n c b off vs
  Still := fun l => (∃ a, l = .cell a ∧ Y14 bl bc be n b a.block) ∨ l = .obj ee
  B := B
  s := s
  ce := ce
  ee := ee
  kat := fun _ _ h => ⟨h.l, h.m, h.e, h.s⟩
  kc := fun _ _ _ _ _ _ _ hk => hk.setChan h.c1.1 h.c1.2.1 h.c1.2.2.1 h.c1.2.2.2 h.len
  ke := fun _ _ _ _ _ _ _ hk => hk.setChan h.e1.1 h.e1.2.1 h.e1.2.2.1 h.e1.2.2.2 h.len
  mem := fun l hl => by rcases hl with ⟨a, rfl, _⟩ | rfl <;> rfl
  endS := .inr rfl
  ne := h.ne
  cB := h.lt.2.2.2.1
  eB := h.lt.2.2.2.2.1
  pos := h.pos
theorem row14 (h : Lay14 bl bc be ce ee A n c b off vs s B) : Row36 (env14 h) bl bc be A n c b off vs where
  keep := fun _ hk => hk
  hA := h.hA
  len := h.len
  most := h.most
  sl := .inl ⟨_, rfl, .inl rfl⟩
  sc := .inl ⟨_, rfl, .inr (.inl rfl)⟩
  se := .inl ⟨_, rfl, .inr (.inr (.inl rfl))⟩
  sa := fun i hi => .inl ⟨_, rfl, .inr (.inr (.inr ⟨by omega, rfl⟩))⟩
  bl_ := h.lt.1
  bc_ := h.lt.2.1
  be_ := h.lt.2.2.1
  ba_ := h.lt.2.2.2.2.2

/-- The ghost's veil hides what the sender leans on. -/
theorem off14 (h : Lay14 bl bc be ce ee A n c b off vs s B) {W : World} (hk : KL bl bc be ce ee A n c b off vs W) (hc : ∃ cap buf cl a b tm, W.heap[ce]? = some (.chan cap buf cl a b tm)) (he : ∃ cap buf cl a b tm, W.heap[ee]? = some (.chan cap buf cl a b tm)) :
    (env14 h).Off (Zset (Y14 bl bc be n b) W) := by
  have hz : ∀ (i : Nat) (v : Value) (o : Nat), Y14 bl bc be n b i → W.cell? ⟨i, o, none⟩ = some v → Zset (Y14 bl bc be n b) W i := fun i v o hy hcl => by
    unfold World.cell? at hcl
    cases ho : W.heap[i]? with
    | none => rw [ho] at hcl; cases hcl
    | some x =>
      rw [ho] at hcl
      cases x with
      | cells cs t f => exact ⟨_, ho, .inr ⟨hy, trivial⟩⟩
      | _ => simp at hcl
  have zl := hz bl _ 0 (.inl rfl) hk.l
  have zm := hz bc _ 0 (.inr (.inl rfl)) hk.m
  have ze := hz be _ 0 (.inr (.inr (.inl rfl))) hk.e
  have zb : 0 < n → Zset (Y14 bl bc be n b) W b := fun hn => by
    obtain ⟨u, hu⟩ : ∃ u, vs[0]? = some u := ⟨_, List.getElem?_eq_getElem (by rw [h.len]; exact hn)⟩
    exact hz b u _ (.inr (.inr (.inr ⟨hn, rfl⟩))) (hk.s 0 u hu)
  obtain ⟨_, _, _, _, _, _, hc⟩ := hc
  obtain ⟨_, _, _, _, _, _, he⟩ := he
  refine ⟨fun W1 W2 k1 hsame => ?_, fun a ha => ?_, fun r hr => ?_, ⟨_, hc, .inl trivial⟩, ⟨_, he, .inl trivial⟩⟩
  · have cs : ∀ i o, Zset (Y14 bl bc be n b) W i → W2.cell? ⟨i, o, none⟩ = W1.cell? ⟨i, o, none⟩ := fun i o hi => by unfold World.cell?; rw [hsame i hi]
    exact ⟨(cs bl 0 zl).trans k1.l, (cs bc 0 zm).trans k1.m, (cs be 0 ze).trans k1.e, fun i u hu => (cs b _ (zb (by have := (List.getElem?_eq_some_iff.1 hu).1; have := h.len; omega))).trans (k1.s i u hu)⟩
  · rcases ha with ⟨x, hx, hy⟩ | hx
    · cases hx
      rcases hy with e | e | e | ⟨hn, e⟩
      · rw [e]; exact zl
      · rw [e]; exact zm
      · rw [e]; exact ze
      · rw [e]; exact zb hn
    · cases hx
  · rcases hr with ⟨x, hx, _⟩ | hx
    · cases hx
    · cases hx
      exact ⟨_, he, .inl trivial⟩
end
end Go.Proofs.YtlanlkpamnoekaaDoor.Lk
namespace Go.Proofs.YtlanlkpamnoekaaDoor.Lk
open Go Go.Conc Go.RowKit Mem Rf
set_option maxRecDepth 100000

theorem go14 (L lv : Value) (kind : Int) (bx bl br bc be ce ee : Nat) (kk : List Item) (cs : List Frame) (w : World) :
    stepG Tryd.prog true (Conc.G (b14.at (at14 L kind lv bx bl br bc be ce ee) (.inRegion ops214 [1] :: kk)) cs) w =
      .spawn (Conc.G (b14.at (at14 L kind lv bx bl br bc be ce ee) (.inRegion ops214 [] :: kk)) cs) (born Tryd.prog (call36 bl bc be)) w #[] := by
  unfold ops214 body14
  simp only [Tryd.f14, Option.getD_some]
  rw [stepG_spawn (P := Tryd.prog) (d := call36 bl bc be) (w' := w) rfl rfl (by decide) (by simp [go_sem, execOp, Act.eval, at14, call36]) rfl, listed_none (by simp [go_sem, execOp, Act.eval, at14])]
  rfl

/-- What is known at the go statement, whatever the tape. -/
structure Entry0 (G : World) (s q e : Int) (lv : Value) (bx bl br bc be ce ee : Nat) (W : World) : Prop where
  old : Under G.heap.size G W
  x : LVar W bx s q e
  r : LVar W br 0 0 0
  l : W.heap[bl]? = some (.cells #[lv] 32)
  come : W.heap[bc]? = some (.cells #[.chan (some ce)] 71)
  end_ : W.heap[be]? = some (.cells #[.chan (some ee)] 72)
  cc : W.heap[ce]? = some (.chan 0 #[] false 0 0 false)
  ec : W.heap[ee]? = some (.chan 0 #[] false 0 0 false)
  at_ : bx = G.heap.size ∧ bl = G.heap.size + 1 ∧ br = G.heap.size + 1 + 1
  new : br < bc ∧ br < be ∧ br < ce ∧ br < ee
  ne : ce ≠ ee ∧ ce ≠ bc ∧ ce ≠ be ∧ ee ≠ bc ∧ ee ≠ be
theorem Entry.blind {G W : World} {s q e : Int} {lv : Value} {bx bl br bc be ce ee : Nat} (h : Entry G s q e lv bx bl br bc be ce ee W) : Entry0 G s q e lv bx bl br bc be ce ee W := by
  obtain ⟨W1, _, hs, hc⟩ := h.ch
  have := h.at_
  have hn := hc.new
  exact ⟨.of h.below, h.x, h.r, h.l, hc.come, hc.end_, hc.cc, hc.ec, h.at_, ⟨by omega, by omega, by omega, by omega⟩, hc.ne⟩

/-- At the go statement. -/
def AtGo (G0 : World) (s q e kind : Int) (lv : Value) (f : Frame) (fs : List Frame) (W : World) : Prop :=
  fs = [] ∧ ∃ bx bl br bc be ce ee, f = b14.at (at14 (lk s q e) kind lv bx bl br bc be ce ee) (.inRegion ops214 [1] :: [.code (.block 0 (.loop loop14))]) ∧ Entry0 G0 s q e lv bx bl br bc be ce ee W
theorem aim_go (G0 : World) (s q e kind : Int) (lv : Value) : Aim (AtGo G0 s q e kind lv) := by
  refine ⟨fun f fs G τ d ⟨h1, bx, bl, br, bc, be, ce, ee, h2, h3⟩ => ⟨h1, bx, bl, br, bc, be, ce, ee, h2, ⟨⟨h3.old.os, h3.old.output, h3.old.size, h3.old.block⟩, ⟨h3.x.at_⟩, ⟨h3.r.at_⟩, h3.l, h3.come, h3.end_, h3.cc, h3.ec, h3.at_, h3.new, h3.ne⟩⟩, fun f fs w ⟨_, bx, bl, br, bc, be, ce, ee, h2, _⟩ ch hm => ?_⟩
  rw [h2] at hm
  cases hm

theorem not_zset {A : World} {i : Nat} {c : Array Value} {t : TypeId} {f : Nat × Nat} (h : A.heap[i]? = some (.cells c t f)) : ¬ Zset (fun _ => False) A i := by
  rintro ⟨o, ho, hk⟩
  rw [h] at ho
  obtain rfl := Option.some.inj ho
  exact hk.elim (fun h => h) fun h => h.1

theorem Entry0.up {A G' A' : World} {s q e : Int} {lv : Value} {bx bl br bc be ce ee : Nat} (h : Entry0 (scrub (Zset (fun _ => False) A) A) s q e lv bx bl br bc be ce ee G') (hR : Rel (Zset (fun _ => False) A) G' A') (ht : A'.tape = A.tape) (hV : ∀ i : Nat, Zset (fun _ => False) A i → A'.heap[i]? = A.heap[i]?) :
    Entry0 A s q e lv bx bl br bc be ce ee A' ∧ Below A.heap.size A A' := by
  have hsz : (scrub (Zset (fun _ => False) A) A).heap.size = A.heap.size := by simp [scrub]
  have hz : ∀ i : Nat, A.heap.size ≤ i → A'.heap[i]? = G'.heap[i]? := fun i hi => hR.same i fun ⟨o, ho, _⟩ => by
    have := (Array.getElem?_eq_some_iff.1 ho).1
    omega
  obtain ⟨h1, h2, h3⟩ := h.at_
  obtain ⟨n1, n2, n3, n4⟩ := h.new
  rw [hsz] at h1 h2 h3
  have hb : Below A.heap.size A A' := by
    have ho := h.old
    rw [hsz] at ho
    exact ho.lift hR ht (V := fun _ => False) (fun i hi _ => hV i hi) fun _ h => h.elim
  exact ⟨⟨.of hb, ⟨(hz _ (by omega)).trans h.x.at_⟩, ⟨(hz _ (by omega)).trans h.r.at_⟩, (hz _ (by omega)).trans h.l, (hz _ (by omega)).trans h.come, (hz _ (by omega)).trans h.end_, (hz _ (by omega)).trans h.cc, (hz _ (by omega)).trans h.ec, ⟨h1, h2, h3⟩, ⟨n1, n2, n3, n4⟩, h.ne⟩, hb⟩
/-- From All's entry to the go statement, in company. -/
theorem to_go {cs : List Frame} {A : World} {m : Machine} {t : Trace} (s q e kind : Int) (Ap : Option Addr) (n c : Nat) (h : St (QL Tryd.prog) (Frame.enter Tryd.prog 14 #[lk s q e, .int .u8 kind, .slice Ap n c] .normal) cs A m t) :
    Run Tryd.prog m t (To (QL Tryd.prog) fun f' cs' A' => cs' = cs ∧ ∃ bx bl br bc be ce ee, f' = b14.at (at14 (lk s q e) kind (.slice Ap n c) bx bl br bc be ce ee) (.inRegion ops214 [1] :: [.code (.block 0 (.loop loop14))]) ∧ Entry0 A s q e (.slice Ap n c) bx bl br bc be ce ee A' ∧ Below A.heap.size A A') := by
  refine (lone_run0 (fun Z => fit Z) (aim_go (scrub (Zset (fun _ => False) A) A) s q e kind (.slice Ap n c)) (fs := []) ⟨by simp, .inr ((fit (fun _ => False)).pre _)⟩ (fun τ d => ?_) h).mono ?_
  · refine all_wins s q e kind Ap n c [] _ fun bx bl br bc be ce ee W hE => Wins.stop ⟨rfl, bx, bl, br, bc, be, ce, ee, rfl, ?_⟩
    have := hE.blind
    exact ⟨⟨this.old.os, this.old.output, this.old.size, this.old.block⟩, this.x, this.r, this.l, this.come, this.end_, this.cc, this.ec, this.at_, this.new, this.ne⟩
  · rintro _ _ ⟨f', cs', A', ⟨fs', G', rfl, ⟨rfl, bx, bl, br, bc, be, ce, ee, rfl, hE⟩, _, hR, _, ht, hV⟩, hSt⟩
    obtain ⟨e1, e2⟩ := hE.up hR ht hV
    exact ⟨_, _, A', ⟨rfl, bx, bl, br, bc, be, ce, ee, rfl, e1, e2⟩, hSt⟩
end Go.Proofs.YtlanlkpamnoekaaDoor.Lk
namespace Go.Proofs.YtlanlkpamnoekaaDoor.Lk
open Go Go.Conc Go.RowKit Mem Rf
set_option maxRecDepth 100000

theorem hired14 {cs : List Frame} {A A' : World} {m : Machine} {t : Trace} {s q e kind : Int} {Ap : Option Addr} {n c b off : Nat} {vs : List Value} {bx bl br bc be ce ee : Nat} {k : List Item} (hE : Entry0 A s q e (.slice Ap n c) bx bl br bc be ce ee A')
    (hA : 0 < n → Ap = some ⟨b, off, none⟩) (hlen : vs.length = n) (hmost : n ≤ c ∧ c ≤ 9223372036854775807) (hb : 0 < n → b < A.heap.size) (hel : ∀ i u, vs[i]? = some u → A.cell? ⟨b, off + i, none⟩ = some u)
    (h : St (QL Tryd.prog) (b14.at (at14 (lk s q e) kind (.slice Ap n c) bx bl br bc be ce ee) (.inRegion ops214 [1] :: k)) cs A' m t) :
    Run Tryd.prog m t fun m' t' => ∃ (s' B : Nat) (hL : Lay14 bl bc be ce ee Ap n c b off vs s' B) (d : Nat), St (QS Tryd.prog (env14 hL) vs) (b14.at (at14 (lk s q e) kind (.slice Ap n c) bx bl br bc be ce ee) (.inRegion ops214 [] :: k)) cs (A'.at d) m' t' := by
  obtain ⟨μ, gs, sl, rfl, h0, hQ⟩ := h
  have hpos : 0 < gs.size := (Array.getElem?_eq_some_iff.1 h0).1
  obtain ⟨h1, h2, h3⟩ := hE.at_
  obtain ⟨n1, n2, n3, n4⟩ := hE.new
  obtain ⟨e1, e2, e3, e4, e5⟩ := hE.ne
  have hlt : ∀ {i : Nat} {o : Obj}, A'.heap[i]? = some o → i < A'.heap.size := fun h => (Array.getElem?_eq_some_iff.1 h).1
  have hel' : ∀ i u, vs[i]? = some u → A'.cell? ⟨b, off + i, none⟩ = some u := fun i u hu => by
    have := hel i u hu
    unfold World.cell? at this ⊢
    cases ho : A.heap[b]? with
    | none => rw [ho] at this; cases this
    | some x =>
      rw [ho] at this
      rw [hE.old.block b (Array.getElem?_eq_some_iff.1 ho).1, ho]; exact this
  have hbs : 0 < n → b < A'.heap.size := fun hn => by have := hb hn; have := hlt hE.l; omega
  let hL : Lay14 bl bc be ce ee Ap n c b off vs gs.size A'.heap.size :=
    ⟨hA, hlen, hmost, e1, ⟨by omega, e2, e3, fun hn => by have := hb hn; omega⟩, ⟨by omega, e4, e5, fun hn => by have := hb hn; omega⟩, ⟨hlt hE.l, hlt hE.come, hlt hE.end_, hlt hE.cc, hlt hE.ec, hbs⟩, hpos⟩
  have hK : (env14 hL).K A' := ⟨by rw [World.cell?]; simp [hE.l], by rw [World.cell?]; simp [hE.come], by rw [World.cell?]; simp [hE.end_], hel'⟩
  obtain ⟨N, hN⟩ := birth36 (row14 hL)
  obtain ⟨M, gs', sl', t', μ', d, r1, r2, r3, r4⟩ := hires (P := Tryd.prog) (E := env14 hL) (sl := sl) (a' := Conc.G (b14.at (at14 (lk s q e) kind (.slice Ap n c) bx bl br bc be ce ee) (.inRegion ops214 [] :: k)) cs) rfl hQ h0 rfl (fun d => go14 _ _ kind bx bl br bc be ce ee k cs _) ⟨_, hE.cc⟩ ⟨_, hE.ec⟩ hK hN
  exact ⟨M, _, t', r1, gs.size, A'.heap.size, hL, d, μ', gs', sl', rfl, r2, r4⟩
end Go.Proofs.YtlanlkpamnoekaaDoor.Lk
namespace Go.Proofs.YtlanlkpamnoekaaDoor.Lk
open Go Go.Conc Go.RowKit Mem Rf
set_option maxRecDepth 100000

theorem nice14 : niceCode Tryd.prog loop14 = true := by kernel_rfl
noncomputable def r34 : Code := match loop14 with | .block _ (.seq (.seq a _) _) => a | _ => .skip
noncomputable def r44 : Code := match loop14 with | .block _ (.seq (.seq _ a) _) => a | _ => .skip
noncomputable def ops514 : Array Oper := match loop14 with | .block _ (.seq _ (.seq (.region _ o _) _)) => o | _ => #[]
noncomputable def sel14 : Code := match loop14 with | .block _ (.seq _ (.seq _ c)) => c | _ => .skip
theorem loop14_eq : loop14 = .block 1 (.seq (.seq r34 r44) (.seq (.region 5 ops514 false) sel14)) := rfl
theorem size514 : List.range ops514.size = [0, 1, 2, 3] := by kernel_rfl

/-- The slots at the loop's head; j: what the last round has left. -/
abbrev hd14 (j : Nat → Value) (kind : Int) (bx br bc be : Nat) (rv : Value) : List Value :=
  [j 0, .int .u8 kind, j 2, .pointer (some ⟨bx, 0, none⟩), j 4, j 5, .pointer (some ⟨br, 0, none⟩), rv, .pointer (some ⟨bc, 0, none⟩), .pointer (some ⟨be, 0, none⟩), j 10, j 11, j 12, j 13, j 14, j 15, j 16, j 17, j 18, j 19, j 20, j 21, j 22, j 23, j 24, j 25, j 26, j 27, j 28, j 29, j 30, j 31, j 32, j 33, j 34, j 35, j 36, j 37, j 38, j 39, j 40]
/-- The slots at the select. -/
abbrev se14 (j : Nat → Value) (kind : Int) (bx br bc be ce ee : Nat) (rv : Value) : List Value :=
  [j 0, .int .u8 kind, j 2, .pointer (some ⟨bx, 0, none⟩), j 4, j 5, .pointer (some ⟨br, 0, none⟩), rv, .pointer (some ⟨bc, 0, none⟩), .pointer (some ⟨be, 0, none⟩), j 10, j 11, j 12, j 13, j 14, j 15, j 16, .chan (some ce), .chan (some ee), j 19, j 20, j 21, j 22, j 23, j 24, j 25, j 26, j 27, j 28, j 29, j 30, j 31, j 32, j 33, j 34, j 35, j 36, j 37, j 38, j 39, j 40]
theorem all_r3 (j : Nat → Value) (kind : Int) (bx br bc be ce : Nat) (rv : Value) (w : World) (h : w.cell? ⟨bc, 0, none⟩ = some (.chan (some ce))) :
    r34.wp Tryd.prog (nrm fun a' w' => a' = ⟨((hd14 j kind bx br bc be rv).set 17 (.chan (some ce))).toArray, []⟩ ∧ w' = w) ⟨(hd14 j kind bx br bc be rv).toArray, []⟩ w := by
  unfold r34 loop14 body14
  simp only [Tryd.f14, Option.getD_some]
  go_wp2
  exact ⟨rfl, rfl⟩
theorem all_r4 (j : Nat → Value) (kind : Int) (bx br bc be ce ee : Nat) (rv : Value) (w : World) (h : w.cell? ⟨be, 0, none⟩ = some (.chan (some ee))) :
    r44.wp Tryd.prog (nrm fun a' w' => a' = ⟨(se14 j kind bx br bc be ce ee rv).toArray, []⟩ ∧ w' = w) ⟨((hd14 j kind bx br bc be rv).set 17 (.chan (some ce))).toArray, []⟩ w := by
  unfold r44 loop14 body14
  simp only [Tryd.f14, Option.getD_some, List.set_cons_succ, List.set_cons_zero]
  go_wp2
  exact ⟨rfl, rfl⟩

/-- From the loop's head to the select, alone. -/
theorem sel_wins {T : Frame → List Frame → World → Prop} (j : Nat → Value) (kind : Int) (bx br bc be ce ee : Nat) (rv : Value) (fs : List Frame) (k : List Item) (w : World) (h : w.cell? ⟨bc, 0, none⟩ = some (.chan (some ce))) (h' : w.cell? ⟨be, 0, none⟩ = some (.chan (some ee)))
    (hT : T (b14.at ⟨(se14 j kind bx br bc be ce ee rv).toArray, []⟩ (.inRegion ops514 [0, 1, 2, 3] :: .code sel14 :: .inBlock 1 :: k)) fs w) : Wins Tryd.prog T (b14.at ⟨(hd14 j kind bx br bc be rv).toArray, []⟩ (.code loop14 :: k)) fs w := by
  rw [loop14_eq]
  refine Wins.block (Wins.seq (Wins.seq (Wins.wp (all_r3 j kind bx br bc be ce rv w h) fun a1 w1 ⟨e1, e2⟩ => ?_)))
  subst e1 e2
  refine Wins.wp (all_r4 j kind bx br bc be ce ee rv w1 h') fun a2 w2 ⟨e1, e2⟩ => ?_
  subst e1 e2
  refine Wins.seq (Wins.region ?_)
  rw [size514]
  exact Wins.stop hT
/-- At the select. -/
theorem sel14_at (j : Nat → Value) (kind : Int) (bx br bc be ce ee : Nat) (rv : Value) (cs : List Frame) (k : List Item) (w : World) :
    stepG Tryd.prog true (Conc.G (b14.at ⟨(se14 j kind bx br bc be ce ee rv).toArray, []⟩ (.inRegion ops514 [0, 1, 2, 3] :: k)) cs) w =
      .comm (Conc.G (b14.at ⟨(se14 j kind bx br bc be ce ee rv).toArray, []⟩ (.inRegion ops514 [0, 1, 2, 3] :: k)) cs) #[rcase ce (.slice none 0 0), rcase ee (.agg #[])] true .select w #[] := by
  unfold ops514 loop14 body14
  simp only [Tryd.f14, Option.getD_some]
  rw [stepG_comm (w' := w) (cases := #[rcase ce (.slice none 0 0), rcase ee (.agg #[])]) (blocking := true) (shape := .select) rfl rfl (by decide) (by simp [go_sem, execOp, Act.eval, rcase]), listed_none (by simp [go_sem, execOp, Act.eval])]
end Go.Proofs.YtlanlkpamnoekaaDoor.Lk
namespace Go.Proofs.YtlanlkpamnoekaaDoor.Lk
open Go Go.Conc Go.RowKit Mem Rf
set_option maxRecDepth 100000

/-- The frame at the loop's head is nice. -/
theorem nf_head {a : Act} {k : List Item} (hd : a.defers = []) (hk : ∀ it ∈ k, niceItem Tryd.prog it) : NF Tryd.prog (b14.at a (.code loop14 :: k)) := by
  refine ⟨fun it hit => ?_, fun d hd' => ?_, rfl, .inl rfl⟩
  · have hit' : it ∈ (Item.code loop14 :: k) := hit
    rcases List.mem_cons.1 hit' with rfl | h
    · exact nice14
    · exact hk it h
  · have : d ∈ a.defers := hd'
    rw [hd] at this
    cases this

/-- At the select, nothing turned since. -/
def AtSelect (G0 : World) (j : Nat → Value) (kind : Int) (bx br bc be ce ee : Nat) (rv : Value) (k : List Item) (f : Frame) (fs : List Frame) (W : World) : Prop :=
  fs = [] ∧ f = b14.at ⟨(se14 j kind bx br bc be ce ee rv).toArray, []⟩ (.inRegion ops514 [0, 1, 2, 3] :: .code sel14 :: .inBlock 1 :: k) ∧ W.heap = G0.heap ∧ W.os = G0.os ∧ W.output = G0.output
theorem aim_sel (G0 : World) (j : Nat → Value) (kind : Int) (bx br bc be ce ee : Nat) (rv : Value) (k : List Item) : Aim (AtSelect G0 j kind bx br bc be ce ee rv k) :=
  ⟨fun _ _ _ _ _ h => h, fun f fs w ⟨_, h2, _⟩ ch hm => by rw [h2] at hm; cases hm⟩

section
variable {bl bc be ce ee : Nat} {Ap : Option Addr} {n c b off : Nat} {vs : List Value} {s B : Nat} {hL : Lay14 bl bc be ce ee Ap n c b off vs s B}
/-- From the loop's head to the select, beside the sender. -/
theorem to_sel {cs : List Frame} {A : World} {m : Machine} {t : Trace} {us : List Value} (j : Nat → Value) (kind : Int) (bx br : Nat) (rv : Value) (k : List Item) (hk : ∀ it ∈ k, niceItem Tryd.prog it)
    (h : St (QS Tryd.prog (env14 hL) us) (b14.at ⟨(hd14 j kind bx br bc be rv).toArray, []⟩ (.code loop14 :: k)) cs A m t) :
    Run Tryd.prog m t (To (QS Tryd.prog (env14 hL) us) fun f' cs' A' => (∀ B, B ≤ ce → B ≤ ee → Below B A A') ∧ cs' = cs ∧ f' = b14.at ⟨(se14 j kind bx br bc be ce ee rv).toArray, []⟩ (.inRegion ops514 [0, 1, 2, 3] :: .code sel14 :: .inBlock 1 :: k) ∧
      ∃ G', G'.heap = (scrub (Zset (Y14 bl bc be n b) A) A).heap ∧ Rel (Zset (Y14 bl bc be n b) A) G' A' ∧ A'.tape = A.tape ∧ ∀ i : Nat, Zset (Y14 bl bc be n b) A i → ¬ (i = ce ∨ i = ee) → A'.heap[i]? = A.heap[i]?) := by
  obtain ⟨μ, gs, sl, rfl, h0, q, Bq, H, hμ⟩ := id h
  have hK : KL bl bc be ce ee Ap n c b off vs A := H.keep
  have hc : ∃ cap buf cl a b tm, A.heap[ce]? = some (.chan cap buf cl a b tm) := by
    obtain ⟨k, hk⟩ := H.come
    exact ⟨_, _, _, _, _, _, hk⟩
  have he : ∃ cap buf cl a b tm, A.heap[ee]? = some (.chan cap buf cl a b tm) := by
    obtain ⟨_, _, hk⟩ := H.me
    rcases hk with ⟨k, hk, _⟩ | ⟨_, k, hk, _⟩ <;> exact ⟨_, _, _, _, _, _, hk⟩
  refine (lone_run (fs := []) (oth_snd (off14 hL hK hc he)) (fit _) (aim_sel (scrub (Zset (Y14 bl bc be n b) A) A) j kind bx br bc be ce ee rv k) (Good0.si ⟨by simp, .inl (nf_head rfl hk)⟩ (scrub_inv _ A)) (scrub_rel _ A) (fun τ d => ?_) h).mono ?_
  · exact sel_wins j kind bx br bc be ce ee rv [] k _ (scrub_cell hK.m) (scrub_cell hK.e) ⟨rfl, rfl, rfl, rfl, rfl⟩
  · rintro _ _ ⟨f', cs', A', ⟨fs', G', rfl, ⟨rfl, rfl, hG, ho1, ho2⟩, _, hR, _, ht, hV⟩, hSt⟩
    refine ⟨_, _, A', ⟨fun B h1 h2 => ?_, rfl, rfl, G', hG, hR, ht, hV⟩, hSt⟩
    exact Under.lift ⟨ho1, ho2, by rw [hG]; exact Nat.le_refl _, fun k _ => by rw [hG]⟩ hR ht hV fun i hi => by rcases hi with rfl | rfl <;> assumption
end
end Go.Proofs.YtlanlkpamnoekaaDoor.Lk
namespace Go.Proofs.YtlanlkpamnoekaaDoor.Lk
open Go Go.Conc Go.RowKit Mem Rf
open Go.ConcN (sumTo)
set_option maxRecDepth 100000
section
variable {bl bc be ce ee : Nat} {Ap : Option Addr} {n c b off : Nat} {vs : List Value} {s B : Nat} {hL : Lay14 bl bc be ce ee Ap n c b off vs s B}
noncomputable abbrev fr14 (j : Nat → Value) (kind : Int) (bx br bc be ce ee : Nat) (rv : Value) (k : List Item) : Frame := b14.at ⟨(se14 j kind bx br bc be ce ee rv).toArray, []⟩ (.inRegion ops514 [0, 1, 2, 3] :: k)

theorem served14 {cs : List Frame} {A : World} {m : Machine} {t : Trace} {us : List Value} (j : Nat → Value) (kind : Int) (bx br : Nat) (rv : Value) (k : List Item)
    (h : St (QS Tryd.prog (env14 hL) us) (fr14 j kind bx br bc be ce ee rv k) cs A m t) :
    Run Tryd.prog m t fun m' t' => ∃ A', A'.heap.size = A.heap.size ∧ A'.tape = A.tape ∧ Held (env14 hL) A A' ∧
      ((∃ v rest, us = v :: rest ∧ St (QS Tryd.prog (env14 hL) rest) ((fr14 j kind bx br bc be ce ee rv k).finish (.tuple #[.int .i64 0, .bool true, v, .agg #[]])) cs A' m' t') ∨
       (us = [] ∧ KL bl bc be ce ee Ap n c b off vs A' ∧ St (QL Tryd.prog) ((fr14 j kind bx br bc be ce ee rv k).finish (.tuple #[.int .i64 1, .bool false, .slice none 0 0, .agg #[]])) cs A' m' t')) := by
  obtain ⟨μ, gs, sl, rfl, h0, q, Bq, H, hμ⟩ := h
  have hat : AtSel Tryd.prog (env14 hL) (.slice none 0 0) (.agg #[]) (Conc.G (fr14 j kind bx br bc be ce ee rv k) cs) (Conc.G (fr14 j kind bx br bc be ce ee rv k) cs) :=
    ⟨rfl, rfl, rfl, rfl, #[], by simp, fun w _ => sel14_at j kind bx br bc be ce ee rv cs k w⟩
  obtain ⟨N, gs', A', sl', t', r1, r2, r3, r4, r5, r6⟩ := sel_go (P := Tryd.prog) (E := env14 hL) _ q Bq t gs A sl _ _ H h0 hat (.inl ⟨rfl, rfl⟩)
  refine ⟨N, _, t', r1, A', r4, r3, r5, ?_⟩
  have c0 : ∀ v, commResult (scs (env14 hL) (.slice none 0 0) (.agg #[])) .select 0 v true = .tuple #[.int .i64 0, .bool true, v, .agg #[]] := fun v => by simp [commResult, scs, rcase, goInt]
  have c1 : commResult (scs (env14 hL) (.slice none 0 0) (.agg #[])) .select 1 (.agg #[]) false = .tuple #[.int .i64 1, .bool false, .slice none 0 0, .agg #[]] := by simp [commResult, scs, rcase, goInt]
  rcases r6 with ⟨v, rest, μ', rfl, g0, hQ⟩ | ⟨μ', rfl, g0, hK, hQ⟩
  · rw [c0, served_fr] at g0
    exact .inl ⟨v, rest, rfl, μ', gs', sl', rfl, g0, hQ⟩
  · rw [c1, served_fr] at g0
    exact .inr ⟨rfl, hK, μ', gs', sl', rfl, g0, hQ⟩
end
end Go.Proofs.YtlanlkpamnoekaaDoor.Lk
namespace Go.Proofs.YtlanlkpamnoekaaDoor.Lk
open Go Go.Conc Go.RowKit Mem Rf
theorem wpOps_some {P : Program} {ops : Array Oper} {Q : Exit → Act → World → Prop} (l : List Oper) : ∀ k, (∀ j, j < l.length → l[j]? = ops[k + j]?) → wpOps P ops Q (List.range' k l.length) = wpList P ops Q l := by
  induction l with
  | nil => intro k _; funext a w; simp [wpOps, wpList]
  | cons o l ih =>
    intro k h
    have h0 : ops[k]? = some o := by simpa using (h 0 (by simp)).symm
    have ih' := ih (k + 1) (fun j hj => by
      have := h (j + 1) (by simp; omega)
      simpa [Nat.add_comm, Nat.add_left_comm, Nat.add_assoc] using this)
    funext a w
    simp only [List.length_cons, List.range'_succ, wpOps, h0, wpList, ih']

/-- Behind the select: its result taken apart. -/
theorem all_r5 (j : Nat → Value) (kind : Int) (bx br bc be ce ee : Nat) (rv : Value) (i : Int) (ok : Bool) (v : Value) (w : World) (hi : i = 0 ∨ i = 1) :
    wpOps Tryd.prog ops514 (nrm fun a' w' => a' = ⟨(((((se14 j kind bx br bc be ce ee rv).set 19 (.tuple #[.int .i64 i, .bool ok, v, .agg #[]])).set 20 (.int .i64 i)).set 21 (.bool (decide (i = 0)))).set 22 (.bool (decide (i = 1)))).toArray, []⟩ ∧ w' = w) [1, 2, 3]
      ⟨((se14 j kind bx br bc be ce ee rv).set 19 (.tuple #[.int .i64 i, .bool ok, v, .agg #[]])).toArray, []⟩ w := by
  have : ∃ l, (∀ x, x < l.length → l[x]? = ops514[1 + x]?) ∧ l.length = 3 ∧ l = (ops514.toList.drop 1) := ⟨_, fun x hx => by simp [Nat.add_comm], by kernel_rfl, rfl⟩
  obtain ⟨l, h1, h2, h3⟩ := this
  have h4 := wpOps_some (P := Tryd.prog) (Q := (nrm fun a' w' => a' = ⟨(((((se14 j kind bx br bc be ce ee rv).set 19 (.tuple #[.int .i64 i, .bool ok, v, .agg #[]])).set 20 (.int .i64 i)).set 21 (.bool (decide (i = 0)))).set 22 (.bool (decide (i = 1)))).toArray, []⟩ ∧ w' = w)) l 1 h1
  rw [h2] at h4
  show wpOps _ _ _ (List.range' 1 3) _ _
  rw [h4, h3]
  clear h1 h2 h3 h4
  unfold ops514 loop14 body14
  simp only [Tryd.f14, Option.getD_some, List.drop_succ_cons, List.drop_zero, List.set_cons_succ, List.set_cons_zero]
  rcases hi with rfl | rfl
  all_goals
    go_wp2
    exact ⟨rfl, rfl⟩
end Go.Proofs.YtlanlkpamnoekaaDoor.Lk
namespace Go.Proofs.YtlanlkpamnoekaaDoor
open Go Go.RowKit Rf Mem Bv Crc Str Lk Bits
set_option maxRecDepth 100000
attribute [local go_sem ↓] run_max2 run_min2
noncomputable def ops8 : Array Oper := match rg 8 with | .region _ o _ => o | _ => #[]
theorem rg8_eq : rg 8 = .region 8 ops8 false := rfl
theorem size8 : List.range ops8.size = [0, 1, 2, 3, 4] ++ [5, 6, 7, 8, 9, 10, 11] := by kernel_rfl
theorem ops8_from (k n : Nat) : ∀ j, j < ((ops8.toList.drop k).take n).length → ((ops8.toList.drop k).take n)[j]? = ops8[k + j]? := by
  intro j hj
  simp only [List.length_take] at hj
  rw [List.getElem?_take, if_pos (by omega), List.getElem?_drop]
  simp
theorem wk8a (a : Act) (g1 g2 g3 g5 g8 g17 : Nat) (hS : Sl a 190 [(0, .bool false), (1, .pointer (some ⟨g1, 0, none⟩)), (2, .pointer (some ⟨g2, 0, none⟩)), (3, .pointer (some ⟨g3, 0, none⟩)), (4, .int .i64 0), (5, .pointer (some ⟨g5, 0, none⟩)), (7, .int .i64 290), (8, .pointer (some ⟨g8, 0, none⟩)), (10, .int .i64 0), (13, .int .i64 41), (16, .int .i64 40), (17, .pointer (some ⟨g17, 0, none⟩))]) (w : World) : wpOps Tryd.prog ops8 (nrm fun a' w' => ∃ gv A1 c1 A2 c2 A3 c3, Sl a' 190 [(0, .bool false), (1, .pointer (some ⟨g1, 0, none⟩)), (2, .pointer (some ⟨g2, 0, none⟩)), (3, .pointer (some ⟨g3, 0, none⟩)), (4, .int .i64 0), (5, .pointer (some ⟨g5, 0, none⟩)), (7, .int .i64 290), (8, .pointer (some ⟨g8, 0, none⟩)), (10, .int .i64 0), (13, .int .i64 41), (16, .int .i64 40), (17, .pointer (some ⟨g17, 0, none⟩)), (69, lk (-1) 65535 0), (73, .slice (some ⟨gv, 0, none⟩) 4 4)] ∧ SliceAt w' 1 (.slice (some ⟨gv, 0, none⟩) 4 4) 4 [.slice A1 (panelV 1#8).length c1, .slice A2 (panelV 1#8).length c2, .slice none 0 0, .slice A3 (panelV 2#8).length c3] ∧ Els w' [.slice A1 (panelV 1#8).length c1, .slice A2 (panelV 1#8).length c2, .slice none 0 0, .slice A3 (panelV 2#8).length c3] [panelV 1#8, panelV 1#8, [], panelV 2#8] ∧ Below w.heap.size w w') [0, 1, 2, 3, 4] a w := by
  have h4 := fun Q => wpOps_some (P := Tryd.prog) (Q := Q) ((ops8.toList.drop 0).take 5) 0 (ops8_from 0 5)
  have h5 : ((ops8.toList.drop 0).take 5).length = 5 := by kernel_rfl
  rw [h5] at h4
  show wpOps _ _ _ (List.range' 0 5) _ _
  rw [h4]
  clear h4 h5
  obtain ⟨j, rfl, hj⟩ := hS.lit190
  have h0 : j 0 = .bool false := hj (0, _) (by simp)
  have h1 : j 1 = .pointer (some ⟨g1, 0, none⟩) := hj (1, _) (by simp)
  have h2 : j 2 = .pointer (some ⟨g2, 0, none⟩) := hj (2, _) (by simp)
  have h3 : j 3 = .pointer (some ⟨g3, 0, none⟩) := hj (3, _) (by simp)
  have h4 : j 4 = .int .i64 0 := hj (4, _) (by simp)
  have h5 : j 5 = .pointer (some ⟨g5, 0, none⟩) := hj (5, _) (by simp)
  have h7 : j 7 = .int .i64 290 := hj (7, _) (by simp)
  have h8 : j 8 = .pointer (some ⟨g8, 0, none⟩) := hj (8, _) (by simp)
  have h10 : j 10 = .int .i64 0 := hj (10, _) (by simp)
  have h13 : j 13 = .int .i64 41 := hj (13, _) (by simp)
  have h16 : j 16 = .int .i64 40 := hj (16, _) (by simp)
  have h17 : j 17 = .pointer (some ⟨g17, 0, none⟩) := hj (17, _) (by simp)
  clear hj hS
  unfold ops8 rg body10
  simp only [Tryd.f10, Option.getD_some, nthSeq, lit190, List.cons_append, List.nil_append, h0, h1, h2, h3, h4, h5, h7, h8, h10, h13, h16, h17]
  obtain ⟨X, hX⟩ : ∃ X, X = panelV 1#8 := ⟨_, rfl⟩
  obtain ⟨Y, hY⟩ : ∃ Y, Y = panelV 2#8 := ⟨_, rfl⟩
  have hlX : X.length ≤ 140737488355328 := by rw [hX]; decide
  have hlY : Y.length ≤ 140737488355328 := by rw [hY]; decide
  rw [← hX, ← hY]
  simp only [List.drop_zero, List.take_succ_cons, List.take_zero]
  have HX := Lib.hid hX
  have HY := Lib.hid hY
  have HlX := Lib.hid hlX
  have HlY := Lib.hid hlY
  clear hX hY hlX hlY
  go_wp2_with fail
  refine (New_c w).mono ?_
  rintro e W1 ⟨rfl, b1⟩
  go_wp2_with fail
  refine (panel_c 1#8 1 rfl X HX.out W1).mono ?_
  rintro e W2 ⟨b2, A1, c1, rfl, s1⟩
  have B2 := below_step b1 b2
  go_wp2_with fail
  refine (panel_c 1#8 1 rfl X HX.out W2).mono ?_
  rintro e W3 ⟨b3, A2, c2, rfl, s2⟩
  have B3 := below_step B2 b3
  go_wp2_with fail
  refine (panel_c 2#8 2 rfl Y HY.out W3).mono ?_
  rintro e W4 ⟨b4, A3, c3, rfl, s3⟩
  have B4 := below_step B3 b4
  have s1' := ((s1.later b3).later b4)
  have s2' := s2.later b4
  have b5 := below_new W4 (.cells #[.slice A1 X.length c1, .slice A2 X.length c2, .slice none 0 0, .slice A3 Y.length c3] 36)
  have B5 := below_step B4 b5
  have hrow : SliceAt (W4.alloc (.cells #[.slice A1 X.length c1, .slice A2 X.length c2, .slice none 0 0, .slice A3 Y.length c3] 36)) 1 (.slice (some ⟨W4.heap.size, 0, none⟩) 4 4) 4 [.slice A1 X.length c1, .slice A2 X.length c2, .slice none 0 0, .slice A3 Y.length c3] := sliceAt_blk (new_at rfl _) rfl (by simp [maxLen])
  have hE : Els (W4.alloc (.cells #[.slice A1 X.length c1, .slice A2 X.length c2, .slice none 0 0, .slice A3 Y.length c3] 36)) [.slice A1 X.length c1, .slice A2 X.length c2, .slice none 0 0, .slice A3 Y.length c3] [X, X, [], Y] := ⟨s1'.later b5, HlX.out, s2'.later b5, HlX.out, SliceAt.nil_ _ _, by simp, s3.later b5, HlY.out, trivial⟩
  clear s1 s2 s3 s1' s2' b1 b2 b3 b4 B2 B3 B4 b5
  go_wp2
  exact ⟨_, _, _, _, _, _, _, ⟨rfl, rfl, by simp⟩, hrow, hE, B5⟩

theorem wk8b (a : Act) (g1 g2 g3 g5 g8 g17 : Nat) (Ar : Option Addr) (cr : Nat) (hS : Sl a 190 [(0, .bool false), (1, .pointer (some ⟨g1, 0, none⟩)), (2, .pointer (some ⟨g2, 0, none⟩)), (3, .pointer (some ⟨g3, 0, none⟩)), (4, .int .i64 0), (5, .pointer (some ⟨g5, 0, none⟩)), (7, .int .i64 290), (8, .pointer (some ⟨g8, 0, none⟩)), (10, .int .i64 0), (13, .int .i64 41), (16, .int .i64 40), (17, .pointer (some ⟨g17, 0, none⟩)), (74, .tuple #[lk 2 0 2, .slice Ar 2 cr])]) (w : World) : wpOps Tryd.prog ops8 (nrm fun a' w' => ∃ g18, Sl a' 190 [(0, .bool false), (1, .pointer (some ⟨g1, 0, none⟩)), (2, .pointer (some ⟨g2, 0, none⟩)), (3, .pointer (some ⟨g3, 0, none⟩)), (4, .int .i64 0), (5, .pointer (some ⟨g5, 0, none⟩)), (7, .int .i64 290), (8, .pointer (some ⟨g8, 0, none⟩)), (10, .int .i64 0), (13, .int .i64 41), (16, .int .i64 40), (17, .pointer (some ⟨g17, 0, none⟩)), (18, .pointer (some ⟨g18, 0, none⟩)), (19, .slice Ar 2 cr)] ∧ LVar w' g18 2 0 2 ∧ Below w.heap.size w w') [6, 7, 8, 9, 10, 11] a w := by
  have h4 := fun Q => wpOps_some (P := Tryd.prog) (Q := Q) ((ops8.toList.drop 6).take 6) 6 (ops8_from 6 6)
  have h5 : ((ops8.toList.drop 6).take 6).length = 6 := by kernel_rfl
  rw [h5] at h4
  show wpOps _ _ _ (List.range' 6 6) _ _
  rw [h4]
  clear h4 h5
  obtain ⟨j, rfl, hj⟩ := hS.lit190
  have h0 : j 0 = .bool false := hj (0, _) (by simp)
  have h1 : j 1 = .pointer (some ⟨g1, 0, none⟩) := hj (1, _) (by simp)
  have h2 : j 2 = .pointer (some ⟨g2, 0, none⟩) := hj (2, _) (by simp)
  have h3 : j 3 = .pointer (some ⟨g3, 0, none⟩) := hj (3, _) (by simp)
  have h4 : j 4 = .int .i64 0 := hj (4, _) (by simp)
  have h5 : j 5 = .pointer (some ⟨g5, 0, none⟩) := hj (5, _) (by simp)
  have h7 : j 7 = .int .i64 290 := hj (7, _) (by simp)
  have h8 : j 8 = .pointer (some ⟨g8, 0, none⟩) := hj (8, _) (by simp)
  have h10 : j 10 = .int .i64 0 := hj (10, _) (by simp)
  have h13 : j 13 = .int .i64 41 := hj (13, _) (by simp)
  have h16 : j 16 = .int .i64 40 := hj (16, _) (by simp)
  have h17 : j 17 = .pointer (some ⟨g17, 0, none⟩) := hj (17, _) (by simp)
  have h74 : j 74 = .tuple #[lk 2 0 2, .slice Ar 2 cr] := hj (74, _) (by simp)
  clear hj hS
  unfold ops8 rg body10
  simp only [Tryd.f10, Option.getD_some, nthSeq, lit190, List.cons_append, List.nil_append, h0, h1, h2, h3, h4, h5, h7, h8, h10, h13, h16, h17, h74]
  simp only [List.drop_succ_cons, List.drop_zero, List.take_succ_cons, List.take_zero]
  have b1 := below_new w (.cells #[.int .i64 2, .int .i64 0, .int .i64 2] 31)
  have V := LVar.new w 2 0 2
  go_wp2
  exact ⟨_, ⟨rfl, rfl, by simp⟩, V, b1⟩

abbrev iA : U32 := 1#32
abbrev iB : U32 := 2#32
abbrev iC : U32 := 2147483648#32
abbrev iD : U32 := 5#32
theorem wk9 (a : Act) (g1 g2 g3 g5 g8 g17 g18 : Nat) (Ar : Option Addr) (cr : Nat) (hS : Sl a 190 [(0, .bool false), (1, .pointer (some ⟨g1, 0, none⟩)), (2, .pointer (some ⟨g2, 0, none⟩)), (3, .pointer (some ⟨g3, 0, none⟩)), (4, .int .i64 0), (5, .pointer (some ⟨g5, 0, none⟩)), (7, .int .i64 290), (8, .pointer (some ⟨g8, 0, none⟩)), (10, .int .i64 0), (13, .int .i64 41), (16, .int .i64 40), (17, .pointer (some ⟨g17, 0, none⟩)), (18, .pointer (some ⟨g18, 0, none⟩)), (19, .slice Ar 2 cr)]) (w : World) : (rg 9).wp Tryd.prog (nrm fun a' w' => ∃ g20, Sl a' 190 [(0, .bool false), (1, .pointer (some ⟨g1, 0, none⟩)), (2, .pointer (some ⟨g2, 0, none⟩)), (3, .pointer (some ⟨g3, 0, none⟩)), (4, .int .i64 0), (5, .pointer (some ⟨g5, 0, none⟩)), (7, .int .i64 290), (8, .pointer (some ⟨g8, 0, none⟩)), (10, .int .i64 0), (13, .int .i64 41), (16, .int .i64 40), (17, .pointer (some ⟨g17, 0, none⟩)), (18, .pointer (some ⟨g18, 0, none⟩)), (19, .slice Ar 2 cr), (20, .pointer (some ⟨g20, 0, none⟩))] ∧ IVar w' g20 iA iB iC iD ∧ Below w.heap.size w w') a w := by
  obtain ⟨j, rfl, hj⟩ := hS.lit190
  have h0 : j 0 = .bool false := hj (0, _) (by simp)
  have h1 : j 1 = .pointer (some ⟨g1, 0, none⟩) := hj (1, _) (by simp)
  have h2 : j 2 = .pointer (some ⟨g2, 0, none⟩) := hj (2, _) (by simp)
  have h3 : j 3 = .pointer (some ⟨g3, 0, none⟩) := hj (3, _) (by simp)
  have h4 : j 4 = .int .i64 0 := hj (4, _) (by simp)
  have h5 : j 5 = .pointer (some ⟨g5, 0, none⟩) := hj (5, _) (by simp)
  have h7 : j 7 = .int .i64 290 := hj (7, _) (by simp)
  have h8 : j 8 = .pointer (some ⟨g8, 0, none⟩) := hj (8, _) (by simp)
  have h10 : j 10 = .int .i64 0 := hj (10, _) (by simp)
  have h13 : j 13 = .int .i64 41 := hj (13, _) (by simp)
  have h16 : j 16 = .int .i64 40 := hj (16, _) (by simp)
  have h17 : j 17 = .pointer (some ⟨g17, 0, none⟩) := hj (17, _) (by simp)
  have h18 : j 18 = .pointer (some ⟨g18, 0, none⟩) := hj (18, _) (by simp)
  have h19 : j 19 = .slice Ar 2 cr := hj (19, _) (by simp)
  clear hj hS
  unfold rg body10
  simp only [Tryd.f10, Option.getD_some, nthSeq, lit190, List.cons_append, List.nil_append, h0, h1, h2, h3, h4, h5, h7, h8, h10, h13, h16, h17, h18, h19]
  have b1 := below_new w (.cells #[.int .u32 1, .int .u32 2, .int .u32 2147483648, .int .u32 5] 35)
  have V : IVar (w.alloc (.cells #[.int .u32 1, .int .u32 2, .int .u32 2147483648, .int .u32 5] 35)) w.heap.size iA iB iC iD := ⟨new_at rfl _⟩
  go_wp2
  exact ⟨_, ⟨rfl, rfl, by simp⟩, V, b1⟩

theorem wk10 (a : Act) (g1 g2 g3 g5 g8 g17 g18 g20 : Nat) (Ar : Option Addr) (cr : Nat) (hS : Sl a 190 [(0, .bool false), (1, .pointer (some ⟨g1, 0, none⟩)), (2, .pointer (some ⟨g2, 0, none⟩)), (3, .pointer (some ⟨g3, 0, none⟩)), (4, .int .i64 0), (5, .pointer (some ⟨g5, 0, none⟩)), (7, .int .i64 290), (8, .pointer (some ⟨g8, 0, none⟩)), (10, .int .i64 0), (13, .int .i64 41), (16, .int .i64 40), (17, .pointer (some ⟨g17, 0, none⟩)), (18, .pointer (some ⟨g18, 0, none⟩)), (19, .slice Ar 2 cr), (20, .pointer (some ⟨g20, 0, none⟩))]) (w : World) (V : IVar w g20 iA iB iC iD) : (rg 10).wp Tryd.prog (nrm fun a' w' => ∃ Ap cp X, Sl a' 190 [(0, .bool false), (1, .pointer (some ⟨g1, 0, none⟩)), (2, .pointer (some ⟨g2, 0, none⟩)), (3, .pointer (some ⟨g3, 0, none⟩)), (4, .int .i64 0), (5, .pointer (some ⟨g5, 0, none⟩)), (7, .int .i64 290), (8, .pointer (some ⟨g8, 0, none⟩)), (10, .int .i64 0), (13, .int .i64 41), (16, .int .i64 40), (17, .pointer (some ⟨g17, 0, none⟩)), (18, .pointer (some ⟨g18, 0, none⟩)), (19, .slice Ar 2 cr), (20, .pointer (some ⟨g20, 0, none⟩)), (21, .slice Ap 16 cp)] ∧ SliceAt w' 1 (.slice Ap 16 cp) 16 (u8s X) ∧ X.length = 16 ∧ Holds X (inB [iA, iB, iC, iD]) ∧ Below w.heap.size w w') a w := by
  obtain ⟨j, rfl, hj⟩ := hS.lit190
  have h0 : j 0 = .bool false := hj (0, _) (by simp)
  have h1 : j 1 = .pointer (some ⟨g1, 0, none⟩) := hj (1, _) (by simp)
  have h2 : j 2 = .pointer (some ⟨g2, 0, none⟩) := hj (2, _) (by simp)
  have h3 : j 3 = .pointer (some ⟨g3, 0, none⟩) := hj (3, _) (by simp)
  have h4 : j 4 = .int .i64 0 := hj (4, _) (by simp)
  have h5 : j 5 = .pointer (some ⟨g5, 0, none⟩) := hj (5, _) (by simp)
  have h7 : j 7 = .int .i64 290 := hj (7, _) (by simp)
  have h8 : j 8 = .pointer (some ⟨g8, 0, none⟩) := hj (8, _) (by simp)
  have h10 : j 10 = .int .i64 0 := hj (10, _) (by simp)
  have h13 : j 13 = .int .i64 41 := hj (13, _) (by simp)
  have h16 : j 16 = .int .i64 40 := hj (16, _) (by simp)
  have h17 : j 17 = .pointer (some ⟨g17, 0, none⟩) := hj (17, _) (by simp)
  have h18 : j 18 = .pointer (some ⟨g18, 0, none⟩) := hj (18, _) (by simp)
  have h19 : j 19 = .slice Ar 2 cr := hj (19, _) (by simp)
  have h20 : j 20 = .pointer (some ⟨g20, 0, none⟩) := hj (20, _) (by simp)
  clear hj hS
  unfold rg body10
  simp only [Tryd.f10, Option.getD_some, nthSeq, lit190, List.cons_append, List.nil_append, h0, h1, h2, h3, h4, h5, h7, h8, h10, h13, h16, h17, h18, h19, h20]
  have x0 := V.cell 0 _ rfl
  have x1 := V.cell 1 _ rfl
  have x2 := V.cell 2 _ rfl
  have x3 := V.cell 3 _ rfl
  go_wp2_with fail
  refine (PutIn_c iA iB iC iD w).mono ?_
  rintro e W ⟨b, A, c, X, rfl, hs, hH⟩
  have h16 : X.length = 16 := by rw [hH.1, inB_len]; rfl
  rw [h16] at hs ⊢
  clear x0 x1 x2 x3
  have HH := Lib.hid hH
  have H16 := Lib.hid h16
  clear hH h16
  go_wp2
  exact ⟨A, c, X, ⟨rfl, rfl, by simp⟩, hs, H16.out, HH.out, b⟩

/-- What was put is taken. -/
theorem take_put {X : List (BitVec 8)} {a b c d : U32} (h : Holds X (inB [a, b, c, d])) : takeInV X = (a, b, c, d, 0) := by
  have h16 : X.length = 16 := by rw [h.1, inB_len]; simp
  have hb : bitsOf X = inB [a, b, c, d] := by
    have := holds_len h
    rw [h16, inB_len] at this
    simpa using this
  have hf : ∀ i z, [a, b, c, d][i]? = some z → fld X i = z := fun i z hz => by
    have hn : ((inB [a, b, c, d]).drop (32 * i)).take 32 = numBits z.toNat 32 := by
      have hl : ∀ u : U32, (numBits u.toNat 32).length = 32 := fun u => numBits_length ..
      have hd : ∀ (u : U32) (k : Nat), 32 ≤ k → (numBits u.toNat 32).drop k = [] := fun u k h => List.drop_eq_nil_of_le (by rw [hl]; exact h)
      have ht : ∀ u : U32, (numBits u.toNat 32).take 32 = numBits u.toNat 32 := fun u => List.take_of_length_le (by rw [hl]; exact Nat.le_refl _)
      match i, hz with
      | 0, h => cases h; simp [inB, List.take_append, hl, ht]
      | 1, h => cases h; simp [inB, List.drop_append, List.take_append, hl, hd, ht]
      | 2, h => cases h; simp [inB, List.drop_append, List.take_append, hl, hd, ht]
      | 3, h => cases h; simp [inB, List.drop_append, List.take_append, hl, hd, ht]
      | i + 4, h => simp at h
    unfold fld
    rw [hb, hn, num_numBits, Nat.mod_eq_of_lt z.isLt]
    simp
  unfold takeInV
  rw [if_pos h16, hf 0 a rfl, hf 1 b rfl, hf 2 c rfl, hf 3 d rfl]

theorem wk11 (a : Act) (g1 g2 g3 g5 g8 g17 g18 g20 : Nat) (Ar Ap : Option Addr) (cr cp : Nat) (X : List (BitVec 8)) (hS : Sl a 190 [(0, .bool false), (1, .pointer (some ⟨g1, 0, none⟩)), (2, .pointer (some ⟨g2, 0, none⟩)), (3, .pointer (some ⟨g3, 0, none⟩)), (4, .int .i64 0), (5, .pointer (some ⟨g5, 0, none⟩)), (7, .int .i64 290), (8, .pointer (some ⟨g8, 0, none⟩)), (10, .int .i64 0), (13, .int .i64 41), (16, .int .i64 40), (17, .pointer (some ⟨g17, 0, none⟩)), (18, .pointer (some ⟨g18, 0, none⟩)), (19, .slice Ar 2 cr), (20, .pointer (some ⟨g20, 0, none⟩)), (21, .slice Ap 16 cp)]) (w : World) (hs : SliceAt w 1 (.slice Ap 16 cp) 16 (u8s X)) (hx16 : X.length = 16) (hH : Holds X (inB [iA, iB, iC, iD])) : (rg 11).wp Tryd.prog (nrm fun a' w' => ∃ g22, Sl a' 190 [(0, .bool false), (1, .pointer (some ⟨g1, 0, none⟩)), (2, .pointer (some ⟨g2, 0, none⟩)), (3, .pointer (some ⟨g3, 0, none⟩)), (4, .int .i64 0), (5, .pointer (some ⟨g5, 0, none⟩)), (7, .int .i64 290), (8, .pointer (some ⟨g8, 0, none⟩)), (10, .int .i64 0), (13, .int .i64 41), (16, .int .i64 40), (17, .pointer (some ⟨g17, 0, none⟩)), (18, .pointer (some ⟨g18, 0, none⟩)), (19, .slice Ar 2 cr), (20, .pointer (some ⟨g20, 0, none⟩)), (21, .slice Ap 16 cp), (22, .pointer (some ⟨g22, 0, none⟩)), (23, .int .i64 0)] ∧ IVar w' g22 iA iB iC iD ∧ Below w.heap.size w w') a w := by
  obtain ⟨j, rfl, hj⟩ := hS.lit190
  have h0 : j 0 = .bool false := hj (0, _) (by simp)
  have h1 : j 1 = .pointer (some ⟨g1, 0, none⟩) := hj (1, _) (by simp)
  have h2 : j 2 = .pointer (some ⟨g2, 0, none⟩) := hj (2, _) (by simp)
  have h3 : j 3 = .pointer (some ⟨g3, 0, none⟩) := hj (3, _) (by simp)
  have h4 : j 4 = .int .i64 0 := hj (4, _) (by simp)
  have h5 : j 5 = .pointer (some ⟨g5, 0, none⟩) := hj (5, _) (by simp)
  have h7 : j 7 = .int .i64 290 := hj (7, _) (by simp)
  have h8 : j 8 = .pointer (some ⟨g8, 0, none⟩) := hj (8, _) (by simp)
  have h10 : j 10 = .int .i64 0 := hj (10, _) (by simp)
  have h13 : j 13 = .int .i64 41 := hj (13, _) (by simp)
  have h16 : j 16 = .int .i64 40 := hj (16, _) (by simp)
  have h17 : j 17 = .pointer (some ⟨g17, 0, none⟩) := hj (17, _) (by simp)
  have h18 : j 18 = .pointer (some ⟨g18, 0, none⟩) := hj (18, _) (by simp)
  have h19 : j 19 = .slice Ar 2 cr := hj (19, _) (by simp)
  have h20 : j 20 = .pointer (some ⟨g20, 0, none⟩) := hj (20, _) (by simp)
  have h21 : j 21 = .slice Ap 16 cp := hj (21, _) (by simp)
  clear hj hS
  unfold rg body10
  simp only [Tryd.f10, Option.getD_some, nthSeq, lit190, List.cons_append, List.nil_append, h0, h1, h2, h3, h4, h5, h7, h8, h10, h13, h16, h17, h18, h19, h20, h21]
  have ht := take_put hH
  go_wp2_with fail
  refine (TakeIn_c (.slice Ap 16 cp) X iA iB iC iD 0 w ht (by rw [hx16]; exact hs) (by rw [hx16]; omega)).mono ?_
  rintro e W ⟨rfl, b⟩
  have b1 := below_new W (.cells #[.int .u32 1, .int .u32 2, .int .u32 2147483648, .int .u32 5] 35)
  have V : IVar (W.alloc (.cells #[.int .u32 1, .int .u32 2, .int .u32 2147483648, .int .u32 5] 35)) W.heap.size iA iB iC iD := ⟨new_at rfl _⟩
  have B := below_step b b1
  clear ht hH hx16 hs b b1
  go_wp2
  exact ⟨_, ⟨rfl, rfl, by simp⟩, V, B⟩

theorem wk12 (a : Act) (g1 g2 g3 g5 g8 g17 g18 g20 g22 : Nat) (Ar Ap : Option Addr) (cr cp : Nat) (X : List (BitVec 8)) (hS : Sl a 190 [(0, .bool false), (1, .pointer (some ⟨g1, 0, none⟩)), (2, .pointer (some ⟨g2, 0, none⟩)), (3, .pointer (some ⟨g3, 0, none⟩)), (4, .int .i64 0), (5, .pointer (some ⟨g5, 0, none⟩)), (7, .int .i64 290), (8, .pointer (some ⟨g8, 0, none⟩)), (10, .int .i64 0), (13, .int .i64 41), (16, .int .i64 40), (17, .pointer (some ⟨g17, 0, none⟩)), (18, .pointer (some ⟨g18, 0, none⟩)), (19, .slice Ar 2 cr), (20, .pointer (some ⟨g20, 0, none⟩)), (21, .slice Ap 16 cp), (22, .pointer (some ⟨g22, 0, none⟩)), (23, .int .i64 0)]) (w : World) (hs : SliceAt w 1 (.slice Ap 16 cp) 16 (u8s X)) (hx16 : X.length = 16) : (rg 12).wp Tryd.prog (nrm fun a' w' => Sl a' 190 [(0, .bool false), (1, .pointer (some ⟨g1, 0, none⟩)), (2, .pointer (some ⟨g2, 0, none⟩)), (3, .pointer (some ⟨g3, 0, none⟩)), (4, .int .i64 0), (5, .pointer (some ⟨g5, 0, none⟩)), (7, .int .i64 290), (8, .pointer (some ⟨g8, 0, none⟩)), (10, .int .i64 0), (13, .int .i64 41), (16, .int .i64 40), (17, .pointer (some ⟨g17, 0, none⟩)), (18, .pointer (some ⟨g18, 0, none⟩)), (19, .slice Ar 2 cr), (20, .pointer (some ⟨g20, 0, none⟩)), (21, .slice Ap 16 cp), (22, .pointer (some ⟨g22, 0, none⟩)), (23, .int .i64 0), (25, .int .i64 41)] ∧ Below w.heap.size w w') a w := by
  obtain ⟨j, rfl, hj⟩ := hS.lit190
  have h0 : j 0 = .bool false := hj (0, _) (by simp)
  have h1 : j 1 = .pointer (some ⟨g1, 0, none⟩) := hj (1, _) (by simp)
  have h2 : j 2 = .pointer (some ⟨g2, 0, none⟩) := hj (2, _) (by simp)
  have h3 : j 3 = .pointer (some ⟨g3, 0, none⟩) := hj (3, _) (by simp)
  have h4 : j 4 = .int .i64 0 := hj (4, _) (by simp)
  have h5 : j 5 = .pointer (some ⟨g5, 0, none⟩) := hj (5, _) (by simp)
  have h7 : j 7 = .int .i64 290 := hj (7, _) (by simp)
  have h8 : j 8 = .pointer (some ⟨g8, 0, none⟩) := hj (8, _) (by simp)
  have h10 : j 10 = .int .i64 0 := hj (10, _) (by simp)
  have h13 : j 13 = .int .i64 41 := hj (13, _) (by simp)
  have h16 : j 16 = .int .i64 40 := hj (16, _) (by simp)
  have h17 : j 17 = .pointer (some ⟨g17, 0, none⟩) := hj (17, _) (by simp)
  have h18 : j 18 = .pointer (some ⟨g18, 0, none⟩) := hj (18, _) (by simp)
  have h19 : j 19 = .slice Ar 2 cr := hj (19, _) (by simp)
  have h20 : j 20 = .pointer (some ⟨g20, 0, none⟩) := hj (20, _) (by simp)
  have h21 : j 21 = .slice Ap 16 cp := hj (21, _) (by simp)
  have h22 : j 22 = .pointer (some ⟨g22, 0, none⟩) := hj (22, _) (by simp)
  have h23 : j 23 = .int .i64 0 := hj (23, _) (by simp)
  clear hj hS
  unfold rg body10
  simp only [Tryd.f10, Option.getD_some, nthSeq, lit190, List.cons_append, List.nil_append, h0, h1, h2, h3, h4, h5, h7, h8, h10, h13, h16, h17, h18, h19, h20, h21, h22, h23]
  have h15 : (X.take 15).length = 15 := by rw [List.length_take, hx16]; rfl
  have ht : takeInV (X.take 15) = (0, 0, 0, 0, 41) := by unfold takeInV; rw [if_neg (by rw [h15]; decide)]
  have hs15 : SliceAt w 1 (.slice Ap 15 cp) 15 (u8s (X.take 15)) := by
    have := hs.take (k := 15) (by omega)
    simpa [u8s, List.map_take] using this
  obtain ⟨_, _, e, hc, _⟩ := hs.form
  obtain ⟨rfl, _, rfl⟩ := Value.slice.inj e
  clear e
  have hm : (min (16 : Int) 15).toNat = 15 := by decide
  go_wp2_with fail
  refine (TakeIn_c (.slice Ap 15 cp) (X.take 15) 0 0 0 0 41 w ht (by rw [h15]; exact hs15) (by rw [h15]; omega)).mono ?_
  rintro e W ⟨rfl, b⟩
  have b1 := below_new W (.cells #[.int .u32 0, .int .u32 0, .int .u32 0, .int .u32 0] 35)
  have B := below_step b b1
  clear ht hx16 hs hs15 h15 hm b b1
  go_wp2
  exact ⟨⟨rfl, rfl, by simp⟩, B⟩
end Go.Proofs.YtlanlkpamnoekaaDoor
namespace Go.Proofs.YtlanlkpamnoekaaDoor
open Go Go.RowKit Rf Mem Bv Crc Str Lk Bits
set_option maxRecDepth 100000
attribute [local go_sem ↓] run_max2 run_min2
/-- What wakes has found. -/
structure WM (W : World) (g1 g2 g3 g5 g8 g17 : Nat) : Prop where
  y : LY W g1 y1 1
  l2 : LVar W g2 200 0 0
  f3 : FV W g3 (2#8, 200#8, [])
  l5 : LVar W g5 200 0 1
  l8 : LVar W g8 7 0 1
  l17 : LVar W g17 (-1) 2 1
  t : Tops W
theorem WM.later {W W' : World} {g1 g2 g3 g5 g8 g17 : Nat} (h : WM W g1 g2 g3 g5 g8 g17) (b : Below W.heap.size W W') : WM W' g1 g2 g3 g5 g8 g17 := ⟨h.y.later b, h.l2.later b, h.f3.later b, h.l5.later b, h.l8.later b, h.l17.later b, h.t.below b⟩
theorem FV.c1 {W : World} {g : Nat} {f : Frm} (h : FV W g f) : W.cell? ⟨g, 1, none⟩ = some (.int .u8 (f.2.1.toNat : Int)) := by
  obtain ⟨A, c, h1, _⟩ := h.out
  rw [cell_at h1]; rfl
set_option maxHeartbeats 4000000 in
theorem wk13 (a : Act) (g1 g2 g3 g5 g8 g17 g18 g20 g22 : Nat) (Ar Ap : Option Addr) (cr cp : Nat) (hS : Sl a 190 [(0, .bool false), (1, .pointer (some ⟨g1, 0, none⟩)), (2, .pointer (some ⟨g2, 0, none⟩)), (3, .pointer (some ⟨g3, 0, none⟩)), (4, .int .i64 0), (5, .pointer (some ⟨g5, 0, none⟩)), (7, .int .i64 290), (8, .pointer (some ⟨g8, 0, none⟩)), (10, .int .i64 0), (13, .int .i64 41), (16, .int .i64 40), (17, .pointer (some ⟨g17, 0, none⟩)), (18, .pointer (some ⟨g18, 0, none⟩)), (19, .slice Ar 2 cr), (20, .pointer (some ⟨g20, 0, none⟩)), (21, .slice Ap 16 cp), (22, .pointer (some ⟨g22, 0, none⟩)), (23, .int .i64 0), (25, .int .i64 41)]) (w : World) (H : WM w g1 g2 g3 g5 g8 g17) (L18 : LVar w g18 2 0 2) (I20 : IVar w g20 iA iB iC iD) (I22 : IVar w g22 iA iB iC iD) : (rg 13).wp Tryd.prog (nrm fun a' w' => Sl a' 190 [(0, .bool true)] ∧ Below w.heap.size w w') a w := by
  obtain ⟨j, rfl, hj⟩ := hS.lit190
  have h0 : j 0 = .bool false := hj (0, _) (by simp)
  have h1 : j 1 = .pointer (some ⟨g1, 0, none⟩) := hj (1, _) (by simp)
  have h2 : j 2 = .pointer (some ⟨g2, 0, none⟩) := hj (2, _) (by simp)
  have h3 : j 3 = .pointer (some ⟨g3, 0, none⟩) := hj (3, _) (by simp)
  have h4 : j 4 = .int .i64 0 := hj (4, _) (by simp)
  have h5 : j 5 = .pointer (some ⟨g5, 0, none⟩) := hj (5, _) (by simp)
  have h7 : j 7 = .int .i64 290 := hj (7, _) (by simp)
  have h8 : j 8 = .pointer (some ⟨g8, 0, none⟩) := hj (8, _) (by simp)
  have h10 : j 10 = .int .i64 0 := hj (10, _) (by simp)
  have h13 : j 13 = .int .i64 41 := hj (13, _) (by simp)
  have h16 : j 16 = .int .i64 40 := hj (16, _) (by simp)
  have h17 : j 17 = .pointer (some ⟨g17, 0, none⟩) := hj (17, _) (by simp)
  have h18 : j 18 = .pointer (some ⟨g18, 0, none⟩) := hj (18, _) (by simp)
  have h19 : j 19 = .slice Ar 2 cr := hj (19, _) (by simp)
  have h20 : j 20 = .pointer (some ⟨g20, 0, none⟩) := hj (20, _) (by simp)
  have h21 : j 21 = .slice Ap 16 cp := hj (21, _) (by simp)
  have h22 : j 22 = .pointer (some ⟨g22, 0, none⟩) := hj (22, _) (by simp)
  have h23 : j 23 = .int .i64 0 := hj (23, _) (by simp)
  have h25 : j 25 = .int .i64 41 := hj (25, _) (by simp)
  clear hj hS
  unfold rg body10
  simp only [Tryd.f10, Option.getD_some, nthSeq, lit190, List.cons_append, List.nil_append, h0, h1, h2, h3, h4, h5, h7, h8, h10, h13, h16, h17, h18, h19, h20, h21, h22, h23, h25]
  have p1 := H.f3.c1
  have p2 : w.cell? ⟨g3, 1, none⟩ = some (.int .u8 200) := p1
  clear p1
  have q0 := H.l2.c0
  have q1 := H.l2.c1
  have q5 := H.l5.c2
  have r0 := H.l8.c0
  have r1 := H.l8.c1
  have r2 := H.l8.c2
  have s0 := H.l17.c0
  have s1 := H.l17.c1
  have s2 := H.l17.c2
  obtain ⟨z0, z1, z2, z3, z4, z5, z6, z7, z8, z9, z10⟩ := H.y.cells
  go_wp2_with fail
  clear p2 q0 q1 q5 r0 r1 r2 s0 s1 s2 z0 z1 z2 z3 z4 z5 z6 z7 z8 z9 z10
  refine (Dead_c y1 1 (-1) 2 1 true (by decide) w).mono ?_
  rintro e W1 ⟨rfl, b1⟩
  have H1 := H.later b1
  have L1 := L18.later b1
  have I1 := I20.later b1
  have J1 := I22.later b1
  clear H L18 I20 I22
  have r0 := H1.l8.c0
  have r1 := H1.l8.c1
  have r2 := H1.l8.c2
  obtain ⟨z0, z1, z2, z3, z4, z5, z6, z7, z8, z9, z10⟩ := H1.y.cells
  go_wp2_with fail
  clear r0 r1 r2 z0 z1 z2 z3 z4 z5 z6 z7 z8 z9 z10
  refine (Dead_c y1 1 7 0 1 false (by decide) W1).mono ?_
  rintro e W2 ⟨rfl, b2⟩
  have H2 := H1.later b2
  have L2 := L1.later b2
  have I2 := I1.later b2
  have J2 := J1.later b2
  have B2 := below_step b1 b2
  clear H1 L1 I1 J1 b1 b2
  have s0 := H2.l17.c0
  have t2 := L2.c2
  have u0 := I2.cell 0 _ rfl
  have u1 := I2.cell 1 _ rfl
  have u2 := I2.cell 2 _ rfl
  have u3 := I2.cell 3 _ rfl
  have v0 := J2.cell 0 _ rfl
  have v1 := J2.cell 1 _ rfl
  have v2 := J2.cell 2 _ rfl
  have v3 := J2.cell 3 _ rfl
  have r0 := H2.l8.c0
  have r1 := H2.l8.c1
  have r2 := H2.l8.c2
  go_wp2_with fail
  clear s0 t2 u0 u1 u2 u3 v0 v1 v2 v3 r0 r1 r2
  refine (link_Right_c 7 0 1 W2 true (by decide) H2.t).mono ?_
  rintro e W3 ⟨rfl, b3⟩
  have H3 := H2.later b3
  have B3 := below_step B2 b3
  clear H2 L2 I2 J2 b3 B2
  go_wp2_with fail
  refine (link_Right_c 256 0 0 W3 false (by decide) H3.t).mono ?_
  rintro e W4 ⟨rfl, b4⟩
  have B4 := below_step B3 b4
  clear H3 b4 B3
  go_wp2
  exact ⟨⟨rfl, rfl, by simp⟩, B4⟩
end Go.Proofs.YtlanlkpamnoekaaDoor
namespace Go.Proofs.YtlanlkpamnoekaaDoor.Lk
open Go Go.Conc Go.RowKit Mem Rf Bv Crc Str
set_option maxRecDepth 100000
attribute [local go_sem ↓] run_max2 run_min2

theorem info_frm : (Tryd.prog.info? 41).map (fun i => (i.zero, i.size, i.bytes)) = some (some (.agg #[.int .u8 0, .int .u8 0, .slice none 0 0]), 3, 32) := by kernel_rfl

theorem hd14_of (kind : Int) (bx br bc be : Nat) (rv a0 a2 a4 a5 a10 a11 a12 a13 a14 a15 a16 a17 a18 a19 a20 a21 a22 a23 a24 a25 a26 a27 a28 a29 a30 a31 a32 a33 a34 a35 a36 a37 a38 a39 a40 : Value) : ∃ j, (⟨#[a0, .int .u8 kind, a2, .pointer (some ⟨bx, 0, none⟩), a4, a5, .pointer (some ⟨br, 0, none⟩), rv, .pointer (some ⟨bc, 0, none⟩), .pointer (some ⟨be, 0, none⟩), a10, a11, a12, a13, a14, a15, a16, a17, a18, a19, a20, a21, a22, a23, a24, a25, a26, a27, a28, a29, a30, a31, a32, a33, a34, a35, a36, a37, a38, a39, a40], []⟩ : Act) = ⟨(hd14 j kind bx br bc be rv).toArray, []⟩ := ⟨fun i => [a0, .int .u8 kind, a2, .pointer (some ⟨bx, 0, none⟩), a4, a5, .pointer (some ⟨br, 0, none⟩), rv, .pointer (some ⟨bc, 0, none⟩), .pointer (some ⟨be, 0, none⟩), a10, a11, a12, a13, a14, a15, a16, a17, a18, a19, a20, a21, a22, a23, a24, a25, a26, a27, a28, a29, a30, a31, a32, a33, a34, a35, a36, a37, a38, a39, a40].getD i undef, rfl⟩

/-- At the loop's head: the link, the frames. B: the heap's size at All's entry; the row of frames lies from R on. -/
structure Head (B R bx br : Nat) (st : Lst × List Frm) (rv : Value) (W : World) : Prop where
  x : LVar W bx st.1.1 st.1.2.1 st.1.2.2
  r : LVar W br 0 0 0
  hB : B ≤ bx ∧ bx < br ∧ br < R ∧ R ≤ W.heap.size
  own : ∃ xs, W.ownsRow R 41 3 rv st.2.length xs ∧ FCells (fun q => rv.ownBlock ≠ some q) W st.2 xs
  ne : rv = .slice none 0 0 ∨ 0 < st.2.length
  tops : Tops W
  tg : 0 < B

set_option maxHeartbeats 1000000 in
theorem all_round (j : Nat → Value) (kind : Int) (B R bx br bc be ce ee : Nat) (rv v : Value) (b : List (BitVec 8)) (st : Lst × List Frm) (w : World) (h19 : j 19 = .tuple #[.int .i64 0, .bool true, v, .agg #[]]) (h21 : j 21 = .bool true)
    (H : Head B R bx br st rv w) (hs : SliceAt w 1 v b.length (u8s b)) (hl : b.length ≤ 140737488355328) (hn : st.2.length ≤ 100000) :
    sel14.wp Tryd.prog (nrm fun a' w' => ∃ j' rv', a' = ⟨(hd14 j' kind bx br bc be rv').toArray, []⟩ ∧ Head B R bx br (stepV kind st b) rv' w' ∧ Below B w w') ⟨(se14 j kind bx br bc be ce ee rv).toArray, []⟩ w := by
  unfold sel14 loop14 body14
  simp only [Tryd.f14, Option.getD_some]
  obtain ⟨x, fs⟩ := st
  obtain ⟨V0, Q0, ⟨hB, hBx, hBr, hR⟩, ⟨xs, ho, hf⟩, hne, hT, hG⟩ := H
  have hlt := lt_of_at V0.at_
  simp only at V0 ho hf hn
  simp only [se14, h19, h21]
  have x0 := V0.c0
  have x1 := V0.c1
  have x2 := V0.c2
  go_wp2_with fail
  obtain ⟨r, hr⟩ : ∃ r, r = hearV kind b x := ⟨_, rfl⟩
  have HR := Lib.hid hr
  refine (Hear_v x kind v b w r hr hT hs hl).mono ?_
  clear hr
  rintro y W1 ⟨A, c, rfl, b1, hs1, hq1⟩
  obtain ⟨⟨s', q', e'⟩, er, f⟩ := r
  simp only at hs1 hq1 HR ⊢
  have V1 := V0.later b1
  have Q1 := Q0.later b1
  have hf1 := hf.later b1
  have ho1 : W1.ownsRow R 41 3 rv fs.length xs := own_later ho (fun g hg => b1.block g (own_base ho hg).2)
  have hT1 := hT.below b1
  clear x0 x1 x2
  go_upto_region 8 with (fail)
  have b2 := below_new W1 (.cells #[.int .i64 s', .int .i64 q', .int .i64 e'] 31)
  have N1 := LVar.new W1 s' q' e'
  have b3 := below_new (W1.alloc (.cells #[.int .i64 s', .int .i64 q', .int .i64 e'] 31)) (.cells #[.int .u8 (f.1.toNat : Int), .int .u8 (f.2.1.toNat : Int), .slice A f.2.2.length c] 41)
  have g3 : ((W1.alloc (.cells #[.int .i64 s', .int .i64 q', .int .i64 e'] 31)).alloc (.cells #[.int .u8 (f.1.toNat : Int), .int .u8 (f.2.1.toNat : Int), .slice A f.2.2.length c] 41)).heap[(W1.alloc (.cells #[.int .i64 s', .int .i64 q', .int .i64 e'] 31)).heap.size]? = some _ := new_at rfl _
  rw [World.size_alloc] at g3
  have N2 := N1.later b3
  have b4 := below_step b2 b3
  have V2 := V1.later b4
  have Q2 := Q1.later b4
  have hf2 := hf1.later b4
  have ho2 := own_later ho1 (fun g hg => b4.block g (own_base ho1 hg).2)
  have hT2 := hT1.below b4
  have hs2 := hs1.later b4
  have b5 := below_step b1 b4
  have hsz := b1.size
  clear b2 N1 b3 b4 V1 Q1 hf1 ho1 hT1 hs1 b1
  generalize (W1.alloc (.cells #[.int .i64 s', .int .i64 q', .int .i64 e'] 31)).alloc (.cells #[.int .u8 (f.1.toNat : Int), .int .u8 (f.2.1.toNat : Int), .slice A f.2.2.length c] 41) = W2 at *
  have n0 := N2.c0
  have n1 := N2.c1
  have n2 := N2.c2
  have x0 := V2.c0
  have x1 := V2.c1
  have x2 := V2.c2
  have e0 := free_at V2.at_ 0
  have e1 := free_at V2.at_ 1
  have e2 := free_at V2.at_ 2
  go_upto_region 9 with (fail)
  have V3 := V2.set3 s' q' e'
  have Q3 := Q2.far3 (g' := bx) (by omega) s' q' e'
  have hk3 := set3_off W2 bx (.int .i64 s') (.int .i64 q') (.int .i64 e')
  have B3 := (((b5.mono (B' := B) (by omega)).setCell (p := ⟨bx, 0, none⟩) hB (.int .i64 s')).setCell (p := ⟨bx, 1, none⟩) hB (.int .i64 q')).setCell (p := ⟨bx, 2, none⟩) hB (.int .i64 e')
  have g4 := (hk3 _ (by omega)).trans g3
  have hf3 := hf2.beside (w' := ((W2.setCell ⟨bx, 0, none⟩ (.int .i64 s')).setCell ⟨bx, 1, none⟩ (.int .i64 q')).setCell ⟨bx, 2, none⟩ (.int .i64 e')) V2 (by simp) hk3
  have hs3 := hs2.beside (w' := ((W2.setCell ⟨bx, 0, none⟩ (.int .i64 s')).setCell ⟨bx, 1, none⟩ (.int .i64 q')).setCell ⟨bx, 2, none⟩ (.int .i64 e')) V2 (by simp) hk3
  have ho3 := own_later (w' := ((W2.setCell ⟨bx, 0, none⟩ (.int .i64 s')).setCell ⟨bx, 1, none⟩ (.int .i64 q')).setCell ⟨bx, 2, none⟩ (.int .i64 e')) ho2 (fun g hg => hk3 g (fun e => V2.not_own ho2 (e ▸ hg)))
  have hT3 := hT.belowB B3 hG
  clear n0 n1 n2 x0 x1 x2 e0 e1 e2 V2 Q2 hf2 ho2 hT2 hs2 b5 g3 N2 hk3
  generalize ((W2.setCell ⟨bx, 0, none⟩ (.int .i64 s')).setCell ⟨bx, 1, none⟩ (.int .i64 q')).setCell ⟨bx, 2, none⟩ (.int .i64 e') = W3 at *
  obtain ⟨i0, hi, hz0, hz1, hz2⟩ := info_parts info_frm
  have hsz3 := B3.size
  by_cases her : er = 0
  · subst her
    have n0 := cell_at g4 0
    have n1 := cell_at g4 1
    have n2 := cell_at g4 2
    generalize hm : (f.1.toNat : Int) = k0 at *
    generalize hm2 : (f.2.1.toNat : Int) = k1 at *
    have bN := below_new W3 (.cells #[.int .u8 k0, .int .u8 k1, .slice A f.2.2.length c] 41)
    have hown := own_later ho3 (fun g hg => bN.block g (own_base ho3 hg).2)
    have hfN := hf3.later bN
    have hsN := hs3.later bN
    have hsr : SliceAt (W3.alloc (.cells #[.int .u8 k0, .int .u8 k1, .slice A f.2.2.length c] 41)) 3 (.slice (some ⟨W3.heap.size, 0, none⟩) 1 1) 1 [.int .u8 k0, .int .u8 k1, .slice A f.2.2.length c] := ⟨_, _, rfl, Nat.le_refl _, by simp [maxLen], rfl, .inr ⟨_, _, rfl, by simp, fun i u hu => by rw [Nat.zero_add, cell_at (new_at rfl _)]; simpa using hu⟩⟩
    have VN := V3.later bN
    have QN := Q3.later bN
    have hTN := hT3.below bN
    have BN := B3.trans (bN.mono (by omega))
    have HG := Lib.hid hm
    have HG2 := Lib.hid hm2
    have hqN : ∀ q, VB (.slice A f.2.2.length c) f.2.2.length q → rv.ownBlock ≠ some q := fun q hq e => by
      have := hq1 q hq
      have := (own_base ho e).2
      omega
    have HQN := Lib.hid hqN
    clear hm hm2 hqN
    clear hf3 hs3 hq1
    go_wp2_with (at_builtin; refine wpList_append_src (by rfl) (.tmp 35) (.tmp 37) _ (by rfl) R 41 i0 _ 3 32 Tryd.underlying46 hi hz0 hz1 hz2 rfl (by omega) rv fs.length xs (by rfl) hown (.slice (some ⟨W3.heap.size, 0, none⟩) 1 1) 1 [.int .u8 k0, .int .u8 k1, .slice A f.2.2.length c] (by rfl) hsr (by simp [Value.oneCell']) (by simp only [maxLen]; omega) (by omega) (by simp; omega) ?_; intro v1 w2 ho1 hg1 hw1)
    obtain ⟨j', hj⟩ := hd14_of kind bx br bc be v1 _ _ _ _ _ _ _ _ _ _ _ _ _ _ _ _ _ _ _ _ _ _ _ _ _ _ _ _ _ _ _ _ _ _ _
    have hbg : ∀ g, rv.ownBlock = some g → B ≤ g := fun g hg => by have := (own_base ho hg).1; omega
    have hgs := hg1.size
    have hal : (W3.alloc (.cells #[.int .u8 k0, .int .u8 k1, .slice A f.2.2.length c] 41)).heap.size = W3.heap.size + 1 := by simp
    refine ⟨j', v1, hj, ⟨?_, ⟨(hg1.block _ (lt_of_at QN.at_) (fun e => QN.not_own hown e.symm)).trans QN.at_⟩, ⟨hB, hBx, hBr, by omega⟩, ⟨xs ++ [.int .u8 k0, .int .u8 k1, .slice A f.2.2.length c], ?_⟩, .inr ?_, ?_, hG⟩, below_own BN hg1 (by simp; omega) hbg⟩
    · rw [stepV, ← HR.out]
      exact ⟨(hg1.block _ (lt_of_at VN.at_) (fun e => VN.not_own hown e.symm)).trans VN.at_⟩
    · rw [stepV, ← HR.out, if_pos rfl]
      refine ⟨by simpa using ho1, ?_⟩
      have := (hfN.snoc hsN HQN.out).grow hg1 hw1
      rw [HG.out, HG2.out] at this
      exact this
    · rw [stepV, ← HR.out, if_pos rfl]; simp
    · exact hTN.belowB (below_own (Below.refl B _) hg1 (by simp; omega) hbg) hG
  · have her' : (er == 0) = false := by simpa using her
    go_wp2
    obtain ⟨j', hj⟩ := hd14_of kind bx br bc be rv _ _ _ _ _ _ _ _ _ _ _ _ _ _ _ _ _ _ _ _ _ _ _ _ _ _ _ _ _ _ _ _ _ _ _
    refine ⟨j', rv, hj, ⟨?_, Q3, ⟨hB, hBx, hBr, by omega⟩, ⟨xs, ?_⟩, ?_, hT3, hG⟩, B3⟩
    · rw [stepV, ← HR.out]; exact V3
    · rw [stepV, ← HR.out, if_neg her]; exact ⟨ho3, hf3⟩
    · rw [stepV, ← HR.out, if_neg her]; exact hne
end Go.Proofs.YtlanlkpamnoekaaDoor.Lk
namespace Go.Proofs.YtlanlkpamnoekaaDoor.Lk
open Go Go.Conc Go.RowKit Mem Rf Bv Crc Str
set_option maxRecDepth 100000

theorem Under.re {B : Nat} {G W : World} (h : Under B G W) (τ : Tape) (d : Nat) : Under B G (re W τ d) := ⟨h.os, h.output, h.size, h.block⟩

theorem sliceAt_see {A G : World} (hsz : A.heap.size = G.heap.size) (hc : ∀ a v, A.cell? a = some v → G.cell? a = some v) {sz n : Nat} {v : Value} {cs : List Value} (h : SliceAt A sz v n cs) : SliceAt G sz v n cs := by
  obtain ⟨Ap, c, rfl, h1, h2, h3, h4⟩ := h
  refine ⟨Ap, c, rfl, h1, h2, h3, h4.imp id ?_⟩
  rintro ⟨b, off, rfl, hlt, hcell⟩
  exact ⟨b, off, rfl, by omega, fun i u hu => hc _ _ (hcell i u hu)⟩
theorem tops_see {A G : World} (hsz : A.heap.size = G.heap.size) (hc : ∀ a v, A.cell? a = some v → G.cell? a = some v) (h : Tops A) : Tops G := ⟨hc _ _ h.c0, hc _ _ h.c1, by have := h.sz; omega⟩

theorem scrub_size (Z : Nat → Prop) (A : World) : (scrub Z A).heap.size = A.heap.size := by simp [scrub]
/-- A block of cells out of Y is the same there. -/
theorem scrub_cells {Y : Nat → Prop} {A : World} {i : Nat} {c : Array Value} {t : TypeId} {f : Nat × Nat} (h : A.heap[i]? = some (.cells c t f)) (hy : ¬ Y i) : (scrub (Zset Y A) A).heap[i]? = some (.cells c t f) := by
  rw [scrub_off]
  · exact h
  · rintro ⟨o, ho, hk⟩
    rw [h] at ho
    obtain rfl := Option.some.inj ho
    exact hk.elim (fun h => h) fun h => hy h.1

theorem own_see {A G : World} {R e sz n : Nat} {v : Value} {xs : List Value} (h : A.ownsRow R e sz v n xs) (hk : ∀ (i : Nat) (c : Array Value), R ≤ i → A.heap[i]? = some (.cells c e (0, 0)) → n * sz ≤ c.size → G.heap[i]? = some (.cells c e (0, 0))) : G.ownsRow R e sz v n xs := by
  refine ⟨h.1, h.2.imp id ?_⟩
  rintro ⟨g, cap, cur, h1, h2, h3, h4, h5, h6, h7⟩
  exact ⟨g, cap, cur, h1, h2, hk g cur h2 h3 (by rw [h6]; exact Nat.mul_le_mul_right _ h4), h4, h5, h6, h7⟩

theorem Head.see {B R bx br : Nat} {st : Lst × List Frm} {rv : Value} {A G : World} (h : Head B R bx br st rv A) (hs : A.heap.size = G.heap.size) (hc : ∀ a v, A.cell? a = some v → G.cell? a = some v)
    (hb : ∀ (i : Nat) (c : Array Value) (e : TypeId), i = bx ∨ i = br ∨ R ≤ i → A.heap[i]? = some (.cells c e (0, 0)) → 0 < c.size → G.heap[i]? = some (.cells c e (0, 0))) : Head B R bx br st rv G := by
  obtain ⟨h1, hr, h2, ⟨xs, h3, h4⟩, h5, h6, h7⟩ := h
  refine ⟨⟨hb _ _ _ (.inl rfl) h1.at_ (by simp)⟩, ⟨hb _ _ _ (.inr (.inl rfl)) hr.at_ (by simp)⟩, by rw [← hs]; exact h2, ⟨xs, ?_, h4.map fun _ _ hsl hq => ⟨sliceAt_see hs hc hsl, hq⟩⟩, h5, tops_see hs hc h6, h7⟩
  rcases h5 with rfl | h5
  · rcases h3.2 with ⟨_, h⟩ | ⟨_, _, _, e, _⟩
    · exact ⟨h3.1, .inl ⟨rfl, h⟩⟩
    · cases e
  · exact own_see h3 fun i c hi hh hn => hb _ _ _ (.inr (.inr hi)) hh (by omega)
theorem Head.down {Y : Nat → Prop} {B R bx br : Nat} {st : Lst × List Frm} {rv : Value} {A : World} (h : Head B R bx br st rv A) (hY : ∀ i, Y i → i < R ∧ i ≠ bx ∧ i ≠ br) : Head B R bx br st rv (scrub (Zset Y A) A) :=
  h.see (scrub_size _ _).symm (fun a v h => scrub_cell h) fun i c e hi hh _ => scrub_cells hh fun hy => by
    have := hY _ hy
    omega
theorem Head.up {Z : Nat → Prop} {B R bx br : Nat} {st : Lst × List Frm} {rv : Value} {G A : World} (h : Head B R bx br st rv G) (hR : Rel Z G A) : Head B R bx br st rv A :=
  h.see hR.size.symm (fun a v h => hR.cell_up h) fun i c e _ hh hn => hR.cells0 hh hn
theorem Head.heap {B R bx br : Nat} {st : Lst × List Frm} {rv : Value} {G A : World} (h : Head B R bx br st rv G) (he : A.heap = G.heap) : Head B R bx br st rv A :=
  h.see (by rw [he]) (fun a v h => by unfold World.cell? at *; rw [he]; exact h) fun i c e _ hh hn => by rw [he]; exact hh

theorem head_finish (j : Nat → Value) (kind : Int) (bx br bc be ce ee : Nat) (rv : Value) (k : List Item) (v : Value) :
    (fr14 j kind bx br bc be ce ee rv k).finish v = b14.at ⟨((se14 j kind bx br bc be ce ee rv).set 19 v).toArray, []⟩ (.inRegion ops514 [1, 2, 3] :: k) := by
  unfold fr14
  rw [Frame.finish_at]
  rfl

/-- From the select, served with a value, to the loop's head, alone. -/
theorem round_wins {T : Frame → List Frame → World → Prop} (j : Nat → Value) (kind : Int) (B R bx br bc be ce ee : Nat) (rv v : Value) (b : List (BitVec 8)) (st : Lst × List Frm) (fs : List Frame) (k : List Item) (w : World)
    (H : Head B R bx br st rv w) (hs : SliceAt w 1 v b.length (u8s b)) (hl : b.length ≤ 140737488355328) (hn : st.2.length ≤ 100000)
    (hT : ∀ j' rv' w', Head B R bx br (stepV kind st b) rv' w' → Below B w w' → T (b14.at ⟨(hd14 j' kind bx br bc be rv').toArray, []⟩ (.code loop14 :: .inLoop loop14 :: k)) fs w') :
    Wins Tryd.prog T ((fr14 j kind bx br bc be ce ee rv (.code sel14 :: .inBlock 1 :: .inLoop loop14 :: k)).finish (.tuple #[.int .i64 0, .bool true, v, .agg #[]])) fs w := by
  rw [head_finish]
  refine Wins.ops [1, 2, 3] [] rfl (all_r5 j kind bx br bc be ce ee rv 0 true v w (.inl rfl)) fun a' w' ⟨e1, e2⟩ => ?_
  subst e1 e2
  refine Wins.regionEnd ?_
  obtain ⟨j2, hj2, h19, h21⟩ : ∃ j2 : Nat → Value, (⟨(((((se14 j kind bx br bc be ce ee rv).set 19 (.tuple #[.int .i64 0, .bool true, v, .agg #[]])).set 20 (.int .i64 0)).set 21 (.bool (decide ((0 : Int) = 0)))).set 22 (.bool (decide ((0 : Int) = 1)))).toArray, []⟩ : Act) = ⟨(se14 j2 kind bx br bc be ce ee rv).toArray, []⟩ ∧
      j2 19 = .tuple #[.int .i64 0, .bool true, v, .agg #[]] ∧ j2 21 = .bool true :=
    ⟨fun i => (((((se14 j kind bx br bc be ce ee rv).set 19 (.tuple #[.int .i64 0, .bool true, v, .agg #[]])).set 20 (.int .i64 0)).set 21 (.bool (decide ((0 : Int) = 0)))).set 22 (.bool (decide ((0 : Int) = 1)))).getD i undef, rfl, rfl, rfl⟩
  rw [hj2]
  refine Wins.wp (all_round j2 kind B R bx br bc be ce ee rv v b st w' h19 h21 H hs hl hn) fun a2 w2 ⟨j', rv', e, hH, hB⟩ => ?_
  subst e
  exact Wins.inBlock (Wins.inLoop (Wins.stop (hT j' rv' w2 hH hB)))

/-- At the loop's head. -/
def AtHead (G0 : World) (kind : Int) (B R bx br bc be : Nat) (st : Lst × List Frm) (k : List Item) (f : Frame) (fs : List Frame) (W : World) : Prop :=
  fs = [] ∧ ∃ j rv, f = b14.at ⟨(hd14 j kind bx br bc be rv).toArray, []⟩ (.code loop14 :: .inLoop loop14 :: k) ∧ Head B R bx br st rv W ∧ Under B G0 W
theorem aim_head (G0 : World) (kind : Int) (B R bx br bc be : Nat) (st : Lst × List Frm) (k : List Item) : Aim (AtHead G0 kind B R bx br bc be st k) :=
  ⟨fun _ _ _ τ d ⟨h1, j, rv, h2, h3, h4⟩ => ⟨h1, j, rv, h2, h3.heap rfl, h4.re τ d⟩, fun f fs w ⟨_, j, rv, h2, _⟩ ch hm => by rw [h2] at hm; cases hm⟩

theorem nice_sel : niceCode Tryd.prog sel14 = true := by kernel_rfl
theorem nice_ops5 : ∀ i ∈ [1, 2, 3], ∀ o, ops514[i]? = some o → niceOp Tryd.prog o.op = true := by
  have h : ([1, 2, 3].all fun i => match ops514[i]? with | some o => niceOp Tryd.prog o.op | none => true) = true := by kernel_rfl
  intro i hi o ho
  have := List.all_eq_true.1 h i hi
  rw [ho] at this
  exact this
/-- The frame behind the select is nice. -/
theorem nf_sel {j : Nat → Value} {kind : Int} {bx br bc be ce ee : Nat} {rv v : Value} {k : List Item} (hk : ∀ it ∈ k, niceItem Tryd.prog it) : NF Tryd.prog ((fr14 j kind bx br bc be ce ee rv (.code sel14 :: .inBlock 1 :: .inLoop loop14 :: k)).finish v) := by
  rw [head_finish]
  refine ⟨fun it hit => ?_, fun d hd' => ?_, rfl, .inl rfl⟩
  · have hit' : it ∈ (Item.inRegion ops514 [1, 2, 3] :: Item.code sel14 :: Item.inBlock 1 :: Item.inLoop loop14 :: k) := hit
    simp only [List.mem_cons] at hit'
    rcases hit' with rfl | rfl | rfl | rfl | h
    · exact nice_ops5
    · exact nice_sel
    · trivial
    · exact nice14
    · exact hk it h
  · cases hd'

section
variable {bl bc be ce ee : Nat} {Ap : Option Addr} {n c b off : Nat} {vs : List Value} {s Bs : Nat} {hL : Lay14 bl bc be ce ee Ap n c b off vs s Bs}

theorem chans_of {us : List Value} {t : Trace} {gs : Array Goroutine} {A : World} {q : Nat → Nat} {Bq : Nat} (H : SX Tryd.prog (env14 hL) us q Bq t gs A) :
    (∃ cap buf cl a b tm, A.heap[ce]? = some (.chan cap buf cl a b tm)) ∧ ∃ cap buf cl a b tm, A.heap[ee]? = some (.chan cap buf cl a b tm) := by
  refine ⟨?_, ?_⟩
  · obtain ⟨k, hk⟩ := H.come
    exact ⟨_, _, _, _, _, _, hk⟩
  · obtain ⟨_, _, hk⟩ := H.me
    rcases hk with ⟨k, hk, _⟩ | ⟨_, k, hk, _⟩ <;> exact ⟨_, _, _, _, _, _, hk⟩

/-- From the select, served with a value, to the loop's head, beside the sender. -/
theorem to_head {cs : List Frame} {A : World} {m : Machine} {t : Trace} {us : List Value} (j : Nat → Value) (kind : Int) (B R bx br : Nat) (rv v : Value) (x : List (BitVec 8)) (st : Lst × List Frm) (k : List Item) (hk : ∀ it ∈ k, niceItem Tryd.prog it)
    (H : Head B R bx br st rv A) (hs : SliceAt A 1 v x.length (u8s x)) (hl : x.length ≤ 140737488355328) (hn : st.2.length ≤ 100000) (hY : ∀ i, Y14 bl bc be n b i → i < R ∧ i ≠ bx ∧ i ≠ br) (hce : B ≤ ce) (hee : B ≤ ee)
    (h : St (QS Tryd.prog (env14 hL) us) ((fr14 j kind bx br bc be ce ee rv (.code sel14 :: .inBlock 1 :: .inLoop loop14 :: k)).finish (.tuple #[.int .i64 0, .bool true, v, .agg #[]])) cs A m t) :
    Run Tryd.prog m t (To (QS Tryd.prog (env14 hL) us) fun f' cs' A' => cs' = cs ∧ ∃ j' rv', f' = b14.at ⟨(hd14 j' kind bx br bc be rv').toArray, []⟩ (.code loop14 :: .inLoop loop14 :: k) ∧ Head B R bx br (stepV kind st x) rv' A' ∧ Below B A A') := by
  obtain ⟨μ, gs, sl, rfl, h0, q, Bq, HS, hμ⟩ := id h
  have hK : KL bl bc be ce ee Ap n c b off vs A := HS.keep
  obtain ⟨hc, he⟩ := chans_of HS
  have HG := H.down hY
  have hsG : SliceAt (scrub (Zset (Y14 bl bc be n b) A) A) 1 v x.length (u8s x) := sliceAt_see (scrub_size _ _).symm (fun a v h => scrub_cell h) hs
  refine (lone_run (fs := []) (oth_snd (off14 hL hK hc he)) (fit _) (aim_head (scrub (Zset (Y14 bl bc be n b) A) A) kind B R bx br bc be (stepV kind st x) k) (Good0.si ⟨by simp, .inl (nf_sel hk)⟩ (scrub_inv _ A)) (scrub_rel _ A) (fun τ d => ?_) h).mono ?_
  · refine round_wins j kind B R bx br bc be ce ee rv v x st [] k _ (HG.heap rfl) hsG hl hn fun j' rv' w' hH hB => ⟨rfl, j', rv', rfl, hH, ?_⟩
    exact ⟨hB.os, hB.output, hB.size, hB.block⟩
  · rintro _ _ ⟨f', cs', A', ⟨fs', G', rfl, ⟨rfl, j', rv', rfl, hH, hU⟩, _, hR, _, ht, hV⟩, hSt⟩
    exact ⟨_, _, A', ⟨rfl, j', rv', rfl, hH.up hR, hU.lift hR ht hV fun i hi => by rcases hi with rfl | rfl <;> assumption⟩, hSt⟩
end
end Go.Proofs.YtlanlkpamnoekaaDoor.Lk
namespace Go.Proofs.YtlanlkpamnoekaaDoor.Lk
open Go Go.Conc Go.RowKit Mem Rf Bv Crc Str
set_option maxRecDepth 100000

theorem allV_cons (kind : Int) (st : Lst × List Frm) (x : List (BitVec 8)) (xs : List (List (BitVec 8))) : allV kind st (x :: xs) = allV kind (stepV kind st x) xs := rfl
theorem stepV_len (kind : Int) (st : Lst × List Frm) (x : List (BitVec 8)) : (stepV kind st x).2.length ≤ st.2.length + 1 := by
  unfold stepV
  split <;> simp

section
variable {bl bc be ce ee : Nat} {Ap : Option Addr} {n c b off : Nat} {vs : List Value} {s Bs : Nat} {hL : Lay14 bl bc be ce ee Ap n c b off vs s Bs}

/-- What the select leaves. -/
theorem held_below {Y : Nat → Prop} {E : Env} {A A' : World} {B : Nat} (hH : Held E A A') (hO : E.Off (Zset Y A)) (ht : A'.tape = A.tape) (hs : A'.heap.size = A.heap.size) (hc : B ≤ E.ce) (he : B ≤ E.ee) : Below B A A' := by
  have hR := hH.1 _ hO _ (scrub_rel Y A)
  exact ⟨hR.os, ht, hR.out, by rw [hs]; exact Nat.le_refl _, fun k hk => hH.2 k (by omega) (by omega)⟩

theorem loop_comp (A0 : World) (kind : Int) (R bx br : Nat) (k : List Item) (cs : List Frame) (hk : ∀ it ∈ k, niceItem Tryd.prog it) (hY : ∀ i, Y14 bl bc be n b i → i < R ∧ i ≠ bx ∧ i ≠ br) (hce : A0.heap.size ≤ ce) (hee : A0.heap.size ≤ ee) :
    ∀ (us : List Value) (xs : List (List (BitVec 8))) (st : Lst × List Frm) (j : Nat → Value) (rv : Value) (A : World) (m : Machine) (t : Trace), Els A0 us xs → st.2.length + us.length ≤ 100000 → Head A0.heap.size R bx br st rv A → Below A0.heap.size A0 A →
      St (QS Tryd.prog (env14 hL) us) (b14.at ⟨(hd14 j kind bx br bc be rv).toArray, []⟩ (.code loop14 :: .inLoop loop14 :: k)) cs A m t →
      Run Tryd.prog m t (To (QL Tryd.prog) fun f' cs' A' => cs' = cs ∧ ∃ j' rv', f' = (fr14 j' kind bx br bc be ce ee rv' (.code sel14 :: .inBlock 1 :: .inLoop loop14 :: k)).finish (.tuple #[.int .i64 1, .bool false, .slice none 0 0, .agg #[]]) ∧
        Head A0.heap.size R bx br (allV kind st xs) rv' A' ∧ Below A0.heap.size A0 A') := by
  have hk' : ∀ it ∈ Item.inLoop loop14 :: k, niceItem Tryd.prog it := fun it hit => by
    rcases List.mem_cons.1 hit with rfl | h
    · exact nice14
    · exact hk it h
  intro us
  induction us with
  | nil =>
    intro xs st j rv A m t hE hn H hB h
    obtain rfl : xs = [] := by cases xs <;> first | rfl | exact hE.elim
    refine (to_sel j kind bx br rv (.inLoop loop14 :: k) hk' h).bind ?_
    rintro m1 t1 ⟨f1, cs1, A1, ⟨hb1, rfl, rfl, G', hG, hR, ht, hV⟩, hSt⟩
    have H1 : Head A0.heap.size R bx br st rv A1 := ((H.down hY).heap hG).up hR
    have B1 := hB.trans (hb1 A0.heap.size hce hee)
    obtain ⟨μ, gs, sl, e, h0, q, Bq, HS, hμ⟩ := id hSt
    obtain ⟨hc, he⟩ := chans_of HS
    have hO := off14 hL HS.keep hc he
    refine (served14 (k := .code sel14 :: .inBlock 1 :: .inLoop loop14 :: k) j kind bx br rv hSt).bind ?_
    rintro m2 t2 ⟨A2, s2, tp2, hH, hcase⟩
    have H2 : Head A0.heap.size R bx br st rv A2 := (H1.down hY).up (hH.1 _ hO _ (scrub_rel _ A1))
    have B2 := B1.trans (held_below hH hO tp2 s2 hce hee)
    rcases hcase with ⟨v, rest, e, _⟩ | ⟨_, hK, hSt2⟩
    · cases e
    · exact .here ⟨_, _, A2, ⟨rfl, j, rv, rfl, H2, B2⟩, hSt2⟩
  | cons u us ih =>
    intro xs st j rv A m t hE hn H hB h
    obtain ⟨x, xs, rfl⟩ : ∃ x xs', xs = x :: xs' := by cases xs <;> first | exact ⟨_, _, rfl⟩ | exact hE.elim
    obtain ⟨e1, e2, e3⟩ := hE
    refine (to_sel j kind bx br rv (.inLoop loop14 :: k) hk' h).bind ?_
    rintro m1 t1 ⟨f1, cs1, A1, ⟨hb1, rfl, rfl, G', hG, hR, ht, hV⟩, hSt⟩
    have H1 : Head A0.heap.size R bx br st rv A1 := ((H.down hY).heap hG).up hR
    have B1 := hB.trans (hb1 A0.heap.size hce hee)
    obtain ⟨μ, gs, sl, e, h0, q, Bq, HS, hμ⟩ := id hSt
    obtain ⟨hc, he⟩ := chans_of HS
    have hO := off14 hL HS.keep hc he
    refine (served14 (k := .code sel14 :: .inBlock 1 :: .inLoop loop14 :: k) j kind bx br rv hSt).bind ?_
    rintro m2 t2 ⟨A2, s2, tp2, hH, hcase⟩
    have H2 : Head A0.heap.size R bx br st rv A2 := (H1.down hY).up (hH.1 _ hO _ (scrub_rel _ A1))
    have B2 := B1.trans (held_below hH hO tp2 s2 hce hee)
    rcases hcase with ⟨v, rest, e, hSt2⟩ | ⟨e, _⟩
    · obtain ⟨rfl, rfl⟩ := List.cons.inj e
      refine (to_head j kind A0.heap.size R bx br rv u x st k hk H2 (e1.below B2 (Nat.le_refl _)) e2 (by omega) hY hce hee hSt2).bind ?_
      rintro m3 t3 ⟨f3, cs3, A3, ⟨rfl, j', rv', rfl, H3, B3⟩, hSt3⟩
      have hlen := stepV_len kind st x
      rw [allV_cons]
      exact ih xs (stepV kind st x) j' rv' A3 m3 t3 e3 (by simp only [List.length_cons] at hn; omega) H3 (B2.trans B3) hSt3
    · cases e
end
end Go.Proofs.YtlanlkpamnoekaaDoor.Lk
namespace Go.Proofs.YtlanlkpamnoekaaDoor.Lk
open Go Go.Conc Go.RowKit Mem Rf Bv Crc Str
set_option maxRecDepth 100000
attribute [local go_sem ↓] run_max2 run_min2

theorem all_ret (j : Nat → Value) (kind : Int) (B R bx br bc be ce ee : Nat) (rv : Value) (st : Lst × List Frm) (w : World) (h21 : j 21 = .bool false) (h22 : j 22 = .bool true) (H : Head B R bx br st rv w) :
    sel14.wp Tryd.prog (nrt (fun _ _ => False) fun a' w' => LVar w' br st.1.1 st.1.2.1 st.1.2.2 ∧ a'.tmps.getD 6 undef = .pointer (some ⟨br, 0, none⟩) ∧ a'.tmps.getD 7 undef = rv ∧ a'.defers = [] ∧ FrsAt w' rv st.2 ∧ Below B w w') ⟨(se14 j kind bx br bc be ce ee rv).toArray, []⟩ w := by
  unfold sel14 loop14 body14
  simp only [Tryd.f14, Option.getD_some]
  obtain ⟨x, fs⟩ := st
  obtain ⟨V0, Q0, ⟨hB, hBx, hBr, hR⟩, ⟨xs, ho, hf⟩, hne, hT, hG⟩ := H
  obtain ⟨s, q, e⟩ := x
  simp only at V0 ho hf
  simp only [se14, h21, h22]
  have x0 := V0.c0
  have x1 := V0.c1
  have x2 := V0.c2
  have q0 := Q0.c0
  have q1 := Q0.c1
  have q2 := Q0.c2
  have e0 := free_at Q0.at_ 0
  have e1 := free_at Q0.at_ 1
  have e2 := free_at Q0.at_ 2
  have hk3 := set3_off w br (.int .i64 s) (.int .i64 q) (.int .i64 e)
  have V3 := Q0.set3 s q e
  have hs3 := sliceAt_of_own (own_later (w' := ((w.setCell ⟨br, 0, none⟩ (.int .i64 s)).setCell ⟨br, 1, none⟩ (.int .i64 q)).setCell ⟨br, 2, none⟩ (.int .i64 e)) ho (fun g hg => hk3 g (fun e => Q0.not_own ho (e ▸ hg))))
  have hf3 := (hf.beside (w' := ((w.setCell ⟨br, 0, none⟩ (.int .i64 s)).setCell ⟨br, 1, none⟩ (.int .i64 q)).setCell ⟨br, 2, none⟩ (.int .i64 e)) Q0 (by simp) hk3).any
  have B3 := (((Below.refl B w).setCell (p := ⟨br, 0, none⟩) (by simp; omega) (.int .i64 s)).setCell (p := ⟨br, 1, none⟩) (by simp; omega) (.int .i64 q)).setCell (p := ⟨br, 2, none⟩) (by simp; omega) (.int .i64 e)
  have H1 := Lib.hid V3
  have H2 := Lib.hid hs3
  have H3 := Lib.hid hf3
  have H4 := Lib.hid B3
  clear V3 hs3 hf3 B3 hk3 ho hf
  go_wp2
  exact ⟨H1.out, rfl, rfl, rfl, ⟨xs, H2.out, H3.out⟩, H4.out⟩

theorem all_leave {a : Act} {br : Nat} {rv x y z : Value} {f : Nat × Nat} {todo : List Item} {w : World} (h6 : a.tmps.getD 6 undef = .pointer (some ⟨br, 0, none⟩)) (h7 : a.tmps.getD 7 undef = rv) (hd : a.defers = []) (hg : w.heap[br]? = some (.cells #[x, y, z] 31 f)) :
    ({ b14.at a todo with mode := .returning } : Frame).leaving Tryd.prog w (.returned (.tuple #[.agg #[x, y, z], rv])) := by
  refine ⟨rfl, hd, rfl, _, Tryd.func14, ?_⟩
  have h1 : a.tmps[6]?.getD undef = .pointer (some ⟨br, 0, none⟩) := by simpa using h6
  have h2 : a.tmps[7]?.getD undef = rv := by simpa using h7
  simp [results, Tryd.f14, Frame.at, h1, h2, asAddr, load_lk hg]

/-- From the select, served with the end, to the caller, alone. -/
theorem ret_wins {T : Frame → List Frame → World → Prop} (j : Nat → Value) (kind : Int) (B R bx br bc be ce ee : Nat) (rv : Value) (st : Lst × List Frm) (c : Frame) (fs : List Frame) (k : List Item) (w : World) (H : Head B R bx br st rv w)
    (hT : ∀ w', FrsAt w' rv st.2 → Below B w w' → T (c.finish (.tuple #[lkv st.1, rv])) fs w') :
    Wins Tryd.prog T ((fr14 j kind bx br bc be ce ee rv (.code sel14 :: k)).finish (.tuple #[.int .i64 1, .bool false, .slice none 0 0, .agg #[]])) (c :: fs) w := by
  rw [head_finish]
  refine Wins.ops [1, 2, 3] [] rfl (all_r5 j kind bx br bc be ce ee rv 1 false (.slice none 0 0) w (.inr rfl)) fun a' w' ⟨e1, e2⟩ => ?_
  subst e1 e2
  refine Wins.regionEnd ?_
  obtain ⟨j2, hj2, h21, h22⟩ : ∃ j2 : Nat → Value, (⟨(((((se14 j kind bx br bc be ce ee rv).set 19 (.tuple #[.int .i64 1, .bool false, .slice none 0 0, .agg #[]])).set 20 (.int .i64 1)).set 21 (.bool (decide ((1 : Int) = 0)))).set 22 (.bool (decide ((1 : Int) = 1)))).toArray, []⟩ : Act) = ⟨(se14 j2 kind bx br bc be ce ee rv).toArray, []⟩ ∧
      j2 21 = .bool false ∧ j2 22 = .bool true :=
    ⟨fun i => (((((se14 j kind bx br bc be ce ee rv).set 19 (.tuple #[.int .i64 1, .bool false, .slice none 0 0, .agg #[]])).set 20 (.int .i64 1)).set 21 (.bool (decide ((1 : Int) = 0)))).set 22 (.bool (decide ((1 : Int) = 1)))).getD i undef, rfl, rfl, rfl⟩
  rw [hj2]
  refine Wins.wpr (all_ret j2 kind B R bx br bc be ce ee rv st w' h21 h22 H) (fun _ _ h => h.elim) fun a2 w2 todo ⟨g1, g2, g3, g4, g5, g6⟩ => ?_
  exact Wins.leave (all_leave g2 g3 g4 g1.at_) (Wins.stop (hT w2 g5 g6))

/-- All has returned to its caller. -/
def AtRet (G0 : World) (B : Nat) (c : Frame) (st : Lst × List Frm) (f : Frame) (fs : List Frame) (W : World) : Prop :=
  fs = [] ∧ ∃ rv, f = c.finish (.tuple #[lkv st.1, rv]) ∧ FrsAt W rv st.2 ∧ Under B G0 W
theorem FrsAt.see {A G : World} {v : Value} {l : List Frm} (h : FrsAt A v l) (hs : A.heap.size = G.heap.size) (hc : ∀ a v, A.cell? a = some v → G.cell? a = some v) : FrsAt G v l := by
  obtain ⟨xs, h1, h2⟩ := h
  exact ⟨xs, sliceAt_see hs hc h1, h2.map fun _ _ hsl hq => ⟨sliceAt_see hs hc hsl, hq⟩⟩
theorem finish_mode (c : Frame) (v : Value) : (c.finish v).mode = c.mode := by
  unfold Frame.finish
  split <;> rfl
theorem aim_ret (G0 : World) (B : Nat) (c : Frame) (st : Lst × List Frm) (hc : NF Tryd.prog c) : Aim (AtRet G0 B c st) :=
  ⟨fun _ _ _ τ d ⟨h1, rv, h2, h3, h4⟩ => ⟨h1, rv, h2, FrsAt.see h3 rfl fun _ _ h => h, h4.re τ d⟩, fun f fs w ⟨_, rv, h2, _⟩ ch hm => by
    rw [h2, finish_mode] at hm
    rcases hc.mode with e | e <;> rw [e] at hm <;> cases hm⟩

/-- From the select, served with the end, to the caller, beside leavers. -/
theorem to_ret {cs : List Frame} {c : Frame} {A : World} {m : Machine} {t : Trace} (j : Nat → Value) (kind : Int) (B R bx br bc be ce ee : Nat) (rv : Value) (st : Lst × List Frm) (k : List Item) (hk : ∀ it ∈ k, niceItem Tryd.prog it) (hc : NF Tryd.prog c)
    (H : Head B R bx br st rv A) (h : St (QL Tryd.prog) ((fr14 j kind bx br bc be ce ee rv (.code sel14 :: .inBlock 1 :: .inLoop loop14 :: k)).finish (.tuple #[.int .i64 1, .bool false, .slice none 0 0, .agg #[]])) (c :: cs) A m t) :
    Run Tryd.prog m t (To (QL Tryd.prog) fun f' cs' A' => cs' = cs ∧ ∃ rv', f' = c.finish (.tuple #[lkv st.1, rv']) ∧ FrsAt A' rv' st.2 ∧ Below B A A') := by
  have HG := H.down (Y := fun _ => False) fun _ h => h.elim
  refine (lone_run0 (bad := 14) (fun Z => fit Z) (aim_ret (scrub (Zset (fun _ => False) A) A) B c st hc) (fs := [c]) ⟨by simpa using hc, .inl (nf_sel hk)⟩ (fun τ d => ?_) h).mono ?_
  · refine ret_wins j kind B R bx br bc be ce ee rv st c [] _ _ (HG.heap rfl) fun w' hf hB => ⟨rfl, rv, rfl, hf, ?_⟩
    exact ⟨hB.os, hB.output, hB.size, hB.block⟩
  · rintro _ _ ⟨f', cs', A', ⟨fs', G', rfl, ⟨rfl, rv', rfl, hF, hU⟩, _, hR, _, ht, hV⟩, hSt⟩
    exact ⟨_, _, A', ⟨rfl, rv', rfl, FrsAt.see hF hR.size.symm (fun a v h => hR.cell_up h), hU.lift hR ht (V := fun _ => False) (fun i hi _ => hV i hi) fun _ h => h.elim⟩, hSt⟩
end Go.Proofs.YtlanlkpamnoekaaDoor.Lk
namespace Go.Proofs.YtlanlkpamnoekaaDoor.Lk
open Go Go.Conc Go.RowKit Mem Rf Bv Crc Str
set_option maxRecDepth 100000

theorem at14_head (L lv : Value) (kind : Int) (bx bl br bc be ce ee : Nat) : ∃ j, at14 L kind lv bx bl br bc be ce ee = ⟨(hd14 j kind bx br bc be (.slice none 0 0)).toArray, []⟩ :=
  ⟨fun i => (at14 L kind lv bx bl br bc be ce ee).tmps.getD i undef, rfl⟩
theorem nf_go {a : Act} (hd : a.defers = []) : NF Tryd.prog (b14.at a (.inRegion ops214 [] :: [.code (.block 0 (.loop loop14))])) := by
  refine ⟨fun it hit => ?_, fun d hd' => ?_, rfl, .inl rfl⟩
  · have hit' : it ∈ [Item.inRegion ops214 [], .code (.block 0 (.loop loop14))] := hit
    simp only [List.mem_cons, List.not_mem_nil, or_false] at hit'
    rcases hit' with rfl | rfl
    · intro i hi
      cases hi
    · exact nice14
  · have : d ∈ a.defers := hd'
    rw [hd] at this
    cases this
theorem nice_k : ∀ it ∈ [Item.inBlock 0], niceItem Tryd.prog it := by
  intro it hit
  simp only [List.mem_cons, List.not_mem_nil, or_false] at hit
  subst hit
  trivial

section
variable {bl bc be ce ee : Nat} {Ap : Option Addr} {n c b off : Nat} {vs : List Value} {s Bs : Nat} {hL : Lay14 bl bc be ce ee Ap n c b off vs s Bs}
/-- Behind the go statement, to the loop's head. -/
theorem to_first {cs : List Frame} {A : World} {m : Machine} {t : Trace} {us : List Value} (L lv : Value) (kind : Int) (B R bx br : Nat) (st : Lst × List Frm) (H : Head B R bx br st (.slice none 0 0) A) (hY : ∀ i, Y14 bl bc be n b i → i < R ∧ i ≠ bx ∧ i ≠ br) (hce : B ≤ ce) (hee : B ≤ ee)
    (h : St (QS Tryd.prog (env14 hL) us) (b14.at (at14 L kind lv bx bl br bc be ce ee) (.inRegion ops214 [] :: [.code (.block 0 (.loop loop14))])) cs A m t) :
    Run Tryd.prog m t (To (QS Tryd.prog (env14 hL) us) fun f' cs' A' => cs' = cs ∧ ∃ j' rv', f' = b14.at ⟨(hd14 j' kind bx br bc be rv').toArray, []⟩ (.code loop14 :: .inLoop loop14 :: [.inBlock 0]) ∧ Head B R bx br st rv' A' ∧ Below B A A') := by
  obtain ⟨μ, gs, sl, rfl, h0, q, Bq, HS, hμ⟩ := id h
  have hK : KL bl bc be ce ee Ap n c b off vs A := HS.keep
  obtain ⟨hc, he⟩ := chans_of HS
  have HG := H.down hY
  refine (lone_run (fs := []) (oth_snd (off14 hL hK hc he)) (fit _) (aim_head (scrub (Zset (Y14 bl bc be n b) A) A) kind B R bx br bc be st [.inBlock 0]) (Good0.si ⟨by simp, .inl (nf_go rfl)⟩ (scrub_inv _ A)) (scrub_rel _ A) (fun τ d => ?_) h).mono ?_
  · obtain ⟨j, hj⟩ := at14_head L lv kind bx bl br bc be ce ee
    rw [hj]
    refine Wins.regionEnd (Wins.block (Wins.loop (Wins.stop ⟨rfl, j, _, rfl, HG.heap rfl, ?_⟩)))
    exact ⟨rfl, rfl, Nat.le_refl _, fun _ _ => rfl⟩
  · rintro _ _ ⟨f', cs', A', ⟨fs', G', rfl, ⟨rfl, j', rv', rfl, hH, hU⟩, _, hR, _, ht, hV⟩, hSt⟩
    exact ⟨_, _, A', ⟨rfl, j', rv', rfl, hH.up hR, hU.lift hR ht hV fun i hi => by rcases hi with rfl | rfl <;> assumption⟩, hSt⟩
end

theorem below_at_d {B : Nat} {A A' : World} (h : Below B A A') (d : Nat) : Below B A (A'.at d) := ⟨h.os, h.tape, h.output, h.size, h.block⟩

/-- ████ link.All, beside leavers. ████ -/
theorem all_comp {cs : List Frame} {cf : Frame} {A : World} {m : Machine} {t : Trace} (x : Lst) (kind : Int) (lv : Value) (vs : List Value) (xs : List (List (BitVec 8))) (hc : NF Tryd.prog cf) (hT : Tops A) (hs : SliceAt A 1 lv vs.length vs) (hE : Els A vs xs) (hn : vs.length ≤ 100000)
    (h : St (QL Tryd.prog) (Frame.enter Tryd.prog 14 #[lkv x, .int .u8 kind, lv] .normal) (cf :: cs) A m t) :
    Run Tryd.prog m t (To (QL Tryd.prog) fun f' cs' A' => cs' = cs ∧ ∃ rv, f' = cf.finish (.tuple #[lkv (allV kind (x, []) xs).1, rv]) ∧ FrsAt A' rv (allV kind (x, []) xs).2 ∧ Below A.heap.size A A') := by
  obtain ⟨Ap, c, rfl, h1, h2, h3, h4⟩ := hs
  obtain ⟨n, hnv⟩ : ∃ n, vs.length = n := ⟨_, rfl⟩
  rw [hnv] at h h1 h3 h4
  obtain ⟨b, off, hA, hb, hel⟩ : ∃ b off, (0 < n → Ap = some ⟨b, off, none⟩) ∧ (0 < n → b < A.heap.size) ∧ ∀ i u, vs[i]? = some u → A.cell? ⟨b, off + i, none⟩ = some u := by
    rcases h4 with h4 | ⟨b, off, e, hlt, hcl⟩
    · refine ⟨0, 0, fun h => by omega, fun h => by omega, fun i u hu => ?_⟩
      have := (List.getElem?_eq_some_iff.1 hu).1
      omega
    · exact ⟨b, off, fun _ => e, fun _ => hlt, hcl⟩
  refine (to_go x.1 x.2.1 x.2.2 kind Ap n c h).bind ?_
  rintro m1 t1 ⟨f1, cs1, A1, ⟨rfl, bx, bl, br, bc, be, ce, ee, rfl, hE0, hB1⟩, hSt1⟩
  refine (hired14 hE0 hA hnv ⟨h1, by simpa [maxLen] using h2⟩ hb hel hSt1).bind ?_
  rintro m2 t2 ⟨s', Bs, hL, d, hSt2⟩
  obtain ⟨a1, a2, a3⟩ := hE0.at_
  obtain ⟨n1, n2, n3, n4⟩ := hE0.new
  have hT1 := hT.below hB1
  have lt_ : ∀ {i : Nat} {o : Obj}, A1.heap[i]? = some o → i < A1.heap.size := fun h => (Array.getElem?_eq_some_iff.1 h).1
  have l1 := lt_ hE0.come
  have l2 := lt_ hE0.end_
  have l3 := lt_ hE0.r.at_
  have H : Head A.heap.size A1.heap.size bx br (x, []) (.slice none 0 0) (A1.at d) :=
    ⟨⟨hE0.x.at_⟩, ⟨hE0.r.at_⟩, ⟨by omega, by omega, l3, Nat.le_refl _⟩, ⟨[], own_nil _ _ _ _, rfl⟩, .inl rfl, ⟨hT1.c0, hT1.c1, hT1.sz⟩, hT.sz⟩
  have hY : ∀ i, Y14 bl bc be n b i → i < A1.heap.size ∧ i ≠ bx ∧ i ≠ br := by
    rintro i (rfl | rfl | rfl | ⟨hn0, rfl⟩)
    · omega
    · omega
    · omega
    · have := hb hn0
      have := hB1.size
      omega
  refine (to_first (lkv x) (.slice Ap n c) kind A.heap.size A1.heap.size bx br (x, []) H hY (by omega) (by omega) hSt2).bind ?_
  rintro m3 t3 ⟨f3, cs3, A3, ⟨rfl, j3, rv3, rfl, H3, B3⟩, hSt3⟩
  have B13 := (below_at_d hB1 d).trans B3
  refine (loop_comp A kind A1.heap.size bx br [.inBlock 0] _ nice_k hY (by omega) (by omega) vs xs (x, []) j3 rv3 A3 m3 t3 hE (by simp; omega) H3 B13 hSt3).bind ?_
  rintro m4 t4 ⟨f4, cs4, A4, ⟨rfl, j4, rv4, rfl, H4, B4⟩, hSt4⟩
  refine (to_ret j4 kind A.heap.size A1.heap.size bx br bc be ce ee rv4 _ [.inBlock 0] nice_k hc H4 hSt4).mono ?_
  rintro m5 t5 ⟨f5, cs5, A5, ⟨rfl, rv5, rfl, hF, B5⟩, hSt5⟩
  exact ⟨_, _, A5, ⟨rfl, rv5, rfl, hF, B4.trans B5⟩, hSt5⟩
end Go.Proofs.YtlanlkpamnoekaaDoor.Lk
namespace Go.Proofs.YtlanlkpamnoekaaDoor
open Go Go.Conc Go.RowKit Rf Mem Bv Crc Str Lk Bits
set_option maxRecDepth 100000

theorem Sl.put {a : Act} {n : Nat} {l : List (Nat × Value)} (h : Sl a n l) (d : Nat) (v : Value) (hd : d < n) (hl : ∀ p ∈ l, p.1 ≠ d) : Sl (a.put (some d) v) n ((d, v) :: l) := by
  obtain ⟨tm, df⟩ := a
  have hs : tm.size = n := h.size
  refine ⟨h.defers, by simp [Act.put, hs], fun p hp => ?_⟩
  simp only [List.mem_cons] at hp
  rcases hp with rfl | hp
  · simp [Act.put, hs, hd]
  · have := hl p hp
    simp only [Act.put]
    rw [Array.getElem?_setIfInBounds_ne (fun e => this e.symm)]
    exact h.at_ p hp
theorem Els.see {A G : World} (hs : A.heap.size = G.heap.size) (hc : ∀ a v, A.cell? a = some v → G.cell? a = some v) : ∀ {us : List Value} {xs : List (List (BitVec 8))}, Els A us xs → Els G us xs
  | [], [], _ => trivial
  | _ :: _, _ :: _, h => ⟨sliceAt_see hs hc h.1, h.2.1, Els.see hs hc h.2.2⟩
/-- What blocks hold is seen elsewhere. -/
structure Sees (A G : World) : Prop where
  size : A.heap.size = G.heap.size
  cell : ∀ a v, A.cell? a = some v → G.cell? a = some v
  block : ∀ (i : Nat) (c : Array Value) (e : TypeId), A.heap[i]? = some (.cells c e (0, 0)) → 0 < c.size → G.heap[i]? = some (.cells c e (0, 0))
theorem Sees.up {Z : Nat → Prop} {G A : World} (h : Rel Z G A) : Sees G A := ⟨h.size.symm, fun _ _ hc => h.cell_up hc, fun _ _ _ hh hn => h.cells0 hh hn⟩
theorem Sees.down (A : World) : Sees A (scrub (Zset (fun _ => False) A) A) := ⟨(scrub_size _ _).symm, fun _ _ hc => scrub_cell hc, fun _ _ _ hh _ => scrub_cells hh fun h => h⟩
theorem Sees.heap {A G : World} (he : G.heap = A.heap) : Sees A G := ⟨by rw [he], fun a v h => by unfold World.cell? at *; rw [he]; exact h, fun i c e hh _ => by rw [he]; exact hh⟩
theorem Sees.lv {A G : World} (s : Sees A G) {g : Nat} {x q e : Int} (h : LVar A g x q e) : LVar G g x q e := ⟨s.block _ _ _ h.at_ (by simp)⟩
theorem Sees.ly {A G : World} (s : Sees A G) {g : Nat} {y : Nat → Value} {tl : Int} (h : LY A g y tl) : LY G g y tl := ⟨s.block _ _ _ h.at_ (by simp)⟩
theorem Sees.iv {A G : World} (s : Sees A G) {g : Nat} {a b c d : U32} (h : IVar A g a b c d) : IVar G g a b c d := ⟨s.block _ _ _ h.at_ (by simp)⟩
theorem Sees.sl {A G : World} (s : Sees A G) {sz n : Nat} {v : Value} {cs : List Value} (h : SliceAt A sz v n cs) : SliceAt G sz v n cs := sliceAt_see s.size s.cell h
theorem Sees.fv {A G : World} (s : Sees A G) {g : Nat} {f : Frm} (h : FV A g f) : FV G g f := by
  obtain ⟨Ap, c, h1, h2⟩ := h.out
  exact ⟨Ap, c, s.block _ _ _ h1 (by simp), s.sl h2⟩
theorem Sees.tops {A G : World} (s : Sees A G) (h : Tops A) : Tops G := tops_see s.size s.cell h
theorem Sees.els {A G : World} (s : Sees A G) {us : List Value} {xs : List (List (BitVec 8))} (h : Els A us xs) : Els G us xs := Els.see s.size s.cell h
theorem Sees.wm {A G : World} (s : Sees A G) {g1 g2 g3 g5 g8 g17 : Nat} (h : WM A g1 g2 g3 g5 g8 g17) : WM G g1 g2 g3 g5 g8 g17 := ⟨s.ly h.y, s.lv h.l2, s.fv h.f3, s.lv h.l5, s.lv h.l8, s.lv h.l17, s.tops h.t⟩

namespace Lk
noncomputable def b10 : Frame := base 10
noncomputable def rest8 : Code := .seq (rg 9) (.seq (rg 10) (.seq (rg 11) (.seq (rg 12) (.seq (rg 13) .ret))))
/-- wakes stands where it calls All. -/
def AtAll10 (G0 : World) (f : Frame) (fs : List Frame) (W : World) : Prop := ∃ (a : Act) (gv g1 g2 g3 g5 g8 g17 : Nat) (A1 : Option Addr) (c1 : Nat) (A2 : Option Addr) (c2 : Nat) (A3 : Option Addr) (c3 : Nat),
  fs = [b10.at a (.inRegion ops8 [5, 6, 7, 8, 9, 10, 11] :: [.code rest8])] ∧ f = Frame.enter Tryd.prog 14 #[lkv (-1, 65535, 0), .int .u8 2, .slice (some ⟨gv, 0, none⟩) 4 4] .normal ∧ Sl a 190 [(0, .bool false), (1, .pointer (some ⟨g1, 0, none⟩)), (2, .pointer (some ⟨g2, 0, none⟩)), (3, .pointer (some ⟨g3, 0, none⟩)), (4, .int .i64 0), (5, .pointer (some ⟨g5, 0, none⟩)), (7, .int .i64 290), (8, .pointer (some ⟨g8, 0, none⟩)), (10, .int .i64 0), (13, .int .i64 41), (16, .int .i64 40), (17, .pointer (some ⟨g17, 0, none⟩))] ∧ WM W g1 g2 g3 g5 g8 g17 ∧
  SliceAt W 1 (.slice (some ⟨gv, 0, none⟩) 4 4) 4 [.slice A1 (panelV 1#8).length c1, .slice A2 (panelV 1#8).length c2, .slice none 0 0, .slice A3 (panelV 2#8).length c3] ∧ Els W [.slice A1 (panelV 1#8).length c1, .slice A2 (panelV 1#8).length c2, .slice none 0 0, .slice A3 (panelV 2#8).length c3] [panelV 1#8, panelV 1#8, [], panelV 2#8] ∧ Under G0.heap.size G0 W
theorem AtAll10.see {G0 : World} {f : Frame} {fs : List Frame} {W W' : World} (h : AtAll10 G0 f fs W) (s : Sees W W') (ho : W'.os = W.os) (hp : W'.output = W.output) (hh : W'.heap = W.heap) : AtAll10 G0 f fs W' := by
  obtain ⟨a, gv, g1, g2, g3, g5, g8, g17, A1, c1, A2, c2, A3, c3, h1, h2, h3, h4, h5, h6, h7⟩ := h
  exact ⟨a, gv, g1, g2, g3, g5, g8, g17, A1, c1, A2, c2, A3, c3, h1, h2, h3, s.wm h4, s.sl h5, s.els h6, ⟨ho.trans h7.os, hp.trans h7.output, by rw [hh]; exact h7.size, fun k hk => by rw [hh]; exact h7.block k hk⟩⟩
theorem aim_all10 (G0 : World) : Aim (AtAll10 G0) := by
  refine ⟨fun f fs W τ d h => h.see (Sees.heap rfl) rfl rfl rfl, fun f fs w h ch hm => ?_⟩
  obtain ⟨_, _, _, _, _, _, _, _, _, _, _, _, _, _, _, h2, _⟩ := h
  rw [h2] at hm
  simp [Frame.enter] at hm

theorem enter10 : Frame.enter Tryd.prog 10 #[] .normal = b10.at ⟨#[] ++ Array.replicate 190 undef, []⟩ [.code body10] := by
  rw [enter_at (c := body10) _ Tryd.func10 rfl, Tryd.ntmps10]
  rfl

theorem wakes_wins {T : Frame → List Frame → World → Prop} (fs : List Frame) (G : World) (hT : Tops G)
    (h : ∀ f fr W, AtAll10 G f [fr] W → T f (fr :: fs) W) : Wins Tryd.prog T (Frame.enter Tryd.prog 10 #[] .normal) fs G := by
  rw [enter10, body10_eq]
  refine Wins.seq (Wins.wp (wk0 _ ⟨rfl, by simp, by simp⟩ G) fun a0 W0 ⟨s0, e0⟩ => ?_)
  subst e0
  refine Wins.seq (Wins.wp (wk1 a0 s0 W0) fun a1 W1 ⟨s1, y1', b1⟩ => ?_)
  refine Wins.seq (Wins.wp (wk2 a1 W0.heap.size s1 W1 (hT.below b1)) fun a2 W2 ⟨g2, g3, s2, l2, f3, b2⟩ => ?_)
  have B2 := below_step b1 b2
  refine Wins.seq (Wins.wp (wk3 a2 W0.heap.size g2 g3 s2 W2 (hT.below B2) l2) fun a3 W3 ⟨g5, g6, s3, l5, _, b3⟩ => ?_)
  have B3 := below_step B2 b3
  refine Wins.seq (Wins.wp (wk4 a3 W0.heap.size g2 g3 g5 g6 s3 W3 (hT.below B3) l5) fun a4 W4 ⟨g8, g9, s4, l8, _, b4⟩ => ?_)
  have B4 := below_step B3 b4
  refine Wins.seq (Wins.wp (wk5 a4 W0.heap.size g2 g3 g5 g6 g8 g9 s4 W4 (hT.below B4) l8) fun a5 W5 ⟨g11, g12, s5, _, _, b5⟩ => ?_)
  have B5 := below_step B4 b5
  refine Wins.seq (Wins.wp (wk6 a5 W0.heap.size g2 g3 g5 g8 (s5.sub (by simp)) W5 (hT.below B5) (l8.later b5)) fun a6 W6 ⟨s6, b6⟩ => ?_)
  have B6 := below_step B5 b6
  have y6 := ((((y1'.later b2).later b3).later b4).later b5).later b6
  have l86 := (l8.later b5).later b6
  refine Wins.seq (Wins.wp (wk7 a6 W0.heap.size g2 g3 g5 g8 s6 W6 (hT.below B6) l86 y6) fun a7 W7 ⟨g17, s7, l17, b7⟩ => ?_)
  have B7 := below_step B6 b7
  have HM : WM W7 W0.heap.size g2 g3 g5 g8 g17 := ⟨y6.later b7, ((((l2.later b3).later b4).later b5).later b6).later b7, ((((f3.later b3).later b4).later b5).later b6).later b7, (((l5.later b4).later b5).later b6).later b7, l86.later b7, l17, hT.below B7⟩
  refine Wins.seq ?_
  rw [rg8_eq]
  refine Wins.region (Wins.ops [0, 1, 2, 3, 4] [5, 6, 7, 8, 9, 10, 11] size8 (wk8a a7 W0.heap.size g2 g3 g5 g8 g17 s7 W7) fun a8 W8 ⟨gv, A1, c1, A2, c2, A3, c3, s8, hrow, hels, b8⟩ => ?_)
  obtain ⟨o, ho, hg, hop⟩ : ∃ o, ops8[5]? = some o ∧ o.guard = none ∧ o.op = .call { callee := .value (.func 14), args := #[.tmp 69, .const (.int .u8 2), .tmp 73], argTypes := #[31, 5, 32] } := ⟨_, rfl, rfl, rfl⟩
  have e69 : a8.tmps[69]? = some (lk (-1) 65535 0) := s8.get (by simp)
  have e73 : a8.tmps[73]? = some (.slice (some ⟨gv, 0, none⟩) 4 4) := s8.get (by simp)
  have hcall : ∀ args w, (callFunc 14 args).run Tryd.prog w = .ok (.enter 14 args) w := enters Tryd.func14 (by kernel_rfl) rfl
  refine Wins.call ho (by rw [Region.wanted, hg]) (g := 14) (args := #[lkv (-1, 65535, 0), .int .u8 2, .slice (some ⟨gv, 0, none⟩) 4 4]) (w' := W8) ?_ ?_
  · unfold execOp
    simp [hop, resolve, invoke, Act.eval, Deferred.ofValue, e69, e73, hcall]
  · exact Wins.stop (h _ _ W8 ⟨a8, gv, W0.heap.size, g2, g3, g5, g8, g17, A1, c1, A2, c2, A3, c3, rfl, rfl, s8.sub (by simp), HM.later b8, hrow, hels, .of (below_step B7 b8)⟩)
end Lk
end Go.Proofs.YtlanlkpamnoekaaDoor
namespace Go.Proofs.YtlanlkpamnoekaaDoor.Lk
open Go Go.Conc Go.RowKit Rf Mem Bv Crc Str Bits
set_option maxRecDepth 100000

/-- It has returned true to its caller. -/
def AtTrue (G0 : World) (c : Frame) (f : Frame) (fs : List Frame) (W : World) : Prop := fs = [] ∧ f = c.finish (.bool true) ∧ Under G0.heap.size G0 W
theorem aim_true (G0 : World) (c : Frame) (hc : NF Tryd.prog c) : Aim (AtTrue G0 c) :=
  ⟨fun _ _ _ τ d ⟨h1, h2, h3⟩ => ⟨h1, h2, h3.re τ d⟩, fun f fs w ⟨_, h2, _⟩ ch hm => by
    rw [h2, finish_mode] at hm
    rcases hc.mode with e | e <;> rw [e] at hm <;> cases hm⟩

theorem all10_V : allV 2 ((-1, 65535, 0), []) [panelV 1#8, panelV 1#8, [], panelV 2#8] = ((2, 0, 2), [(2#8, 1#8, []), (2#8, 2#8, [])]) := by
  have h1 : hearV 2 (panelV 1#8) (-1, 65535, 0) = ((1, 0, 0), 0, (2#8, 1#8, [])) := by rw [hear_panel 1#8 1 rfl (-1, 65535, 0) (by decide)]; rfl
  have h2 : hearV 2 (panelV 1#8) (1, 0, 0) = ((1, 0, 1), 290, noF) := by rw [hear_panel 1#8 1 rfl (1, 0, 0) (by decide)]; rfl
  have h3 : hearV 2 [] (1, 0, 1) = ((1, 0, 2), 40, noF) := by decide
  have h4 : hearV 2 (panelV 2#8) (1, 0, 2) = ((2, 0, 2), 0, (2#8, 2#8, [])) := by rw [hear_panel 2#8 2 rfl (1, 0, 2) (by decide)]; rfl
  simp [allV, stepV, h1, h2, h3, h4]

/-- From All's return to the end, alone. -/
theorem rest_wins {T : Frame → List Frame → World → Prop} (a : Act) (g1 g2 g3 g5 g8 g17 : Nat) (Ar : Option Addr) (cr : Nat) (hS : Sl a 190 [(0, .bool false), (1, .pointer (some ⟨g1, 0, none⟩)), (2, .pointer (some ⟨g2, 0, none⟩)), (3, .pointer (some ⟨g3, 0, none⟩)), (4, .int .i64 0), (5, .pointer (some ⟨g5, 0, none⟩)), (7, .int .i64 290), (8, .pointer (some ⟨g8, 0, none⟩)), (10, .int .i64 0), (13, .int .i64 41), (16, .int .i64 40), (17, .pointer (some ⟨g17, 0, none⟩))]) (c : Frame) (fs : List Frame) (w : World) (H : WM w g1 g2 g3 g5 g8 g17) (hT : ∀ W, Below w.heap.size w W → T (c.finish (.bool true)) fs W) :
    Wins Tryd.prog T ((b10.at a (.inRegion ops8 [5, 6, 7, 8, 9, 10, 11] :: [.code rest8])).finish (.tuple #[lk 2 0 2, .slice Ar 2 cr])) (c :: fs) w := by
  have hd : (ops8[5]?.bind (·.dst)) = some 74 := rfl
  rw [Frame.finish_at, hd]
  have hS2 := (hS.put 74 (.tuple #[lk 2 0 2, .slice Ar 2 cr]) (by omega) (by simp))
  refine Wins.ops [6, 7, 8, 9, 10, 11] [] rfl (wk8b _ g1 g2 g3 g5 g8 g17 Ar cr (hS2.sub (by simp)) w) fun a1 W1 ⟨g18, s1, l18, b1⟩ => ?_
  refine Wins.regionEnd ?_
  unfold rest8
  refine Wins.seq (Wins.wp (wk9 a1 g1 g2 g3 g5 g8 g17 g18 Ar cr s1 W1) fun a2 W2 ⟨g20, s2, i20, b2⟩ => ?_)
  have B2 := below_step b1 b2
  refine Wins.seq (Wins.wp (wk10 a2 g1 g2 g3 g5 g8 g17 g18 g20 Ar cr s2 W2 i20) fun a3 W3 ⟨Ap, cp, X, s3, hs3, h16, hH, b3⟩ => ?_)
  have B3 := below_step B2 b3
  refine Wins.seq (Wins.wp (wk11 a3 g1 g2 g3 g5 g8 g17 g18 g20 Ar Ap cr cp X s3 W3 hs3 h16 hH) fun a4 W4 ⟨g22, s4, i22, b4⟩ => ?_)
  have B4 := below_step B3 b4
  refine Wins.seq (Wins.wp (wk12 a4 g1 g2 g3 g5 g8 g17 g18 g20 g22 Ar Ap cr cp X s4 W4 (hs3.later b4) h16) fun a5 W5 ⟨s5, b5⟩ => ?_)
  have B5 := below_step B4 b5
  refine Wins.seq (Wins.wp (wk13 a5 g1 g2 g3 g5 g8 g17 g18 g20 g22 Ar Ap cr cp s5 W5 (H.later B5) ((((l18.later b2).later b3).later b4).later b5) (((i20.later b3).later b4).later b5) (i22.later b5)) fun a6 W6 ⟨s6, b6⟩ => ?_)
  have B6 := below_step B5 b6
  refine Wins.ret (Wins.leave (v := .bool true) ?_ (Wins.stop (hT W6 B6)))
  have e0 : a6.tmps[0]? = some (.bool true) := s6.get (by simp)
  refine ⟨rfl, s6.defers, rfl, _, Tryd.func10, ?_⟩
  simp [results, Tryd.f10, Frame.at, e0]

/-- ████ wakes, beside leavers. ████ -/
theorem wakes_comp {cs : List Frame} {cf : Frame} {A : World} {m : Machine} {t : Trace} (hc : NF Tryd.prog cf) (hT : Tops A) (h : St (QL Tryd.prog) (Frame.enter Tryd.prog 10 #[] .normal) (cf :: cs) A m t) :
    Run Tryd.prog m t (To (QL Tryd.prog) fun f' cs' A' => cs' = cs ∧ f' = cf.finish (.bool true) ∧ Below A.heap.size A A') := by
  have hnf : NF Tryd.prog (Frame.enter Tryd.prog 10 #[] .normal) := NF.enter (fit (fun _ => False)).nice (by decide) _
  refine (lone_run0 (bad := 14) (fun Z => fit Z) (aim_all10 (scrub (Zset (fun _ => False) A) A)) (fs := []) ⟨by simp, .inl hnf⟩ (fun τ d => ?_) h).bind ?_
  · have hTG := (Sees.down A).tops hT
    refine wakes_wins [] _ (Tops.mk hTG.c0 hTG.c1 hTG.sz) fun f fr W h => ?_
    obtain ⟨a, gv, g1, g2, g3, g5, g8, g17, A1, c1, A2, c2, A3, c3, h1, h2, h3, h4, h5, h6, h7⟩ := h
    exact ⟨a, gv, g1, g2, g3, g5, g8, g17, A1, c1, A2, c2, A3, c3, h1, h2, h3, h4, h5, h6, ⟨h7.os, h7.output, h7.size, h7.block⟩⟩
  rintro m1 t1 ⟨f1, cs1, A1', ⟨fs1, G1, rfl, ⟨a, gv, g1, g2, g3, g5, g8, g17, A1, c1, A2, c2, A3, c3, rfl, rfl, h3, h4, h5, h6, h7⟩, hgood, hR, hsz, ht, hV⟩, hSt⟩
  have su := Sees.up hR
  have H1 := su.wm h4
  have b1 : Below A.heap.size A A1' := by
    have h8 := h7
    rw [scrub_size] at h8
    exact h8.lift hR ht (V := fun _ => False) (fun i hi _ => hV i hi) fun _ h => h.elim
  have hfr := hgood.1 _ (List.mem_singleton.2 rfl)
  refine (all_comp (cs := cf :: cs) (-1, 65535, 0) 2 (.slice (some ⟨gv, 0, none⟩) 4 4) [.slice A1 (panelV 1#8).length c1, .slice A2 (panelV 1#8).length c2, .slice none 0 0, .slice A3 (panelV 2#8).length c3] _ hfr H1.t (su.sl h5) (su.els h6) (by simp) hSt).bind ?_
  rintro m2 t2 ⟨f2, cs2, A2', ⟨rfl, rv, rfl, hF, b2⟩, hSt2⟩
  rw [all10_V] at hF hSt2
  have B2 : Below A.heap.size A A2' := b1.trans (b2.mono b1.size)
  obtain ⟨xs, hsl, _⟩ := hF
  obtain ⟨Ar, cr, rfl, _⟩ := hsl.form
  have H2 := H1.later b2
  refine (lone_run0 (bad := 14) (fun Z => fit Z) (aim_true (scrub (Zset (fun _ => False) A2') A2') cf hc) (fs := [cf]) ⟨by simpa using hc, .inl (hfr.finish _)⟩ (fun τ d => ?_) hSt2).mono ?_
  · refine rest_wins a g1 g2 g3 g5 g8 g17 Ar cr h3 cf [] _ ((Sees.heap (A := scrub (Zset (fun _ => False) A2') A2') (G := re (scrub (Zset (fun _ => False) A2') A2') τ d) rfl).wm ((Sees.down A2').wm H2)) fun W hb => ⟨rfl, rfl, ?_⟩
    exact ⟨hb.os, hb.output, hb.size, hb.block⟩
  · rintro _ _ ⟨f', cs', A', ⟨fs', G', rfl, ⟨rfl, rfl, hU⟩, _, hR', _, ht', hV'⟩, hSt3⟩
    refine ⟨_, _, A', ⟨rfl, rfl, ?_⟩, hSt3⟩
    have hU2 := hU
    rw [scrub_size] at hU2
    have b3 := hU2.lift hR' ht' (V := fun _ => False) (fun i hi _ => hV' i hi) fun _ h => h.elim
    exact B2.trans (b3.mono B2.size)
end Go.Proofs.YtlanlkpamnoekaaDoor.Lk
