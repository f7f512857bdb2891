/- The law, in company. Nothing that was there is turned. -/
import Derived.Test.YtlanlkpamnoekaaDoorZD13
import Derived.Conc.Beside
namespace Go.Proofs.YtlanlkpamnoekaaDoor
open Go Go.Conc Go.RowKit Rf Mem Bv Crc Str Lk Bits
set_option maxRecDepth 100000

theorem Sl.put {a : Act} {n : Nat} {l : List (Nat × Value)} (h : Sl a n l) (d : Nat) (v : Value) (hd : d < n) (hl : ∀ p ∈ l, p.1 ≠ d) : Sl (a.put (some d) v) n ((d, v) :: l) := by
  obtain ⟨tm, df⟩ := a
  have hs : tm.size = n := h.size
  refine ⟨h.defers, by simp [Act.put, hs], fun p hp => ?_⟩
  simp only [List.mem_cons] at hp
  rcases hp with rfl | hp
  · simp [Act.put, hs, hd]
  · have := hl p hp
    simp only [Act.put]
    rw [Array.getElem?_setIfInBounds_ne (fun e => this e.symm)]
    exact h.at_ p hp
theorem Els.see {A G : World} (hs : A.heap.size = G.heap.size) (hc : ∀ a v, A.cell? a = some v → G.cell? a = some v) : ∀ {us : List Value} {xs : List (List (BitVec 8))}, Els A us xs → Els G us xs
  | [], [], _ => trivial
  | _ :: _, _ :: _, h => ⟨sliceAt_see hs hc h.1, h.2.1, Els.see hs hc h.2.2⟩
/-- What blocks hold is seen elsewhere. -/
structure Sees (A G : World) : Prop where
  size : A.heap.size = G.heap.size
  cell : ∀ a v, A.cell? a = some v → G.cell? a = some v
  block : ∀ (i : Nat) (c : Array Value) (e : TypeId), A.heap[i]? = some (.cells c e (0, 0)) → 0 < c.size → G.heap[i]? = some (.cells c e (0, 0))
theorem Sees.up {Z : Nat → Prop} {G A : World} (h : Rel Z G A) : Sees G A := ⟨h.size.symm, fun _ _ hc => h.cell_up hc, fun _ _ _ hh hn => h.cells0 hh hn⟩
theorem Sees.down (A : World) : Sees A (scrub (Zset (fun _ => False) A) A) := ⟨(scrub_size _ _).symm, fun _ _ hc => scrub_cell hc, fun _ _ _ hh _ => scrub_cells hh fun h => h⟩
theorem Sees.heap {A G : World} (he : G.heap = A.heap) : Sees A G := ⟨by rw [he], fun a v h => by unfold World.cell? at *; rw [he]; exact h, fun i c e hh _ => by rw [he]; exact hh⟩
theorem Sees.lv {A G : World} (s : Sees A G) {g : Nat} {x q e : Int} (h : LVar A g x q e) : LVar G g x q e := ⟨s.block _ _ _ h.at_ (by simp)⟩
theorem Sees.ly {A G : World} (s : Sees A G) {g : Nat} {y : Nat → Value} {tl : Int} (h : LY A g y tl) : LY G g y tl := ⟨s.block _ _ _ h.at_ (by simp)⟩
theorem Sees.iv {A G : World} (s : Sees A G) {g : Nat} {a b c d : U32} (h : IVar A g a b c d) : IVar G g a b c d := ⟨s.block _ _ _ h.at_ (by simp)⟩
theorem Sees.sl {A G : World} (s : Sees A G) {sz n : Nat} {v : Value} {cs : List Value} (h : SliceAt A sz v n cs) : SliceAt G sz v n cs := sliceAt_see s.size s.cell h
theorem Sees.fv {A G : World} (s : Sees A G) {g : Nat} {f : Frm} (h : FV A g f) : FV G g f := by
  obtain ⟨Ap, c, h1, h2⟩ := h.out
  exact ⟨Ap, c, s.block _ _ _ h1 (by simp), s.sl h2⟩
theorem Sees.tops {A G : World} (s : Sees A G) (h : Tops A) : Tops G := tops_see s.size s.cell h
theorem Sees.els {A G : World} (s : Sees A G) {us : List Value} {xs : List (List (BitVec 8))} (h : Els A us xs) : Els G us xs := Els.see s.size s.cell h
theorem Sees.wm {A G : World} (s : Sees A G) {g1 g2 g3 g5 g8 g17 : Nat} (h : WM A g1 g2 g3 g5 g8 g17) : WM G g1 g2 g3 g5 g8 g17 := ⟨s.ly h.y, s.lv h.l2, s.fv h.f3, s.lv h.l5, s.lv h.l8, s.lv h.l17, s.tops h.t⟩

namespace Lk
noncomputable def b10 : Frame := base 10
noncomputable def rest8 : Code := .seq (rg 9) (.seq (rg 10) (.seq (rg 11) (.seq (rg 12) (.seq (rg 13) .ret))))
/-- wakes stands where it calls All. -/
def AtAll10 (G0 : World) (f : Frame) (fs : List Frame) (W : World) : Prop := ∃ (a : Act) (gv g1 g2 g3 g5 g8 g17 : Nat) (A1 : Option Addr) (c1 : Nat) (A2 : Option Addr) (c2 : Nat) (A3 : Option Addr) (c3 : Nat),
  fs = [b10.at a (.inRegion ops8 [5, 6, 7, 8, 9, 10, 11] :: [.code rest8])] ∧ f = Frame.enter Tryd.prog 14 #[lkv (-1, 65535, 0), .int .u8 2, .slice (some ⟨gv, 0, none⟩) 4 4] .normal ∧ Sl a 190 [(0, .bool false), (1, .pointer (some ⟨g1, 0, none⟩)), (2, .pointer (some ⟨g2, 0, none⟩)), (3, .pointer (some ⟨g3, 0, none⟩)), (4, .int .i64 0), (5, .pointer (some ⟨g5, 0, none⟩)), (7, .int .i64 290), (8, .pointer (some ⟨g8, 0, none⟩)), (10, .int .i64 0), (13, .int .i64 41), (16, .int .i64 40), (17, .pointer (some ⟨g17, 0, none⟩))] ∧ WM W g1 g2 g3 g5 g8 g17 ∧
  SliceAt W 1 (.slice (some ⟨gv, 0, none⟩) 4 4) 4 [.slice A1 (panelV 1#8).length c1, .slice A2 (panelV 1#8).length c2, .slice none 0 0, .slice A3 (panelV 2#8).length c3] ∧ Els W [.slice A1 (panelV 1#8).length c1, .slice A2 (panelV 1#8).length c2, .slice none 0 0, .slice A3 (panelV 2#8).length c3] [panelV 1#8, panelV 1#8, [], panelV 2#8] ∧ Under G0.heap.size G0 W
theorem AtAll10.see {G0 : World} {f : Frame} {fs : List Frame} {W W' : World} (h : AtAll10 G0 f fs W) (s : Sees W W') (ho : W'.os = W.os) (hp : W'.output = W.output) (hh : W'.heap = W.heap) : AtAll10 G0 f fs W' := by
  obtain ⟨a, gv, g1, g2, g3, g5, g8, g17, A1, c1, A2, c2, A3, c3, h1, h2, h3, h4, h5, h6, h7⟩ := h
  exact ⟨a, gv, g1, g2, g3, g5, g8, g17, A1, c1, A2, c2, A3, c3, h1, h2, h3, s.wm h4, s.sl h5, s.els h6, ⟨ho.trans h7.os, hp.trans h7.output, by rw [hh]; exact h7.size, fun k hk => by rw [hh]; exact h7.block k hk⟩⟩
theorem aim_all10 (G0 : World) : Aim (AtAll10 G0) := by
  refine ⟨fun f fs W τ d h => h.see (Sees.heap rfl) rfl rfl rfl, fun f fs w h ch hm => ?_⟩
  obtain ⟨_, _, _, _, _, _, _, _, _, _, _, _, _, _, _, h2, _⟩ := h
  rw [h2] at hm
  simp [Frame.enter] at hm

theorem enter10 : Frame.enter Tryd.prog 10 #[] .normal = b10.at ⟨#[] ++ Array.replicate 190 undef, []⟩ [.code body10] := by
  rw [enter_at (c := body10) _ Tryd.func10 rfl, Tryd.ntmps10]
  rfl

theorem wakes_wins {T : Frame → List Frame → World → Prop} (fs : List Frame) (G : World) (hT : Tops G)
    (h : ∀ f fr W, AtAll10 G f [fr] W → T f (fr :: fs) W) : Wins Tryd.prog T (Frame.enter Tryd.prog 10 #[] .normal) fs G := by
  rw [enter10, body10_eq]
  refine Wins.seq (Wins.wp (wk0 _ ⟨rfl, by simp, by simp⟩ G) fun a0 W0 ⟨s0, e0⟩ => ?_)
  subst e0
  refine Wins.seq (Wins.wp (wk1 a0 s0 W0) fun a1 W1 ⟨s1, y1', b1⟩ => ?_)
  refine Wins.seq (Wins.wp (wk2 a1 W0.heap.size s1 W1 (hT.below b1)) fun a2 W2 ⟨g2, g3, s2, l2, f3, b2⟩ => ?_)
  have B2 := below_step b1 b2
  refine Wins.seq (Wins.wp (wk3 a2 W0.heap.size g2 g3 s2 W2 (hT.below B2) l2) fun a3 W3 ⟨g5, g6, s3, l5, _, b3⟩ => ?_)
  have B3 := below_step B2 b3
  refine Wins.seq (Wins.wp (wk4 a3 W0.heap.size g2 g3 g5 g6 s3 W3 (hT.below B3) l5) fun a4 W4 ⟨g8, g9, s4, l8, _, b4⟩ => ?_)
  have B4 := below_step B3 b4
  refine Wins.seq (Wins.wp (wk5 a4 W0.heap.size g2 g3 g5 g6 g8 g9 s4 W4 (hT.below B4) l8) fun a5 W5 ⟨g11, g12, s5, _, _, b5⟩ => ?_)
  have B5 := below_step B4 b5
  refine Wins.seq (Wins.wp (wk6 a5 W0.heap.size g2 g3 g5 g8 (s5.sub (by simp)) W5 (hT.below B5) (l8.later b5)) fun a6 W6 ⟨s6, b6⟩ => ?_)
  have B6 := below_step B5 b6
  have y6 := ((((y1'.later b2).later b3).later b4).later b5).later b6
  have l86 := (l8.later b5).later b6
  refine Wins.seq (Wins.wp (wk7 a6 W0.heap.size g2 g3 g5 g8 s6 W6 (hT.below B6) l86 y6) fun a7 W7 ⟨g17, s7, l17, b7⟩ => ?_)
  have B7 := below_step B6 b7
  have HM : WM W7 W0.heap.size g2 g3 g5 g8 g17 := ⟨y6.later b7, ((((l2.later b3).later b4).later b5).later b6).later b7, ((((f3.later b3).later b4).later b5).later b6).later b7, (((l5.later b4).later b5).later b6).later b7, l86.later b7, l17, hT.below B7⟩
  refine Wins.seq ?_
  rw [rg8_eq]
  refine Wins.region (Wins.ops [0, 1, 2, 3, 4] [5, 6, 7, 8, 9, 10, 11] size8 (wk8a a7 W0.heap.size g2 g3 g5 g8 g17 s7 W7) fun a8 W8 ⟨gv, A1, c1, A2, c2, A3, c3, s8, hrow, hels, b8⟩ => ?_)
  obtain ⟨o, ho, hg, hop⟩ : ∃ o, ops8[5]? = some o ∧ o.guard = none ∧ o.op = .call { callee := .value (.func 14), args := #[.tmp 69, .const (.int .u8 2), .tmp 73], argTypes := #[31, 5, 32] } := ⟨_, rfl, rfl, rfl⟩
  have e69 : a8.tmps[69]? = some (lk (-1) 65535 0) := s8.get (by simp)
  have e73 : a8.tmps[73]? = some (.slice (some ⟨gv, 0, none⟩) 4 4) := s8.get (by simp)
  have hcall : ∀ args w, (callFunc 14 args).run Tryd.prog w = .ok (.enter 14 args) w := enters Tryd.func14 (by kernel_rfl) rfl
  refine Wins.call ho (by rw [Region.wanted, hg]) (g := 14) (args := #[lkv (-1, 65535, 0), .int .u8 2, .slice (some ⟨gv, 0, none⟩) 4 4]) (w' := W8) ?_ ?_
  · unfold execOp
    simp [hop, resolve, invoke, Act.eval, Deferred.ofValue, e69, e73, hcall]
  · exact Wins.stop (h _ _ W8 ⟨a8, gv, W0.heap.size, g2, g3, g5, g8, g17, A1, c1, A2, c2, A3, c3, rfl, rfl, s8.sub (by simp), HM.later b8, hrow, hels, .of (below_step B7 b8)⟩)
end Lk
end Go.Proofs.YtlanlkpamnoekaaDoor
namespace Go.Proofs.YtlanlkpamnoekaaDoor.Lk
open Go Go.Conc Go.RowKit Rf Mem Bv Crc Str Bits
set_option maxRecDepth 100000

/-- It has returned true to its caller. -/
def AtTrue (G0 : World) (c : Frame) (f : Frame) (fs : List Frame) (W : World) : Prop := fs = [] ∧ f = c.finish (.bool true) ∧ Under G0.heap.size G0 W
theorem aim_true (G0 : World) (c : Frame) (hc : NF Tryd.prog c) : Aim (AtTrue G0 c) :=
  ⟨fun _ _ _ τ d ⟨h1, h2, h3⟩ => ⟨h1, h2, h3.re τ d⟩, fun f fs w ⟨_, h2, _⟩ ch hm => by
    rw [h2, finish_mode] at hm
    rcases hc.mode with e | e <;> rw [e] at hm <;> cases hm⟩

theorem all10_V : allV 2 ((-1, 65535, 0), []) [panelV 1#8, panelV 1#8, [], panelV 2#8] = ((2, 0, 2), [(2#8, 1#8, []), (2#8, 2#8, [])]) := by
  have h1 : hearV 2 (panelV 1#8) (-1, 65535, 0) = ((1, 0, 0), 0, (2#8, 1#8, [])) := by rw [hear_panel 1#8 1 rfl (-1, 65535, 0) (by decide)]; rfl
  have h2 : hearV 2 (panelV 1#8) (1, 0, 0) = ((1, 0, 1), 290, noF) := by rw [hear_panel 1#8 1 rfl (1, 0, 0) (by decide)]; rfl
  have h3 : hearV 2 [] (1, 0, 1) = ((1, 0, 2), 40, noF) := by decide
  have h4 : hearV 2 (panelV 2#8) (1, 0, 2) = ((2, 0, 2), 0, (2#8, 2#8, [])) := by rw [hear_panel 2#8 2 rfl (1, 0, 2) (by decide)]; rfl
  simp [allV, stepV, h1, h2, h3, h4]

/-- From All's return to the end, alone. -/
theorem rest_wins {T : Frame → List Frame → World → Prop} (a : Act) (g1 g2 g3 g5 g8 g17 : Nat) (Ar : Option Addr) (cr : Nat) (hS : Sl a 190 [(0, .bool false), (1, .pointer (some ⟨g1, 0, none⟩)), (2, .pointer (some ⟨g2, 0, none⟩)), (3, .pointer (some ⟨g3, 0, none⟩)), (4, .int .i64 0), (5, .pointer (some ⟨g5, 0, none⟩)), (7, .int .i64 290), (8, .pointer (some ⟨g8, 0, none⟩)), (10, .int .i64 0), (13, .int .i64 41), (16, .int .i64 40), (17, .pointer (some ⟨g17, 0, none⟩))]) (c : Frame) (fs : List Frame) (w : World) (H : WM w g1 g2 g3 g5 g8 g17) (hT : ∀ W, Below w.heap.size w W → T (c.finish (.bool true)) fs W) :
    Wins Tryd.prog T ((b10.at a (.inRegion ops8 [5, 6, 7, 8, 9, 10, 11] :: [.code rest8])).finish (.tuple #[lk 2 0 2, .slice Ar 2 cr])) (c :: fs) w := by
  have hd : (ops8[5]?.bind (·.dst)) = some 74 := rfl
  rw [Frame.finish_at, hd]
  have hS2 := (hS.put 74 (.tuple #[lk 2 0 2, .slice Ar 2 cr]) (by omega) (by simp))
  refine Wins.ops [6, 7, 8, 9, 10, 11] [] rfl (wk8b _ g1 g2 g3 g5 g8 g17 Ar cr (hS2.sub (by simp)) w) fun a1 W1 ⟨g18, s1, l18, b1⟩ => ?_
  refine Wins.regionEnd ?_
  unfold rest8
  refine Wins.seq (Wins.wp (wk9 a1 g1 g2 g3 g5 g8 g17 g18 Ar cr s1 W1) fun a2 W2 ⟨g20, s2, i20, b2⟩ => ?_)
  have B2 := below_step b1 b2
  refine Wins.seq (Wins.wp (wk10 a2 g1 g2 g3 g5 g8 g17 g18 g20 Ar cr s2 W2 i20) fun a3 W3 ⟨Ap, cp, X, s3, hs3, h16, hH, b3⟩ => ?_)
  have B3 := below_step B2 b3
  refine Wins.seq (Wins.wp (wk11 a3 g1 g2 g3 g5 g8 g17 g18 g20 Ar Ap cr cp X s3 W3 hs3 h16 hH) fun a4 W4 ⟨g22, s4, i22, b4⟩ => ?_)
  have B4 := below_step B3 b4
  refine Wins.seq (Wins.wp (wk12 a4 g1 g2 g3 g5 g8 g17 g18 g20 g22 Ar Ap cr cp X s4 W4 (hs3.later b4) h16) fun a5 W5 ⟨s5, b5⟩ => ?_)
  have B5 := below_step B4 b5
  refine Wins.seq (Wins.wp (wk13 a5 g1 g2 g3 g5 g8 g17 g18 g20 g22 Ar Ap cr cp s5 W5 (H.later B5) ((((l18.later b2).later b3).later b4).later b5) (((i20.later b3).later b4).later b5) (i22.later b5)) fun a6 W6 ⟨s6, b6⟩ => ?_)
  have B6 := below_step B5 b6
  refine Wins.ret (Wins.leave (v := .bool true) ?_ (Wins.stop (hT W6 B6)))
  have e0 : a6.tmps[0]? = some (.bool true) := s6.get (by simp)
  refine ⟨rfl, s6.defers, rfl, _, Tryd.func10, ?_⟩
  simp [results, Tryd.f10, Frame.at, e0]

/-- ████ wakes, beside leavers. ████ -/
theorem wakes_comp {cs : List Frame} {cf : Frame} {A : World} {m : Machine} {t : Trace} (hc : NF Tryd.prog cf) (hT : Tops A) (h : St (QL Tryd.prog) (Frame.enter Tryd.prog 10 #[] .normal) (cf :: cs) A m t) :
    Run Tryd.prog m t (To (QL Tryd.prog) fun f' cs' A' => cs' = cs ∧ f' = cf.finish (.bool true) ∧ Below A.heap.size A A') := by
  have hnf : NF Tryd.prog (Frame.enter Tryd.prog 10 #[] .normal) := NF.enter (fit (fun _ => False)).nice (by decide) _
  refine (lone_run0 (bad := 14) (fun Z => fit Z) (aim_all10 (scrub (Zset (fun _ => False) A) A)) (fs := []) ⟨by simp, .inl hnf⟩ (fun τ d => ?_) h).bind ?_
  · have hTG := (Sees.down A).tops hT
    refine wakes_wins [] _ (Tops.mk hTG.c0 hTG.c1 hTG.sz) fun f fr W h => ?_
    obtain ⟨a, gv, g1, g2, g3, g5, g8, g17, A1, c1, A2, c2, A3, c3, h1, h2, h3, h4, h5, h6, h7⟩ := h
    exact ⟨a, gv, g1, g2, g3, g5, g8, g17, A1, c1, A2, c2, A3, c3, h1, h2, h3, h4, h5, h6, ⟨h7.os, h7.output, h7.size, h7.block⟩⟩
  rintro m1 t1 ⟨f1, cs1, A1', ⟨fs1, G1, rfl, ⟨a, gv, g1, g2, g3, g5, g8, g17, A1, c1, A2, c2, A3, c3, rfl, rfl, h3, h4, h5, h6, h7⟩, hgood, hR, hsz, ht, hV⟩, hSt⟩
  have su := Sees.up hR
  have H1 := su.wm h4
  have b1 : Below A.heap.size A A1' := by
    have h8 := h7
    rw [scrub_size] at h8
    exact h8.lift hR ht (V := fun _ => False) (fun i hi _ => hV i hi) fun _ h => h.elim
  have hfr := hgood.1 _ (List.mem_singleton.2 rfl)
  refine (all_comp (cs := cf :: cs) (-1, 65535, 0) 2 (.slice (some ⟨gv, 0, none⟩) 4 4) [.slice A1 (panelV 1#8).length c1, .slice A2 (panelV 1#8).length c2, .slice none 0 0, .slice A3 (panelV 2#8).length c3] _ hfr H1.t (su.sl h5) (su.els h6) (by simp) hSt).bind ?_
  rintro m2 t2 ⟨f2, cs2, A2', ⟨rfl, rv, rfl, hF, b2⟩, hSt2⟩
  rw [all10_V] at hF hSt2
  have B2 : Below A.heap.size A A2' := b1.trans (b2.mono b1.size)
  obtain ⟨xs, hsl, _⟩ := hF
  obtain ⟨Ar, cr, rfl, _⟩ := hsl.form
  have H2 := H1.later b2
  refine (lone_run0 (bad := 14) (fun Z => fit Z) (aim_true (scrub (Zset (fun _ => False) A2') A2') cf hc) (fs := [cf]) ⟨by simpa using hc, .inl (hfr.finish _)⟩ (fun τ d => ?_) hSt2).mono ?_
  · refine rest_wins a g1 g2 g3 g5 g8 g17 Ar cr h3 cf [] _ ((Sees.heap (A := scrub (Zset (fun _ => False) A2') A2') (G := re (scrub (Zset (fun _ => False) A2') A2') τ d) rfl).wm ((Sees.down A2').wm H2)) fun W hb => ⟨rfl, rfl, ?_⟩
    exact ⟨hb.os, hb.output, hb.size, hb.block⟩
  · rintro _ _ ⟨f', cs', A', ⟨fs', G', rfl, ⟨rfl, rfl, hU⟩, _, hR', _, ht', hV'⟩, hSt3⟩
    refine ⟨_, _, A', ⟨rfl, rfl, ?_⟩, hSt3⟩
    have hU2 := hU
    rw [scrub_size] at hU2
    have b3 := hU2.lift hR' ht' (V := fun _ => False) (fun i hi _ => hV' i hi) fun _ h => h.elim
    exact B2.trans (b3.mono B2.size)
end Go.Proofs.YtlanlkpamnoekaaDoor.Lk
namespace Go.Proofs.YtlanlkpamnoekaaDoor.Lk
open Go Go.Conc Go.RowKit Rf Mem Bv Crc Str Bits
set_option maxRecDepth 100000

/-- From wakes' return on the frame comes to its end, true in slot r; nothing is turned. -/
def Cont (F : FuncId) (r : Nat) (fr : Frame) : Prop := ∀ (T : Frame → List Frame → World → Prop) (fs : List Frame) (w : World),
  (∀ (a : Act) (todo : List Item) (w' : World), a.defers = [] → a.tmps[r]? = some (.bool true) → w'.heap = w.heap → w'.os = w.os → w'.output = w.output → T { (base F).at a todo with mode := .returning } fs w') → Wins Tryd.prog T (fr.finish (.bool true)) fs w
/-- The law calls wakes; what it tells is what wakes tells. -/
def AtWakes (F : FuncId) (r : Nat) (G0 : World) (f : Frame) (fs : List Frame) (W : World) : Prop := ∃ fr, fs = [fr] ∧ f = Frame.enter Tryd.prog 10 #[] .normal ∧ Cont F r fr ∧ Tops W ∧ Under G0.heap.size G0 W
theorem aim_wakes (F : FuncId) (r : Nat) (G0 : World) : Aim (AtWakes F r G0) :=
  ⟨fun _ _ _ τ d ⟨fr, h1, h2, h3, h4, h5⟩ => ⟨fr, h1, h2, h3, ⟨h4.c0, h4.c1, h4.sz⟩, h5.re τ d⟩, fun f fs w ⟨fr, _, h2, _⟩ ch hm => by
    rw [h2] at hm
    simp [Frame.enter] at hm⟩
/-- The law's end. -/
def DoneF (F : FuncId) (r : Nat) (f : Frame) : Prop := ∃ (a : Act) (todo : List Item), f = { (base F).at a todo with mode := .returning } ∧ a.defers = [] ∧ a.tmps[r]? = some (.bool true)
def AtDone (F : FuncId) (r : Nat) (G0 : World) (f : Frame) (fs : List Frame) (W : World) : Prop := fs = [] ∧ DoneF F r f ∧ Under G0.heap.size G0 W
theorem aim_done (F : FuncId) (r : Nat) (G0 : World) : Aim (AtDone F r G0) :=
  ⟨fun _ _ _ τ d ⟨h1, h2, h3⟩ => ⟨h1, h2, h3.re τ d⟩, fun f fs w ⟨_, ⟨a, todo, h2, _⟩, _⟩ ch hm => by rw [h2] at hm; cases hm⟩

theorem done_run {F : FuncId} {r : Nat} {fr : Frame} {A : World} {m : Machine} {t : Trace} (hc : NF Tryd.prog fr) (hC : Cont F r fr) (hT : Tops A) (h : St (QL Tryd.prog) (Frame.enter Tryd.prog 10 #[] .normal) [fr] A m t) :
    Run Tryd.prog m t (To (QL Tryd.prog) fun f' cs' A' => cs' = [] ∧ DoneF F r f' ∧ Below A.heap.size A A') := by
  refine (wakes_comp hc hT h).bind ?_
  rintro m1 t1 ⟨f1, cs1, A1, ⟨rfl, rfl, b1⟩, hSt⟩
  refine (lone_run0 (bad := 14) (cs := []) (fun Z => fit Z) (aim_done F r (scrub (Zset (fun _ => False) A1) A1)) (fs := []) ⟨by simp, .inl (hc.finish _)⟩ (fun τ d => ?_) (by simpa using hSt)).mono ?_
  · exact hC _ [] _ fun a todo w' h1 h2 h3 h4 h5 => ⟨rfl, ⟨a, todo, rfl, h1, h2⟩, ⟨h4, h5, by rw [h3]; exact Nat.le_refl _, fun k _ => by rw [h3]; rfl⟩⟩
  · rintro _ _ ⟨f', cs', A', ⟨fs', G', rfl, ⟨rfl, hD, hU⟩, _, hR', _, ht', hV'⟩, hSt3⟩
    refine ⟨_, _, A', ⟨rfl, hD, ?_⟩, hSt3⟩
    have hU2 := hU
    rw [scrub_size] at hU2
    have b3 := hU2.lift hR' ht' (V := fun _ => False) (fun i hi _ => hV' i hi) fun _ h => h.elim
    exact b1.trans (b3.mono b1.size)

/-- From where a lone stretch leads to wakes. -/
theorem wakes_run {F : FuncId} {r : Nat} {f : Frame} {A : World} {m : Machine} {t : Trace} (hf : NF Tryd.prog f) (hw : ∀ τ d, Wins Tryd.prog (AtWakes F r (scrub (Zset (fun _ => False) A) A)) f [] (re (scrub (Zset (fun _ => False) A) A) τ d)) (h : St (QL Tryd.prog) f [] A m t) :
    Run Tryd.prog m t (To (QL Tryd.prog) fun f' cs' A' => cs' = [] ∧ DoneF F r f' ∧ Below A.heap.size A A') := by
  refine (lone_run0 (bad := 14) (cs := []) (fun Z => fit Z) (aim_wakes F r _) (fs := []) ⟨by simp, .inl hf⟩ hw (by simpa using h)).bind ?_
  rintro m1 t1 ⟨f1, cs1, A1, ⟨fs1, G1, rfl, ⟨fr, rfl, rfl, hC, hT, hU⟩, hgood, hR, hsz, ht, hV⟩, hSt⟩
  have b1 : Below A.heap.size A A1 := by
    rw [scrub_size] at hU
    exact hU.lift hR ht (V := fun _ => False) (fun i hi _ => hV i hi) fun _ h => h.elim
  refine (done_run (hgood.1 _ (List.mem_singleton.2 rfl)) hC ((Sees.up hR).tops hT) (by simpa using hSt)).mono ?_
  rintro m2 t2 ⟨f2, cs2, A2, ⟨rfl, hD, b2⟩, hSt2⟩
  exact ⟨_, _, A2, ⟨rfl, hD, b1.trans (b2.mono b1.size)⟩, hSt2⟩

/-- The start: goroutine 0 alone. -/
theorem start_st (f : Frame) (A : World) : St (QL Tryd.prog) f [] A (crowd #[Conc.G f []] A none) #[] :=
  ⟨_, _, none, rfl, rfl, _, 0, leavers_one Tryd.prog _, past_nil, rfl⟩

/-- ████ From a run to the law's end: it ends well. ████ -/
theorem law_ends {F : FuncId} {fn : Func} {r : Nat} {f : Frame} {A : World} (hfn : Tryd.prog.funcs[F]? = some fn) (hr : fn.results = #[.tmp r]) (hk : 2 ≠ F)
    (h : ∀ m t, St (QL Tryd.prog) f [] A m t → Run Tryd.prog m t (To (QL Tryd.prog) fun f' cs' A' => cs' = [] ∧ DoneF F r f' ∧ Below A.heap.size A A')) :
    ∃ M last o w' t', runNT Tryd.prog (M + 1) (crowd #[Conc.G f []] A none) #[] = (.ended o w', t') ∧ runN Tryd.prog M (crowd #[Conc.G f []] A none) = .next last ∧ step Tryd.prog last = .ended o w' ∧ Conc.Good Tryd.prog (fun v W' => v = .bool true ∧ Below A.heap.size A W') last o w' t' := by
  obtain ⟨N, m1, t1, h1, f1, cs1, A1, ⟨rfl, ⟨a, todo, rfl, hd, hv⟩, hb⟩, μ, gs, sl, rfl, h0, q, B, hL, hP, _⟩ := h _ _ (start_st f A)
  have hstep : ∀ w : World, stepG Tryd.prog true (Conc.G { (base F).at a todo with mode := .returning } []) w = .ended (.done (.bool true)) w #[] := by
    intro w
    have h2 : a.tmps[r]?.getD undef = .bool true := by rw [hv]; rfl
    simp [Conc.G, stepG, unwind, doReturn, results, Frame.at, base, hfn, hr, hd, h2, hk, seen, GStep.after]
  obtain ⟨M, last, o, w', t', e1, e2, e3, e4⟩ := beside_ends (P := Tryd.prog) (Shun := fun _ => False) (B := B) (D := fun _ _ _ => False) (Post := fun v W' => v = .bool true ∧ Below A.heap.size A W') (sl := sl) (n := 0) (w := A1) (t := t1) (fun _ _ _ h => h.elim) h0 hL hP
    (fun w₁ ⟨d, hw⟩ => ⟨rfl, .bool true, #[], by rw [hstep], by simp, rfl, by rw [hw]; exact below_at_d hb d⟩)
  refine ⟨N + M, last, o, w', t', ?_, ?_, e3, e4⟩
  · rw [Nat.add_assoc, runNT_add, h1]
    exact e1
  · have h1' : runN Tryd.prog N (crowd #[Conc.G f []] A none) = .next (crowd gs A1 sl) := by rw [← runNT_fst _ _ _ #[], h1]
    rw [runN_add, h1']
    exact e2
end Go.Proofs.YtlanlkpamnoekaaDoor.Lk
namespace Go.Proofs.YtlanlkpamnoekaaDoor.Lk
open Go Go.Conc Go.RowKit Rf Mem Bv Crc Str Bits
set_option maxRecDepth 100000

theorem wanted_none {o : Oper} {y : Nat → Option Bool} (h : o.guard = none) : Region.wanted o y = true := by rw [Region.wanted, h]
theorem wanted_some {ops : Array Oper} {o : Oper} {tm : Array Value} {g d : Nat} {b : Bool} (h : o.guard = some (g, b)) (hd : (ops[g]?.bind (·.dst)) = some d) (hv : tm[d]? = some (.bool b)) : Region.wanted o (yielded ops tm) = true := by
  rw [Region.wanted, h]
  simp [yielded, hd, hv]
theorem cont_of {F : FuncId} {r d i : Nat} {ops : Array Oper} {rest : List Nat} {a : Act} {k : List Item} (hdst : (ops[i]?.bind (·.dst)) = some d) (h : ∀ w, wpOps Tryd.prog ops (nrm fun a' w' => a'.defers = [] ∧ a'.tmps[r]? = some (.bool true) ∧ w' = w) rest (a.put (some d) (.bool true)) w) :
    Cont F r ((base F).at a (.inRegion ops (i :: rest) :: .code .ret :: k)) := by
  intro T fs w hT
  rw [Frame.finish_at, hdst]
  refine Wins.ops rest [] (by simp) (h w) fun a' w' ⟨h1, h2, h3⟩ => Wins.regionEnd (Wins.ret (Wins.stop ?_))
  subst h3
  exact hT a' _ w' h1 h2 rfl rfl rfl
theorem cont_two {F : FuncId} {r d i j : Nat} {ops : Array Oper} {o : Oper} {a : Act} {k : List Item} (hdst : (ops[i]?.bind (·.dst)) = some d) (ho : ops[j]? = some o) (hop : o.op = .assign (.tmp d)) (hdo : o.dst = some r) (hg : o.guard = none) (hd : a.defers = []) (hsz : d < a.tmps.size) (hr : r < a.tmps.size) :
    Cont F r ((base F).at a (.inRegion ops [i, j] :: .code .ret :: k)) := by
  refine cont_of hdst fun w => ?_
  simp only [wpOps, ho]
  rw [if_pos (wanted_none hg)]
  refine .inl ?_
  have he : (execOp (a.put (some d) (.bool true)).eval o).run Tryd.prog w = .ok (.value (.bool true)) w := by
    unfold execOp
    simp [hop, Act.eval, Act.put, hsz]
  refine Node.wp_val _ he ?_
  rw [hdo]
  refine ⟨hd, ?_, rfl⟩
  simp [Act.put, hr]
/-- The call of wakes. -/
theorem wins_wakes {T : Frame → List Frame → World → Prop} {b : Frame} {a : Act} {ops : Array Oper} {i : Nat} {rest : List Nat} {k : List Item} {fs : List Frame} {w : World} {o : Oper} {ts : Array TypeId} (ho : ops[i]? = some o) (hw : Region.wanted o (yielded ops a.tmps) = true) (hop : o.op = .call { callee := .value (.func 10), args := #[], argTypes := ts })
    (h : T (Frame.enter Tryd.prog 10 #[] .normal) (b.at a (.inRegion ops (i :: rest) :: k) :: fs) w) : Wins Tryd.prog T (b.at a (.inRegion ops (i :: rest) :: k)) fs w := by
  have hcall : ∀ args w, (callFunc 10 args).run Tryd.prog w = .ok (.enter 10 args) w := enters Tryd.func10 (by kernel_rfl) rfl
  refine Wins.call ho hw (g := 10) (args := #[]) (w' := w) ?_ (Wins.stop h)
  unfold execOp
  simp [hop, resolve, invoke, Act.eval, Deferred.ofValue, hcall]
theorem AtWakes.mk {F : FuncId} {r : Nat} {G0 W : World} {fr : Frame} (hC : Cont F r fr) (hT : Tops W) (hb : Below G0.heap.size G0 W) : AtWakes F r G0 (Frame.enter Tryd.prog 10 #[] .normal) [fr] W := ⟨fr, rfl, rfl, hC, hT, .of hb⟩
theorem Wins.mono {T T' : Frame → List Frame → World → Prop} {f : Frame} {fs : List Frame} {w : World} (h : Wins Tryd.prog T f fs w) (hT : ∀ f fs w, T f fs w → T' f fs w) : Wins Tryd.prog T' f fs w := by
  obtain ⟨n, g, gs, x, h1, h2⟩ := h
  exact ⟨n, g, gs, x, h1, hT _ _ _ h2⟩
theorem AtWakes.blind {F : FuncId} {r : Nat} {G : World} {τ : Tape} {d : Nat} {f : Frame} {fs : List Frame} {W : World} (h : AtWakes F r (re G τ d) f fs W) : AtWakes F r G f fs W := by
  obtain ⟨fr, h1, h2, h3, h4, h5⟩ := h
  exact ⟨fr, h1, h2, h3, h4, ⟨h5.os, h5.output, h5.size, h5.block⟩⟩
end Go.Proofs.YtlanlkpamnoekaaDoor.Lk
namespace Go.Proofs.YtlanlkpamnoekaaDoor
open List renaming getElem_toArray → zA, getElem_cons_succ → zS, getElem_cons_zero → zZ, setIfInBounds_toArray → zP, set_cons_zero → zQ, set_cons_succ → zR
open Go Go.RowKit Rf Mem Bv Crc Str Lk
set_option maxRecDepth 100000
attribute [local go_sem ↓] run_max2 run_min2
def lit104 (j : Nat → Value) : List Value := [j 0, j 1, j 2, j 3, j 4, j 5, j 6, j 7, j 8, j 9, j 10, j 11, j 12, j 13, j 14, j 15, j 16, j 17, j 18, j 19, j 20, j 21, j 22, j 23, j 24, j 25, j 26, j 27, j 28, j 29, j 30, j 31, j 32, j 33, j 34, j 35, j 36, j 37, j 38, j 39, j 40, j 41, j 42, j 43, j 44, j 45, j 46, j 47, j 48, j 49] ++ ([j 50, j 51, j 52, j 53, j 54, j 55, j 56, j 57, j 58, j 59, j 60, j 61, j 62, j 63, j 64, j 65, j 66, j 67, j 68, j 69, j 70, j 71, j 72, j 73, j 74, j 75, j 76, j 77, j 78, j 79, j 80, j 81, j 82, j 83, j 84, j 85, j 86, j 87, j 88, j 89, j 90, j 91, j 92, j 93, j 94, j 95, j 96, j 97, j 98, j 99] ++ ([j 100, j 101, j 102, j 103]))
theorem lit104_eq (j : Nat → Value) : (List.range 104).map j = lit104 j := by kernel_rfl
theorem Sl.lit104 {a : Act} {l : List (Nat × Value)} (h : Sl a 104 l) : ∃ j : Nat → Value, a = ⟨(lit104 j).toArray, []⟩ ∧ ∀ p ∈ l, j p.1 = p.2 := by
  obtain ⟨j, h1, h2⟩ := h.letters
  exact ⟨j, by rw [h1, lit104_eq], h2⟩

noncomputable def bodyD : Code := Tryd.f6.body.getD .skip
noncomputable def rgD (k : Nat) : Code := nthSeq k bodyD

noncomputable def opsD2 : Array Oper := match rgD 1 with | .seq _ (.cond _ (.seq (.region _ o _) _) _) => o | _ => #[]
noncomputable def rD1 : Code := match rgD 1 with | .seq r _ => r | _ => .skip
noncomputable def opsD14 : Array Oper := match rgD 7 with | .region _ o _ => o | _ => #[]
theorem bodyD_eq : bodyD = .seq (rgD 0) (.seq (rgD 1) (.seq (rgD 2) (.seq (rgD 3) (.seq (rgD 4) (.seq (rgD 5) (.seq (rgD 6) (.seq (rgD 7) .ret))))))) := rfl
theorem rgD1_eq : rgD 1 = .seq rD1 (.cond (.tmp 20) (.seq (.region 2 opsD2 false) .ret) .skip) := rfl
theorem rgD7_eq : rgD 7 = .region 14 opsD14 false := rfl
theorem sizeD2 : List.range opsD2.size = [0, 1] := by kernel_rfl
theorem sizeD14 : List.range opsD14.size = [0, 1, 2, 3, 4, 5, 6, 7, 8, 9, 10, 11, 12, 13, 14, 15, 16, 17, 18, 19] ++ [20, 21, 22] := by kernel_rfl
theorem opsD14_from (k n : Nat) : ∀ j, j < ((opsD14.toList.drop k).take n).length → ((opsD14.toList.drop k).take n)[j]? = opsD14[k + j]? := by
  intro j hj
  simp only [List.length_take] at hj
  rw [List.getElem?_take, if_pos (by omega), List.getElem?_drop]
  simp

theorem ld0 (a : Act) (tk s1 s2 : Int) (hS : Sl a 104 [(0, .int .i64 tk), (1, .int .u8 s1), (2, .int .u8 s2)]) (w : World) : (rgD 0).wp Tryd.prog (nrm fun a' w' => Sl a' 104 [(0, .int .i64 tk), (1, .int .u8 s1), (2, .int .u8 s2), (6, .bool false)] ∧ w' = w) a w := by
  obtain ⟨j, rfl, hj⟩ := hS.lit104
  have h0 : j 0 = .int .i64 tk := hj (0, _) (by simp)
  have h1 : j 1 = .int .u8 s1 := hj (1, _) (by simp)
  have h2 : j 2 = .int .u8 s2 := hj (2, _) (by simp)
  clear hj hS
  unfold rgD bodyD
  simp only [Tryd.f6, Option.getD_some, nthSeq, lit104, List.cons_append, List.nil_append, h0, h1, h2]
  go_wp2
  exact ⟨⟨rfl, rfl, by simp⟩, rfl⟩
theorem ld1 (a : Act) (tk s1 s2 : Int) (b : Bool) (hb : b = (decide (tk < 1) || decide (50 < tk))) (hS : Sl a 104 [(0, .int .i64 tk), (1, .int .u8 s1), (2, .int .u8 s2), (6, .bool false)]) (w : World) : rD1.wp Tryd.prog (nrm fun a' w' => Sl a' 104 [(0, .int .i64 tk), (1, .int .u8 s1), (2, .int .u8 s2), (6, .bool false), (20, .bool b)] ∧ w' = w) a w := by
  obtain ⟨j, rfl, hj⟩ := hS.lit104
  have h0 : j 0 = .int .i64 tk := hj (0, _) (by simp)
  have h1 : j 1 = .int .u8 s1 := hj (1, _) (by simp)
  have h2 : j 2 = .int .u8 s2 := hj (2, _) (by simp)
  have h6 : j 6 = .bool false := hj (6, _) (by simp)
  clear hj hS
  unfold rD1 rgD bodyD
  simp only [Tryd.f6, Option.getD_some, nthSeq, lit104, List.cons_append, List.nil_append, h0, h1, h2, h6]
  by_cases h : tk < 1
  · have d1 : decide (tk < 1) = true := decide_eq_true h
    rw [d1, Bool.true_or] at hb
    subst hb
    go_wp2
    exact ⟨⟨rfl, rfl, by simp⟩, rfl⟩
  · have d1 : decide (tk < 1) = false := decide_eq_false h
    rw [d1, Bool.false_or] at hb
    by_cases h2 : 50 < tk
    · have d2 : decide (50 < tk) = true := decide_eq_true h2
      rw [d2] at hb
      subst hb
      go_wp2
      exact ⟨⟨rfl, rfl, by simp⟩, rfl⟩
    · have d2 : decide (50 < tk) = false := decide_eq_false h2
      rw [d2] at hb
      subst hb
      go_wp2
      exact ⟨⟨rfl, rfl, by simp⟩, rfl⟩
theorem ld2 (a : Act) (tk s1 s2 : Int) (hS : Sl a 104 [(0, .int .i64 tk), (1, .int .u8 s1), (2, .int .u8 s2), (6, .bool false)]) (w : World) : (rgD 2).wp Tryd.prog (nrm fun a' w' => ∃ g7, Sl a' 104 [(0, .int .i64 tk), (1, .int .u8 s1), (2, .int .u8 s2), (6, .bool false), (7, .pointer (some ⟨g7, 0, none⟩))] ∧ LY w' g7 y1 tk ∧ Below w.heap.size w w') a w := by
  obtain ⟨j, rfl, hj⟩ := hS.lit104
  have h0 : j 0 = .int .i64 tk := hj (0, _) (by simp)
  have h1 : j 1 = .int .u8 s1 := hj (1, _) (by simp)
  have h2 : j 2 = .int .u8 s2 := hj (2, _) (by simp)
  have h6 : j 6 = .bool false := hj (6, _) (by simp)
  clear hj hS
  unfold rgD bodyD
  simp only [Tryd.f6, Option.getD_some, nthSeq, lit104, List.cons_append, List.nil_append, h0, h1, h2, h6]
  have b1 := below_new w (.cells (lyc y1 tk) 29)
  have Y : LY (w.alloc (.cells (lyc y1 tk) 29)) w.heap.size y1 tk := ⟨new_at rfl _⟩
  go_wp2
  exact ⟨_, ⟨rfl, rfl, by simp⟩, Y, b1⟩
set_option maxHeartbeats 1000000 in
theorem ld3 (a : Act) (tk s1 s2 : Int) (g7 : Nat) (n1 : BitVec 8) (hn1 : s1 = n1.toNat) (hS : Sl a 104 [(0, .int .i64 tk), (1, .int .u8 s1), (2, .int .u8 s2), (6, .bool false), (7, .pointer (some ⟨g7, 0, none⟩))]) (w : World) (hT : Tops w) : (rgD 3).wp Tryd.prog (nrm fun a' w' => ∃ g8, Sl a' 104 [(0, .int .i64 tk), (1, .int .u8 s1), (2, .int .u8 s2), (6, .bool false), (7, .pointer (some ⟨g7, 0, none⟩)), (8, .pointer (some ⟨g8, 0, none⟩)), (10, .int .i64 0)] ∧ LVar w' g8 s1 0 0 ∧ w.heap.size ≤ g8 ∧ Below w.heap.size w w') a w := by
  have HN1 := Lib.hid hn1
  clear hn1
  obtain ⟨j, rfl, hj⟩ := hS.lit104
  have h0 : j 0 = .int .i64 tk := hj (0, _) (by simp)
  have h1 : j 1 = .int .u8 s1 := hj (1, _) (by simp)
  have h2 : j 2 = .int .u8 s2 := hj (2, _) (by simp)
  have h6 : j 6 = .bool false := hj (6, _) (by simp)
  have h7 : j 7 = .pointer (some ⟨g7, 0, none⟩) := hj (7, _) (by simp)
  clear hj hS
  unfold rgD bodyD
  simp only [Tryd.f6, Option.getD_some, nthSeq, lit104, List.cons_append, List.nil_append, h0, h1, h2, h6, h7]
  go_wp2_with fail
  refine (New_c w).mono ?_
  rintro e W1 ⟨rfl, b1⟩
  obtain ⟨X, hX⟩ : ∃ X, X = panelV n1 := ⟨_, rfl⟩
  have HX := Lib.hid hX
  clear hX
  go_wp2_with fail
  refine (panel_c n1 s1 HN1.out X HX.out W1).mono ?_
  rintro e W2 ⟨b2, A, c, rfl, hs⟩
  have B2 := below_step b1 b2
  have hr : (((s1, 0, 0), 0, (2#8, n1, [])) : Lst × Int × Frm) = hearV 2 X (-1, 65535, 0) := by rw [HX.out, hear_panel n1 s1 HN1.out (-1, 65535, 0) (by decide), if_neg (by simp)]
  have HR := Lib.hid hr
  have hl : X.length ≤ 140737488355328 := by rw [HX.out]; unfold panelV; simp [Crc.close, hb]
  clear hr
  go_wp2_with fail
  refine (Hear_v (-1, 65535, 0) 2 (.slice A X.length c) X W2 _ HR.out (hT.below B2) hs hl).mono ?_
  rintro e W3 ⟨A3, c3, rfl, b3, hs3, _⟩
  have B3 := below_step B2 b3
  clear hs hl HR B2 b1 b2 b3 hT hs3
  have b4 := below_new W3 (.cells #[.int .i64 s1, .int .i64 0, .int .i64 0] 31)
  have V4 := LVar.new W3 s1 0 0
  have b5 := below_new (W3.alloc (.cells #[.int .i64 s1, .int .i64 0, .int .i64 0] 31)) (.cells #[.int .u8 2, .int .u8 (n1.toNat : Int), .slice A3 0 c3] 41)
  have B5 := below_step (below_step B3 b4) b5
  have V5 := V4.later b5
  have hz := Lib.hid B3.size
  clear b4 V4 b5 B3
  go_wp2
  exact ⟨_, ⟨rfl, rfl, by simp⟩, V5, hz.out, B5⟩

set_option maxHeartbeats 4000000 in
theorem ld4 (a : Act) (tk s1 s2 : Int) (g7 g8 : Nat) (h1 : 1 ≤ tk ∧ tk ≤ 50) (hS : Sl a 104 [(0, .int .i64 tk), (1, .int .u8 s1), (2, .int .u8 s2), (6, .bool false), (7, .pointer (some ⟨g7, 0, none⟩)), (8, .pointer (some ⟨g8, 0, none⟩)), (10, .int .i64 0)]) (w : World) (hY : LY w g7 y1 tk) (hL : LVar w g8 s1 0 0) : (rgD 4).wp Tryd.prog (nrm fun a' w' => Sl a' 104 [(0, .int .i64 tk), (1, .int .u8 s1), (2, .int .u8 s2), (6, .bool false), (7, .pointer (some ⟨g7, 0, none⟩)), (8, .pointer (some ⟨g8, 0, none⟩)), (10, .int .i64 0)] ∧ Below w.heap.size w w') a w := by
  obtain ⟨j, rfl, hj⟩ := hS.lit104
  have h0 : j 0 = .int .i64 tk := hj (0, _) (by simp)
  have h1 : j 1 = .int .u8 s1 := hj (1, _) (by simp)
  have h2 : j 2 = .int .u8 s2 := hj (2, _) (by simp)
  have h6 : j 6 = .bool false := hj (6, _) (by simp)
  have h7 : j 7 = .pointer (some ⟨g7, 0, none⟩) := hj (7, _) (by simp)
  have h8 : j 8 = .pointer (some ⟨g8, 0, none⟩) := hj (8, _) (by simp)
  have h10 : j 10 = .int .i64 0 := hj (10, _) (by simp)
  clear hj hS
  unfold rgD bodyD
  simp only [Tryd.f6, Option.getD_some, nthSeq, lit104, List.cons_append, List.nil_append, h0, h1, h2, h6, h7, h8, h10]
  go_wp2
  refine wp_region_held_drew (S := (fun w' => LVar w' g8 s1 0 0 ∧ LY w' g7 y1 tk)) (by kernel_rfl) ?_ (fun hHeld => ?_)
  · exact ⟨⟨hL.at_⟩, ⟨hY.at_⟩⟩
  have Bb : Below w.heap.size w w.drew := (Below.refl _ w).drew
  have L0 := hL.later Bb
  have Y0 := hY.later Bb
  have d1 : true = decide (tk < 65535) := (decide_eq_true (by omega)).symm
  have d2 : false = decide (tk < 0) := (decide_eq_false (by omega)).symm
  have D1 := Lib.hid d1
  have D2 := Lib.hid d2
  clear hL hY d1 d2
  generalize w.drew = V at *
  refine Node.tk 0 ?_ rfl ?_ ?_
  rotate_left
  · intro w hSw; (try dsimp only at hSw); go_simp; try with_reducible rfl
  simp only [zA, zS, zZ, Act.put, zP, zQ, zR]
  refine Node.tk 1 ?_ rfl ?_ ?_
  rotate_left
  · intro w hSw; (try dsimp only at hSw); go_simp; try with_reducible rfl
  simp only [zA, zS, zZ, Act.put, zP, zQ, zR]
  refine Node.tk 2 ?_ rfl ?_ ?_
  rotate_left
  · intro w hSw; (try dsimp only at hSw); go_simp; try with_reducible rfl
  simp only [zA, zS, zZ, Act.put, zP, zQ, zR]
  refine Node.tk 3 (ly y1 tk) rfl (fun _ hSw => run_ly hSw.2 rfl rfl) ?_
  simp only [zA, zS, zZ, Act.put, zP, zQ, zR]
  refine Node.on 4 rfl (fun K hK => ?_)
  refine Node.wp_fn 19 [] _ [] (by rfl) (by rfl) (enters Tryd.func19 (by kernel_rfl) rfl) (New_c V) ?_
  rintro e V' ⟨rfl, b⟩
  refine ⟨_, rfl, ?_⟩
  replace Bb := below_step Bb b
  replace L0 := L0.later b
  replace Y0 := Y0.later b
  clear b
  generalize V' = V at *
  refine hK.out _ _ ⟨L0, Y0⟩ (fun hHeld => ?_)
  clear hK K
  try simp only [zA, zS, zZ, Act.put, zP, zQ, zR]
  refine Node.on 5 rfl (fun K hK => ?_)
  refine Node.wp_fn 23 [.tmp 36, .tmp 37] _ [ly y1 tk, lk (-1) 65535 0] (by rfl) (by rfl) (enters Tryd.func23 (by kernel_rfl) rfl) (Dead_c y1 tk (-1) 65535 0 true D1.out V) ?_
  rintro e V' ⟨rfl, b⟩
  refine ⟨_, rfl, ?_⟩
  replace Bb := below_step Bb b
  replace L0 := L0.later b
  replace Y0 := Y0.later b
  clear b
  generalize V' = V at *
  refine hK.out _ _ ⟨L0, Y0⟩ (fun hHeld => ?_)
  clear hK K
  try simp only [zA, zS, zZ, Act.put, zP, zQ, zR]
  refine Node.tk 6 ?_ rfl ?_ ?_
  rotate_left
  · intro w hSw; (try dsimp only at hSw); go_simp; try with_reducible rfl
  simp only [zA, zS, zZ, Act.put, zP, zQ, zR]
  refine Node.tk 7 ?_ rfl ?_ ?_
  rotate_left
  · intro w hSw; (try dsimp only at hSw); go_simp; try with_reducible rfl
  simp only [zA, zS, zZ, Act.put, zP, zQ, zR]
  refine Node.tk 8 ?_ rfl ?_ ?_
  rotate_left
  · intro w hSw; (try dsimp only at hSw); go_simp; try with_reducible rfl
  simp only [zA, zS, zZ, Act.put, zP, zQ, zR]
  refine Node.tk 9 (ly y1 tk) rfl (fun _ hSw => run_ly hSw.2 rfl rfl) ?_
  simp only [zA, zS, zZ, Act.put, zP, zQ, zR]
  refine Node.tk 10 (lk s1 0 0) rfl (fun _ hSw => run_ld hSw.1 rfl rfl) ?_
  simp only [zA, zS, zZ, Act.put, zP, zQ, zR]
  refine Node.on 11 rfl (fun K hK => ?_)
  refine Node.wp_fn 23 [.tmp 42, .tmp 43] _ [ly y1 tk, lk s1 0 0] (by rfl) (by rfl) (enters Tryd.func23 (by kernel_rfl) rfl) (Dead_c y1 tk s1 0 0 false D2.out V) ?_
  rintro e V' ⟨rfl, b⟩
  refine ⟨_, rfl, ?_⟩
  replace Bb := below_step Bb b
  replace L0 := L0.later b
  replace Y0 := Y0.later b
  clear b
  generalize V' = V at *
  refine hK.out _ _ ⟨L0, Y0⟩ (fun hHeld => ?_)
  clear hK K
  try simp only [zA, zS, zZ, Act.put, zP, zQ, zR]
  refine Node.tk 12 ?_ rfl ?_ ?_
  rotate_left
  · intro w hSw; (try dsimp only at hSw); go_simp; try with_reducible rfl
  simp only [zA, zS, zZ, Act.put, zP, zQ, zR]
  refine wpAnyH_done (by kernel_rfl) ?_ _
  go_wp2
  exact ⟨⟨rfl, rfl, by simp⟩, Bb⟩
end Go.Proofs.YtlanlkpamnoekaaDoor
