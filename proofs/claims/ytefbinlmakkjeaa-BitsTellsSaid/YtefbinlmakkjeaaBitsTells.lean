/- BitsTells: for every argument the statement's Go text returns true and turns nothing that was there. It is proved at every argument, without a condition beyond the row. -/
import Derived.Test.YtefbinlmakkjeaaBitsQ
import Derived.Test.YtefbinlmakkjeaaBitsW
import Derived.Test.YtefbinlmakkjeaaBitsArg
import Derived.Test.YtefbinlmakkjeaaFrame
import Derived.Deep.RegionHeld3
import Derived.Deep.DrawnRows
namespace Go.Proofs.Ytefbinlmakkjeaa.bitsTells
open Go.ChangeShapes Go.WideShapes Go.ChangeAt Go.RowKit Rf
attribute [local go_sem ↓] run_max2 run_min2
open Mem Bv Bits Str
theorem same_self (B : List (BitVec 8)) (N : Int) : true = sameV B B N N := by unfold sameV; simp
structure P2 (w W : World) (g1 g2 : Nat) (v1 v2 : Value) (B C : List (BitVec 8)) (N M : Int) : Prop where
  a : Var W g1 v1 B N
  b : Var W g2 v2 C M
  below : Below w.heap.size w W
theorem P2.later {w W W' : World} {g1 g2 : Nat} {v1 v2 : Value} {B C : List (BitVec 8)} {N M : Int} (h : P2 w W g1 g2 v1 v2 B C N M) (hb : Below W.heap.size W W') : P2 w W' g1 g2 v1 v2 B C N M :=
  ⟨h.a.later hb, h.b.later hb, below_step h.below hb⟩
theorem P2.f {w W : World} {g1 g2 : Nat} {v1 v2 : Value} {B C : List (BitVec 8)} {N M : Int} (h : P2 w W g1 g2 v1 v2 B C N M) :
    W.cell? ⟨g1, 0, none⟩ = some v1 ∧ W.cell? ⟨g1, 1, none⟩ = some (.int .i64 N) ∧ W.cell? ⟨g2, 0, none⟩ = some v2 ∧ W.cell? ⟨g2, 1, none⟩ = some (.int .i64 M) := ⟨h.a.c0, h.a.c1, h.b.c0, h.b.c1⟩
/-- bytes do not lie in a variable of bits -/
theorem var_apart {W : World} {g : Nat} {v u : Value} {B C : List (BitVec 8)} {N : Int} (h : Var W g v B N) (hs : SliceAt W 1 u C.length (u8s C)) (x y : Value) : SliceAt ((W.setCell ⟨g, 0, none⟩ x).setCell ⟨g, 1, none⟩ y) 1 u C.length (u8s C) := by
  obtain ⟨A, c, rfl, h1, h2, h3, h4⟩ := hs
  refine ⟨A, c, rfl, h1, h2, h3, ?_⟩
  rcases h4 with h4 | ⟨b, off, rfl, hlt, hc⟩
  · exact .inl h4
  · by_cases hz : C.length = 0
    · exact .inl hz
    have hb : b ≠ g := by
      rintro rfl
      have h0 : 0 < C.length := by omega
      have e := hc 0 (.int .u8 (C[0].toNat : Int)) (by simp [u8s, List.getElem?_eq_getElem h0])
      rw [cell_at h.at_] at e
      obtain ⟨A, c, rfl, _⟩ := h.sl.form
      match off, e with
      | 0, e => simp at e
      | 1, e => simp at e
      | k + 2, e => simp at e
    refine .inr ⟨b, off, rfl, by simpa using hlt, fun i x hx => ?_⟩
    exact (World.cell?_of_block (a := ⟨b, off + i, none⟩) ((Below.heap_setCell _ ⟨g, 1, none⟩ _ b hb).trans (Below.heap_setCell _ ⟨g, 0, none⟩ _ b hb))).trans (hc i x hx)
theorem var_set {W : World} {g : Nat} {v u : Value} {B C : List (BitVec 8)} {N M : Int} (h : Var W g v B N) (hs : SliceAt W 1 u C.length (u8s C)) :
    Var ((W.setCell ⟨g, 0, none⟩ u).setCell ⟨g, 1, none⟩ (.int .i64 M)) g u C M :=
  ⟨set_at (set_at h.at_ 0 u) 1 (.int .i64 M), var_apart h hs _ _⟩
theorem var_far {W : World} {g k : Nat} {v u : Value} {B C : List (BitVec 8)} {N M : Int} (h : Var W g v B N) (hk : Var W k u C M) (hne : k ≠ g) (x y : Value) :
    Var ((W.setCell ⟨g, 0, none⟩ x).setCell ⟨g, 1, none⟩ y) k u C M :=
  ⟨((Below.heap_setCell _ ⟨g, 1, none⟩ _ k hne).trans (Below.heap_setCell _ ⟨g, 0, none⟩ _ k hne)).trans hk.at_, var_apart h hk.sl _ _⟩
theorem P2.set {w W : World} {g1 g2 g : Nat} {v1 v2 v : Value} {B C D : List (BitVec 8)} {N M L : Int} (h : P2 w W g1 g2 v1 v2 B C N M) (k : Var W g v D L) (h1 : g1 ≠ g) (h2 : g2 ≠ g) (h3 : w.heap.size ≤ g) (x y : Value) :
    P2 w ((W.setCell ⟨g, 0, none⟩ x).setCell ⟨g, 1, none⟩ y) g1 g2 v1 v2 B C N M :=
  ⟨var_far k h.a h1 _ _, var_far k h.b h2 _ _, (h.below.setCell h3 _).setCell h3 _⟩
set_option maxHeartbeats 4000000 in
set_option maxRecDepth 100000 in
theorem walk_good (v u s : Value) (B C : List (BitVec 8)) (fl : List Bool) (N M n wd at_ : Int) (w : World) (hs : SliceAt w 1 v B.length (u8s B)) (hu : SliceAt w 1 u C.length (u8s C)) (hf : SliceAt w 1 s fl.length (bools fl))
    (hN1 : -9223372036854775808 ≤ N) (hN2 : N ≤ 9223372036854775807) (hn : n ≤ 9223372036854775807)
    (h1 : B.length ≤ 1000) (h2 : C.length ≤ 1000) (h3 : fl.length ≤ 1000) : Calls Try.prog 3 #[bv v N, bv u M, .int .i64 n, .int .i64 wd, .int .i64 at_, s] w fun e w' => e = .returned (.bool true) ∧ Below w.heap.size w w' := by
  have b0 := below_new w (.cells #[v, .int .i64 N] 24)
  have b1 := below_new (w.alloc (.cells #[v, .int .i64 N] 24)) (.cells #[u, .int .i64 M] 24)
  have V0 := (Var.new (N := N) hs).later b1
  have V1 := Var.new (N := M) (hu.later b0)
  rw [World.size_alloc] at V1
  have BB := below_step b0 b1
  have S0 := hf.later BB
  have q1 : decide ((1000 : Int) < (B.length : Int)) = false := decide_eq_false (by omega)
  have q2 : decide ((1000 : Int) < (C.length : Int)) = false := decide_eq_false (by omega)
  have q3 : decide ((1000 : Int) < (fl.length : Int)) = false := decide_eq_false (by omega)
  obtain ⟨A, c, rfl, _⟩ := hs.form
  obtain ⟨A', c', rfl, _⟩ := hu.form
  obtain ⟨A'', c'', rfl, _⟩ := hf.form
  have P : P2 w _ _ _ _ _ _ _ _ _ := ⟨V0, V1, BB⟩
  have x0 := V0.c0
  have x1 := V0.c1
  have y0 := V1.c0
  have y1 := V1.c1
  clear hs hu b0 b1 V0 V1 BB hf
  go_enter Try.func3, Try.ntmps3
  go_wp2_with fail
  generalize hW0 : (w.alloc (.cells #[.slice A B.length c, .int .i64 N] 24)).alloc (.cells #[.slice A' C.length c', .int .i64 M] 24) = W0 at *
  have hz0 : W0.heap.size = w.heap.size + 2 := by rw [← hW0]; simp
  clear hW0
  refine (Put_t _ B N n wd _ P.a.sl h1 hN1 hN2 hn).mono ?_
  rintro e w1 ⟨b1, A1, c1, B1, N1, e1, rfl, s1, r1⟩
  have V1 := Var.new (N := N1) s1
  have hz1 : w.heap.size + 2 ≤ w1.heap.size := hz0 ▸ b1.size
  replace b1 := below_step b1 (below_new w1 (.cells #[.slice A1 B1.length c1, .int .i64 N1] 24))
  replace P := P.later b1
  replace S0 := S0.later b1
  clear x0 x1 y0 y1 b1 s1
  have x0 := P.a.c0
  have x1 := P.a.c1
  go_wp2_with fail
  have hy1 : (w1.alloc (.cells #[.slice A1 B1.length c1, .int .i64 N1] 24)).heap.size = w1.heap.size + 1 := by simp
  generalize w1.alloc (.cells #[.slice A1 B1.length c1, .int .i64 N1] 24) = W1 at *
  refine (refPut_t _ B N n wd _ P.a.sl h1 hN1 hN2).mono ?_
  rintro e w2 ⟨b2, A2, c2, B2, N2, e2, rfl, s2, r2⟩
  obtain ⟨rfl, rfl, rfl⟩ := r1.same r2
  have V2 := Var.new (N := N1) s2
  have hz2 : w1.heap.size + 1 ≤ w2.heap.size := hy1 ▸ b2.size
  replace b2 := below_step b2 (below_new w2 (.cells #[.slice A2 B1.length c2, .int .i64 N1] 24))
  replace P := P.later b2
  replace S0 := S0.later b2
  replace V1 := V1.later b2
  clear x0 x1 s2 r1 r2 b2 hy1
  have x0 := P.a.c0
  have x1 := P.a.c1
  go_wp2_with fail
  generalize w2.alloc (.cells #[.slice A2 B1.length c2, .int .i64 N1] 24) = W2 at *
  refine (Flags_t _ B N _ fl _ P.a.sl S0 h1 h3 hN1 hN2).mono ?_
  rintro e w3 ⟨b3, A3, c3, B3, N3, e3, rfl, s3, r3⟩
  have V3 := Var.new (N := N3) s3
  replace b3 := below_step b3 (below_new w3 (.cells #[.slice A3 B3.length c3, .int .i64 N3] 24))
  replace P := P.later b3
  replace S0 := S0.later b3
  replace V1 := V1.later b3
  replace V2 := V2.later b3
  clear x0 x1 s3 b3
  have x0 := P.a.c0
  have x1 := P.a.c1
  go_wp2_with fail
  generalize w3.alloc (.cells #[.slice A3 B3.length c3, .int .i64 N3] 24) = W3 at *
  refine (refFlags_t _ B N _ fl _ P.a.sl S0 h1 h3 hN1 hN2).mono ?_
  rintro e w4 ⟨b4, A4, c4, B4, N4, e4, rfl, s4, r4⟩
  obtain ⟨rfl, rfl, rfl⟩ := r3.same r4
  have V4 := Var.new (N := N3) s4
  replace b4 := below_step b4 (below_new w4 (.cells #[.slice A4 B3.length c4, .int .i64 N3] 24))
  replace P := P.later b4
  replace V1 := V1.later b4
  replace V2 := V2.later b4
  replace V3 := V3.later b4
  clear x0 x1 s4 r3 r4 b4 S0
  have x0 := V1.c0
  have x1 := V1.c1
  have y0 := V2.c0
  have y1 := V2.c1
  have E1 : (e1 != e1) = false := bne_self_eq_false _
  have E3 : (e3 != e3) = false := bne_self_eq_false _
  go_wp2_with fail
  generalize w4.alloc (.cells #[.slice A4 B3.length c4, .int .i64 N3] 24) = W4 at *
  refine (refSame_g _ _ B1 B1 N1 N1 true _ (same_self _ _) V1.sl V2.sl).mono ?_
  rintro e w5 ⟨rfl, b5⟩
  replace P := P.later b5
  replace V1 := V1.later b5
  replace V2 := V2.later b5
  replace V3 := V3.later b5
  replace V4 := V4.later b5
  clear x0 x1 y0 y1 b5
  have x0 := V3.c0
  have x1 := V3.c1
  have y0 := V4.c0
  have y1 := V4.c1
  go_wp2_with fail
  refine (refSame_g _ _ B3 B3 N3 N3 true _ (same_self _ _) V3.sl V4.sl).mono ?_
  rintro e w6 ⟨rfl, b6⟩
  replace P := P.later b6
  replace V1 := V1.later b6
  replace V2 := V2.later b6
  clear x0 x1 y0 y1 b6 V3 V4 E1 E3
  have x0 := P.a.c0
  have x1 := P.a.c1
  go_wp2_with fail
  refine (Pad_t _ B N _ P.a.sl h1 hN1 hN2).mono ?_
  rintro e w7 ⟨b7, A7, c7, B7, N7, e7, rfl, s7, r7⟩
  replace P := P.later b7
  replace V1 := V1.later b7
  replace V2 := V2.later b7
  replace P := P.set V1 (by omega) (by omega) (by omega) (.slice A7 B7.length c7) (.int .i64 N7)
  replace V2 := var_far V1 V2 (by omega) (.slice A7 B7.length c7) (.int .i64 N7)
  have f0 := free_at V1.at_ 0
  have d0 := V1.c0
  have d1 := V1.c1
  have f1 := free_at V1.at_ 1
  replace V1 := var_set V1 (M := N7) s7
  clear x0 x1 b7 s7
  have x0 := P.a.c0
  have x1 := P.a.c1
  go_wp2_with fail
  generalize (w7.setCell ⟨w1.heap.size, 0, none⟩ (.slice A7 B7.length c7)).setCell ⟨w1.heap.size, 1, none⟩ (.int .i64 N7) = W7 at *
  clear f0 f1 d0 d1
  refine (refPad_t _ B N _ P.a.sl h1 hN1 hN2).mono ?_
  rintro e w8 ⟨b8, A8, c8, B8, N8, e8, rfl, s8, r8⟩
  obtain ⟨rfl, rfl, rfl⟩ := r7.same r8
  replace P := P.later b8
  replace V1 := V1.later b8
  replace V2 := V2.later b8
  replace P := P.set V2 (by omega) (by omega) (by omega) (.slice A8 B7.length c8) (.int .i64 N7)
  replace V1 := var_far V2 V1 (by omega) (.slice A8 B7.length c8) (.int .i64 N7)
  have f0 := free_at V2.at_ 0
  have d0 := V2.c0
  have d1 := V2.c1
  have f1 := free_at V2.at_ 1
  replace V2 := var_set V2 (M := N7) s8
  clear x0 x1 b8 s8 r7 r8
  have x0 := P.a.c0
  have x1 := P.a.c1
  go_wp2_with fail
  generalize (w8.setCell ⟨w2.heap.size, 0, none⟩ (.slice A8 B7.length c8)).setCell ⟨w2.heap.size, 1, none⟩ (.int .i64 N7) = W8 at *
  clear f0 f1 d0 d1
  refine (Take_t _ B N at_ wd _ P.a.sl h1 hN1 hN2).mono ?_
  rintro e w9 ⟨b9, m9, e9, rfl, r9⟩
  replace P := P.later b9
  replace V1 := V1.later b9
  replace V2 := V2.later b9
  clear x0 x1 b9
  have x0 := P.a.c0
  have x1 := P.a.c1
  go_wp2_with fail
  refine (refTake_t _ B N at_ wd _ P.a.sl h1 hN1 hN2).mono ?_
  rintro e w10 ⟨b10, m10, e10, rfl, r10⟩
  obtain ⟨rfl, rfl⟩ := r9.same r10
  replace P := P.later b10
  replace V1 := V1.later b10
  replace V2 := V2.later b10
  clear x0 x1 b10 r9 r10
  have x0 := V1.c0
  have x1 := V1.c1
  have y0 := V2.c0
  have y1 := V2.c1
  have E1 : (e7 != e7) = false := bne_self_eq_false _
  have E3 : (e9 != e9) = false := bne_self_eq_false _
  have E4 : (m9 != m9) = false := bne_self_eq_false _
  go_wp2_with fail
  refine (refSame_g _ _ B7 B7 N7 N7 true _ (same_self _ _) V1.sl V2.sl).mono ?_
  rintro e w11 ⟨rfl, b11⟩
  have p0 := P.later b11
  clear x0 x1 y0 y1 b11 P V1 V2 hz0 hz1 hz2
  go_wp2_with fail
  have hBL : B.length ≤ 1000000 := by omega
  have hBM : B.length ≤ 140737488355328 := by omega
  generalize hr : right B N = rr
  generalize hk : sameV B C N M = ss
  have HR := Lib.hid hr.symm
  have HS := Lib.hid hk.symm
  clear hr hk
  have E5 : (rr == rr) = true := beq_self_eq_true _
  have E6 : (ss == ss) = true := beq_self_eq_true _
  have i0 := p0.f
  go_region_held3 (fun w' => w'.cell? ⟨w.heap.size, 0, none⟩ = some (.slice A B.length c) ∧ w'.cell? ⟨w.heap.size, 1, none⟩ = some (.int .i64 N) ∧ w'.cell? ⟨w.heap.size + 1, 0, none⟩ = some (.slice A' C.length c') ∧ w'.cell? ⟨w.heap.size + 1, 1, none⟩ = some (.int .i64 M))
    (first | exact p10.f | exact p9.f | exact p8.f | exact p7.f | exact p6.f | exact p5.f | exact p4.f | exact p3.f | exact p2.f | exact p1.f | exact (p0.later (Below.refl _ _).drew).f | exact i0)
    (first
      | (go_at_call 4; have pp := p9; refine (wakes_c _).mono ?_; rintro e z10 ⟨rfl, q10⟩; have p10 := p9.later q10)
      | (go_at_call 9; have pp := p8; refine (refSame_g _ _ B B _ _ true _ (same_self _ _) (t7.later q8) t8).mono ?_; rintro e z9 ⟨rfl, q9⟩; have p9 := p8.later q9)
      | (go_at_call 19; have pp := p7; refine (refOf_c _ B _ _ rfl p7.a.sl hBL).mono ?_; rintro e z8 ⟨q8, A8, c8, rfl, t8⟩; have p8 := p7.later q8)
      | (go_at_call 18; have pp := p6; refine (Of_g _ B _ _ rfl p6.a.sl hBM).mono ?_; rintro e z7 ⟨q7, A7, c7, rfl, t7⟩; have p7 := p6.later q7)
      | (go_at_call 9; have pp := p5; refine (refSame_g _ _ B B _ _ true _ (same_self _ _) t5 p5.a.sl).mono ?_; rintro e z6 ⟨rfl, q6⟩; have p6 := p5.later q6)
      | (go_at_call 17; have pp := p4; refine (Own_g _ B _ _ p4.a.sl hBM).mono ?_; rintro e z5 ⟨q5, A5, c5, rfl, t5⟩; have p5 := p4.later q5)
      | (go_at_call 9; have pp := p3; refine (refSame_g _ _ B C N M ss _ HS.out p3.a.sl p3.b.sl).mono ?_; rintro e z4 ⟨rfl, q4⟩; have p4 := p3.later q4)
      | (go_at_call 16; have pp := p2; refine (Same_g _ _ B C N M ss _ HS.out p2.a.sl p2.b.sl).mono ?_; rintro e z3 ⟨rfl, q3⟩; have p3 := p2.later q3)
      | (go_at_call 15; have pp := p1; refine (refRight_g _ B N rr _ HR.out p1.a.sl hN1 hN2).mono ?_; rintro e z2 ⟨rfl, q2⟩; have p2 := p1.later q2)
      | (go_at_call 14; have pp := p0; refine (Right_g _ B N rr _ HR.out (p0.later (Below.refl _ _).drew).a.sl hN1 hN2).mono ?_; rintro e z1 ⟨rfl, q1⟩; have p1 := (p0.later (Below.refl _ _).drew).later q1))
  go_wp2
  go_ret
  exact ⟨rfl, p10.below⟩
theorem walk (v u s : Value) (B C : List (BitVec 8)) (fl : List Bool) (N M n wd at_ : Int) (w : World) (hs : SliceAt w 1 v B.length (u8s B)) (hu : SliceAt w 1 u C.length (u8s C)) (hf : SliceAt w 1 s fl.length (bools fl))
    (hN1 : -9223372036854775808 ≤ N) (hN2 : N ≤ 9223372036854775807) (hn : n ≤ 9223372036854775807) :
    Calls Try.prog 3 #[bv v N, bv u M, .int .i64 n, .int .i64 wd, .int .i64 at_, s] w fun e w' => e = .returned (.bool true) ∧ Below w.heap.size w w' := by
  have b0 := below_new w (.cells #[v, .int .i64 N] 24)
  have b1 := below_new (w.alloc (.cells #[v, .int .i64 N] 24)) (.cells #[u, .int .i64 M] 24)
  have BB := below_step b0 b1
  by_cases h1 : B.length ≤ 1000
  · by_cases h2 : C.length ≤ 1000
    · by_cases h3 : fl.length ≤ 1000
      · exact walk_good v u s B C fl N M n wd at_ w hs hu hf hN1 hN2 hn h1 h2 h3
      · have q1 : decide ((1000 : Int) < (B.length : Int)) = false := decide_eq_false (by omega)
        have q2 : decide ((1000 : Int) < (C.length : Int)) = false := decide_eq_false (by omega)
        have q3 : decide ((1000 : Int) < (fl.length : Int)) = true := decide_eq_true (by omega)
        obtain ⟨A, c, rfl, _⟩ := hs.form
        obtain ⟨A', c', rfl, _⟩ := hu.form
        obtain ⟨A'', c'', rfl, _⟩ := hf.form
        go_enter Try.func3, Try.ntmps3
        go_wp2_with fail
        refine (wakes_c _).mono ?_
        rintro e w9 ⟨rfl, b9⟩
        go_wp2
        go_ret
        exact ⟨rfl, below_step BB b9⟩
    · have q1 : decide ((1000 : Int) < (B.length : Int)) = false := decide_eq_false (by omega)
      have q2 : decide ((1000 : Int) < (C.length : Int)) = true := decide_eq_true (by omega)
      obtain ⟨A, c, rfl, _⟩ := hs.form
      obtain ⟨A', c', rfl, _⟩ := hu.form
      obtain ⟨A'', c'', rfl, _⟩ := hf.form
      go_enter Try.func3, Try.ntmps3
      go_wp2_with fail
      refine (wakes_c _).mono ?_
      rintro e w9 ⟨rfl, b9⟩
      go_wp2
      go_ret
      exact ⟨rfl, below_step BB b9⟩
  · have q1 : decide ((1000 : Int) < (B.length : Int)) = true := decide_eq_true (by omega)
    obtain ⟨A, c, rfl, _⟩ := hs.form
    obtain ⟨A', c', rfl, _⟩ := hu.form
    obtain ⟨A'', c'', rfl, _⟩ := hf.form
    go_enter Try.func3, Try.ntmps3
    go_wp2_with fail
    refine (wakes_c _).mono ?_
    rintro e w9 ⟨rfl, b9⟩
    go_wp2
    go_ret
    exact ⟨rfl, below_step BB b9⟩

theorem own : ownKnob Try.prog.godebug = none := by kernel_rfl
theorem laidOut : laidOutB Try.prog = true := by kernel_rfl
noncomputable def wit (os : Os) : World := World.holding Try.prog os ⟨#[], #[], []⟩
set_option maxRecDepth 100000 in
theorem lifted (os : Os) (started : os.Started) (H : Type) (enc : TypeId × Value → H) (F : Stop.Interp) :
    ReturnsInHanded {} Try.checked os 3 .any ((OpenSpec.ofChange Rows.bitsTellsSpec).preRow enc Try.prog Try.f3 Rows.bitsTellsRow.domain false Rows.bitsTellsRow.laid) (((OpenSpec.ofChange Rows.bitsTellsSpec).at F).post enc Try.prog Try.f3 false true false false) := by
  obtain ⟨x, hx⟩ : ∃ x, DataW.whole enc Try.prog ((wit os).forCall (fun _ _ => 0) ⟨#[], #[.agg #[.slice none 0 0, .int .i64 0], .agg #[.slice none 0 0, .int .i64 0], .int .i64 0, .int .i64 0, .int .i64 0, .slice none 0 0], []⟩).memory Try.f3.params.toList Rows.bitsTellsSpec.vars false (#[.agg #[.slice none 0 0, .int .i64 0], .agg #[.slice none 0 0, .int .i64 0], .int .i64 0, .int .i64 0, .int .i64 0, .slice none 0 0] : Array Value).toList 8 = some x := Option.isSome_iff_exists.1 (by kernel_rfl)
  refine Fr.lift (C := Try.checked) (s := OpenSpec.ofChange Rows.bitsTellsSpec) own started (by kernel_rfl) Try.func3
    (witness_row_at (enc := enc) (C := Try.checked) false (wit os) #[.agg #[.slice none 0 0, .int .i64 0], .agg #[.slice none 0 0, .int .i64 0], .int .i64 0, .int .i64 0, .int .i64 0, .slice none 0 0] rfl (by kernel_rfl) (by kernel_rfl) (by kernel_rfl)
      (OpenSpec.preRow_of_cond 8 hx rfl (fun k hk => by cases hk) (by kernel_rfl) (laidMet_of_run' 8 (by kernel_rfl) (by kernel_rfl))))
    laidOut (by kernel_rfl) rfl Try.underlying4 rfl rfl ?_ ?_
  · intro ds hds
    match ds, hds with
    | [_, _, _, _, _, _], _ => rfl
  · intro W base args ds before hval hA hlt _ hz hL
    rw [Try.params3] at hA hval
    obtain ⟨v0, vs0, d0, ds0, p0, q0, hargs, rfl, rfl, h0, r0⟩ := trodAll_cons hA
    obtain ⟨v1, vs1, d1, ds1, p1, q1, rfl, rfl, rfl, h1, r1⟩ := trodAll_cons r0
    obtain ⟨v2, vs2, d2, ds2, p2, q2, rfl, rfl, rfl, h2, r2⟩ := trodAll_cons r1
    obtain ⟨v3, vs3, d3, ds3, p3, q3, rfl, rfl, rfl, h3, r3⟩ := trodAll_cons r2
    obtain ⟨v4, vs4, d4, ds4, p4, q4, rfl, rfl, rfl, h4, r4⟩ := trodAll_cons r3
    obtain ⟨v5, vs5, d5, ds5, p5, q5, rfl, rfl, rfl, h5, r5⟩ := trodAll_cons r4
    obtain ⟨rfl, rfl, rfl⟩ := trodAll_nil r5
    obtain rfl : args = #[v0, v1, v2, v3, v4, v5] := by cases args; simp_all
    obtain ⟨u, B, N, rfl, hB, hN1, hN2⟩ := open_bits (hval 0 _ v0 rfl rfl) h0
    obtain ⟨u', C, M, rfl, hC, hM1, hM2⟩ := open_bits (hval 1 _ v1 rfl rfl) h1
    obtain ⟨a2, rfl, rfl, rfl, w2⟩ := open_int Try.underlying3 (hval 2 _ v2 rfl rfl) h2
    obtain ⟨a3, rfl, rfl, rfl, w3⟩ := open_int Try.underlying3 (hval 3 _ v3 rfl rfl) h3
    obtain ⟨a4, rfl, rfl, rfl, w4⟩ := open_int Try.underlying3 (hval 4 _ v4 rfl rfl) h4
    obtain ⟨fl, hfl⟩ := Mem.open_bools_arg Try.underlying25 Try.underlying4 (by kernel_rfl) (hval 5 _ v5 rfl rfl) h5
    exact walk u u' v5 B C fl N M a2 a3 a4 W hB hC hfl hN1 hN2 (i64_bounds w2).2

theorem said : Rows.BitsTellsSaid :=
  OpenClaim.holds_of_cond 3 Try.f3 rfl rfl rfl rfl rfl rfl rfl ⟨rfl, rfl, rfl, rfl, rfl⟩ rfl rfl rfl rfl rfl (by kernel_rfl) Try.func3 (by kernel_rfl)
    (of_decide_eq_true (by kernel_rfl)) (by unfold Func.isWrapper; first | (rw [if_pos (by decide +kernel)]; kernel_rfl) | (rw [if_neg (by decide +kernel)]; exact ⟨rfl, rfl⟩))
    (fun os started H enc _ F => by rw [OpenClaim.pre_eq_preRow]; exact lifted os started H enc F)
#print axioms said
end Go.Proofs.Ytefbinlmakkjeaa.bitsTells
