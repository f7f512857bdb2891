/- FrameTells: for every argument the statement's Go text returns true and turns nothing that was there. It is proved at every argument, without a condition beyond the row. -/
import Derived.Test.YtkjmbnficdilhaaFrmU
import Derived.Test.YtkjmbnficdilhaaFrmW
import Derived.Test.YtkjmbnficdilhaaFrmArg
import Derived.Test.YtkjmbnficdilhaaFrame
import Derived.Deep.RegionHeld3
import Derived.Deep.DrawnRows
namespace Go.Proofs.Ytkjmbnficdilhaa.frameTells
open Go.ChangeShapes Go.WideShapes Go.ChangeAt Go.RowKit Rf
attribute [local go_sem ↓] run_max2 run_min2
open Mem Bv Crc Str
theorem same_g (v u : Value) (a b : List (BitVec 8)) (r : Bool) (w : World) (hr : r = decide (a = b)) (ha : SliceAt w 1 v a.length (u8s a)) (hb : SliceAt w 1 u b.length (u8s b)) :
    Calls Try.prog 9 #[v, u] w fun e w' => e = .returned (.bool r) ∧ w = w' := by subst hr; exact same_c v u a b w ha hb
structure PG (w W : World) (gf gg : Nat) (k1 s1 k2 s2 : Int) (v u : Value) (p q : List (BitVec 8)) : Prop where
  f : FVar W gf k1 s1 v p
  g : FVar W gg k2 s2 u q
  below : Below w.heap.size w W
theorem PG.later {w W W' : World} {gf gg : Nat} {k1 s1 k2 s2 : Int} {v u : Value} {p q : List (BitVec 8)} (h : PG w W gf gg k1 s1 k2 s2 v u p q) (hb : Below W.heap.size W W') : PG w W' gf gg k1 s1 k2 s2 v u p q :=
  ⟨h.f.later hb, h.g.later hb, below_step h.below hb⟩
theorem PG.s {w W : World} {gf gg : Nat} {k1 s1 k2 s2 : Int} {v u : Value} {p q : List (BitVec 8)} (h : PG w W gf gg k1 s1 k2 s2 v u p q) : W.cell? ⟨gf, 0, none⟩ = some (.int .u8 k1) ∧ W.cell? ⟨gf, 1, none⟩ = some (.int .u8 s1) ∧ W.cell? ⟨gf, 2, none⟩ = some v ∧ W.cell? ⟨gg, 0, none⟩ = some (.int .u8 k2) ∧ W.cell? ⟨gg, 1, none⟩ = some (.int .u8 s2) ∧ W.cell? ⟨gg, 2, none⟩ = some u :=
  ⟨h.f.c0, h.f.c1, h.f.c2, h.g.c0, h.g.c1, h.g.c2⟩
structure PX (w W : World) (gf gg gx gy : Nat) (k1 s1 k2 s2 k3 s3 : Int) (v u vx vy va vb : Value) (p q r X : List (BitVec 8)) : Prop where
  pg : PG w W gf gg k1 s1 k2 s2 v u p q
  x : FVar W gx k3 s3 vx r
  y : FVar W gy k3 s3 vy r
  sa : SliceAt W 1 va X.length (u8s X)
  sb : SliceAt W 1 vb X.length (u8s X)
theorem PX.later {w W W' : World} {gf gg gx gy : Nat} {k1 s1 k2 s2 k3 s3 : Int} {v u vx vy va vb : Value} {p q r X : List (BitVec 8)} (h : PX w W gf gg gx gy k1 s1 k2 s2 k3 s3 v u vx vy va vb p q r X) (hb : Below W.heap.size W W') : PX w W' gf gg gx gy k1 s1 k2 s2 k3 s3 v u vx vy va vb p q r X :=
  ⟨h.pg.later hb, h.x.later hb, h.y.later hb, h.sa.later hb, h.sb.later hb⟩
theorem PX.s {w W : World} {gf gg gx gy : Nat} {k1 s1 k2 s2 k3 s3 : Int} {v u vx vy va vb : Value} {p q r X : List (BitVec 8)} (h : PX w W gf gg gx gy k1 s1 k2 s2 k3 s3 v u vx vy va vb p q r X) : W.cell? ⟨gf, 0, none⟩ = some (.int .u8 k1) ∧ W.cell? ⟨gf, 1, none⟩ = some (.int .u8 s1) ∧ W.cell? ⟨gf, 2, none⟩ = some v ∧ W.cell? ⟨gx, 0, none⟩ = some (.int .u8 k3) ∧ W.cell? ⟨gx, 1, none⟩ = some (.int .u8 s3) ∧ W.cell? ⟨gx, 2, none⟩ = some vx ∧ W.cell? ⟨gy, 0, none⟩ = some (.int .u8 k3) ∧ W.cell? ⟨gy, 1, none⟩ = some (.int .u8 s3) ∧ W.cell? ⟨gy, 2, none⟩ = some vy :=
  ⟨h.pg.f.c0, h.pg.f.c1, h.pg.f.c2, h.x.c0, h.x.c1, h.x.c2, h.y.c0, h.y.c1, h.y.c2⟩
set_option maxHeartbeats 4000000 in
set_option maxRecDepth 100000 in
theorem walk (k1 s1 k2 s2 : BitVec 8) (v u z : Value) (p q b : List (BitVec 8)) (n was : Int) (w : World) (hs : SliceAt w 1 v p.length (u8s p)) (hu : SliceAt w 1 u q.length (u8s q)) (hz : SliceAt w 1 z b.length (u8s b)) (n1 : 0 ≤ n) (n2 : n < 256) (m1 : 0 ≤ was) (m2 : was < 256) :
    Calls Try.prog 3 #[fv k1.toNat s1.toNat v, fv k2.toNat s2.toNat u, z, .int .u8 n, .int .u8 was] w fun e w' => e = .returned (.bool true) ∧ Below w.heap.size w w' := by
  have b0 := below_new w (.cells #[.int .u8 (k1.toNat : Int), .int .u8 (s1.toNat : Int), v] 24)
  have b1 := below_new (w.alloc (.cells #[.int .u8 (k1.toNat : Int), .int .u8 (s1.toNat : Int), v] 24)) (.cells #[.int .u8 (k2.toNat : Int), .int .u8 (s2.toNat : Int), u] 24)
  have V0 := (FVar.new (k := k1.toNat) (s := s1.toNat) hs).later b1
  have V1 := FVar.new (k := k2.toNat) (s := s2.toNat) (hu.later b0)
  have S0 := hz.later (below_step b0 b1)
  rw [World.size_alloc] at V1
  have p0 : PG w _ _ _ _ _ _ _ _ _ _ _ := ⟨V0, V1, below_step b0 b1⟩
  clear b0 b1 V0 V1
  obtain ⟨A, c, rfl, _⟩ := hs.form
  obtain ⟨A', c', rfl, _⟩ := hu.form
  obtain ⟨A'', c'', rfl, _⟩ := hz.form
  clear hs hu hz
  by_cases h1 : p.length ≤ 300
  · by_cases h2 : q.length ≤ 300
    · by_cases h3 : b.length ≤ 300
      · have q1 : decide ((300 : Int) < (p.length : Int)) = false := decide_eq_false (by omega)
        have q2 : decide ((300 : Int) < (q.length : Int)) = false := decide_eq_false (by omega)
        have q3 : decide ((300 : Int) < (b.length : Int)) = false := decide_eq_false (by omega)
        obtain ⟨x0, x1, x2, y0, y1, y2⟩ := p0.s
        obtain ⟨X, eX, hX⟩ : ∃ X er, putV k1 s1 p = (X, er) := ⟨_, _, rfl⟩
        obtain ⟨k3, s3, r, eT, hT⟩ : ∃ k s r er, takeV b = (k, s, r, er) := ⟨_, _, _, _, rfl⟩
        have HX := Lib.hid hX
        have HT := Lib.hid hT
        clear hX hT
        go_enter Try.func3, Try.ntmps3
        go_wp2_with fail
        refine (Put_t k1 s1 _ p X eX _ HX.out p0.f.sl).mono ?_
        rintro e w1 ⟨b1, A1, c1, rfl, sa⟩
        replace p0 := p0.later b1
        replace S0 := S0.later b1
        clear x0 x1 x2 y0 y1 y2 b1
        obtain ⟨x0, x1, x2, y0, y1, y2⟩ := p0.s
        go_wp2_with fail
        refine (refPut_t k1 s1 _ p X eX _ HX.out p0.f.sl).mono ?_
        rintro e w2 ⟨b2, A2, c2, rfl, sb⟩
        replace p0 := p0.later b2
        replace S0 := S0.later b2
        replace sa := sa.later b2
        clear x0 x1 x2 y0 y1 y2 b2
        go_wp2_with fail
        refine (Take_t _ b k3 s3 r eT _ HT.out S0 (by omega)).mono ?_
        rintro e w3 ⟨b3, A3, c3, rfl, s3'⟩
        have V3 := FVar.new (k := k3.toNat) (s := s3.toNat) s3'
        replace b3 := below_step b3 (below_new w3 (.cells #[.int .u8 (k3.toNat : Int), .int .u8 (s3.toNat : Int), .slice A3 r.length c3] 24))
        replace p0 := p0.later b3
        replace S0 := S0.later b3
        replace sa := sa.later b3
        replace sb := sb.later b3
        clear b3 s3'
        go_wp2_with fail
        generalize w3.alloc (.cells #[.int .u8 (k3.toNat : Int), .int .u8 (s3.toNat : Int), .slice A3 r.length c3] 24) = W3 at *
        refine (refTake_t _ b k3 s3 r eT _ HT.out S0 (by omega)).mono ?_
        rintro e w4 ⟨b4, A4, c4, rfl, s4⟩
        have V4 := FVar.new (k := k3.toNat) (s := s3.toNat) s4
        replace b4 := below_step b4 (below_new w4 (.cells #[.int .u8 (k3.toNat : Int), .int .u8 (s3.toNat : Int), .slice A4 r.length c4] 24))
        replace p0 := p0.later b4
        replace V3 := V3.later b4
        replace sa := sa.later b4
        replace sb := sb.later b4
        clear b4 s4 S0
        have px0 : PX w _ _ _ _ _ _ _ _ _ _ _ _ _ _ _ _ _ _ _ _ _ := ⟨p0, V3, V4, sa, sb⟩
        clear p0 V3 V4 sa sb
        have E1 : (eX != eX) = false := bne_self_eq_false _
        have E2 : (eT != eT) = false := bne_self_eq_false _
        obtain ⟨r1, hr1⟩ : ∃ r, rightF k1.toNat p.length = r := ⟨_, rfl⟩
        have HR1 := Lib.hid hr1
        have E3 : (r1 != r1) = false := bne_self_eq_false _
        clear hr1
        go_wp2_with fail
        generalize w4.alloc (.cells #[.int .u8 (k3.toNat : Int), .int .u8 (s3.toNat : Int), .slice A4 r.length c4] 24) = W4 at *
        have pxd := px0.later (Below.refl _ _).drew
        have i0 := px0.s
        have HSF := Lib.hid (sameF_refl k3.toNat s3.toNat r).symm
        go_region_held3 (fun w' => w'.cell? ⟨w.heap.size, 0, none⟩ = some (.int .u8 (k1.toNat : Int)) ∧ w'.cell? ⟨w.heap.size, 1, none⟩ = some (.int .u8 (s1.toNat : Int)) ∧ w'.cell? ⟨w.heap.size, 2, none⟩ = some (.slice A p.length c) ∧ w'.cell? ⟨w3.heap.size, 0, none⟩ = some (.int .u8 (k3.toNat : Int)) ∧ w'.cell? ⟨w3.heap.size, 1, none⟩ = some (.int .u8 (s3.toNat : Int)) ∧ w'.cell? ⟨w3.heap.size, 2, none⟩ = some (.slice A3 r.length c3) ∧ w'.cell? ⟨w4.heap.size, 0, none⟩ = some (.int .u8 (k3.toNat : Int)) ∧ w'.cell? ⟨w4.heap.size, 1, none⟩ = some (.int .u8 (s3.toNat : Int)) ∧ w'.cell? ⟨w4.heap.size, 2, none⟩ = some (.slice A4 r.length c4))
          (first | exact px3.s | exact px2.s | exact px1.s | exact pxd.s | exact i0)
          (first
            | (go_at_call 12; have pp := px2; refine (refRight_g _ _ _ p r1 _ HR1.out px2.pg.f.sl).mono ?_; rintro e y3 ⟨rfl, q3⟩; have px3 := px2.later q3)
            | (go_at_call 11; have pp := px1; refine (Right_g _ _ _ p r1 _ HR1.out px1.pg.f.sl).mono ?_; rintro e y2 ⟨rfl, q2⟩; have px2 := px1.later q2)
            | (go_at_call 10; have pp := pxd; refine (refSame_g _ _ _ _ _ _ r r true _ HSF.out pxd.x.sl pxd.y.sl).mono ?_; rintro e y1 ⟨rfl, q1⟩; have px1 := pxd.later q1)
            | (go_at_call 9; refine (same_g _ _ X X true _ (decide_eq_true rfl).symm pxd.sa pxd.sb).mono ?_; rintro e w' ⟨rfl, rfl⟩))
        have p0 := px3.pg
        clear px0 pxd px1 px2 px3 i0 E1 E2 E3
        obtain ⟨x0, x1, x2, y0, y1, y2⟩ := p0.s
        obtain ⟨r2, hr2⟩ : ∃ r, newer n was = r := ⟨_, rfl⟩
        have HR2 := Lib.hid hr2.symm
        obtain ⟨r3, hr3⟩ : ∃ r, (if rightF k1.toNat p.length then (p.length : Int) + 5 else 0) = r := ⟨_, rfl⟩
        have HR3 := Lib.hid hr3.symm
        obtain ⟨r4, hr4⟩ : ∃ r, sameF k1.toNat s1.toNat p k2.toNat s2.toNat q = r := ⟨_, rfl⟩
        have HR4 := Lib.hid hr4.symm
        have E4 : (r2 == r2) = true := beq_self_eq_true _
        have E5 : (r3 == r3) = true := beq_self_eq_true _
        have E6 : (r4 == r4) = true := beq_self_eq_true _
        have HSF2 := Lib.hid (sameF_refl k1.toNat s1.toNat p).symm
        have hpl : p.length ≤ 140737488355328 := by omega
        clear hr2 hr3 hr4 q1 q2 q3
        go_wp2_with fail
        have p0d := p0.later (Below.refl _ _).drew
        have i0 := p0.s
        go_region_held3 (fun w' => w'.cell? ⟨w.heap.size, 0, none⟩ = some (.int .u8 (k1.toNat : Int)) ∧ w'.cell? ⟨w.heap.size, 1, none⟩ = some (.int .u8 (s1.toNat : Int)) ∧ w'.cell? ⟨w.heap.size, 2, none⟩ = some (.slice A p.length c) ∧ w'.cell? ⟨w.heap.size + 1, 0, none⟩ = some (.int .u8 (k2.toNat : Int)) ∧ w'.cell? ⟨w.heap.size + 1, 1, none⟩ = some (.int .u8 (s2.toNat : Int)) ∧ w'.cell? ⟨w.heap.size + 1, 2, none⟩ = some (.slice A' q.length c'))
          (first | exact p7.s | exact p6.s | exact p5.s | exact p4.s | exact p3.s | exact p2.s | exact p1.s | exact p0d.s | exact i0)
          (first
            | (go_at_call 4; have pp := p6; refine (wakes_c _).mono ?_; rintro e z7 ⟨rfl, q7⟩; have p7 := p6.later q7)
            | (go_at_call 10; have pp := p5; refine (refSame_g _ _ _ _ _ _ p p true _ HSF2.out t5 p5.f.sl).mono ?_; rintro e z6 ⟨rfl, q6⟩; have p6 := p5.later q6)
            | (go_at_call 18; have pp := p4; refine (Own_c _ _ _ p _ p4.f.sl hpl).mono ?_; rintro e z5 ⟨q5, A5, c5, rfl, t5⟩; have p5 := p4.later q5)
            | (go_at_call 10; have pp := p3; refine (refSame_g _ _ _ _ _ _ p q r4 _ HR4.out p3.f.sl p3.g.sl).mono ?_; rintro e z4 ⟨rfl, q4⟩; have p4 := p3.later q4)
            | (go_at_call 17; have pp := p2; refine (Same_g _ _ _ _ _ _ p q r4 _ HR4.out p2.f.sl p2.g.sl).mono ?_; rintro e z3 ⟨rfl, q3⟩; have p3 := p2.later q3)
            | (go_at_call 16; have pp := p1; refine (refSize_g _ _ _ p r3 _ HR3.out p1.f.sl).mono ?_; rintro e z2 ⟨rfl, q2⟩; have p2 := p1.later q2)
            | (go_at_call 15; have pp := p0d; refine (Size_g _ _ _ p r3 _ HR3.out p0d.f.sl).mono ?_; rintro e z1 ⟨rfl, q1⟩; have p1 := p0d.later q1)
            | (go_at_call 14; refine (refNewer_g n was r2 _ HR2.out n1 n2 m1 m2).mono ?_; rintro e w' ⟨rfl, rfl⟩)
            | (go_at_call 13; refine (Newer_g n was r2 _ HR2.out n1 n2 m1 m2).mono ?_; rintro e w' ⟨rfl, rfl⟩))
        go_wp2
        go_ret
        exact ⟨rfl, p7.below⟩
      · have q1 : decide ((300 : Int) < (p.length : Int)) = false := decide_eq_false (by omega)
        have q2 : decide ((300 : Int) < (q.length : Int)) = false := decide_eq_false (by omega)
        have q3 : decide ((300 : Int) < (b.length : Int)) = true := decide_eq_true (by omega)
        go_enter Try.func3, Try.ntmps3
        go_wp2_with fail
        refine (wakes_c _).mono ?_
        rintro e w9 ⟨rfl, b9⟩
        go_wp2
        go_ret
        exact ⟨rfl, below_step p0.below b9⟩
    · have q1 : decide ((300 : Int) < (p.length : Int)) = false := decide_eq_false (by omega)
      have q2 : decide ((300 : Int) < (q.length : Int)) = true := decide_eq_true (by omega)
      go_enter Try.func3, Try.ntmps3
      go_wp2_with fail
      refine (wakes_c _).mono ?_
      rintro e w9 ⟨rfl, b9⟩
      go_wp2
      go_ret
      exact ⟨rfl, below_step p0.below b9⟩
  · have q1 : decide ((300 : Int) < (p.length : Int)) = true := decide_eq_true (by omega)
    go_enter Try.func3, Try.ntmps3
    go_wp2_with fail
    refine (wakes_c _).mono ?_
    rintro e w9 ⟨rfl, b9⟩
    go_wp2
    go_ret
    exact ⟨rfl, below_step p0.below b9⟩

theorem own : ownKnob Try.prog.godebug = none := by kernel_rfl
theorem laidOut : laidOutB Try.prog = true := by kernel_rfl
noncomputable def wit (os : Os) : World := World.holding Try.prog os ⟨#[], #[], []⟩
set_option maxRecDepth 100000 in
theorem lifted (os : Os) (started : os.Started) (H : Type) (enc : TypeId × Value → H) (F : Stop.Interp) :
    ReturnsInHanded {} Try.checked os 3 .any ((OpenSpec.ofChange Rows.frameTellsSpec).preRow enc Try.prog Try.f3 Rows.frameTellsRow.domain false Rows.frameTellsRow.laid) (((OpenSpec.ofChange Rows.frameTellsSpec).at F).post enc Try.prog Try.f3 false true false false) := by
  obtain ⟨x, hx⟩ : ∃ x, DataW.whole enc Try.prog ((wit os).forCall (fun _ _ => 0) ⟨#[], #[.agg #[.int .u8 0, .int .u8 0, .slice none 0 0], .agg #[.int .u8 0, .int .u8 0, .slice none 0 0], .slice none 0 0, .int .u8 0, .int .u8 0], []⟩).memory Try.f3.params.toList Rows.frameTellsSpec.vars false (#[.agg #[.int .u8 0, .int .u8 0, .slice none 0 0], .agg #[.int .u8 0, .int .u8 0, .slice none 0 0], .slice none 0 0, .int .u8 0, .int .u8 0] : Array Value).toList 8 = some x := Option.isSome_iff_exists.1 (by kernel_rfl)
  refine Fr.lift (C := Try.checked) (s := OpenSpec.ofChange Rows.frameTellsSpec) own started (by kernel_rfl) Try.func3
    (witness_row_at (enc := enc) (C := Try.checked) false (wit os) #[.agg #[.int .u8 0, .int .u8 0, .slice none 0 0], .agg #[.int .u8 0, .int .u8 0, .slice none 0 0], .slice none 0 0, .int .u8 0, .int .u8 0] rfl (by kernel_rfl) (by kernel_rfl) (by kernel_rfl)
      (OpenSpec.preRow_of_cond 8 hx rfl (fun k hk => by cases hk) (by kernel_rfl) (laidMet_of_run' 8 (by kernel_rfl) (by kernel_rfl))))
    laidOut (by kernel_rfl) rfl Try.underlying4 rfl rfl ?_ ?_
  · intro ds hds
    match ds, hds with
    | [_, _, _, _, _], _ => rfl
  · intro W base args ds before hval hA hlt _ hz hL
    rw [Try.params3] at hA hval
    obtain ⟨v0, vs0, d0, ds0, p0, q0, hargs, rfl, rfl, h0, r0⟩ := trodAll_cons hA
    obtain ⟨v1, vs1, d1, ds1, p1, q1, rfl, rfl, rfl, h1, r1⟩ := trodAll_cons r0
    obtain ⟨v2, vs2, d2, ds2, p2, q2, rfl, rfl, rfl, h2, r2⟩ := trodAll_cons r1
    obtain ⟨v3, vs3, d3, ds3, p3, q3, rfl, rfl, rfl, h3, r3⟩ := trodAll_cons r2
    obtain ⟨v4, vs4, d4, ds4, p4, q4, rfl, rfl, rfl, h4, r4⟩ := trodAll_cons r3
    obtain ⟨rfl, rfl, rfl⟩ := trodAll_nil r4
    obtain rfl : args = #[v0, v1, v2, v3, v4] := by cases args; simp_all
    obtain ⟨k1, s1, u, B, rfl, hB⟩ := open_frame (hval 0 _ v0 rfl rfl) h0
    obtain ⟨k2, s2, u2, B2, rfl, hB2⟩ := open_frame (hval 1 _ v1 rfl rfl) h1
    obtain ⟨B3, hB3⟩ := Bv.open_bytes_arg Try.underlying22 Try.underlying5 (by kernel_rfl) (hval 2 _ v2 rfl rfl) h2
    obtain ⟨a3, rfl, rfl, rfl, w3⟩ := open_int Try.underlying5 (hval 3 _ v3 rfl rfl) h3
    obtain ⟨a4, rfl, rfl, rfl, w4⟩ := open_int Try.underlying5 (hval 4 _ v4 rfl rfl) h4
    obtain ⟨n0, rfl⟩ := Bv.of_u8 w3
    obtain ⟨n1, rfl⟩ := Bv.of_u8 w4
    have i0 := n0.isLt
    have i1 := n1.isLt
    exact walk k1 s1 k2 s2 u u2 v2 B B2 B3 _ _ W hB hB2 hB3 (by omega) (by omega) (by omega) (by omega)

theorem said : Rows.FrameTellsSaid :=
  OpenClaim.holds_of_cond 3 Try.f3 rfl rfl rfl rfl rfl rfl rfl ⟨rfl, rfl, rfl, rfl, rfl⟩ rfl rfl rfl rfl rfl (by kernel_rfl) Try.func3 (by kernel_rfl)
    (of_decide_eq_true (by kernel_rfl)) (by unfold Func.isWrapper; first | (rw [if_pos (by decide +kernel)]; kernel_rfl) | (rw [if_neg (by decide +kernel)]; exact ⟨rfl, rfl⟩))
    (fun os started H enc _ F => by rw [OpenClaim.pre_eq_preRow]; exact lifted os started H enc F)
#print axioms said
end Go.Proofs.Ytkjmbnficdilhaa.frameTells
