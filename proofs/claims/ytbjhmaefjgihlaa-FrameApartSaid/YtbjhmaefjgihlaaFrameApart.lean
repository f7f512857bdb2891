/- FrameApart: for every argument the statement's Go text returns true and turns nothing that was there. It is proved at every argument, without a condition beyond the row. -/
import Derived.Test.YtbjhmaefjgihlaaFrmW
import Derived.Test.YtbjhmaefjgihlaaFrmArg
import Derived.Test.YtbjhmaefjgihlaaFrame
import Derived.Deep.RegionHeld3
import Derived.Deep.DrawnRows
namespace Go.Proofs.Ytbjhmaefjgihlaa.frameApart
open Go.ChangeShapes Go.WideShapes Go.ChangeAt Go.RowKit Rf
attribute [local go_sem ↓] run_max2 run_min2
open Mem Bv Crc Str
theorem same_g (v u : Value) (a b : List (BitVec 8)) (r : Bool) (w : World) (hr : r = decide (a = b)) (ha : SliceAt w 1 v a.length (u8s a)) (hb : SliceAt w 1 u b.length (u8s b)) :
    Calls Try.prog 13 #[v, u] w fun e w' => e = .returned (.bool r) ∧ w = w' := by subst hr; exact same_c v u a b w ha hb
theorem close_inj {a b : List (BitVec 8)} (h : Crc.close a = Crc.close b) : a = b := by
  unfold Crc.close at h
  have hl : a.length = b.length := by have := congrArg List.length h; simp at this; exact this
  exact (List.append_inj h hl).1
theorem hb_same (k1 s1 k2 s2 : BitVec 8) (p1 p2 : List (BitVec 8)) : sameF k1.toNat s1.toNat p1 k2.toNat s2.toNat p2 = decide (Crc.close (hb k1 s1 p1) = Crc.close (hb k2 s2 p2)) := by
  unfold sameF
  rw [Bool.eq_iff_iff, decide_eq_true_eq, Bool.and_eq_true, Bool.and_eq_true, beq_iff_eq, beq_iff_eq, decide_eq_true_eq]
  constructor
  · rintro ⟨h1, h2, rfl⟩
    have e1 : k1 = k2 := BitVec.eq_of_toNat_eq (by omega)
    have e2 : s1 = s2 := BitVec.eq_of_toNat_eq (by omega)
    rw [e1, e2]
  · intro h
    have := close_inj h
    simp only [hb, List.cons.injEq] at this
    obtain ⟨rfl, rfl, _, rfl⟩ := this
    exact ⟨rfl, rfl, rfl⟩
structure PG (w W : World) (gf gg : Nat) (k1 s1 k2 s2 : Int) (v u : Value) (p q : List (BitVec 8)) : Prop where
  f : FVar W gf k1 s1 v p
  g : FVar W gg k2 s2 u q
  below : Below w.heap.size w W
theorem PG.later {w W W' : World} {gf gg : Nat} {k1 s1 k2 s2 : Int} {v u : Value} {p q : List (BitVec 8)} (h : PG w W gf gg k1 s1 k2 s2 v u p q) (hb : Below W.heap.size W W') : PG w W' gf gg k1 s1 k2 s2 v u p q :=
  ⟨h.f.later hb, h.g.later hb, below_step h.below hb⟩
theorem PG.s {w W : World} {gf gg : Nat} {k1 s1 k2 s2 : Int} {v u : Value} {p q : List (BitVec 8)} (h : PG w W gf gg k1 s1 k2 s2 v u p q) : W.cell? ⟨gf, 0, none⟩ = some (.int .u8 k1) ∧ W.cell? ⟨gf, 1, none⟩ = some (.int .u8 s1) ∧ W.cell? ⟨gf, 2, none⟩ = some v ∧ W.cell? ⟨gg, 0, none⟩ = some (.int .u8 k2) ∧ W.cell? ⟨gg, 1, none⟩ = some (.int .u8 s2) ∧ W.cell? ⟨gg, 2, none⟩ = some u :=
  ⟨h.f.c0, h.f.c1, h.f.c2, h.g.c0, h.g.c1, h.g.c2⟩
set_option maxHeartbeats 4000000 in
set_option maxRecDepth 100000 in
theorem walk (k1 s1 k2 s2 : BitVec 8) (v u : Value) (p q : List (BitVec 8)) (w : World) (hs : SliceAt w 1 v p.length (u8s p)) (hu : SliceAt w 1 u q.length (u8s q)) :
    Calls Try.prog 7 #[fv k1.toNat s1.toNat v, fv k2.toNat s2.toNat u] w fun e w' => e = .returned (.bool true) ∧ Below w.heap.size w w' := by
  have b0 := below_new w (.cells #[.int .u8 (k1.toNat : Int), .int .u8 (s1.toNat : Int), v] 24)
  have b1 := below_new (w.alloc (.cells #[.int .u8 (k1.toNat : Int), .int .u8 (s1.toNat : Int), v] 24)) (.cells #[.int .u8 (k2.toNat : Int), .int .u8 (s2.toNat : Int), u] 24)
  have V0 := (FVar.new (k := k1.toNat) (s := s1.toNat) hs).later b1
  have V1 := FVar.new (k := k2.toNat) (s := s2.toNat) (hu.later b0)
  rw [World.size_alloc] at V1
  have p0 : PG w _ _ _ _ _ _ _ _ _ _ _ := ⟨V0, V1, below_step b0 b1⟩
  clear b0 b1 V0 V1
  obtain ⟨A, c, rfl, _⟩ := hs.form
  obtain ⟨A', c', rfl, _⟩ := hu.form
  clear hs hu
  by_cases h1 : p.length ≤ 300
  · by_cases h2 : q.length ≤ 300
    · have q1 : decide ((300 : Int) < (p.length : Int)) = false := decide_eq_false (by omega)
      have q2 : decide ((300 : Int) < (q.length : Int)) = false := decide_eq_false (by omega)
      obtain ⟨x0, x1, x2, y0, y1, y2⟩ := p0.s
      rcases hr1 : rightF k1.toNat p.length with _ | _
      · have HR1 := Lib.hid hr1
        clear hr1
        go_enter Try.func7, Try.ntmps7
        go_wp2_with fail
        refine (refRight_g _ _ _ p false _ HR1.out p0.f.sl).mono ?_
        rintro e w1 ⟨rfl, b1⟩
        go_wp2_with fail
        refine (wakes_c _).mono ?_
        rintro e w9 ⟨rfl, b9⟩
        go_wp2
        go_ret
        exact ⟨rfl, below_step (below_step p0.below b1) b9⟩
      rcases hr2 : rightF k2.toNat q.length with _ | _
      · have HR1 := Lib.hid hr1
        have HR2 := Lib.hid hr2
        clear hr1 hr2
        go_enter Try.func7, Try.ntmps7
        go_wp2_with fail
        refine (refRight_g _ _ _ p true _ HR1.out p0.f.sl).mono ?_
        rintro e w1 ⟨rfl, b1⟩
        have p1 := p0.later b1
        clear x0 x1 x2 y0 y1 y2
        obtain ⟨x0, x1, x2, y0, y1, y2⟩ := p1.s
        go_wp2_with fail
        refine (refRight_g _ _ _ q false _ HR2.out p1.g.sl).mono ?_
        rintro e w2 ⟨rfl, b2⟩
        go_wp2_with fail
        refine (wakes_c _).mono ?_
        rintro e w9 ⟨rfl, b9⟩
        go_wp2
        go_ret
        exact ⟨rfl, below_step (below_step p1.below b2) b9⟩
      have HR1 := Lib.hid hr1
      have HR2 := Lib.hid hr2
      have HS := Lib.hid (hb_same k1 s1 k2 s2 p q)
      clear hr1 hr2
      go_enter Try.func7, Try.ntmps7
      go_wp2_with fail
      refine (refRight_g _ _ _ p true _ HR1.out p0.f.sl).mono ?_
      rintro e w1 ⟨rfl, b1⟩
      replace p0 := p0.later b1
      clear x0 x1 x2 y0 y1 y2 b1
      obtain ⟨x0, x1, x2, y0, y1, y2⟩ := p0.s
      go_wp2_with fail
      refine (refRight_g _ _ _ q true _ HR2.out p0.g.sl).mono ?_
      rintro e w2 ⟨rfl, b2⟩
      replace p0 := p0.later b2
      clear x0 x1 x2 y0 y1 y2 b2
      obtain ⟨x0, x1, x2, y0, y1, y2⟩ := p0.s
      go_wp2_with fail
      refine (Put_g k1 s1 _ _ _ p _ _ rfl rfl rfl p0.f.sl HR1.out).mono ?_
      rintro e w3 ⟨b3, A3, c3, rfl, sa⟩
      replace p0 := p0.later b3
      clear x0 x1 x2 y0 y1 y2 b3
      obtain ⟨x0, x1, x2, y0, y1, y2⟩ := p0.s
      go_wp2_with fail
      refine (Put_g k2 s2 _ _ _ q _ _ rfl rfl rfl p0.g.sl HR2.out).mono ?_
      rintro e w4 ⟨b4, A4, c4, rfl, sb⟩
      replace p0 := p0.later b4
      replace sa := sa.later b4
      clear x0 x1 x2 y0 y1 y2 b4
      generalize Crc.close (hb k1 s1 p) = X at *
      generalize Crc.close (hb k2 s2 q) = Y at *
      obtain ⟨r, hr⟩ : ∃ r, sameF k1.toNat s1.toNat p k2.toNat s2.toNat q = r := ⟨_, rfl⟩
      have HR := Lib.hid hr
      have hrd : r = decide (X = Y) := by rw [← hr]; exact HS.out
      have HRD := Lib.hid hrd
      clear hr hrd
      go_wp2_with fail
      have p0d := p0.later (Below.refl _ _).drew
      have i0 := p0.s
      have sad := sa.later (Below.refl _ _).drew
      have sbd := sb.later (Below.refl _ _).drew
      go_region_held3 (fun w' => w'.cell? ⟨w.heap.size, 0, none⟩ = some (.int .u8 (k1.toNat : Int)) ∧ w'.cell? ⟨w.heap.size, 1, none⟩ = some (.int .u8 (s1.toNat : Int)) ∧ w'.cell? ⟨w.heap.size, 2, none⟩ = some (.slice A p.length c) ∧ w'.cell? ⟨w.heap.size + 1, 0, none⟩ = some (.int .u8 (k2.toNat : Int)) ∧ w'.cell? ⟨w.heap.size + 1, 1, none⟩ = some (.int .u8 (s2.toNat : Int)) ∧ w'.cell? ⟨w.heap.size + 1, 2, none⟩ = some (.slice A' q.length c'))
        (first | exact p4.s | exact p3.s | exact p2.s | exact p1.s | exact p0d.s | exact i0)
        (first
          | (go_at_call 8; have pp := p3; refine (wakes_c _).mono ?_; rintro e y4 ⟨rfl, q4⟩; have p4 := p3.later q4)
          | (go_at_call 14; have pp := p2; refine (refSame_g _ _ _ _ _ _ p q r _ HR.out.symm p2.f.sl p2.g.sl).mono ?_; rintro e y3 ⟨rfl, q3⟩; have p3 := p2.later q3)
          | (go_at_call 21; have pp := p1; refine (Same_g _ _ _ _ _ _ p q r _ HR.out.symm p1.f.sl p1.g.sl).mono ?_; rintro e y2 ⟨rfl, q2⟩; have p2 := p1.later q2)
          | (go_at_call 14; have pp := p0d; refine (refSame_g _ _ _ _ _ _ p q r _ HR.out.symm p0d.f.sl p0d.g.sl).mono ?_; rintro e y1 ⟨rfl, q1⟩; have p1 := p0d.later q1)
          | (go_at_call 13; refine (same_g _ _ X Y r _ HRD.out sad sbd).mono ?_; rintro e w' ⟨rfl, rfl⟩))
      go_wp2
      go_ret
      exact ⟨rfl, p4.below⟩
    · have q1 : decide ((300 : Int) < (p.length : Int)) = false := decide_eq_false (by omega)
      have q2 : decide ((300 : Int) < (q.length : Int)) = true := decide_eq_true (by omega)
      go_enter Try.func7, Try.ntmps7
      go_wp2_with fail
      refine (wakes_c _).mono ?_
      rintro e w9 ⟨rfl, b9⟩
      go_wp2
      go_ret
      exact ⟨rfl, below_step p0.below b9⟩
  · have q1 : decide ((300 : Int) < (p.length : Int)) = true := decide_eq_true (by omega)
    go_enter Try.func7, Try.ntmps7
    go_wp2_with fail
    refine (wakes_c _).mono ?_
    rintro e w9 ⟨rfl, b9⟩
    go_wp2
    go_ret
    exact ⟨rfl, below_step p0.below b9⟩

theorem own : ownKnob Try.prog.godebug = none := by kernel_rfl
theorem laidOut : laidOutB Try.prog = true := by kernel_rfl
noncomputable def wit (os : Os) : World := World.holding Try.prog os ⟨#[], #[], []⟩
set_option maxRecDepth 100000 in
theorem lifted (os : Os) (started : os.Started) (H : Type) (enc : TypeId × Value → H) (F : Stop.Interp) :
    ReturnsInHanded {} Try.checked os 7 .any ((OpenSpec.ofChange Rows.frameApartSpec).preRow enc Try.prog Try.f7 Rows.frameApartRow.domain false Rows.frameApartRow.laid) (((OpenSpec.ofChange Rows.frameApartSpec).at F).post enc Try.prog Try.f7 false true false false) := by
  obtain ⟨x, hx⟩ : ∃ x, DataW.whole enc Try.prog ((wit os).forCall (fun _ _ => 0) ⟨#[], #[.agg #[.int .u8 0, .int .u8 0, .slice none 0 0], .agg #[.int .u8 0, .int .u8 0, .slice none 0 0]], []⟩).memory Try.f7.params.toList Rows.frameApartSpec.vars false (#[.agg #[.int .u8 0, .int .u8 0, .slice none 0 0], .agg #[.int .u8 0, .int .u8 0, .slice none 0 0]] : Array Value).toList 8 = some x := Option.isSome_iff_exists.1 (by kernel_rfl)
  refine Fr.lift (C := Try.checked) (s := OpenSpec.ofChange Rows.frameApartSpec) own started (by kernel_rfl) Try.func7
    (witness_row_at (enc := enc) (C := Try.checked) false (wit os) #[.agg #[.int .u8 0, .int .u8 0, .slice none 0 0], .agg #[.int .u8 0, .int .u8 0, .slice none 0 0]] rfl (by kernel_rfl) (by kernel_rfl) (by kernel_rfl)
      (OpenSpec.preRow_of_cond 8 hx rfl (fun k hk => by cases hk) (by kernel_rfl) (laidMet_of_run' 8 (by kernel_rfl) (by kernel_rfl))))
    laidOut (by kernel_rfl) rfl Try.underlying4 rfl rfl ?_ ?_
  · intro ds hds
    match ds, hds with
    | [_, _], _ => rfl
  · intro W base args ds before hval hA hlt _ hz hL
    rw [Try.params7] at hA hval
    obtain ⟨v0, vs0, d0, ds0, p0, q0, hargs, rfl, rfl, h0, r0⟩ := trodAll_cons hA
    obtain ⟨v1, vs1, d1, ds1, p1, q1, rfl, rfl, rfl, h1, r1⟩ := trodAll_cons r0
    obtain ⟨rfl, rfl, rfl⟩ := trodAll_nil r1
    obtain rfl : args = #[v0, v1] := by cases args; simp_all
    obtain ⟨k1, s1, u, B, rfl, hB⟩ := open_frame (hval 0 _ v0 rfl rfl) h0
    obtain ⟨k2, s2, u2, B2, rfl, hB2⟩ := open_frame (hval 1 _ v1 rfl rfl) h1
    exact walk k1 s1 k2 s2 u u2 B B2 W hB hB2

theorem said : Rows.FrameApartSaid :=
  OpenClaim.holds_of_cond 7 Try.f7 rfl rfl rfl rfl rfl rfl rfl ⟨rfl, rfl, rfl, rfl, rfl⟩ rfl rfl rfl rfl rfl (by kernel_rfl) Try.func7 (by kernel_rfl)
    (of_decide_eq_true (by kernel_rfl)) (by unfold Func.isWrapper; first | (rw [if_pos (by decide +kernel)]; kernel_rfl) | (rw [if_neg (by decide +kernel)]; exact ⟨rfl, rfl⟩))
    (fun os started H enc _ F => by rw [OpenClaim.pre_eq_preRow]; exact lifted os started H enc F)
#print axioms said
end Go.Proofs.Ytbjhmaefjgihlaa.frameApart
