/- BitsFlags: for every argument the statement's Go text returns true and turns nothing that was there. It is proved at every argument, without a condition beyond the row. -/
import Derived.Test.YtgmmoflihndieaaBitsW
import Derived.Test.YtgmmoflihndieaaBitsArg
import Derived.Test.YtgmmoflihndieaaFrame
import Derived.Deep.RegionHeld3
import Derived.Deep.DrawnRows
namespace Go.Proofs.Ytgmmoflihndieaa.bitsFlags
open Go.ChangeShapes Go.WideShapes Go.ChangeAt Go.RowKit Rf
attribute [local go_sem ↓] run_max2 run_min2
open Mem Bv Bits Str
structure P2 (w W : World) (g1 g2 : Nat) (v1 v2 : Value) (B : List (BitVec 8)) (N : Int) : Prop where
  a : Var W g1 v1 B N
  b : Var W g2 v2 B N
  below : Below w.heap.size w W
theorem P2.later {w W W' : World} {g1 g2 : Nat} {v1 v2 : Value} {B : List (BitVec 8)} {N : Int} (h : P2 w W g1 g2 v1 v2 B N) (hb : Below W.heap.size W W') : P2 w W' g1 g2 v1 v2 B N :=
  ⟨h.a.later hb, h.b.later hb, below_step h.below hb⟩
theorem P2.f {w W : World} {g1 g2 : Nat} {v1 v2 : Value} {B : List (BitVec 8)} {N : Int} (h : P2 w W g1 g2 v1 v2 B N) :
    W.cell? ⟨g1, 0, none⟩ = some v1 ∧ W.cell? ⟨g1, 1, none⟩ = some (.int .i64 N) ∧ W.cell? ⟨g2, 0, none⟩ = some v2 ∧ W.cell? ⟨g2, 1, none⟩ = some (.int .i64 N) := ⟨h.a.c0, h.a.c1, h.b.c0, h.b.c1⟩
theorem Put_o (v : Value) (B : List (BitVec 8)) (l : List Bool) (n wd : Nat) (N N' n' wd' : Int) (w : World) (hN : N = l.length) (hN' : N' = ((l.length + wd : Nat) : Int)) (hn' : n' = n) (hwd' : wd' = wd) (hs : SliceAt w 1 v B.length (u8s B)) (hH : Holds B l) (hl : l.length ≤ 999000) (hw : wd ≤ 32) (hn : n < 2 ^ wd) :
    Calls Try.prog 9 #[bv v N, .int .i64 n', .int .i64 wd'] w fun e w' => Below w.heap.size w w' ∧
      ∃ A c B', e = .returned (.tuple #[bv (.slice A (B' : List (BitVec 8)).length c) N', .int .i64 0]) ∧ w'.ownsRow w.heap.size 5 1 (.slice A B'.length c) B'.length (u8s B') ∧ Holds B' (l ++ numBits n wd) := by
  subst hN hN' hn' hwd'
  refine (Put_good v B l n wd w hs hH hl hw hn).mono ?_
  rintro e w' ⟨b, v', B', rfl, ho, hH'⟩
  obtain ⟨A, c, rfl, _⟩ := (sliceAt_of_own ho).form
  exact ⟨b, A, c, B', rfl, ho, hH'⟩
theorem numBits_one (b : Bool) : numBits b.toNat 1 = [b] := by cases b <;> rfl
set_option maxHeartbeats 2000000 in
set_option maxRecDepth 100000 in
theorem walk_good (v u : Value) (B : List (BitVec 8)) (l fl : List Bool) (N : Int) (w : World) (hs : SliceAt w 1 v B.length (u8s B)) (hu : SliceAt w 1 u fl.length (bools fl)) (hN : N = l.length)
    (h1 : B.length ≤ 100) (h2 : fl.length ≤ 100) (hH : Holds B l) : Calls Try.prog 6 #[bv v N, u] w fun e w' => e = .returned (.bool true) ∧ Below w.heap.size w w' := by
  have V0 := Var.new (N := N) hs
  have BB := below_new w (.cells #[v, .int .i64 N] 24)
  have U0 := hu.later BB
  have q1 : decide ((100 : Int) < (B.length : Int)) = false := decide_eq_false (by omega)
  have q2 : decide ((100 : Int) < (fl.length : Int)) = false := decide_eq_false (by omega)
  have hll : l.length ≤ 800 := by have := hH.1; omega
  have hN3 : N ≤ 1000 := by omega
  have hN4 : 0 ≤ N := by omega
  have HN := Lib.hid hN
  obtain ⟨A, c, rfl, _⟩ := hs.form
  obtain ⟨A', c', rfl, _⟩ := hu.form
  have hR := right_yes hH hN
  have HR := Lib.hid hR
  have x0 := V0.c0
  have x1 := V0.c1
  clear hs hu hN hR
  go_enter Try.func6, Try.ntmps6
  go_wp2_with fail
  generalize w.alloc (.cells #[.slice A B.length c, .int .i64 N] 24) = W0 at *
  refine (refRight_g _ B N true _ HR.out V0.sl (by omega) (by omega)).mono ?_
  rintro e w1 ⟨rfl, b1⟩
  replace V0 := V0.later b1
  replace U0 := U0.later b1
  replace BB := below_step BB b1
  clear x0 x1
  have x0 := V0.c0
  have x1 := V0.c1
  clear b1
  go_wp2_with fail
  refine (Flags_g _ B l _ fl N (N + fl.length) _ HN.out (by rw [HN.out]; omega) V0.sl U0 hH (by omega) (by omega)).mono ?_
  rintro e w2 ⟨b2, A2, c2, B2, rfl, s2, h4⟩
  have V2 := Var.new (N := N + fl.length) s2
  replace b2 := below_step b2 (below_new w2 (.cells #[.slice A2 B2.length c2, .int .i64 (N + fl.length)] 24))
  replace V0 := V0.later b2
  replace U0 := U0.later b2
  replace BB := below_step BB b2
  clear x0 x1
  have x0 := V0.c0
  have x1 := V0.c1
  have Z2 := Lib.hid (show (w2.alloc (.cells #[.slice A2 B2.length c2, .int .i64 (N + fl.length)] 24)).heap.size = w2.heap.size + 1 by simp)
  clear b2 s2
  go_wp2_with fail
  generalize w2.alloc (.cells #[.slice A2 B2.length c2, .int .i64 (N + fl.length)] 24) = W2 at *
  have hz0 : w2.heap.size < W2.heap.size := by rw [Z2.out]; omega
  have V1 : Var (W2.alloc (.cells #[.slice A B.length c, .int .i64 N] 24)) (w2.heap.size + 1) (.slice A B.length c) B N := by rw [← Z2.out]; exact Var.new V0.sl
  go_loopw [8] (fun i wr => ∃ (k : Nat) (A' : Option Addr) (c' : Nat) (B' : List (BitVec 8)), k ≤ fl.length ∧ i = .int .i64 k ∧ Var wr (w2.heap.size + 1) (.slice A' B'.length c') B' (N + k) ∧ Holds B' (l ++ fl.take k) ∧ Below W2.heap.size W2 wr) (fun i _ => fl.length - (intOf i).toNat)
  case atStart => exact ⟨0, A, c, B, by omega, rfl, by simpa using V1, by simpa using hH, below_new _ _⟩
  case round =>
    obtain ⟨k, A3, c3, B3, hk, rfl, V3, h3, hb⟩ := hrel
    have y0 := V3.c0
    have y1 := V3.c1
    clear x0 x1
    by_cases hlt : k < fl.length
    · obtain ⟨ba, oa, ca, hva, _, _, hba, hca⟩ := U0.pos (by omega)
      obtain ⟨rfl, _, rfl⟩ := Value.slice.inj hva
      have hfk : fl[k]? = some fl[k] := List.getElem?_eq_getElem hlt
      have cx := (hb.cell (p := ⟨ba, oa + k, none⟩) hba).trans (hca k (.bool fl[k]) (by simp [hfk]))
      have hT : l ++ fl.take (k + 1) = (l ++ fl.take k) ++ [fl[k]] := by rw [List.take_add_one, hfk, List.append_assoc]; rfl
      have HT := Lib.hid hT
      have hlen : (l ++ fl.take k).length = l.length + k := by rw [List.length_append, List.length_take]; omega
      have HLEN := Lib.hid hlen
      have hz3 : w2.heap.size + 1 < wr.heap.size := (Array.getElem?_eq_some_iff.1 V3.at_).1
      clear hva hca hT hfk hlen
      generalize fl[k] = b at *
      have i3 : (k : Int) ≤ 100 := by omega
      cases b
      all_goals
        go_wp2_with fail
        refine (Put_o _ B3 (l ++ fl.take k) _ 1 (N + k) (N + k + 1) _ 1 _ (by rw [HLEN.out, HN.out]; omega) (by rw [HLEN.out, HN.out]; omega) (by first | exact (show (0 : Int) = ((false.toNat : Nat) : Int) from rfl) | exact (show (1 : Int) = ((true.toNat : Nat) : Int) from rfl)) rfl V3.sl h3 (by rw [HLEN.out]; omega) (by decide) (by decide)).mono ?_
        rintro e w4 ⟨b4, A4, c4, B4, rfl, s4, h4'⟩
        rw [numBits_one, ← HT.out] at h4'
        have d0 := (V3.later b4).at_
        have d1 := old_at d0 (.cells #[.slice A4 B4.length c4, .int .i64 (N + k + 1)] 24)
        have d10 := cell_at d1 0
        have d11 := cell_at d1 1
        have e0 := free_at d1 0
        have e1 := free_at d1 1
        go_wp2
        go_roundw
        case rel =>
          refine ⟨k + 1, A4, c4, B4, by omega, by go_num, ⟨?_, ?_⟩, h4', ?_⟩
          · have := set_at (set_at d1 0 (.slice A4 B4.length c4)) 1 (.int .i64 (N + k + 1))
            rw [show N + ((k + 1 : Nat) : Int) = N + k + 1 by omega]
            exact this
          · exact sliceAt_of_own (own_set (own_set (own_later s4 (fun g hg => Below.heap_alloc _ _ g (own_base s4 hg).2)) (by simp; omega) _) (by simp; omega) _)
          · exact (((hb.trans (b4.mono hb.size)).alloc (Nat.le_trans hb.size b4.size) _).setCell (by simp [Z2.out]) _).setCell (by simp [Z2.out]) _
        case measure => simp [intOf]; omega
    · obtain rfl : k = fl.length := by omega
      rw [List.take_of_length_le (Nat.le_refl _)] at h3
      obtain rfl := holds_unique h3 h4
      have hB3 := h3.1
      rw [List.length_append] at hB3
      have hb8 : l.length + fl.length ≤ 8 * B3.length ∧ 8 * B3.length ≤ l.length + fl.length + 7 := by omega
      have hn := HN.out
      have g1 : (((B3.length : Int) * 8) % 8 != 0) = false := by simp
      have g2 : decide ((B3.length : Int) * 8 < N + fl.length) = false := decide_eq_false (by omega)
      have g3 : decide (N + fl.length + 7 < (B3.length : Int) * 8) = false := decide_eq_false (by omega)
      have i1 : (B3.length : Int) ≤ 1000 := by omega
      have i2 : (fl.length : Int) ≤ 100 := by omega
      have HB8 := Lib.hid hb8
      clear hB3 hb8 hn V1
      replace V2 := V2.later hb
      replace BB := below_step BB hb
      have z0 := V2.c0
      have z1 := V2.c1
      go_wp2_with fail
      refine (Pad_g _ B3 (l ++ fl) _ ((B3.length : Int) * 8) _ (by rw [HN.out, List.length_append]; omega) rfl V2.sl h3 (by rw [List.length_append]; omega)).mono ?_
      rintro e w5 ⟨b5, A5, c5, rfl, s5⟩
      have V4 := Var.new (N := (B3.length : Int) * 8) s5
      replace b5 := below_step b5 (below_new w5 (.cells #[.slice A5 B3.length c5, .int .i64 ((B3.length : Int) * 8)] 24))
      replace V2 := V2.later b5
      replace V3 := V3.later b5
      replace BB := below_step BB b5
      clear y0 y1 z0 z1 V0 U0 hb
      have y0 := V2.c0
      have y1 := V2.c1
      have z0 := V3.c0
      have z1 := V3.c1
      clear b5 s5
      go_wp2_with fail
      generalize w5.alloc (.cells #[.slice A5 B3.length c5, .int .i64 ((B3.length : Int) * 8)] 24) = W5 at *
      refine (refSame_g _ _ B3 B3 (N + fl.length) (N + fl.length) true _ (same_yes h3 h3 rfl) V2.sl V3.sl).mono ?_
      rintro e w6 ⟨rfl, b6⟩
      replace V2 := V2.later b6
      replace V4 := V4.later b6
      replace BB := below_step BB b6
      clear y0 y1 z0 z1 b6
      have y0 := V2.c0
      have y1 := V2.c1
      have z0 := V4.c0
      have z1 := V4.c1
      have k1 := conv_str (P := Try.prog) (dst := 9) V2.sl Try.underlying22 Try.underlying5 Try.underlying9
      have k2 := conv_str (P := Try.prog) (dst := 9) V4.sl Try.underlying22 Try.underlying5 Try.underlying9
      go_wp2_with fail
      refine (Pad_g _ B3 _ _ ((B3.length : Int) * 8) _ (by have := HB8.out; simp only [List.length_append, List.length_replicate]; omega) rfl V4.sl (holds_pad h3) (by have := HB8.out; simp only [List.length_append, List.length_replicate]; omega)).mono ?_
      rintro e w7 ⟨b7, A7, c7, rfl, s7⟩
      have V5 := Var.new (N := (B3.length : Int) * 8) s7
      replace b7 := below_step b7 (below_new w7 (.cells #[.slice A7 B3.length c7, .int .i64 ((B3.length : Int) * 8)] 24))
      replace V4 := V4.later b7
      replace BB := below_step BB b7
      clear y0 y1 z0 z1 b7 k1 k2
      have y0 := V5.c0
      have y1 := V5.c1
      have z0 := V4.c0
      have z1 := V4.c1
      go_wp2_with fail
      generalize w7.alloc (.cells #[.slice A7 B3.length c7, .int .i64 ((B3.length : Int) * 8)] 24) = W7 at *
      have p0 : P2 w W7 _ _ _ _ _ _ := ⟨V5, V4, BB⟩
      clear y0 y1 z0 z1 V2 V3 V4 V5 BB
      have hp := holds_pad h3
      have HP := Lib.hid hp
      have hBL : B3.length ≤ 140737488355328 := by omega
      have i0 := p0.f
      clear hp g1 g2 g3
      go_region_held3 (fun w' => w'.cell? ⟨w7.heap.size, 0, none⟩ = some (.slice A7 B3.length c7) ∧ w'.cell? ⟨w7.heap.size, 1, none⟩ = some (.int .i64 ((B3.length : Int) * 8)) ∧ w'.cell? ⟨w5.heap.size, 0, none⟩ = some (.slice A5 B3.length c5) ∧ w'.cell? ⟨w5.heap.size, 1, none⟩ = some (.int .i64 ((B3.length : Int) * 8)))
        (first | exact p4.f | exact p3.f | exact p2.f | exact p1.f | exact (p0.later (Below.refl _ _).drew).f | exact i0)
        (first
          | (go_at_call 8; have pp := p3; refine (wakes_c _).mono ?_; rintro e y4 ⟨rfl, q4⟩; have p4 := p3.later q4)
          | (go_at_call 13; have pp := p2; refine (refSame_g _ _ B3 B3 _ _ true _ (same_yes h3 h3 rfl) r2 p2.b.sl).mono ?_; rintro e y3 ⟨rfl, q3⟩; have p3 := p2.later q3)
          | (go_at_call 22; have pp := p1; refine (Of_g _ B3 _ _ rfl p1.b.sl hBL).mono ?_; rintro e y2 ⟨q2, A9, c9, rfl, r2⟩; have p2 := p1.later q2)
          | (go_at_call 13; have pp := p0; refine (refSame_g _ _ B3 B3 _ _ true _ (same_yes h3 h3 rfl) (p0.later (Below.refl _ _).drew).a.sl (p0.later (Below.refl _ _).drew).b.sl).mono ?_; rintro e y1 ⟨rfl, q1⟩; have p1 := (p0.later (Below.refl _ _).drew).later q1))
      go_wp2
      go_ret
      exact ⟨rfl, p4.below⟩
theorem walk (v u : Value) (B : List (BitVec 8)) (fl : List Bool) (N : Int) (w : World) (hs : SliceAt w 1 v B.length (u8s B)) (hu : SliceAt w 1 u fl.length (bools fl)) (hN1 : -9223372036854775808 ≤ N) (hN2 : N ≤ 9223372036854775807) :
    Calls Try.prog 6 #[bv v N, u] w fun e w' => e = .returned (.bool true) ∧ Below w.heap.size w w' := by
  have BB := below_new w (.cells #[v, .int .i64 N] 24)
  have V0 := Var.new (N := N) hs
  by_cases h1 : B.length ≤ 100
  · by_cases h2 : fl.length ≤ 100
    · rcases hr : right B N with _ | _
      · have q1 : decide ((100 : Int) < (B.length : Int)) = false := decide_eq_false (by omega)
        have q2 : decide ((100 : Int) < (fl.length : Int)) = false := decide_eq_false (by omega)
        have HR := Lib.hid hr
        obtain ⟨A, c, rfl, _⟩ := hs.form
        obtain ⟨A', c', rfl, _⟩ := hu.form
        clear hs hu hr
        go_enter Try.func6, Try.ntmps6
        go_wp2_with fail
        refine (refRight_g _ B N false _ HR.out.symm V0.sl hN1 hN2).mono ?_
        rintro e w1 ⟨rfl, b1⟩
        replace BB := below_step BB b1
        go_wp2_with fail
        refine (wakes_c _).mono ?_
        rintro e w9 ⟨rfl, b9⟩
        go_wp2
        go_ret
        exact ⟨rfl, below_step BB b9⟩
      · obtain ⟨l, hN, hH⟩ := (right_iff B N).1 hr
        exact walk_good v u B l fl N w hs hu hN h1 h2 hH
    · have q1 : decide ((100 : Int) < (B.length : Int)) = false := decide_eq_false (by omega)
      have q2 : decide ((100 : Int) < (fl.length : Int)) = true := decide_eq_true (by omega)
      have q3 : ¬ fl.length ≤ 100 := h2
      obtain ⟨A, c, rfl, _⟩ := hs.form
      obtain ⟨A', c', rfl, _⟩ := hu.form
      go_enter Try.func6, Try.ntmps6
      go_wp2_with fail
      refine (wakes_c _).mono ?_
      rintro e w9 ⟨rfl, b9⟩
      go_wp2
      go_ret
      exact ⟨rfl, below_step BB b9⟩
  · have q1 : decide ((100 : Int) < (B.length : Int)) = true := decide_eq_true (by omega)
    obtain ⟨A, c, rfl, _⟩ := hs.form
    obtain ⟨A', c', rfl, _⟩ := hu.form
    go_enter Try.func6, Try.ntmps6
    go_wp2_with fail
    refine (wakes_c _).mono ?_
    rintro e w9 ⟨rfl, b9⟩
    go_wp2
    go_ret
    exact ⟨rfl, below_step BB b9⟩

theorem own : ownKnob Try.prog.godebug = none := by kernel_rfl
theorem laidOut : laidOutB Try.prog = true := by kernel_rfl
noncomputable def wit (os : Os) : World := World.holding Try.prog os ⟨#[], #[], []⟩
set_option maxRecDepth 100000 in
theorem lifted (os : Os) (started : os.Started) (H : Type) (enc : TypeId × Value → H) (F : Stop.Interp) :
    ReturnsInHanded {} Try.checked os 6 .any ((OpenSpec.ofChange Rows.bitsFlagsSpec).preRow enc Try.prog Try.f6 Rows.bitsFlagsRow.domain false Rows.bitsFlagsRow.laid) (((OpenSpec.ofChange Rows.bitsFlagsSpec).at F).post enc Try.prog Try.f6 false true false false) := by
  obtain ⟨x, hx⟩ : ∃ x, DataW.whole enc Try.prog ((wit os).forCall (fun _ _ => 0) ⟨#[], #[.agg #[.slice none 0 0, .int .i64 0], .slice none 0 0], []⟩).memory Try.f6.params.toList Rows.bitsFlagsSpec.vars false (#[.agg #[.slice none 0 0, .int .i64 0], .slice none 0 0] : Array Value).toList 8 = some x := Option.isSome_iff_exists.1 (by kernel_rfl)
  refine Fr.lift (C := Try.checked) (s := OpenSpec.ofChange Rows.bitsFlagsSpec) own started (by kernel_rfl) Try.func6
    (witness_row_at (enc := enc) (C := Try.checked) false (wit os) #[.agg #[.slice none 0 0, .int .i64 0], .slice none 0 0] rfl (by kernel_rfl) (by kernel_rfl) (by kernel_rfl)
      (OpenSpec.preRow_of_cond 8 hx rfl (fun k hk => by cases hk) (by kernel_rfl) (laidMet_of_run' 8 (by kernel_rfl) (by kernel_rfl))))
    laidOut (by kernel_rfl) rfl Try.underlying4 rfl rfl ?_ ?_
  · intro ds hds
    match ds, hds with
    | [_, _], _ => rfl
  · intro W base args ds before hval hA hlt _ hz hL
    rw [Try.params6] at hA hval
    obtain ⟨v0, vs0, d0, ds0, p0, q0, hargs, rfl, rfl, h0, r0⟩ := trodAll_cons hA
    obtain ⟨v1, vs1, d1, ds1, p1, q1, rfl, rfl, rfl, h1, r1⟩ := trodAll_cons r0
    obtain ⟨rfl, rfl, rfl⟩ := trodAll_nil r1
    obtain rfl : args = #[v0, v1] := by cases args; simp_all
    obtain ⟨u, B, N, rfl, hB, hN1, hN2⟩ := open_bits (hval 0 _ v0 rfl rfl) h0
    obtain ⟨fl, hfl⟩ := Mem.open_bools_arg Try.underlying25 Try.underlying4 (by kernel_rfl) (hval 1 _ v1 rfl rfl) h1
    exact walk u v1 B fl N W hB hfl hN1 hN2

theorem said : Rows.BitsFlagsSaid :=
  OpenClaim.holds_of_cond 6 Try.f6 rfl rfl rfl rfl rfl rfl rfl ⟨rfl, rfl, rfl, rfl, rfl⟩ rfl rfl rfl rfl rfl (by kernel_rfl) Try.func6 (by kernel_rfl)
    (of_decide_eq_true (by kernel_rfl)) (by unfold Func.isWrapper; first | (rw [if_pos (by decide +kernel)]; kernel_rfl) | (rw [if_neg (by decide +kernel)]; exact ⟨rfl, rfl⟩))
    (fun os started H enc _ F => by rw [OpenClaim.pre_eq_preRow]; exact lifted os started H enc F)
#print axioms said
end Go.Proofs.Ytgmmoflihndieaa.bitsFlags
