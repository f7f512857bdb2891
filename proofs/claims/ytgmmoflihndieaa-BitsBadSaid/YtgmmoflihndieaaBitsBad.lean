/- BitsBad: for every argument the statement's Go text returns true and turns nothing that was there. It is proved at every argument, without a condition beyond the row. -/
import Derived.Test.YtgmmoflihndieaaBitsW
import Derived.Test.YtgmmoflihndieaaBitsArg
import Derived.Test.YtgmmoflihndieaaFrame
import Derived.Deep.RegionHeld3
import Derived.Deep.DrawnRows
namespace Go.Proofs.Ytgmmoflihndieaa.bitsBad
open Go.ChangeShapes Go.WideShapes Go.ChangeAt Go.RowKit Rf
attribute [local go_sem ↓] run_max2 run_min2
open Mem Bv Bits Str
theorem Take_any (v : Value) (B : List (BitVec 8)) (N at_ wd : Int) (w : World) (hs : SliceAt w 1 v B.length (u8s B)) (hr : right B N = true) (hN : N ≤ 1000000) :
    Calls Try.prog 16 #[bv v N, .int .i64 at_, .int .i64 wd] w fun e w' => Below w.heap.size w w' ∧ ∃ m er : Int, e = .returned (.tuple #[.int .i64 m, .int .i64 er]) := by
  obtain ⟨l, rfl, hH⟩ := (right_iff B N).1 hr
  by_cases h1 : wd < 0 ∨ 32 < wd ∨ at_ < 0
  · refine (Take_bad v B _ at_ wd w hs (by omega) (by omega) (.inr h1)).mono ?_
    rintro e w' ⟨b, rfl⟩; exact ⟨b, _, _, rfl⟩
  · by_cases h2 : at_ + wd ≤ l.length
    · refine (Take_g v B l at_.toNat wd.toNat _ at_ wd _ w rfl (by omega) (by omega) rfl hs hH (by omega) (by omega) (by omega)).mono ?_
      rintro e w' ⟨b, rfl⟩; exact ⟨b, _, _, rfl⟩
    · refine (Take_short v B _ at_ wd w hs (by omega) (by omega) hr (by omega) (by omega) (by omega) (by omega)).mono ?_
      rintro e w' ⟨b, rfl⟩; exact ⟨b, _, _, rfl⟩
set_option maxHeartbeats 1000000 in
set_option maxRecDepth 100000 in
theorem walk_bad (v u : Value) (B : List (BitVec 8)) (fl : List Bool) (N n wd at_ : Int) (w : World) (hs : SliceAt w 1 v B.length (u8s B)) (hu : SliceAt w 1 u fl.length (bools fl)) (hN1 : -9223372036854775808 ≤ N) (hN2 : N ≤ 9223372036854775807) (hn2 : n ≤ 9223372036854775807)
    (h1 : B.length ≤ 100) (h2 : fl.length ≤ 100) (hr : right B N = false) : Calls Try.prog 7 #[bv v N, .int .i64 n, .int .i64 wd, .int .i64 at_, u] w fun e w' => e = .returned (.bool true) ∧ Below w.heap.size w w' := by
  have V0 := Var.new (N := N) hs
  have BB := below_new w (.cells #[v, .int .i64 N] 24)
  have U0 := hu.later BB
  have q1 : decide (100 < B.length) = false := decide_eq_false (by omega)
  have q2 : decide (100 < fl.length) = false := decide_eq_false (by omega)
  have hBl : B.length ≤ 140737488355328 := by omega
  have hpf : (right B N && fits n wd) = false := by rw [hr]; rfl
  have HPF := Lib.hid hpf
  have HR := Lib.hid hr
  obtain ⟨A, c, rfl, _⟩ := hs.form
  obtain ⟨A', c', rfl, _⟩ := hu.form
  clear hs hu hpf hr
  go_enter Try.func7, Try.ntmps7
  go_wp2_with fail
  generalize w.alloc (.cells #[.slice A B.length c, .int .i64 N] 24) = W0 at *
  refine (Put_bad _ B N n wd _ V0.sl hBl hN1 hN2 hn2 HPF.out).mono ?_
  rintro e w1 ⟨b1, rfl⟩
  replace b1 := below_step b1 (below_new w1 (.cells #[.slice none 0 0, .int .i64 0] 24))
  replace V0 := V0.later b1
  replace U0 := U0.later b1
  replace BB := below_step BB b1
  have x0 := V0.c0
  have x1 := V0.c1
  have V1 := Var.new (W := w1) (N := 0) (B := []) (SliceAt.nil_ _ _)
  clear b1
  go_wp2_with fail
  generalize w1.alloc (.cells #[.slice none 0 0, .int .i64 0] 24) = W1 at *
  refine (Flags_bad _ B N _ fl _ V0.sl U0 hBl hN1 hN2 HR.out).mono ?_
  rintro e w2 ⟨b2, rfl⟩
  replace b2 := below_step b2 (below_new w2 (.cells #[.slice none 0 0, .int .i64 0] 24))
  replace V0 := V0.later b2
  replace U0 := U0.later b2
  replace V1 := V1.later b2
  replace BB := below_step BB b2
  clear x0 x1
  have x0 := V0.c0
  have x1 := V0.c1
  have V2 := Var.new (W := w2) (N := 0) (B := []) (SliceAt.nil_ _ _)
  clear b2
  go_wp2_with fail
  generalize w2.alloc (.cells #[.slice none 0 0, .int .i64 0] 24) = W2 at *
  refine (Pad_bad _ B N _ V0.sl hBl hN1 hN2 HR.out).mono ?_
  rintro e w3 ⟨b3, rfl⟩
  replace b3 := below_step b3 (below_new w3 (.cells #[.slice none 0 0, .int .i64 0] 24))
  replace V0 := V0.later b3
  replace V1 := V1.later b3
  replace V2 := V2.later b3
  replace BB := below_step BB b3
  clear x0 x1
  have x0 := V0.c0
  have x1 := V0.c1
  have V3 := Var.new (W := w3) (N := 0) (B := []) (SliceAt.nil_ _ _)
  clear b3
  go_wp2_with fail
  generalize w3.alloc (.cells #[.slice none 0 0, .int .i64 0] 24) = W3 at *
  refine (Take_bad _ B N at_ wd _ V0.sl hN1 hN2 (.inl HR.out)).mono ?_
  rintro e w4 ⟨b4, rfl⟩
  replace V0 := V0.later b4
  replace V1 := V1.later b4
  replace V2 := V2.later b4
  replace V3 := V3.later b4
  replace BB := below_step BB b4
  clear x0 x1
  have x0 := V0.c0
  have x1 := V0.c1
  clear b4
  go_wp2_with fail
  refine (Right_g _ B N false _ HR.out.symm V0.sl hN1 hN2).mono ?_
  rintro e w5 ⟨rfl, b5⟩
  have y1 := (V1.later b5).c1
  have y2 := (V2.later b5).c1
  have y3 := (V3.later b5).c1
  replace BB := below_step BB b5
  clear b5 x0 x1
  go_wp2_with fail
  refine (wakes_c _).mono ?_
  rintro e w6 ⟨rfl, b6⟩
  go_wp2
  go_ret
  exact ⟨rfl, below_step BB b6⟩
set_option maxHeartbeats 1000000 in
set_option maxRecDepth 100000 in
theorem walk_fit (v u : Value) (B : List (BitVec 8)) (l fl : List Bool) (n wd : Nat) (N n' wd' at_ : Int) (w : World) (hs : SliceAt w 1 v B.length (u8s B)) (hu : SliceAt w 1 u fl.length (bools fl)) (hN : N = l.length) (hn' : n' = n) (hwd' : wd' = wd)
    (h1 : B.length ≤ 100) (h2 : fl.length ≤ 100) (hH : Holds B l) (hwd : wd ≤ 32) (hn : n < 2 ^ wd) : Calls Try.prog 7 #[bv v N, .int .i64 n', .int .i64 wd', .int .i64 at_, u] w fun e w' => e = .returned (.bool true) ∧ Below w.heap.size w w' := by
  have V0 := Var.new (N := N) hs
  have BB := below_new w (.cells #[v, .int .i64 N] 24)
  have U0 := hu.later BB
  have q1 : decide (100 < B.length) = false := decide_eq_false (by omega)
  have q2 : decide (100 < fl.length) = false := decide_eq_false (by omega)
  have hll : l.length ≤ 800 := by have := hH.1; omega
  have hN3 : N ≤ 1000 := by omega
  have hN4 : 0 ≤ N := by omega
  have hwd4 : 0 ≤ wd' ∧ wd' ≤ 32 := by omega
  have HN := Lib.hid hN
  have HN' := Lib.hid hn'
  have HW' := Lib.hid hwd'
  obtain ⟨A, c, rfl, _⟩ := hs.form
  obtain ⟨A', c', rfl, _⟩ := hu.form
  have hR := right_yes hH hN
  have HR := Lib.hid hR
  clear hs hu hN hn' hwd' hR
  go_enter Try.func7, Try.ntmps7
  go_wp2_with fail
  generalize w.alloc (.cells #[.slice A B.length c, .int .i64 N] 24) = W0 at *
  refine (Put_g _ B l n wd N (N + wd') n' wd' _ HN.out (by rw [HN.out, HW'.out]; omega) HN'.out HW'.out V0.sl hH (by omega) hwd hn).mono ?_
  rintro e w1 ⟨b1, A1, c1, B1, rfl, s1, h3⟩
  have V1 := Var.new (N := N + wd') s1
  replace b1 := below_step b1 (below_new w1 (.cells #[.slice A1 B1.length c1, .int .i64 (N + wd')] 24))
  replace V0 := V0.later b1
  replace U0 := U0.later b1
  replace BB := below_step BB b1
  have x0 := V0.c0
  have x1 := V0.c1
  clear b1 s1
  go_wp2_with fail
  generalize w1.alloc (.cells #[.slice A1 B1.length c1, .int .i64 (N + wd')] 24) = W1 at *
  refine (Flags_g _ B l _ fl N (N + fl.length) _ HN.out (by rw [HN.out]; omega) V0.sl U0 hH (by omega) (by omega)).mono ?_
  rintro e w2 ⟨b2, A2, c2, B2, rfl, s2, h4⟩
  have V2 := Var.new (N := N + fl.length) s2
  replace b2 := below_step b2 (below_new w2 (.cells #[.slice A2 B2.length c2, .int .i64 (N + fl.length)] 24))
  replace V0 := V0.later b2
  replace V1 := V1.later b2
  replace BB := below_step BB b2
  clear x0 x1
  have x0 := V0.c0
  have x1 := V0.c1
  clear b2 s2
  go_wp2_with fail
  generalize w2.alloc (.cells #[.slice A2 B2.length c2, .int .i64 (N + fl.length)] 24) = W2 at *
  refine (Pad_g _ B l N ((B.length : Int) * 8) _ HN.out rfl V0.sl hH (by omega)).mono ?_
  rintro e w3 ⟨b3, A3, c3, rfl, s3⟩
  have V3 := Var.new (N := (B.length : Int) * 8) s3
  replace b3 := below_step b3 (below_new w3 (.cells #[.slice A3 B.length c3, .int .i64 ((B.length : Int) * 8)] 24))
  replace V0 := V0.later b3
  replace V1 := V1.later b3
  replace V2 := V2.later b3
  replace BB := below_step BB b3
  clear x0 x1
  have x0 := V0.c0
  have x1 := V0.c1
  clear b3 s3
  go_wp2_with fail
  generalize w3.alloc (.cells #[.slice A3 B.length c3, .int .i64 ((B.length : Int) * 8)] 24) = W3 at *
  refine (Take_any _ B N at_ wd' _ V0.sl HR.out.symm (by omega)).mono ?_
  rintro e w4 ⟨b4, m, er, rfl⟩
  replace V0 := V0.later b4
  replace V1 := V1.later b4
  replace V2 := V2.later b4
  replace V3 := V3.later b4
  replace BB := below_step BB b4
  clear x0 x1
  have x0 := V0.c0
  have x1 := V0.c1
  clear b4
  go_wp2_with fail
  refine (Right_g _ B N true _ HR.out V0.sl (by omega) (by omega)).mono ?_
  rintro e w5 ⟨rfl, b5⟩
  replace V0 := V0.later b5
  replace V1 := V1.later b5
  replace V2 := V2.later b5
  replace V3 := V3.later b5
  replace BB := below_step BB b5
  clear x0 x1
  have x0 := V1.c0
  have x1 := V1.c1
  clear b5
  go_wp2_with fail
  refine (Right_g _ B1 (N + wd') true _ (right_yes h3 (by rw [HN.out, HW'.out, List.length_append, numBits_length]; omega)) V1.sl (by omega) (by omega)).mono ?_
  rintro e w6 ⟨rfl, b6⟩
  replace V0 := V0.later b6
  replace V2 := V2.later b6
  replace V3 := V3.later b6
  replace BB := below_step BB b6
  clear x0 x1
  have x0 := V2.c0
  have x1 := V2.c1
  clear b6
  go_wp2_with fail
  refine (Right_g _ B2 (N + fl.length) true _ (right_yes h4 (by rw [HN.out, List.length_append]; omega)) V2.sl (by omega) (by omega)).mono ?_
  rintro e w7 ⟨rfl, b7⟩
  replace V0 := V0.later b7
  replace V2 := V2.later b7
  replace V3 := V3.later b7
  replace BB := below_step BB b7
  clear x0 x1
  have x0 := V3.c0
  have x1 := V3.c1
  clear b7
  go_wp2_with fail
  refine (Right_g _ B ((B.length : Int) * 8) true _ (right_yes (holds_pad hH) (by have := hH.1; simp only [List.length_append, List.length_replicate]; omega)) V3.sl (by omega) (by omega)).mono ?_
  rintro e w8 ⟨rfl, b8⟩
  replace V0 := V0.later b8
  replace V2 := V2.later b8
  replace BB := below_step BB b8
  clear x0 x1
  have x0 := V0.c0
  have x1 := V0.c1
  have y1 := V2.c1
  clear b8
  go_wp2_with fail
  refine (wakes_c _).mono ?_
  rintro e w9 ⟨rfl, b9⟩
  go_wp2
  go_ret
  exact ⟨rfl, below_step BB b9⟩
set_option maxHeartbeats 1000000 in
set_option maxRecDepth 100000 in
theorem walk_non (v u : Value) (B : List (BitVec 8)) (l fl : List Bool) (N n' wd' at_ : Int) (w : World) (hs : SliceAt w 1 v B.length (u8s B)) (hu : SliceAt w 1 u fl.length (bools fl)) (hN : N = l.length) (hn2 : n' ≤ 9223372036854775807)
    (h1 : B.length ≤ 100) (h2 : fl.length ≤ 100) (hH : Holds B l) (hf : fits n' wd' = false) : Calls Try.prog 7 #[bv v N, .int .i64 n', .int .i64 wd', .int .i64 at_, u] w fun e w' => e = .returned (.bool true) ∧ Below w.heap.size w w' := by
  have V0 := Var.new (N := N) hs
  have BB := below_new w (.cells #[v, .int .i64 N] 24)
  have U0 := hu.later BB
  have q1 : decide (100 < B.length) = false := decide_eq_false (by omega)
  have q2 : decide (100 < fl.length) = false := decide_eq_false (by omega)
  have hll : l.length ≤ 800 := by have := hH.1; omega
  have hN3 : N ≤ 1000 := by omega
  have hN4 : 0 ≤ N := by omega
  have HN := Lib.hid hN
  obtain ⟨A, c, rfl, _⟩ := hs.form
  obtain ⟨A', c', rfl, _⟩ := hu.form
  have hR := right_yes hH hN
  have HR := Lib.hid hR
  have HF := Lib.hid hf
  clear hs hu hN hR hf
  go_enter Try.func7, Try.ntmps7
  go_wp2_with fail
  generalize w.alloc (.cells #[.slice A B.length c, .int .i64 N] 24) = W0 at *
  refine (Put_bad _ B N n' wd' _ V0.sl (by omega) (by omega) (by omega) hn2 (by rw [HF.out, Bool.and_false])).mono ?_
  rintro e w1 ⟨b1, rfl⟩
  replace b1 := below_step b1 (below_new w1 (.cells #[.slice none 0 0, .int .i64 0] 24))
  replace V0 := V0.later b1
  replace U0 := U0.later b1
  replace BB := below_step BB b1
  have x0 := V0.c0
  have x1 := V0.c1
  clear b1
  go_wp2_with fail
  generalize w1.alloc (.cells #[.slice none 0 0, .int .i64 0] 24) = W1 at *
  refine (Flags_g _ B l _ fl N (N + fl.length) _ HN.out (by rw [HN.out]; omega) V0.sl U0 hH (by omega) (by omega)).mono ?_
  rintro e w2 ⟨b2, A2, c2, B2, rfl, s2, h4⟩
  have V2 := Var.new (N := N + fl.length) s2
  replace b2 := below_step b2 (below_new w2 (.cells #[.slice A2 B2.length c2, .int .i64 (N + fl.length)] 24))
  replace V0 := V0.later b2
  replace BB := below_step BB b2
  clear x0 x1
  have x0 := V0.c0
  have x1 := V0.c1
  clear b2 s2
  go_wp2_with fail
  generalize w2.alloc (.cells #[.slice A2 B2.length c2, .int .i64 (N + fl.length)] 24) = W2 at *
  refine (Pad_g _ B l N ((B.length : Int) * 8) _ HN.out rfl V0.sl hH (by omega)).mono ?_
  rintro e w3 ⟨b3, A3, c3, rfl, s3⟩
  have V3 := Var.new (N := (B.length : Int) * 8) s3
  replace b3 := below_step b3 (below_new w3 (.cells #[.slice A3 B.length c3, .int .i64 ((B.length : Int) * 8)] 24))
  replace V0 := V0.later b3
  replace V2 := V2.later b3
  replace BB := below_step BB b3
  clear x0 x1
  have x0 := V0.c0
  have x1 := V0.c1
  clear b3 s3
  go_wp2_with fail
  generalize w3.alloc (.cells #[.slice A3 B.length c3, .int .i64 ((B.length : Int) * 8)] 24) = W3 at *
  refine (Take_any _ B N at_ wd' _ V0.sl HR.out.symm (by omega)).mono ?_
  rintro e w4 ⟨b4, m, er, rfl⟩
  replace V0 := V0.later b4
  replace V2 := V2.later b4
  replace V3 := V3.later b4
  replace BB := below_step BB b4
  clear x0 x1
  have x0 := V0.c0
  have x1 := V0.c1
  clear b4
  go_wp2_with fail
  refine (Right_g _ B N true _ HR.out V0.sl (by omega) (by omega)).mono ?_
  rintro e w5 ⟨rfl, b5⟩
  replace V0 := V0.later b5
  replace V2 := V2.later b5
  replace V3 := V3.later b5
  replace BB := below_step BB b5
  clear x0 x1
  have x0 := V2.c0
  have x1 := V2.c1
  clear b5
  go_wp2_with fail
  refine (Right_g _ B2 (N + fl.length) true _ (right_yes h4 (by rw [HN.out, List.length_append]; omega)) V2.sl (by omega) (by omega)).mono ?_
  rintro e w7 ⟨rfl, b7⟩
  replace V0 := V0.later b7
  replace V2 := V2.later b7
  replace V3 := V3.later b7
  replace BB := below_step BB b7
  clear x0 x1
  have x0 := V3.c0
  have x1 := V3.c1
  clear b7
  go_wp2_with fail
  refine (Right_g _ B ((B.length : Int) * 8) true _ (right_yes (holds_pad hH) (by have := hH.1; simp only [List.length_append, List.length_replicate]; omega)) V3.sl (by omega) (by omega)).mono ?_
  rintro e w8 ⟨rfl, b8⟩
  replace V0 := V0.later b8
  replace V2 := V2.later b8
  replace BB := below_step BB b8
  clear x0 x1
  have x0 := V0.c0
  have x1 := V0.c1
  have y1 := V2.c1
  clear b8
  go_wp2_with fail
  refine (wakes_c _).mono ?_
  rintro e w9 ⟨rfl, b9⟩
  go_wp2
  go_ret
  exact ⟨rfl, below_step BB b9⟩
theorem walk (v u : Value) (B : List (BitVec 8)) (fl : List Bool) (N n wd at_ : Int) (w : World) (hs : SliceAt w 1 v B.length (u8s B)) (hu : SliceAt w 1 u fl.length (bools fl)) (hN1 : -9223372036854775808 ≤ N) (hN2 : N ≤ 9223372036854775807) (hn2 : n ≤ 9223372036854775807) :
    Calls Try.prog 7 #[bv v N, .int .i64 n, .int .i64 wd, .int .i64 at_, u] w fun e w' => e = .returned (.bool true) ∧ Below w.heap.size w w' := by
  by_cases h1 : B.length ≤ 100
  · by_cases h2 : fl.length ≤ 100
    · rcases hr : right B N with _ | _
      · exact walk_bad v u B fl N n wd at_ w hs hu hN1 hN2 hn2 h1 h2 hr
      · obtain ⟨l, hN, hH⟩ := (right_iff B N).1 hr
        rcases hf : fits n wd with _ | _
        · exact walk_non v u B l fl N n wd at_ w hs hu hN hn2 h1 h2 hH hf
        · unfold fits at hf
          simp only [Bool.and_eq_true, decide_eq_true_eq] at hf
          obtain ⟨⟨⟨f1, f2⟩, f3⟩, f4⟩ := hf
          refine walk_fit v u B l fl n.toNat wd.toNat N n wd at_ w hs hu hN (by omega) (by omega) h1 h2 hH (by omega) ?_
          have : ((n.toNat : Nat) : Int) < ((2 ^ wd.toNat : Nat) : Int) := by rw [show ((n.toNat : Nat) : Int) = n by omega]; exact_mod_cast f4
          exact_mod_cast this
    · have BB := below_new w (.cells #[v, .int .i64 N] 24)
      have q1 : decide ((100 : Int) < (B.length : Int)) = false := decide_eq_false (by omega)
      have q2 : decide ((100 : Int) < (fl.length : Int)) = true := decide_eq_true (by omega)
      have q3 : ¬ fl.length ≤ 100 := h2
      obtain ⟨A, c, rfl, _⟩ := hs.form
      obtain ⟨A', c', rfl, _⟩ := hu.form
      go_enter Try.func7, Try.ntmps7
      go_wp2_with fail
      refine (wakes_c _).mono ?_
      rintro e w9 ⟨rfl, b9⟩
      go_wp2
      go_ret
      exact ⟨rfl, below_step BB b9⟩
  · have BB := below_new w (.cells #[v, .int .i64 N] 24)
    have q1 : decide ((100 : Int) < (B.length : Int)) = true := decide_eq_true (by omega)
    obtain ⟨A, c, rfl, _⟩ := hs.form
    obtain ⟨A', c', rfl, _⟩ := hu.form
    go_enter Try.func7, Try.ntmps7
    go_wp2_with fail
    refine (wakes_c _).mono ?_
    rintro e w9 ⟨rfl, b9⟩
    go_wp2
    go_ret
    exact ⟨rfl, below_step BB b9⟩

theorem own : ownKnob Try.prog.godebug = none := by kernel_rfl
theorem laidOut : laidOutB Try.prog = true := by kernel_rfl
noncomputable def wit (os : Os) : World := World.holding Try.prog os ⟨#[], #[], []⟩
set_option maxRecDepth 100000 in
theorem lifted (os : Os) (started : os.Started) (H : Type) (enc : TypeId × Value → H) (F : Stop.Interp) :
    ReturnsInHanded {} Try.checked os 7 .any ((OpenSpec.ofChange Rows.bitsBadSpec).preRow enc Try.prog Try.f7 Rows.bitsBadRow.domain false Rows.bitsBadRow.laid) (((OpenSpec.ofChange Rows.bitsBadSpec).at F).post enc Try.prog Try.f7 false true false false) := by
  obtain ⟨x, hx⟩ : ∃ x, DataW.whole enc Try.prog ((wit os).forCall (fun _ _ => 0) ⟨#[], #[.agg #[.slice none 0 0, .int .i64 0], .int .i64 0, .int .i64 0, .int .i64 0, .slice none 0 0], []⟩).memory Try.f7.params.toList Rows.bitsBadSpec.vars false (#[.agg #[.slice none 0 0, .int .i64 0], .int .i64 0, .int .i64 0, .int .i64 0, .slice none 0 0] : Array Value).toList 8 = some x := Option.isSome_iff_exists.1 (by kernel_rfl)
  refine Fr.lift (C := Try.checked) (s := OpenSpec.ofChange Rows.bitsBadSpec) own started (by kernel_rfl) Try.func7
    (witness_row_at (enc := enc) (C := Try.checked) false (wit os) #[.agg #[.slice none 0 0, .int .i64 0], .int .i64 0, .int .i64 0, .int .i64 0, .slice none 0 0] rfl (by kernel_rfl) (by kernel_rfl) (by kernel_rfl)
      (OpenSpec.preRow_of_cond 8 hx rfl (fun k hk => by cases hk) (by kernel_rfl) (laidMet_of_run' 8 (by kernel_rfl) (by kernel_rfl))))
    laidOut (by kernel_rfl) rfl Try.underlying4 rfl rfl ?_ ?_
  · intro ds hds
    match ds, hds with
    | [_, _, _, _, _], _ => rfl
  · intro W base args ds before hval hA hlt _ hz hL
    rw [Try.params7] at hA hval
    obtain ⟨v0, vs0, d0, ds0, p0, q0, hargs, rfl, rfl, h0, r0⟩ := trodAll_cons hA
    obtain ⟨v1, vs1, d1, ds1, p1, q1, rfl, rfl, rfl, h1, r1⟩ := trodAll_cons r0
    obtain ⟨v2, vs2, d2, ds2, p2, q2, rfl, rfl, rfl, h2, r2⟩ := trodAll_cons r1
    obtain ⟨v3, vs3, d3, ds3, p3, q3, rfl, rfl, rfl, h3, r3⟩ := trodAll_cons r2
    obtain ⟨v4, vs4, d4, ds4, p4, q4, rfl, rfl, rfl, h4, r4⟩ := trodAll_cons r3
    obtain ⟨rfl, rfl, rfl⟩ := trodAll_nil r4
    obtain rfl : args = #[v0, v1, v2, v3, v4] := by cases args; simp_all
    obtain ⟨u, B, N, rfl, hB, hN1, hN2⟩ := open_bits (hval 0 _ v0 rfl rfl) h0
    obtain ⟨a1, rfl, rfl, rfl, w1⟩ := open_int Try.underlying3 (hval 1 _ v1 rfl rfl) h1
    obtain ⟨a2, rfl, rfl, rfl, w2⟩ := open_int Try.underlying3 (hval 2 _ v2 rfl rfl) h2
    obtain ⟨a3, rfl, rfl, rfl, w3⟩ := open_int Try.underlying3 (hval 3 _ v3 rfl rfl) h3
    obtain ⟨fl, hfl⟩ := Mem.open_bools_arg Try.underlying25 Try.underlying4 (by kernel_rfl) (hval 4 _ v4 rfl rfl) h4
    exact walk u v4 B fl N a1 a2 a3 W hB hfl hN1 hN2 (i64_bounds w1).2

theorem said : Rows.BitsBadSaid :=
  OpenClaim.holds_of_cond 7 Try.f7 rfl rfl rfl rfl rfl rfl rfl ⟨rfl, rfl, rfl, rfl, rfl⟩ rfl rfl rfl rfl rfl (by kernel_rfl) Try.func7 (by kernel_rfl)
    (of_decide_eq_true (by kernel_rfl)) (by unfold Func.isWrapper; first | (rw [if_pos (by decide +kernel)]; kernel_rfl) | (rw [if_neg (by decide +kernel)]; exact ⟨rfl, rfl⟩))
    (fun os started H enc _ F => by rw [OpenClaim.pre_eq_preRow]; exact lifted os started H enc F)
#print axioms said
end Go.Proofs.Ytgmmoflihndieaa.bitsBad
