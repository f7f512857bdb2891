/- What the document says of 5 and 300 holds. -/
import Derived.Test.YtefbinlmakkjeaaBitsM
namespace Go.Proofs.Ytefbinlmakkjeaa
open Go.RowKit Rf Mem Bv Bits Str
attribute [local go_sem ↓] run_max2 run_min2
def l1 : List Bool := [true, false, true]
def l2 : List Bool := l1 ++ numBits 300 9
theorem l1_is : [] ++ numBits 5 3 = l1 := by decide
theorem h160 : Holds [160#8] l1 := ⟨by decide, 5, by decide⟩
theorem h178 : Holds [178#8, 192#8] l2 := ⟨by decide, 4, by decide +kernel⟩
theorem h182 : Holds [182#8, 128#8] (l1 ++ [true, false, true, true, false, true]) := ⟨by decide, 7, by decide +kernel⟩
theorem h160p : Holds [160#8] [true, false, true, false, false, false, false, false] := ⟨by decide, 0, by decide⟩
theorem right_neg1 : right [] 1 = false := by decide
structure P4 (w W : World) (g1 g2 g3 g4 : Nat) (v1 v2 v3 v4 : Value) (B1 B2 B3 : List (BitVec 8)) : Prop where
  a : Var W g1 v1 B1 3
  b : Var W g2 v2 B2 12
  c : Var W g3 v3 B3 9
  d : Var W g4 v4 B1 8
  below : Below w.heap.size w W
theorem P4.later {w W W' : World} {g1 g2 g3 g4 : Nat} {v1 v2 v3 v4 : Value} {B1 B2 B3 : List (BitVec 8)} (h : P4 w W g1 g2 g3 g4 v1 v2 v3 v4 B1 B2 B3) (hb : Below W.heap.size W W') : P4 w W' g1 g2 g3 g4 v1 v2 v3 v4 B1 B2 B3 :=
  ⟨h.a.later hb, h.b.later hb, h.c.later hb, h.d.later hb, below_step h.below hb⟩
theorem P4.f {w W : World} {g1 g2 g3 g4 : Nat} {v1 v2 v3 v4 : Value} {B1 B2 B3 : List (BitVec 8)} (h : P4 w W g1 g2 g3 g4 v1 v2 v3 v4 B1 B2 B3) :
    W.cell? ⟨g1, 0, none⟩ = some v1 ∧ W.cell? ⟨g1, 1, none⟩ = some (.int .i64 3) ∧ W.cell? ⟨g2, 0, none⟩ = some v2 ∧ W.cell? ⟨g2, 1, none⟩ = some (.int .i64 12) ∧ W.cell? ⟨g3, 0, none⟩ = some v3 ∧ W.cell? ⟨g3, 1, none⟩ = some (.int .i64 9) ∧ W.cell? ⟨g4, 0, none⟩ = some v4 ∧ W.cell? ⟨g4, 1, none⟩ = some (.int .i64 8) :=
  ⟨h.a.c0, h.a.c1, h.b.c0, h.b.c1, h.c.c0, h.c.c1, h.d.c0, h.d.c1⟩
theorem below_newd (W : World) (o : Obj) : Below W.heap.size W (W.alloc o).drew := (below_new W o).drew
set_option maxHeartbeats 8000000 in
set_option maxRecDepth 100000 in
theorem wakes_c (w : World) : Calls Try.prog 4 #[] w fun e w' => e = .returned (.bool true) ∧ Below w.heap.size w w' := by
  go_enter Try.func4, Try.ntmps4
  go_wp2_with fail
  refine (Put_g _ [] [] 5 3 0 3 5 3 _ (by rfl) (by rfl) (by rfl) (by rfl) (SliceAt.nil_ _ _) holds_nil (by decide) (by decide) (by decide)).mono ?_
  rintro e w1 ⟨b1, A1, c1, B1, rfl, s1, h1⟩
  rw [l1_is] at h1
  have V1 := Var.new (N := 3) s1
  have BB := below_step b1 (below_new w1 (.cells #[.slice A1 B1.length c1, .int .i64 3] 24))
  clear b1 s1
  go_wp2_with fail
  generalize w1.alloc (.cells #[.slice A1 B1.length c1, .int .i64 3] 24) = W1 at *
  refine (Put_g _ B1 l1 300 9 3 12 300 9 _ (by rfl) (by rfl) (by rfl) (by rfl) V1.sl h1 (by decide) (by decide) (by decide)).mono ?_
  rintro e w2 ⟨b2, A2, c2, B2, rfl, s2, h2⟩
  change Holds B2 l2 at h2
  replace V1 := (V1.later b2).later (below_new w2 (.cells #[.slice A2 B2.length c2, .int .i64 12] 24))
  have V2 := Var.new (N := 12) s2
  replace BB := below_step (below_step BB b2) (below_new w2 (.cells #[.slice A2 B2.length c2, .int .i64 12] 24))
  clear b2 s2
  go_wp2_with fail
  generalize w2.alloc (.cells #[.slice A2 B2.length c2, .int .i64 12] 24) = W2 at *
  refine (Take_g _ B2 l2 3 9 12 3 9 300 _ (by rfl) (by rfl) (by rfl) (by decide +kernel) V2.sl h2 (by decide) (by decide) (by decide)).mono ?_
  rintro e w3 ⟨b3, rfl⟩
  replace V1 := V1.later b3
  replace V2 := V2.later b3
  replace BB := below_step BB b3
  have x0 := V2.c0
  have x1 := V2.c1
  clear b3
  go_wp2_with fail
  refine (Take_short _ B2 12 4 9 _ V2.sl (by decide) (by decide) (right_yes h2 (by rfl)).symm (by decide) (by decide) (by decide) (by decide)).mono ?_
  rintro e w4 ⟨b4, rfl⟩
  replace V1 := V1.later b4
  replace V2 := V2.later b4
  replace BB := below_step BB b4
  clear x0 x1
  have x0 := V1.c0
  have x1 := V1.c1
  clear b4
  go_wp2_with fail
  refine (Put_bad _ B1 3 8 3 _ V1.sl (by have := h1.1; simp [l1] at this; omega) (by decide) (by decide) (by decide) (by rw [← right_yes h1 (by rfl)]; decide)).mono ?_
  rintro e w5 ⟨b5, rfl⟩
  replace V1 := (V1.later b5).later (below_new w5 (.cells #[.slice none 0 0, .int .i64 0] 24))
  replace V2 := (V2.later b5).later (below_new w5 (.cells #[.slice none 0 0, .int .i64 0] 24))
  replace BB := below_step (below_step BB b5) (below_new w5 (.cells #[.slice none 0 0, .int .i64 0] 24))
  clear x0 x1
  have x0 := V1.c0
  have x1 := V1.c1
  clear b5
  go_wp2_with fail
  have Z5 := Lib.hid (show (w5.alloc (.cells #[.slice none 0 0, .int .i64 0] 24)).heap.size = w5.heap.size + 1 by simp)
  generalize w5.alloc (.cells #[.slice none 0 0, .int .i64 0] 24) = W5 at *
  have b6 := below_new W5 (.cells #[.bool true, .bool false, .bool true, .bool true, .bool false, .bool true] 4)
  refine (Flags_g _ B1 l1 _ [true, false, true, true, false, true] 3 9 _ (by rfl) (by rfl) (V1.later b6).sl (sliceAt_blk (new_at Z5.out _) rfl (by simp [maxLen])) h1 (by decide) (by decide)).mono ?_
  rintro e w6 ⟨b6', A3, c3, B3, rfl, s3, h3⟩
  replace b6 := (below_step b6 b6')
  replace BB := below_step BB b6
  replace V1 := (V1.later b6).later (below_new w6 (.cells #[.slice A3 B3.length c3, .int .i64 9] 24))
  replace V2 := (V2.later b6).later (below_new w6 (.cells #[.slice A3 B3.length c3, .int .i64 9] 24))
  have V3 := Var.new (N := 9) s3
  replace BB := below_step BB (below_new w6 (.cells #[.slice A3 B3.length c3, .int .i64 9] 24))
  clear x0 x1
  have x0 := V1.c0
  have x1 := V1.c1
  clear b6 b6' s3
  go_wp2_with fail
  generalize w6.alloc (.cells #[.slice A3 B3.length c3, .int .i64 9] 24) = W6 at *
  have hB1 : B1.length = 1 := h1.1
  have HB1 := Lib.hid hB1
  clear hB1
  refine (Pad_g _ B1 l1 3 8 _ (by rfl) (by rw [HB1.out]; rfl) V1.sl h1 (by decide)).mono ?_
  rintro e w7 ⟨b7, A4, c4, rfl, s4⟩
  have h4 : Holds B1 [true, false, true, false, false, false, false, false] := by
    have := holds_pad h1; rw [HB1.out] at this; exact this
  replace BB := below_step (below_step BB b7) (below_new w7 (.cells #[.slice A4 B1.length c4, .int .i64 8] 24))
  replace V1 := (V1.later b7).later (below_new w7 (.cells #[.slice A4 B1.length c4, .int .i64 8] 24))
  replace V2 := (V2.later b7).later (below_new w7 (.cells #[.slice A4 B1.length c4, .int .i64 8] 24))
  replace V3 := (V3.later b7).later (below_new w7 (.cells #[.slice A4 B1.length c4, .int .i64 8] 24))
  have V4 := Var.new (N := 8) s4
  clear x0 x1
  have x0 := V1.c0
  have x1 := V1.c1
  have y0 := V2.c0
  have y1 := V2.c1
  clear b7 s4
  go_wp2_with fail
  generalize w7.alloc (.cells #[.slice A4 B1.length c4, .int .i64 8] 24) = W7 at *
  have p0 : P4 w W7 _ _ _ _ _ _ _ _ _ _ _ := ⟨V1, V2, V3, V4, BB⟩
  have hBL2 : B2.length ≤ 140737488355328 := by rw [h2.1]; decide +kernel
  have hr1 := (right_neg1 : right [] 1 = false)
  clear x0 x1 y0 y1 V1 V2 V3 V4 BB Z5
  simp only [List.append_eq, List.cons_append, List.nil_append]
  have i0 := p0.f
  go_region_held3 (fun w' => w'.cell? ⟨w1.heap.size, 0, none⟩ = some (.slice A1 B1.length c1) ∧ w'.cell? ⟨w1.heap.size, 1, none⟩ = some (.int .i64 3) ∧ w'.cell? ⟨w2.heap.size, 0, none⟩ = some (.slice A2 B2.length c2) ∧ w'.cell? ⟨w2.heap.size, 1, none⟩ = some (.int .i64 12) ∧ w'.cell? ⟨w6.heap.size, 0, none⟩ = some (.slice A3 B3.length c3) ∧ w'.cell? ⟨w6.heap.size, 1, none⟩ = some (.int .i64 9) ∧ w'.cell? ⟨w7.heap.size, 0, none⟩ = some (.slice A4 B1.length c4) ∧ w'.cell? ⟨w7.heap.size, 1, none⟩ = some (.int .i64 8))
    (first | exact p10.f | exact p9.f | exact p8.f | exact p7.f | exact p6.f | exact p5.f | exact p4.f | exact p3.f | exact (p3.later (below_new _ _)).f | exact p2.f | exact (p2.later (below_new _ _)).f | exact p1.f | exact (p1.later (below_new _ _)).f | exact (p0.later (below_newd _ _)).f | exact i0)
    (first
      | (go_at_call 16; have pp := p9; refine (Same_g _ _ B1 B2 3 12 false _ (same_no (by decide)) p9.a.sl p9.b.sl).mono ?_; rintro e y10 ⟨rfl, q10⟩; have p10 := p9.later q10)
      | (go_at_call 16; have pp := p8; refine (Same_g _ _ B2 B2 12 12 true _ (same_yes h2 h2 rfl) p8.b.sl r8).mono ?_; rintro e y9 ⟨rfl, q9⟩; have p9 := p8.later q9)
      | (go_at_call 17; have pp := p7; refine (Own_g _ B2 12 _ p7.b.sl hBL2).mono ?_; rintro e y8 ⟨q8, A8, c8, rfl, r8⟩; have p8 := p7.later q8)
      | (go_at_call 14; have pp := p6; refine (Right_g _ [] 1 false _ hr1.symm (SliceAt.nil_ _ _) (by decide) (by decide)).mono ?_; rintro e y7 ⟨rfl, q7⟩; have p7 := p6.later q7)
      | (go_at_call 14; have pp := p5; refine (Right_g _ B2 12 true _ (right_yes h2 rfl) p5.b.sl (by decide) (by decide)).mono ?_; rintro e y6 ⟨rfl, q6⟩; have p6 := p5.later q6)
      | (go_at_call 9; have pp := p4; refine (refSame_g _ _ B1 [160#8] 8 8 true _ (same_yes h4 h160p rfl) p4.d.sl r4).mono ?_; rintro e y5 ⟨rfl, q5⟩; have p5 := p4.later q5)
      | (go_at_call 18; have pp := p3; refine (Of_g _ [160#8] 8 _ rfl (sliceAt_blk (new_at rfl _) rfl (by simp [maxLen])) (by decide)).mono ?_; rintro e y4 ⟨q4, A5, c5, rfl, r4⟩; have p4 := (p3.later (below_new _ _)).later q4)
      | (go_at_call 9; have pp := p2; refine (refSame_g _ _ B3 [182#8, 128#8] 9 9 true _ (same_yes h3 h182 rfl) (p2.later (below_new _ _)).c.sl (sliceAt_blk (new_at rfl _) rfl (by simp [maxLen]))).mono ?_; rintro e y3 ⟨rfl, q3⟩; have p3 := (p2.later (below_new _ _)).later q3)
      | (go_at_call 9; have pp := p1; refine (refSame_g _ _ B2 [178#8, 192#8] 12 12 true _ (same_yes h2 h178 rfl) (p1.later (below_new _ _)).b.sl (sliceAt_blk (new_at rfl _) rfl (by simp [maxLen]))).mono ?_; rintro e y2 ⟨rfl, q2⟩; have p2 := (p1.later (below_new _ _)).later q2)
      | (go_at_call 9; have pp := p0; refine (refSame_g _ _ B1 [160#8] 3 3 true _ (same_yes h1 h160 rfl) (p0.later (below_newd _ _)).a.sl (sliceAt_blk (w := (World.alloc _ _).drew) (new_at rfl _) rfl (by simp [maxLen]))).mono ?_; rintro e y1 ⟨rfl, q1⟩; have p1 := (p0.later (below_newd _ _)).later q1))
  go_wp2
  go_ret
  exact ⟨rfl, p10.below⟩
end Go.Proofs.Ytefbinlmakkjeaa
