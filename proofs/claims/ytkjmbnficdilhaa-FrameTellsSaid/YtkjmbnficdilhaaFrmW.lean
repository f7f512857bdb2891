/- What the document says of a frame without payload holds. -/
import Derived.Test.YtkjmbnficdilhaaFrmF
namespace Go.Proofs.Ytkjmbnficdilhaa
open Go.RowKit Rf Mem Bv Crc Str
attribute [local go_sem ↓] run_max2 run_min2
def X1 : List (BitVec 8) := Crc.close (hb 1#8 7#8 [])
def Y1 : List (BitVec 8) := Crc.close [9#8, 0#8, 0#8]
theorem X1_take : takeV X1 = (1#8, 7#8, [], 0) := by decide +kernel
theorem Y1_take : (takeV Y1).2.2.2 = 41 := by decide +kernel
theorem s_take : (takeV [1#8, 7#8, 0#8, 0#8]).2.2.2 = 40 := by decide +kernel
theorem c_take : (takeV [1#8, 7#8, 0#8, 0#8, 0#8]).2.2.2 = 42 := by decide +kernel
theorem X1_len : X1.length = 5 := by decide +kernel
theorem Y1_len : Y1.length = 5 := by decide +kernel
theorem made60 : madeCells #[.int .u8 0] 60 = (u8s (List.replicate 60 0#8)).toArray := by
  apply Array.toList_inj.1; rw [toList_madeCells_one]; simp [u8s]
theorem z60_len : (List.replicate 60 0#8).length = 60 := by simp
structure PF (w W : World) (gb off gf : Nat) (vb vf : Value) : Prop where
  b : SliceAt W 1 vb 5 (u8s X1)
  hb : vb = .slice (some ⟨gb, off, none⟩) 5 0 ∨ True
  x0 : W.cell? ⟨gb, off, none⟩ = some (.int .u8 1)
  x1 : W.cell? ⟨gb, off + 1, none⟩ = some (.int .u8 7)
  x2 : W.cell? ⟨gb, off + 2, none⟩ = some (.int .u8 0)
  f : FVar W gf 1 7 vf []
  below : Below w.heap.size w W
theorem PF.later {w W W' : World} {gb off gf : Nat} {vb vf : Value} (h : PF w W gb off gf vb vf) (hb : Below W.heap.size W W') : PF w W' gb off gf vb vf :=
  ⟨h.b.later hb, .inr trivial, (hb.cell (p := ⟨gb, off, none⟩) (lt_of_cell h.x0)).trans h.x0, (hb.cell (p := ⟨gb, off + 1, none⟩) (lt_of_cell h.x1)).trans h.x1, (hb.cell (p := ⟨gb, off + 2, none⟩) (lt_of_cell h.x2)).trans h.x2, h.f.later hb, below_step h.below hb⟩
theorem PF.s {w W : World} {gb off gf : Nat} {vb vf : Value} (h : PF w W gb off gf vb vf) : W.cell? ⟨gb, off, none⟩ = some (.int .u8 1) ∧ W.cell? ⟨gb, off + 1, none⟩ = some (.int .u8 7) ∧ W.cell? ⟨gb, off + 2, none⟩ = some (.int .u8 0) ∧ W.cell? ⟨gf, 0, none⟩ = some (.int .u8 1) ∧ W.cell? ⟨gf, 1, none⟩ = some (.int .u8 7) ∧ W.cell? ⟨gf, 2, none⟩ = some vf :=
  ⟨h.x0, h.x1, h.x2, h.f.c0, h.f.c1, h.f.c2⟩
theorem X1_is : X1 = [1#8, 7#8, 0#8, Crc.lo (Crc.sum (hb 1#8 7#8 [])), Crc.hi (Crc.sum (hb 1#8 7#8 []))] := rfl
theorem X1_0 : (u8s X1)[0]? = some (.int .u8 1) := by rw [X1_is]; rfl
theorem X1_1 : (u8s X1)[1]? = some (.int .u8 7) := by rw [X1_is]; rfl
theorem X1_2 : (u8s X1)[2]? = some (.int .u8 0) := by rw [X1_is]; rfl
set_option maxHeartbeats 8000000 in
set_option maxRecDepth 100000 in
theorem wakes_c (w : World) : Calls Try.prog 4 #[] w fun e w' => e = .returned (.bool true) ∧ Below w.heap.size w w' := by
  go_enter Try.func4, Try.ntmps4
  go_wp2_with fail
  refine (Put_g 1#8 7#8 1 7 _ [] X1 _ (by rfl) (by rfl) rfl (SliceAt.nil_ _ _) (by decide)).mono ?_
  rintro e w1 ⟨b1, A1, c1, rfl, s1⟩
  have BB := b1
  clear b1
  rw [X1_len]
  rw [X1_len] at s1
  go_wp2_with fail
  refine (Take_yes 1#8 7#8 1 7 _ [] X1 _ (by rfl) (by rfl) (by rw [X1_len]; exact s1) X1_take (by rw [X1_len]; decide)).mono ?_
  rintro e w2 ⟨b2, A2, c2, rfl, s2⟩
  have V := FVar.new (k := 1) (s := 7) (v := .slice A2 0 c2) (p := []) s2
  replace b2 := below_step b2 (below_new w2 (.cells #[.int .u8 1, .int .u8 7, .slice A2 0 c2] 24))
  replace s1 := s1.later b2
  replace BB := below_step BB b2
  have Z2 := Lib.hid (show (w2.alloc (.cells #[.int .u8 1, .int .u8 7, .slice A2 0 c2] 24)).heap.size = w2.heap.size + 1 by simp)
  clear b2 s2
  go_wp2_with fail
  generalize w2.alloc (.cells #[.int .u8 1, .int .u8 7, .slice A2 0 c2] 24) = W2 at *
  have b3 := below_new W2 (.cells #[.int .u8 1, .int .u8 7, .int .u8 0, .int .u8 0] 5)
  refine (Take_no _ [1#8, 7#8, 0#8, 0#8] 40 _ (sliceAt_blk (new_at Z2.out _) rfl (by simp [maxLen])) s_take (by decide) (by decide)).mono ?_
  rintro e w3 ⟨b3', rfl⟩
  replace b3 := below_step (below_step b3 b3') (below_new w3 (.cells #[.int .u8 0, .int .u8 0, .slice none 0 0] 24))
  replace V := V.later b3
  replace s1 := s1.later b3
  replace BB := below_step BB b3
  have Z3 := Lib.hid (show (w3.alloc (.cells #[.int .u8 0, .int .u8 0, .slice none 0 0] 24)).heap.size = w3.heap.size + 1 by simp)
  clear b3 b3' Z2
  go_wp2_with fail
  generalize w3.alloc (.cells #[.int .u8 0, .int .u8 0, .slice none 0 0] 24) = W3 at *
  have b4 := below_new W3 (.cells #[.int .u8 1, .int .u8 7, .int .u8 0, .int .u8 0, .int .u8 0] 5)
  refine (Take_no _ [1#8, 7#8, 0#8, 0#8, 0#8] 42 _ (sliceAt_blk (new_at Z3.out _) rfl (by simp [maxLen])) c_take (by decide) (by decide)).mono ?_
  rintro e w4 ⟨b4', rfl⟩
  replace b4 := below_step (below_step b4 b4') (below_new w4 (.cells #[.int .u8 0, .int .u8 0, .slice none 0 0] 24))
  replace V := V.later b4
  replace s1 := s1.later b4
  replace BB := below_step BB b4
  have Z4 := Lib.hid (show (w4.alloc (.cells #[.int .u8 0, .int .u8 0, .slice none 0 0] 24)).heap.size = w4.heap.size + 1 by simp)
  clear b4 b4' Z3
  go_wp2_with fail
  generalize w4.alloc (.cells #[.int .u8 0, .int .u8 0, .slice none 0 0] 24) = W4 at *
  have b5 := below_new W4 (.cells #[.int .u8 9, .int .u8 0, .int .u8 0] 5)
  refine (refClose_c _ [9#8, 0#8, 0#8] _ (sliceAt_blk (new_at Z4.out _) rfl (by simp [maxLen])) (by decide)).mono ?_
  rintro e w5 ⟨v5, rfl, ho5, b5'⟩
  replace b5 := below_step b5 b5'
  replace V := V.later b5
  replace s1 := s1.later b5
  replace BB := below_step BB b5
  have s5 : SliceAt w5 1 v5 Y1.length (u8s Y1) := by rw [Y1_len]; exact sliceAt_of_own ho5
  clear b5 b5' Z4 ho5
  obtain ⟨A5, c5, rfl, _⟩ := s5.form
  rw [Y1_len] at s5
  rw [Y1_len]
  go_wp2_with fail
  refine (Take_no _ Y1 41 _ (by rw [Y1_len]; exact s5) Y1_take (by decide) (by rw [Y1_len]; decide)).mono ?_
  rintro e w6 ⟨b6, rfl⟩
  replace b6 := below_step b6 (below_new w6 (.cells #[.int .u8 0, .int .u8 0, .slice none 0 0] 24))
  replace V := V.later b6
  replace s1 := s1.later b6
  replace BB := below_step BB b6
  have Z6 := Lib.hid (show (w6.alloc (.cells #[.int .u8 0, .int .u8 0, .slice none 0 0] 24)).heap.size = w6.heap.size + 1 by simp)
  clear b6 s5
  have hmk : ∀ w : World, Sem.run Try.prog (Instr.makeSlice 22 (.int .i64 60) (.int .i64 60)) w = _ := run_make_row' (P := Try.prog) 22 5 (.int .u8 0) 1 Try.underlying22 info_u8 rfl .i64 .i64 60 (by omega) (by omega)
  go_wp2_with fail
  have b7 := below_new (w6.alloc (.cells #[.int .u8 0, .int .u8 0, .slice none 0 0] 24)) (.cells (madeCells #[.int .u8 0] 60) 5)
  refine (Put_bad 1 0 _ (List.replicate 60 0#8) _ (by rw [z60_len]; exact sliceAt_blk (cs := u8s (List.replicate 60 0#8)) (by rw [← made60]; exact new_at Z6.out _) (by simp) (by simp [maxLen])) (by rw [z60_len]; decide)).mono ?_
  rintro e w7 ⟨b7', rfl⟩
  replace b7 := below_step b7 b7'
  replace V := V.later b7
  replace s1 := s1.later b7
  replace BB := below_step BB b7
  obtain ⟨gb, off, cb, hA, _, _, _, hcb⟩ := s1.pos (by decide)
  obtain ⟨rfl, _, rfl⟩ := Value.slice.inj hA
  have p0 : PF w w7 gb off _ _ _ := ⟨s1, .inr trivial, hcb 0 _ X1_0, hcb 1 _ X1_1, hcb 2 _ X1_2, V, BB⟩
  clear b7 b7' hA hcb s1 V BB hmk Z6
  go_wp2_with fail
  simp only [List.append_eq, List.cons_append, List.nil_append]
  have p0d := p0.later (Below.refl _ _).drew
  have i0 := p0.s
  go_region_held3 (fun w' => w'.cell? ⟨gb, off, none⟩ = some (.int .u8 1) ∧ w'.cell? ⟨gb, off + 1, none⟩ = some (.int .u8 7) ∧ w'.cell? ⟨gb, off + 2, none⟩ = some (.int .u8 0) ∧ w'.cell? ⟨w2.heap.size, 0, none⟩ = some (.int .u8 1) ∧ w'.cell? ⟨w2.heap.size, 1, none⟩ = some (.int .u8 7) ∧ w'.cell? ⟨w2.heap.size, 2, none⟩ = some (.slice A2 0 c2))
    (first | exact p5.s | exact p4.s | exact p3.s | exact p2.s | exact p1.s | exact p0d.s | exact i0)
    (first
      | (go_at_call 17; have pp := p4; refine (Same_g 1 7 1 7 _ _ [] [] true _ (by decide) r4 p4.f.sl).mono ?_; rintro e y5 ⟨rfl, q5⟩; have p5 := p4.later q5)
      | (go_at_call 18; have pp := p3; refine (Own_c 1 7 _ [] _ p3.f.sl (by decide)).mono ?_; rintro e y4 ⟨q4, A8, c8, rfl, r4⟩; have p4 := p3.later q4)
      | (go_at_call 11; have pp := p2; refine (Right_g 1 7 _ [] true _ (by decide) p2.f.sl).mono ?_; rintro e y3 ⟨rfl, q3⟩; have p3 := p2.later q3)
      | (go_at_call 15; have pp := p1; refine (Size_g 0 0 _ [] 0 _ (by decide) (SliceAt.nil_ _ _)).mono ?_; rintro e y2 ⟨rfl, q2⟩; have p2 := p1.later q2)
      | (go_at_call 15; have pp := p0d; refine (Size_g 1 7 _ [] 5 _ (by decide) p0d.f.sl).mono ?_; rintro e y1 ⟨rfl, q1⟩; have p1 := p0d.later q1)
      | (go_at_call 13; ((with_reducible refine (Newer_g 3 250 true _ (by decide) (by decide) (by decide) (by decide) (by decide)).mono ?_); rintro e w' ⟨rfl, rfl⟩))
      | (go_at_call 13; ((with_reducible refine (Newer_g 250 3 false _ (by decide) (by decide) (by decide) (by decide) (by decide)).mono ?_); rintro e w' ⟨rfl, rfl⟩))
      | (go_at_call 13; ((with_reducible refine (Newer_g 130 2 false _ (by decide) (by decide) (by decide) (by decide) (by decide)).mono ?_); rintro e w' ⟨rfl, rfl⟩)))
  go_wp2
  go_ret
  exact ⟨rfl, p5.below⟩
end Go.Proofs.Ytkjmbnficdilhaa
