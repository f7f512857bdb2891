/- Link, in company. Nothing that was there is turned. -/
import Derived.Test.YtlanlkpamnoekaaDoorZD13
set_option linter.unusedSimpArgs false
set_option linter.unusedVariables false
namespace Go.Proofs.YtlanlkpamnoekaaDoor
open List renaming getElem_toArray → zA, getElem_cons_succ → zS, getElem_cons_zero → zZ, setIfInBounds_toArray → zP, set_cons_zero → zQ, set_cons_succ → zR
open Go Go.RowKit Rf Mem Bv Crc Str Lk
set_option maxRecDepth 100000
attribute [local go_sem ↓] run_max2 run_min2
def f7 : Frm := (2#8, 7#8, [])
set_option maxHeartbeats 4000000 in
theorem wk4 (a : Act) (g1 g2 g3 g50 g60 : Nat) (hS : Sl a 190 [(0, .bool false), (1, .pointer (some ⟨g1, 0, none⟩)), (2, .pointer (some ⟨g2, 0, none⟩)), (3, .pointer (some ⟨g3, 0, none⟩)), (4, .int .i64 0), (5, .pointer (some ⟨g50, 0, none⟩)), (6, .pointer (some ⟨g60, 0, none⟩)), (7, .int .i64 290)]) (w : World) (hT : Tops w) (L : LVar w g50 200 0 1) : (rg 4).wp Tryd.prog (nrm fun a' w' => ∃ ga gb, Sl a' 190 [(0, .bool false), (1, .pointer (some ⟨g1, 0, none⟩)), (2, .pointer (some ⟨g2, 0, none⟩)), (3, .pointer (some ⟨g3, 0, none⟩)), (4, .int .i64 0), (5, .pointer (some ⟨g50, 0, none⟩)), (6, .pointer (some ⟨g60, 0, none⟩)), (7, .int .i64 290), (8, .pointer (some ⟨ga, 0, none⟩)), (9, .pointer (some ⟨gb, 0, none⟩)), (10, .int .i64 0)] ∧ LVar w' ga 7 0 1 ∧ FV w' gb f7 ∧ Below w.heap.size w w') a w := by
  obtain ⟨j, rfl, hj⟩ := hS.lit190
  have h0 : j 0 = .bool false := hj (0, _) (by simp)
  have h1 : j 1 = .pointer (some ⟨g1, 0, none⟩) := hj (1, _) (by simp)
  have h2 : j 2 = .pointer (some ⟨g2, 0, none⟩) := hj (2, _) (by simp)
  have h3 : j 3 = .pointer (some ⟨g3, 0, none⟩) := hj (3, _) (by simp)
  have h4 : j 4 = .int .i64 0 := hj (4, _) (by simp)
  have h5 : j 5 = .pointer (some ⟨g50, 0, none⟩) := hj (5, _) (by simp)
  have h6 : j 6 = .pointer (some ⟨g60, 0, none⟩) := hj (6, _) (by simp)
  have h7 : j 7 = .int .i64 290 := hj (7, _) (by simp)
  clear hj hS
  unfold rg body10
  simp only [Tryd.f10, Option.getD_some, nthSeq, lit190, List.cons_append, List.nil_append, h0, h1, h2, h3, h4, h5, h6, h7]
  obtain ⟨X, hX⟩ : ∃ X, X = panelV 7#8 := ⟨_, rfl⟩
  have hr : (((7, 0, 1), 0, f7) : Lst × Int × Frm) = hearV 2 X (200, 0, 1) := by rw [hX]; exact (by rw [hear_panel 7#8 7 rfl (200, 0, 1) (by decide)]; rfl)
  have HR := Lib.hid hr
  have hl : X.length ≤ 140737488355328 := by rw [hX]; decide
  have HL := Lib.hid hl
  have HX := Lib.hid hX
  clear hr hX hl
  refine wp_region_held_drew (S := (fun w' => LVar w' g50 200 0 1)) (by kernel_rfl) ?_ (fun hHeld => ?_)
  · exact ⟨L.at_⟩
  have Bb : Below w.heap.size w w.drew := (Below.refl _ w).drew
  clear hHeld
  have L0 := L.later Bb
  have hT0 := hT.below Bb
  have hg2 := lt_of_at L.at_
  clear L hT
  generalize w.drew = V at *
  have hHeld := L0
  refine Node.tk 0 (lk 200 0 1) rfl (fun _ hSw => run_ld hSw rfl rfl) ?_
  simp only [zA, zS, zZ, Act.put, zP, zQ, zR]
  clear hHeld
  refine wpAnyH_ready (rs := [1, 7, 8]) (by kernel_rfl) (by simp) ?_
  refine AllReadyH.cons rfl (fun K hK => ?_) (AllReadyH.cons rfl (fun K hK => ?_) (AllReadyH.cons rfl (fun K hK => ?_) AllReadyH.nil))
  · skip
    refine Node.wp_fn 31 [.const (.int .u8 7)] _ [.int .u8 7] (by rfl) (by rfl) (enters Tryd.func31 (by kernel_rfl) rfl) (panel_c 7#8 7 rfl X HX.out V) ?_
    rintro e V' ⟨b, Ap, cp, rfl, hs⟩
    refine ⟨_, rfl, ?_⟩
    replace Bb := below_step Bb b
    replace L0 := L0.later b
    replace hT0 := hT0.below b
    try replace N5 := N5.later b
    try replace N6 := below_at b N6 (lt_of_at N6)
    clear b
    generalize V' = V at *
    refine hK.out _ _ L0 (fun _ => ?_)
    clear hK K
    try simp only [zA, zS, zZ, Act.put, zP, zQ, zR]
    refine wpAnyH_ready (rs := [2, 7, 8]) (by kernel_rfl) (by simp) ?_
    refine AllReadyH.cons rfl (fun K hK => ?_) (AllReadyH.cons rfl (fun K hK => ?_) (AllReadyH.cons rfl (fun K hK => ?_) AllReadyH.nil))
    · skip
      refine Node.wp_fn 11 [.tmp 43, .const (.int .u8 2), .tmp 44] _ [lkv (200, 0, 1), .int .u8 2, .slice Ap X.length cp] (by rfl) (by rfl) (enters Tryd.func11 (by kernel_rfl) rfl) (Hear_v (200, 0, 1) 2 (.slice Ap X.length cp) X V _ HR.out hT0 hs HL.out) ?_
      rintro e V' ⟨A3, c3, rfl, b, hp, hq⟩
      clear hq
      refine ⟨_, rfl, ?_⟩
      replace Bb := below_step Bb b
      replace L0 := L0.later b
      replace hT0 := hT0.below b
      try replace N5 := N5.later b
      try replace N6 := below_at b N6 (lt_of_at N6)
      clear b hs
      generalize V' = V at *
      refine hK.out _ _ L0 (fun _ => ?_)
      clear hK K
      try simp only [zA, zS, zZ, Act.put, zP, zQ, zR]
      refine Node.tk 3 ?_ rfl ?_ ?_
      rotate_left
      · intro w hSw; (try dsimp only at hSw); go_simp; try with_reducible rfl
      simp only [zA, zS, zZ, Act.put, zP, zQ, zR]
      refine Node.tk 4 ?_ rfl ?_ ?_
      rotate_left
      · intro w hSw; (try dsimp only at hSw); go_simp; try with_reducible rfl
      simp only [zA, zS, zZ, Act.put, zP, zQ, zR]
      refine Node.tk 5 ?_ rfl ?_ ?_
      rotate_left
      · intro w hSw; (try dsimp only at hSw); go_simp; try with_reducible rfl
      simp only [zA, zS, zZ, Act.put, zP, zQ, zR]
      refine Node.tk 6 ?_ rfl ?_ ?_
      rotate_left
      · intro w hSw; (try dsimp only at hSw); go_simp; try with_reducible rfl
      simp only [zA, zS, zZ, Act.put, zP, zQ, zR]
      refine wpAnyH_ready (rs := [7, 8]) (by kernel_rfl) (by simp) ?_
      refine AllReadyH.cons rfl (fun K hK => ?_) (AllReadyH.cons rfl (fun K hK => ?_) AllReadyH.nil)
      · skip
        have N5 := LVar.new V 0 0 0
        have b := below_new V (.cells #[.int .i64 0, .int .i64 0, .int .i64 0] 31)
        refine Node.wp_new 31 (.agg #[.int .i64 0, .int .i64 0, .int .i64 0]) #[.int .i64 0, .int .i64 0, .int .i64 0] (by kernel_rfl) rfl (by rfl) ?_
        have n5 := Bb.size
        replace Bb := below_step Bb b
        replace L0 := L0.later b
        replace hT0 := hT0.below b
        try replace hs := hs.later b
        try replace hp := hp.later b
        try (have n56 := lt_of_at N6; replace N6 := below_at b N6 n56)
        clear b
        generalize V.heap.size = g5 at *
        generalize V.alloc (.cells #[.int .i64 0, .int .i64 0, .int .i64 0] 31) = V at *
        try replace n56 := Nat.ne_of_lt n56
        refine hK.out _ _ L0 (fun _ => ?_)
        clear hK K
        try simp only [zA, zS, zZ, Act.put, zP, zQ, zR]
        refine Node.on 8 rfl (fun K hK => ?_)
        have N6 := new_at (w := V) rfl (.cells #[.int .u8 0, .int .u8 0, .slice none 0 0] 41)
        have b := below_new V (.cells #[.int .u8 0, .int .u8 0, .slice none 0 0] 41)
        refine Node.wp_new 41 (.agg #[.int .u8 0, .int .u8 0, .slice none 0 0]) #[.int .u8 0, .int .u8 0, .slice none 0 0] (by kernel_rfl) rfl (by rfl) ?_
        have n6 := Bb.size
        replace Bb := below_step Bb b
        replace L0 := L0.later b
        replace hT0 := hT0.below b
        try replace hs := hs.later b
        try replace hp := hp.later b
        try (have n56 := lt_of_at N5.at_; replace N5 := N5.later b)
        clear b
        generalize V.heap.size = g6 at *
        generalize V.alloc (.cells #[.int .u8 0, .int .u8 0, .slice none 0 0] 41) = V at *
        try replace n56 := Ne.symm (Nat.ne_of_lt n56)
        refine hK.out _ _ L0 (fun _ => ?_)
        clear hK K
        try simp only [zA, zS, zZ, Act.put, zP, zQ, zR]
        refine Node.on 9 rfl (fun K hK => ?_)
        refine wp_st_lk N5 rfl rfl rfl rfl ?_
        have hn5 := lt_of_at N5.at_
        replace L0 := L0.far3 (g' := g5) (by omega) 7 0 1
        replace N6 := frame_far3 N6 (g' := g5) n56 7 0 1
        have N5' := N5.set3 7 0 1
        replace Bb := ((Bb.setCell (p := ⟨g5, 0, none⟩) n5 (.int .i64 7)).setCell (p := ⟨g5, 1, none⟩) n5 (.int .i64 0)).setCell (p := ⟨g5, 2, none⟩) n5 (.int .i64 1)
        replace hp : SliceAt (((V.setCell ⟨g5, 0, none⟩ (.int .i64 7)).setCell ⟨g5, 1, none⟩ (.int .i64 0)).setCell ⟨g5, 2, none⟩ (.int .i64 1)) 1 (.slice A3 f7.2.2.length c3) f7.2.2.length (u8s f7.2.2) := slice_zero hp rfl
        clear N5 hT0 hn5
        generalize ((V.setCell ⟨g5, 0, none⟩ (.int .i64 7)).setCell ⟨g5, 1, none⟩ (.int .i64 0)).setCell ⟨g5, 2, none⟩ (.int .i64 1) = V at *
        refine hK.out _ _ L0 (fun _ => ?_)
        clear hK K
        try simp only [zA, zS, zZ, Act.put, zP, zQ, zR]
        refine Node.on 10 rfl (fun K hK => ?_)
        refine wp_st_fr N6 rfl rfl rfl rfl ?_
        have F := FV.mk3 (f := f7) N6 hp rfl
        have hn6 := lt_of_at N6
        replace L0 := L0.at_
        replace L0 : LVar (((V.setCell ⟨g6, 0, none⟩ (.int .u8 (f7.1.toNat : Int))).setCell ⟨g6, 1, none⟩ (.int .u8 (f7.2.1.toNat : Int))).setCell ⟨g6, 2, none⟩ (.slice A3 f7.2.2.length c3)) g50 200 0 1 := ⟨frame_far3' L0 (by omega) _ _ _⟩
        replace N5' : LVar (((V.setCell ⟨g6, 0, none⟩ (.int .u8 (f7.1.toNat : Int))).setCell ⟨g6, 1, none⟩ (.int .u8 (f7.2.1.toNat : Int))).setCell ⟨g6, 2, none⟩ (.slice A3 f7.2.2.length c3)) g5 7 0 1 := ⟨frame_far3' N5'.at_ (Ne.symm n56) _ _ _⟩
        replace Bb := ((Bb.setCell (p := ⟨g6, 0, none⟩) n6 (.int .u8 (f7.1.toNat : Int))).setCell (p := ⟨g6, 1, none⟩) n6 (.int .u8 (f7.2.1.toNat : Int))).setCell (p := ⟨g6, 2, none⟩) n6 (.slice A3 f7.2.2.length c3)
        clear N6 hp
        generalize ((V.setCell ⟨g6, 0, none⟩ (.int .u8 (f7.1.toNat : Int))).setCell ⟨g6, 1, none⟩ (.int .u8 (f7.2.1.toNat : Int))).setCell ⟨g6, 2, none⟩ (.slice A3 f7.2.2.length c3) = V at *
        refine hK.out _ _ L0 (fun _ => ?_)
        clear hK K
        try simp only [zA, zS, zZ, Act.put, zP, zQ, zR]
        refine Node.tk 11 ?_ rfl ?_ ?_
        rotate_left
        · intro w hSw; (try dsimp only at hSw); go_simp; try with_reducible rfl
        simp only [zA, zS, zZ, Act.put, zP, zQ, zR]
        refine wpAnyH_done (by kernel_rfl) ?_ _
        exact ⟨g5, g6, ⟨rfl, rfl, by simp⟩, N5', F, Bb⟩
      · skip
        have N6 := new_at (w := V) rfl (.cells #[.int .u8 0, .int .u8 0, .slice none 0 0] 41)
        have b := below_new V (.cells #[.int .u8 0, .int .u8 0, .slice none 0 0] 41)
        refine Node.wp_new 41 (.agg #[.int .u8 0, .int .u8 0, .slice none 0 0]) #[.int .u8 0, .int .u8 0, .slice none 0 0] (by kernel_rfl) rfl (by rfl) ?_
        have n6 := Bb.size
        replace Bb := below_step Bb b
        replace L0 := L0.later b
        replace hT0 := hT0.below b
        try replace hs := hs.later b
        try replace hp := hp.later b
        try (have n56 := lt_of_at N5.at_; replace N5 := N5.later b)
        clear b
        generalize V.heap.size = g6 at *
        generalize V.alloc (.cells #[.int .u8 0, .int .u8 0, .slice none 0 0] 41) = V at *
        try replace n56 := Ne.symm (Nat.ne_of_lt n56)
        refine hK.out _ _ L0 (fun _ => ?_)
        clear hK K
        try simp only [zA, zS, zZ, Act.put, zP, zQ, zR]
        refine Node.on 7 rfl (fun K hK => ?_)
        have N5 := LVar.new V 0 0 0
        have b := below_new V (.cells #[.int .i64 0, .int .i64 0, .int .i64 0] 31)
        refine Node.wp_new 31 (.agg #[.int .i64 0, .int .i64 0, .int .i64 0]) #[.int .i64 0, .int .i64 0, .int .i64 0] (by kernel_rfl) rfl (by rfl) ?_
        have n5 := Bb.size
        replace Bb := below_step Bb b
        replace L0 := L0.later b
        replace hT0 := hT0.below b
        try replace hs := hs.later b
        try replace hp := hp.later b
        try (have n56 := lt_of_at N6; replace N6 := below_at b N6 n56)
        clear b
        generalize V.heap.size = g5 at *
        generalize V.alloc (.cells #[.int .i64 0, .int .i64 0, .int .i64 0] 31) = V at *
        try replace n56 := Nat.ne_of_lt n56
        refine hK.out _ _ L0 (fun _ => ?_)
        clear hK K
        try simp only [zA, zS, zZ, Act.put, zP, zQ, zR]
        refine Node.on 9 rfl (fun K hK => ?_)
        refine wp_st_lk N5 rfl rfl rfl rfl ?_
        have hn5 := lt_of_at N5.at_
        replace L0 := L0.far3 (g' := g5) (by omega) 7 0 1
        replace N6 := frame_far3 N6 (g' := g5) n56 7 0 1
        have N5' := N5.set3 7 0 1
        replace Bb := ((Bb.setCell (p := ⟨g5, 0, none⟩) n5 (.int .i64 7)).setCell (p := ⟨g5, 1, none⟩) n5 (.int .i64 0)).setCell (p := ⟨g5, 2, none⟩) n5 (.int .i64 1)
        replace hp : SliceAt (((V.setCell ⟨g5, 0, none⟩ (.int .i64 7)).setCell ⟨g5, 1, none⟩ (.int .i64 0)).setCell ⟨g5, 2, none⟩ (.int .i64 1)) 1 (.slice A3 f7.2.2.length c3) f7.2.2.length (u8s f7.2.2) := slice_zero hp rfl
        clear N5 hT0 hn5
        generalize ((V.setCell ⟨g5, 0, none⟩ (.int .i64 7)).setCell ⟨g5, 1, none⟩ (.int .i64 0)).setCell ⟨g5, 2, none⟩ (.int .i64 1) = V at *
        refine hK.out _ _ L0 (fun _ => ?_)
        clear hK K
        try simp only [zA, zS, zZ, Act.put, zP, zQ, zR]
        refine Node.on 10 rfl (fun K hK => ?_)
        refine wp_st_fr N6 rfl rfl rfl rfl ?_
        have F := FV.mk3 (f := f7) N6 hp rfl
        have hn6 := lt_of_at N6
        replace L0 := L0.at_
        replace L0 : LVar (((V.setCell ⟨g6, 0, none⟩ (.int .u8 (f7.1.toNat : Int))).setCell ⟨g6, 1, none⟩ (.int .u8 (f7.2.1.toNat : Int))).setCell ⟨g6, 2, none⟩ (.slice A3 f7.2.2.length c3)) g50 200 0 1 := ⟨frame_far3' L0 (by omega) _ _ _⟩
        replace N5' : LVar (((V.setCell ⟨g6, 0, none⟩ (.int .u8 (f7.1.toNat : Int))).setCell ⟨g6, 1, none⟩ (.int .u8 (f7.2.1.toNat : Int))).setCell ⟨g6, 2, none⟩ (.slice A3 f7.2.2.length c3)) g5 7 0 1 := ⟨frame_far3' N5'.at_ (Ne.symm n56) _ _ _⟩
        replace Bb := ((Bb.setCell (p := ⟨g6, 0, none⟩) n6 (.int .u8 (f7.1.toNat : Int))).setCell (p := ⟨g6, 1, none⟩) n6 (.int .u8 (f7.2.1.toNat : Int))).setCell (p := ⟨g6, 2, none⟩) n6 (.slice A3 f7.2.2.length c3)
        clear N6 hp
        generalize ((V.setCell ⟨g6, 0, none⟩ (.int .u8 (f7.1.toNat : Int))).setCell ⟨g6, 1, none⟩ (.int .u8 (f7.2.1.toNat : Int))).setCell ⟨g6, 2, none⟩ (.slice A3 f7.2.2.length c3) = V at *
        refine hK.out _ _ L0 (fun _ => ?_)
        clear hK K
        try simp only [zA, zS, zZ, Act.put, zP, zQ, zR]
        refine Node.tk 11 ?_ rfl ?_ ?_
        rotate_left
        · intro w hSw; (try dsimp only at hSw); go_simp; try with_reducible rfl
        simp only [zA, zS, zZ, Act.put, zP, zQ, zR]
        refine wpAnyH_done (by kernel_rfl) ?_ _
        exact ⟨g5, g6, ⟨rfl, rfl, by simp⟩, N5', F, Bb⟩
    · skip
      have N5 := LVar.new V 0 0 0
      have b := below_new V (.cells #[.int .i64 0, .int .i64 0, .int .i64 0] 31)
      refine Node.wp_new 31 (.agg #[.int .i64 0, .int .i64 0, .int .i64 0]) #[.int .i64 0, .int .i64 0, .int .i64 0] (by kernel_rfl) rfl (by rfl) ?_
      have n5 := Bb.size
      replace Bb := below_step Bb b
      replace L0 := L0.later b
      replace hT0 := hT0.below b
      try replace hs := hs.later b
      try replace hp := hp.later b
      try (have n56 := lt_of_at N6; replace N6 := below_at b N6 n56)
      clear b
      generalize V.heap.size = g5 at *
      generalize V.alloc (.cells #[.int .i64 0, .int .i64 0, .int .i64 0] 31) = V at *
      try replace n56 := Nat.ne_of_lt n56
      refine hK.out _ _ L0 (fun _ => ?_)
      clear hK K
      try simp only [zA, zS, zZ, Act.put, zP, zQ, zR]
      refine wpAnyH_ready (rs := [2, 8]) (by kernel_rfl) (by simp) ?_
      refine AllReadyH.cons rfl (fun K hK => ?_) (AllReadyH.cons rfl (fun K hK => ?_) AllReadyH.nil)
      · skip
        refine Node.wp_fn 11 [.tmp 43, .const (.int .u8 2), .tmp 44] _ [lkv (200, 0, 1), .int .u8 2, .slice Ap X.length cp] (by rfl) (by rfl) (enters Tryd.func11 (by kernel_rfl) rfl) (Hear_v (200, 0, 1) 2 (.slice Ap X.length cp) X V _ HR.out hT0 hs HL.out) ?_
        rintro e V' ⟨A3, c3, rfl, b, hp, hq⟩
        clear hq
        refine ⟨_, rfl, ?_⟩
        replace Bb := below_step Bb b
        replace L0 := L0.later b
        replace hT0 := hT0.below b
        try replace N5 := N5.later b
        try replace N6 := below_at b N6 (lt_of_at N6)
        clear b hs
        generalize V' = V at *
        refine hK.out _ _ L0 (fun _ => ?_)
        clear hK K
        try simp only [zA, zS, zZ, Act.put, zP, zQ, zR]
        refine Node.tk 3 ?_ rfl ?_ ?_
        rotate_left
        · intro w hSw; (try dsimp only at hSw); go_simp; try with_reducible rfl
        simp only [zA, zS, zZ, Act.put, zP, zQ, zR]
        refine Node.tk 4 ?_ rfl ?_ ?_
        rotate_left
        · intro w hSw; (try dsimp only at hSw); go_simp; try with_reducible rfl
        simp only [zA, zS, zZ, Act.put, zP, zQ, zR]
        refine Node.tk 5 ?_ rfl ?_ ?_
        rotate_left
        · intro w hSw; (try dsimp only at hSw); go_simp; try with_reducible rfl
        simp only [zA, zS, zZ, Act.put, zP, zQ, zR]
        refine Node.tk 6 ?_ rfl ?_ ?_
        rotate_left
        · intro w hSw; (try dsimp only at hSw); go_simp; try with_reducible rfl
        simp only [zA, zS, zZ, Act.put, zP, zQ, zR]
        refine Node.on 8 rfl (fun K hK => ?_)
        have N6 := new_at (w := V) rfl (.cells #[.int .u8 0, .int .u8 0, .slice none 0 0] 41)
        have b := below_new V (.cells #[.int .u8 0, .int .u8 0, .slice none 0 0] 41)
        refine Node.wp_new 41 (.agg #[.int .u8 0, .int .u8 0, .slice none 0 0]) #[.int .u8 0, .int .u8 0, .slice none 0 0] (by kernel_rfl) rfl (by rfl) ?_
        have n6 := Bb.size
        replace Bb := below_step Bb b
        replace L0 := L0.later b
        replace hT0 := hT0.below b
        try replace hs := hs.later b
        try replace hp := hp.later b
        try (have n56 := lt_of_at N5.at_; replace N5 := N5.later b)
        clear b
        generalize V.heap.size = g6 at *
        generalize V.alloc (.cells #[.int .u8 0, .int .u8 0, .slice none 0 0] 41) = V at *
        try replace n56 := Ne.symm (Nat.ne_of_lt n56)
        refine hK.out _ _ L0 (fun _ => ?_)
        clear hK K
        try simp only [zA, zS, zZ, Act.put, zP, zQ, zR]
        refine Node.on 9 rfl (fun K hK => ?_)
        refine wp_st_lk N5 rfl rfl rfl rfl ?_
        have hn5 := lt_of_at N5.at_
        replace L0 := L0.far3 (g' := g5) (by omega) 7 0 1
        replace N6 := frame_far3 N6 (g' := g5) n56 7 0 1
        have N5' := N5.set3 7 0 1
        replace Bb := ((Bb.setCell (p := ⟨g5, 0, none⟩) n5 (.int .i64 7)).setCell (p := ⟨g5, 1, none⟩) n5 (.int .i64 0)).setCell (p := ⟨g5, 2, none⟩) n5 (.int .i64 1)
        replace hp : SliceAt (((V.setCell ⟨g5, 0, none⟩ (.int .i64 7)).setCell ⟨g5, 1, none⟩ (.int .i64 0)).setCell ⟨g5, 2, none⟩ (.int .i64 1)) 1 (.slice A3 f7.2.2.length c3) f7.2.2.length (u8s f7.2.2) := slice_zero hp rfl
        clear N5 hT0 hn5
        generalize ((V.setCell ⟨g5, 0, none⟩ (.int .i64 7)).setCell ⟨g5, 1, none⟩ (.int .i64 0)).setCell ⟨g5, 2, none⟩ (.int .i64 1) = V at *
        refine hK.out _ _ L0 (fun _ => ?_)
        clear hK K
        try simp only [zA, zS, zZ, Act.put, zP, zQ, zR]
        refine Node.on 10 rfl (fun K hK => ?_)
        refine wp_st_fr N6 rfl rfl rfl rfl ?_
        have F := FV.mk3 (f := f7) N6 hp rfl
        have hn6 := lt_of_at N6
        replace L0 := L0.at_
        replace L0 : LVar (((V.setCell ⟨g6, 0, none⟩ (.int .u8 (f7.1.toNat : Int))).setCell ⟨g6, 1, none⟩ (.int .u8 (f7.2.1.toNat : Int))).setCell ⟨g6, 2, none⟩ (.slice A3 f7.2.2.length c3)) g50 200 0 1 := ⟨frame_far3' L0 (by omega) _ _ _⟩
        replace N5' : LVar (((V.setCell ⟨g6, 0, none⟩ (.int .u8 (f7.1.toNat : Int))).setCell ⟨g6, 1, none⟩ (.int .u8 (f7.2.1.toNat : Int))).setCell ⟨g6, 2, none⟩ (.slice A3 f7.2.2.length c3)) g5 7 0 1 := ⟨frame_far3' N5'.at_ (Ne.symm n56) _ _ _⟩
        replace Bb := ((Bb.setCell (p := ⟨g6, 0, none⟩) n6 (.int .u8 (f7.1.toNat : Int))).setCell (p := ⟨g6, 1, none⟩) n6 (.int .u8 (f7.2.1.toNat : Int))).setCell (p := ⟨g6, 2, none⟩) n6 (.slice A3 f7.2.2.length c3)
        clear N6 hp
        generalize ((V.setCell ⟨g6, 0, none⟩ (.int .u8 (f7.1.toNat : Int))).setCell ⟨g6, 1, none⟩ (.int .u8 (f7.2.1.toNat : Int))).setCell ⟨g6, 2, none⟩ (.slice A3 f7.2.2.length c3) = V at *
        refine hK.out _ _ L0 (fun _ => ?_)
        clear hK K
        try simp only [zA, zS, zZ, Act.put, zP, zQ, zR]
        refine Node.tk 11 ?_ rfl ?_ ?_
        rotate_left
        · intro w hSw; (try dsimp only at hSw); go_simp; try with_reducible rfl
        simp only [zA, zS, zZ, Act.put, zP, zQ, zR]
        refine wpAnyH_done (by kernel_rfl) ?_ _
        exact ⟨g5, g6, ⟨rfl, rfl, by simp⟩, N5', F, Bb⟩
      · skip
        have N6 := new_at (w := V) rfl (.cells #[.int .u8 0, .int .u8 0, .slice none 0 0] 41)
        have b := below_new V (.cells #[.int .u8 0, .int .u8 0, .slice none 0 0] 41)
        refine Node.wp_new 41 (.agg #[.int .u8 0, .int .u8 0, .slice none 0 0]) #[.int .u8 0, .int .u8 0, .slice none 0 0] (by kernel_rfl) rfl (by rfl) ?_
        have n6 := Bb.size
        replace Bb := below_step Bb b
        replace L0 := L0.later b
        replace hT0 := hT0.below b
        try replace hs := hs.later b
        try replace hp := hp.later b
        try (have n56 := lt_of_at N5.at_; replace N5 := N5.later b)
        clear b
        generalize V.heap.size = g6 at *
        generalize V.alloc (.cells #[.int .u8 0, .int .u8 0, .slice none 0 0] 41) = V at *
        try replace n56 := Ne.symm (Nat.ne_of_lt n56)
        refine hK.out _ _ L0 (fun _ => ?_)
        clear hK K
        try simp only [zA, zS, zZ, Act.put, zP, zQ, zR]
        refine Node.on 2 rfl (fun K hK => ?_)
        refine Node.wp_fn 11 [.tmp 43, .const (.int .u8 2), .tmp 44] _ [lkv (200, 0, 1), .int .u8 2, .slice Ap X.length cp] (by rfl) (by rfl) (enters Tryd.func11 (by kernel_rfl) rfl) (Hear_v (200, 0, 1) 2 (.slice Ap X.length cp) X V _ HR.out hT0 hs HL.out) ?_
        rintro e V' ⟨A3, c3, rfl, b, hp, hq⟩
        clear hq
        refine ⟨_, rfl, ?_⟩
        replace Bb := below_step Bb b
        replace L0 := L0.later b
        replace hT0 := hT0.below b
        try replace N5 := N5.later b
        try replace N6 := below_at b N6 (lt_of_at N6)
        clear b hs
        generalize V' = V at *
        refine hK.out _ _ L0 (fun _ => ?_)
        clear hK K
        try simp only [zA, zS, zZ, Act.put, zP, zQ, zR]
        refine Node.tk 3 ?_ rfl ?_ ?_
        rotate_left
        · intro w hSw; (try dsimp only at hSw); go_simp; try with_reducible rfl
        simp only [zA, zS, zZ, Act.put, zP, zQ, zR]
        refine Node.tk 4 ?_ rfl ?_ ?_
        rotate_left
        · intro w hSw; (try dsimp only at hSw); go_simp; try with_reducible rfl
        simp only [zA, zS, zZ, Act.put, zP, zQ, zR]
        refine Node.tk 5 ?_ rfl ?_ ?_
        rotate_left
        · intro w hSw; (try dsimp only at hSw); go_simp; try with_reducible rfl
        simp only [zA, zS, zZ, Act.put, zP, zQ, zR]
        refine Node.tk 6 ?_ rfl ?_ ?_
        rotate_left
        · intro w hSw; (try dsimp only at hSw); go_simp; try with_reducible rfl
        simp only [zA, zS, zZ, Act.put, zP, zQ, zR]
        refine Node.on 9 rfl (fun K hK => ?_)
        refine wp_st_lk N5 rfl rfl rfl rfl ?_
        have hn5 := lt_of_at N5.at_
        replace L0 := L0.far3 (g' := g5) (by omega) 7 0 1
        replace N6 := frame_far3 N6 (g' := g5) n56 7 0 1
        have N5' := N5.set3 7 0 1
        replace Bb := ((Bb.setCell (p := ⟨g5, 0, none⟩) n5 (.int .i64 7)).setCell (p := ⟨g5, 1, none⟩) n5 (.int .i64 0)).setCell (p := ⟨g5, 2, none⟩) n5 (.int .i64 1)
        replace hp : SliceAt (((V.setCell ⟨g5, 0, none⟩ (.int .i64 7)).setCell ⟨g5, 1, none⟩ (.int .i64 0)).setCell ⟨g5, 2, none⟩ (.int .i64 1)) 1 (.slice A3 f7.2.2.length c3) f7.2.2.length (u8s f7.2.2) := slice_zero hp rfl
        clear N5 hT0 hn5
        generalize ((V.setCell ⟨g5, 0, none⟩ (.int .i64 7)).setCell ⟨g5, 1, none⟩ (.int .i64 0)).setCell ⟨g5, 2, none⟩ (.int .i64 1) = V at *
        refine hK.out _ _ L0 (fun _ => ?_)
        clear hK K
        try simp only [zA, zS, zZ, Act.put, zP, zQ, zR]
        refine Node.on 10 rfl (fun K hK => ?_)
        refine wp_st_fr N6 rfl rfl rfl rfl ?_
        have F := FV.mk3 (f := f7) N6 hp rfl
        have hn6 := lt_of_at N6
        replace L0 := L0.at_
        replace L0 : LVar (((V.setCell ⟨g6, 0, none⟩ (.int .u8 (f7.1.toNat : Int))).setCell ⟨g6, 1, none⟩ (.int .u8 (f7.2.1.toNat : Int))).setCell ⟨g6, 2, none⟩ (.slice A3 f7.2.2.length c3)) g50 200 0 1 := ⟨frame_far3' L0 (by omega) _ _ _⟩
        replace N5' : LVar (((V.setCell ⟨g6, 0, none⟩ (.int .u8 (f7.1.toNat : Int))).setCell ⟨g6, 1, none⟩ (.int .u8 (f7.2.1.toNat : Int))).setCell ⟨g6, 2, none⟩ (.slice A3 f7.2.2.length c3)) g5 7 0 1 := ⟨frame_far3' N5'.at_ (Ne.symm n56) _ _ _⟩
        replace Bb := ((Bb.setCell (p := ⟨g6, 0, none⟩) n6 (.int .u8 (f7.1.toNat : Int))).setCell (p := ⟨g6, 1, none⟩) n6 (.int .u8 (f7.2.1.toNat : Int))).setCell (p := ⟨g6, 2, none⟩) n6 (.slice A3 f7.2.2.length c3)
        clear N6 hp
        generalize ((V.setCell ⟨g6, 0, none⟩ (.int .u8 (f7.1.toNat : Int))).setCell ⟨g6, 1, none⟩ (.int .u8 (f7.2.1.toNat : Int))).setCell ⟨g6, 2, none⟩ (.slice A3 f7.2.2.length c3) = V at *
        refine hK.out _ _ L0 (fun _ => ?_)
        clear hK K
        try simp only [zA, zS, zZ, Act.put, zP, zQ, zR]
        refine Node.tk 11 ?_ rfl ?_ ?_
        rotate_left
        · intro w hSw; (try dsimp only at hSw); go_simp; try with_reducible rfl
        simp only [zA, zS, zZ, Act.put, zP, zQ, zR]
        refine wpAnyH_done (by kernel_rfl) ?_ _
        exact ⟨g5, g6, ⟨rfl, rfl, by simp⟩, N5', F, Bb⟩
    · skip
      have N6 := new_at (w := V) rfl (.cells #[.int .u8 0, .int .u8 0, .slice none 0 0] 41)
      have b := below_new V (.cells #[.int .u8 0, .int .u8 0, .slice none 0 0] 41)
      refine Node.wp_new 41 (.agg #[.int .u8 0, .int .u8 0, .slice none 0 0]) #[.int .u8 0, .int .u8 0, .slice none 0 0] (by kernel_rfl) rfl (by rfl) ?_
      have n6 := Bb.size
      replace Bb := below_step Bb b
      replace L0 := L0.later b
      replace hT0 := hT0.below b
      try replace hs := hs.later b
      try replace hp := hp.later b
      try (have n56 := lt_of_at N5.at_; replace N5 := N5.later b)
      clear b
      generalize V.heap.size = g6 at *
      generalize V.alloc (.cells #[.int .u8 0, .int .u8 0, .slice none 0 0] 41) = V at *
      try replace n56 := Ne.symm (Nat.ne_of_lt n56)
      refine hK.out _ _ L0 (fun _ => ?_)
      clear hK K
      try simp only [zA, zS, zZ, Act.put, zP, zQ, zR]
      refine wpAnyH_ready (rs := [2, 7]) (by kernel_rfl) (by simp) ?_
      refine AllReadyH.cons rfl (fun K hK => ?_) (AllReadyH.cons rfl (fun K hK => ?_) AllReadyH.nil)
      · skip
        refine Node.wp_fn 11 [.tmp 43, .const (.int .u8 2), .tmp 44] _ [lkv (200, 0, 1), .int .u8 2, .slice Ap X.length cp] (by rfl) (by rfl) (enters Tryd.func11 (by kernel_rfl) rfl) (Hear_v (200, 0, 1) 2 (.slice Ap X.length cp) X V _ HR.out hT0 hs HL.out) ?_
        rintro e V' ⟨A3, c3, rfl, b, hp, hq⟩
        clear hq
        refine ⟨_, rfl, ?_⟩
        replace Bb := below_step Bb b
        replace L0 := L0.later b
        replace hT0 := hT0.below b
        try replace N5 := N5.later b
        try replace N6 := below_at b N6 (lt_of_at N6)
        clear b hs
        generalize V' = V at *
        refine hK.out _ _ L0 (fun _ => ?_)
        clear hK K
        try simp only [zA, zS, zZ, Act.put, zP, zQ, zR]
        refine Node.tk 3 ?_ rfl ?_ ?_
        rotate_left
        · intro w hSw; (try dsimp only at hSw); go_simp; try with_reducible rfl
        simp only [zA, zS, zZ, Act.put, zP, zQ, zR]
        refine Node.tk 4 ?_ rfl ?_ ?_
        rotate_left
        · intro w hSw; (try dsimp only at hSw); go_simp; try with_reducible rfl
        simp only [zA, zS, zZ, Act.put, zP, zQ, zR]
        refine Node.tk 5 ?_ rfl ?_ ?_
        rotate_left
        · intro w hSw; (try dsimp only at hSw); go_simp; try with_reducible rfl
        simp only [zA, zS, zZ, Act.put, zP, zQ, zR]
        refine Node.tk 6 ?_ rfl ?_ ?_
        rotate_left
        · intro w hSw; (try dsimp only at hSw); go_simp; try with_reducible rfl
        simp only [zA, zS, zZ, Act.put, zP, zQ, zR]
        refine Node.on 7 rfl (fun K hK => ?_)
        have N5 := LVar.new V 0 0 0
        have b := below_new V (.cells #[.int .i64 0, .int .i64 0, .int .i64 0] 31)
        refine Node.wp_new 31 (.agg #[.int .i64 0, .int .i64 0, .int .i64 0]) #[.int .i64 0, .int .i64 0, .int .i64 0] (by kernel_rfl) rfl (by rfl) ?_
        have n5 := Bb.size
        replace Bb := below_step Bb b
        replace L0 := L0.later b
        replace hT0 := hT0.below b
        try replace hs := hs.later b
        try replace hp := hp.later b
        try (have n56 := lt_of_at N6; replace N6 := below_at b N6 n56)
        clear b
        generalize V.heap.size = g5 at *
        generalize V.alloc (.cells #[.int .i64 0, .int .i64 0, .int .i64 0] 31) = V at *
        try replace n56 := Nat.ne_of_lt n56
        refine hK.out _ _ L0 (fun _ => ?_)
        clear hK K
        try simp only [zA, zS, zZ, Act.put, zP, zQ, zR]
        refine Node.on 9 rfl (fun K hK => ?_)
        refine wp_st_lk N5 rfl rfl rfl rfl ?_
        have hn5 := lt_of_at N5.at_
        replace L0 := L0.far3 (g' := g5) (by omega) 7 0 1
        replace N6 := frame_far3 N6 (g' := g5) n56 7 0 1
        have N5' := N5.set3 7 0 1
        replace Bb := ((Bb.setCell (p := ⟨g5, 0, none⟩) n5 (.int .i64 7)).setCell (p := ⟨g5, 1, none⟩) n5 (.int .i64 0)).setCell (p := ⟨g5, 2, none⟩) n5 (.int .i64 1)
        replace hp : SliceAt (((V.setCell ⟨g5, 0, none⟩ (.int .i64 7)).setCell ⟨g5, 1, none⟩ (.int .i64 0)).setCell ⟨g5, 2, none⟩ (.int .i64 1)) 1 (.slice A3 f7.2.2.length c3) f7.2.2.length (u8s f7.2.2) := slice_zero hp rfl
        clear N5 hT0 hn5
        generalize ((V.setCell ⟨g5, 0, none⟩ (.int .i64 7)).setCell ⟨g5, 1, none⟩ (.int .i64 0)).setCell ⟨g5, 2, none⟩ (.int .i64 1) = V at *
        refine hK.out _ _ L0 (fun _ => ?_)
        clear hK K
        try simp only [zA, zS, zZ, Act.put, zP, zQ, zR]
        refine Node.on 10 rfl (fun K hK => ?_)
        refine wp_st_fr N6 rfl rfl rfl rfl ?_
        have F := FV.mk3 (f := f7) N6 hp rfl
        have hn6 := lt_of_at N6
        replace L0 := L0.at_
        replace L0 : LVar (((V.setCell ⟨g6, 0, none⟩ (.int .u8 (f7.1.toNat : Int))).setCell ⟨g6, 1, none⟩ (.int .u8 (f7.2.1.toNat : Int))).setCell ⟨g6, 2, none⟩ (.slice A3 f7.2.2.length c3)) g50 200 0 1 := ⟨frame_far3' L0 (by omega) _ _ _⟩
        replace N5' : LVar (((V.setCell ⟨g6, 0, none⟩ (.int .u8 (f7.1.toNat : Int))).setCell ⟨g6, 1, none⟩ (.int .u8 (f7.2.1.toNat : Int))).setCell ⟨g6, 2, none⟩ (.slice A3 f7.2.2.length c3)) g5 7 0 1 := ⟨frame_far3' N5'.at_ (Ne.symm n56) _ _ _⟩
        replace Bb := ((Bb.setCell (p := ⟨g6, 0, none⟩) n6 (.int .u8 (f7.1.toNat : Int))).setCell (p := ⟨g6, 1, none⟩) n6 (.int .u8 (f7.2.1.toNat : Int))).setCell (p := ⟨g6, 2, none⟩) n6 (.slice A3 f7.2.2.length c3)
        clear N6 hp
        generalize ((V.setCell ⟨g6, 0, none⟩ (.int .u8 (f7.1.toNat : Int))).setCell ⟨g6, 1, none⟩ (.int .u8 (f7.2.1.toNat : Int))).setCell ⟨g6, 2, none⟩ (.slice A3 f7.2.2.length c3) = V at *
        refine hK.out _ _ L0 (fun _ => ?_)
        clear hK K
        try simp only [zA, zS, zZ, Act.put, zP, zQ, zR]
        refine Node.tk 11 ?_ rfl ?_ ?_
        rotate_left
        · intro w hSw; (try dsimp only at hSw); go_simp; try with_reducible rfl
        simp only [zA, zS, zZ, Act.put, zP, zQ, zR]
        refine wpAnyH_done (by kernel_rfl) ?_ _
        exact ⟨g5, g6, ⟨rfl, rfl, by simp⟩, N5', F, Bb⟩
      · skip
        have N5 := LVar.new V 0 0 0
        have b := below_new V (.cells #[.int .i64 0, .int .i64 0, .int .i64 0] 31)
        refine Node.wp_new 31 (.agg #[.int .i64 0, .int .i64 0, .int .i64 0]) #[.int .i64 0, .int .i64 0, .int .i64 0] (by kernel_rfl) rfl (by rfl) ?_
        have n5 := Bb.size
        replace Bb := below_step Bb b
        replace L0 := L0.later b
        replace hT0 := hT0.below b
        try replace hs := hs.later b
        try replace hp := hp.later b
        try (have n56 := lt_of_at N6; replace N6 := below_at b N6 n56)
        clear b
        generalize V.heap.size = g5 at *
        generalize V.alloc (.cells #[.int .i64 0, .int .i64 0, .int .i64 0] 31) = V at *
        try replace n56 := Nat.ne_of_lt n56
        refine hK.out _ _ L0 (fun _ => ?_)
        clear hK K
        try simp only [zA, zS, zZ, Act.put, zP, zQ, zR]
        refine Node.on 2 rfl (fun K hK => ?_)
        refine Node.wp_fn 11 [.tmp 43, .const (.int .u8 2), .tmp 44] _ [lkv (200, 0, 1), .int .u8 2, .slice Ap X.length cp] (by rfl) (by rfl) (enters Tryd.func11 (by kernel_rfl) rfl) (Hear_v (200, 0, 1) 2 (.slice Ap X.length cp) X V _ HR.out hT0 hs HL.out) ?_
        rintro e V' ⟨A3, c3, rfl, b, hp, hq⟩
        clear hq
        refine ⟨_, rfl, ?_⟩
        replace Bb := below_step Bb b
        replace L0 := L0.later b
        replace hT0 := hT0.below b
        try replace N5 := N5.later b
        try replace N6 := below_at b N6 (lt_of_at N6)
        clear b hs
        generalize V' = V at *
        refine hK.out _ _ L0 (fun _ => ?_)
        clear hK K
        try simp only [zA, zS, zZ, Act.put, zP, zQ, zR]
        refine Node.tk 3 ?_ rfl ?_ ?_
        rotate_left
        · intro w hSw; (try dsimp only at hSw); go_simp; try with_reducible rfl
        simp only [zA, zS, zZ, Act.put, zP, zQ, zR]
        refine Node.tk 4 ?_ rfl ?_ ?_
        rotate_left
        · intro w hSw; (try dsimp only at hSw); go_simp; try with_reducible rfl
        simp only [zA, zS, zZ, Act.put, zP, zQ, zR]
        refine Node.tk 5 ?_ rfl ?_ ?_
        rotate_left
        · intro w hSw; (try dsimp only at hSw); go_simp; try with_reducible rfl
        simp only [zA, zS, zZ, Act.put, zP, zQ, zR]
        refine Node.tk 6 ?_ rfl ?_ ?_
        rotate_left
        · intro w hSw; (try dsimp only at hSw); go_simp; try with_reducible rfl
        simp only [zA, zS, zZ, Act.put, zP, zQ, zR]
        refine Node.on 9 rfl (fun K hK => ?_)
        refine wp_st_lk N5 rfl rfl rfl rfl ?_
        have hn5 := lt_of_at N5.at_
        replace L0 := L0.far3 (g' := g5) (by omega) 7 0 1
        replace N6 := frame_far3 N6 (g' := g5) n56 7 0 1
        have N5' := N5.set3 7 0 1
        replace Bb := ((Bb.setCell (p := ⟨g5, 0, none⟩) n5 (.int .i64 7)).setCell (p := ⟨g5, 1, none⟩) n5 (.int .i64 0)).setCell (p := ⟨g5, 2, none⟩) n5 (.int .i64 1)
        replace hp : SliceAt (((V.setCell ⟨g5, 0, none⟩ (.int .i64 7)).setCell ⟨g5, 1, none⟩ (.int .i64 0)).setCell ⟨g5, 2, none⟩ (.int .i64 1)) 1 (.slice A3 f7.2.2.length c3) f7.2.2.length (u8s f7.2.2) := slice_zero hp rfl
        clear N5 hT0 hn5
        generalize ((V.setCell ⟨g5, 0, none⟩ (.int .i64 7)).setCell ⟨g5, 1, none⟩ (.int .i64 0)).setCell ⟨g5, 2, none⟩ (.int .i64 1) = V at *
        refine hK.out _ _ L0 (fun _ => ?_)
        clear hK K
        try simp only [zA, zS, zZ, Act.put, zP, zQ, zR]
        refine Node.on 10 rfl (fun K hK => ?_)
        refine wp_st_fr N6 rfl rfl rfl rfl ?_
        have F := FV.mk3 (f := f7) N6 hp rfl
        have hn6 := lt_of_at N6
        replace L0 := L0.at_
        replace L0 : LVar (((V.setCell ⟨g6, 0, none⟩ (.int .u8 (f7.1.toNat : Int))).setCell ⟨g6, 1, none⟩ (.int .u8 (f7.2.1.toNat : Int))).setCell ⟨g6, 2, none⟩ (.slice A3 f7.2.2.length c3)) g50 200 0 1 := ⟨frame_far3' L0 (by omega) _ _ _⟩
        replace N5' : LVar (((V.setCell ⟨g6, 0, none⟩ (.int .u8 (f7.1.toNat : Int))).setCell ⟨g6, 1, none⟩ (.int .u8 (f7.2.1.toNat : Int))).setCell ⟨g6, 2, none⟩ (.slice A3 f7.2.2.length c3)) g5 7 0 1 := ⟨frame_far3' N5'.at_ (Ne.symm n56) _ _ _⟩
        replace Bb := ((Bb.setCell (p := ⟨g6, 0, none⟩) n6 (.int .u8 (f7.1.toNat : Int))).setCell (p := ⟨g6, 1, none⟩) n6 (.int .u8 (f7.2.1.toNat : Int))).setCell (p := ⟨g6, 2, none⟩) n6 (.slice A3 f7.2.2.length c3)
        clear N6 hp
        generalize ((V.setCell ⟨g6, 0, none⟩ (.int .u8 (f7.1.toNat : Int))).setCell ⟨g6, 1, none⟩ (.int .u8 (f7.2.1.toNat : Int))).setCell ⟨g6, 2, none⟩ (.slice A3 f7.2.2.length c3) = V at *
        refine hK.out _ _ L0 (fun _ => ?_)
        clear hK K
        try simp only [zA, zS, zZ, Act.put, zP, zQ, zR]
        refine Node.tk 11 ?_ rfl ?_ ?_
        rotate_left
        · intro w hSw; (try dsimp only at hSw); go_simp; try with_reducible rfl
        simp only [zA, zS, zZ, Act.put, zP, zQ, zR]
        refine wpAnyH_done (by kernel_rfl) ?_ _
        exact ⟨g5, g6, ⟨rfl, rfl, by simp⟩, N5', F, Bb⟩
  · skip
    have N5 := LVar.new V 0 0 0
    have b := below_new V (.cells #[.int .i64 0, .int .i64 0, .int .i64 0] 31)
    refine Node.wp_new 31 (.agg #[.int .i64 0, .int .i64 0, .int .i64 0]) #[.int .i64 0, .int .i64 0, .int .i64 0] (by kernel_rfl) rfl (by rfl) ?_
    have n5 := Bb.size
    replace Bb := below_step Bb b
    replace L0 := L0.later b
    replace hT0 := hT0.below b
    try replace hs := hs.later b
    try replace hp := hp.later b
    try (have n56 := lt_of_at N6; replace N6 := below_at b N6 n56)
    clear b
    generalize V.heap.size = g5 at *
    generalize V.alloc (.cells #[.int .i64 0, .int .i64 0, .int .i64 0] 31) = V at *
    try replace n56 := Nat.ne_of_lt n56
    refine hK.out _ _ L0 (fun _ => ?_)
    clear hK K
    try simp only [zA, zS, zZ, Act.put, zP, zQ, zR]
    refine wpAnyH_ready (rs := [1, 8]) (by kernel_rfl) (by simp) ?_
    refine AllReadyH.cons rfl (fun K hK => ?_) (AllReadyH.cons rfl (fun K hK => ?_) AllReadyH.nil)
    · skip
      refine Node.wp_fn 31 [.const (.int .u8 7)] _ [.int .u8 7] (by rfl) (by rfl) (enters Tryd.func31 (by kernel_rfl) rfl) (panel_c 7#8 7 rfl X HX.out V) ?_
      rintro e V' ⟨b, Ap, cp, rfl, hs⟩
      refine ⟨_, rfl, ?_⟩
      replace Bb := below_step Bb b
      replace L0 := L0.later b
      replace hT0 := hT0.below b
      try replace N5 := N5.later b
      try replace N6 := below_at b N6 (lt_of_at N6)
      clear b
      generalize V' = V at *
      refine hK.out _ _ L0 (fun _ => ?_)
      clear hK K
      try simp only [zA, zS, zZ, Act.put, zP, zQ, zR]
      refine wpAnyH_ready (rs := [2, 8]) (by kernel_rfl) (by simp) ?_
      refine AllReadyH.cons rfl (fun K hK => ?_) (AllReadyH.cons rfl (fun K hK => ?_) AllReadyH.nil)
      · skip
        refine Node.wp_fn 11 [.tmp 43, .const (.int .u8 2), .tmp 44] _ [lkv (200, 0, 1), .int .u8 2, .slice Ap X.length cp] (by rfl) (by rfl) (enters Tryd.func11 (by kernel_rfl) rfl) (Hear_v (200, 0, 1) 2 (.slice Ap X.length cp) X V _ HR.out hT0 hs HL.out) ?_
        rintro e V' ⟨A3, c3, rfl, b, hp, hq⟩
        clear hq
        refine ⟨_, rfl, ?_⟩
        replace Bb := below_step Bb b
        replace L0 := L0.later b
        replace hT0 := hT0.below b
        try replace N5 := N5.later b
        try replace N6 := below_at b N6 (lt_of_at N6)
        clear b hs
        generalize V' = V at *
        refine hK.out _ _ L0 (fun _ => ?_)
        clear hK K
        try simp only [zA, zS, zZ, Act.put, zP, zQ, zR]
        refine Node.tk 3 ?_ rfl ?_ ?_
        rotate_left
        · intro w hSw; (try dsimp only at hSw); go_simp; try with_reducible rfl
        simp only [zA, zS, zZ, Act.put, zP, zQ, zR]
        refine Node.tk 4 ?_ rfl ?_ ?_
        rotate_left
        · intro w hSw; (try dsimp only at hSw); go_simp; try with_reducible rfl
        simp only [zA, zS, zZ, Act.put, zP, zQ, zR]
        refine Node.tk 5 ?_ rfl ?_ ?_
        rotate_left
        · intro w hSw; (try dsimp only at hSw); go_simp; try with_reducible rfl
        simp only [zA, zS, zZ, Act.put, zP, zQ, zR]
        refine Node.tk 6 ?_ rfl ?_ ?_
        rotate_left
        · intro w hSw; (try dsimp only at hSw); go_simp; try with_reducible rfl
        simp only [zA, zS, zZ, Act.put, zP, zQ, zR]
        refine Node.on 8 rfl (fun K hK => ?_)
        have N6 := new_at (w := V) rfl (.cells #[.int .u8 0, .int .u8 0, .slice none 0 0] 41)
        have b := below_new V (.cells #[.int .u8 0, .int .u8 0, .slice none 0 0] 41)
        refine Node.wp_new 41 (.agg #[.int .u8 0, .int .u8 0, .slice none 0 0]) #[.int .u8 0, .int .u8 0, .slice none 0 0] (by kernel_rfl) rfl (by rfl) ?_
        have n6 := Bb.size
        replace Bb := below_step Bb b
        replace L0 := L0.later b
        replace hT0 := hT0.below b
        try replace hs := hs.later b
        try replace hp := hp.later b
        try (have n56 := lt_of_at N5.at_; replace N5 := N5.later b)
        clear b
        generalize V.heap.size = g6 at *
        generalize V.alloc (.cells #[.int .u8 0, .int .u8 0, .slice none 0 0] 41) = V at *
        try replace n56 := Ne.symm (Nat.ne_of_lt n56)
        refine hK.out _ _ L0 (fun _ => ?_)
        clear hK K
        try simp only [zA, zS, zZ, Act.put, zP, zQ, zR]
        refine Node.on 9 rfl (fun K hK => ?_)
        refine wp_st_lk N5 rfl rfl rfl rfl ?_
        have hn5 := lt_of_at N5.at_
        replace L0 := L0.far3 (g' := g5) (by omega) 7 0 1
        replace N6 := frame_far3 N6 (g' := g5) n56 7 0 1
        have N5' := N5.set3 7 0 1
        replace Bb := ((Bb.setCell (p := ⟨g5, 0, none⟩) n5 (.int .i64 7)).setCell (p := ⟨g5, 1, none⟩) n5 (.int .i64 0)).setCell (p := ⟨g5, 2, none⟩) n5 (.int .i64 1)
        replace hp : SliceAt (((V.setCell ⟨g5, 0, none⟩ (.int .i64 7)).setCell ⟨g5, 1, none⟩ (.int .i64 0)).setCell ⟨g5, 2, none⟩ (.int .i64 1)) 1 (.slice A3 f7.2.2.length c3) f7.2.2.length (u8s f7.2.2) := slice_zero hp rfl
        clear N5 hT0 hn5
        generalize ((V.setCell ⟨g5, 0, none⟩ (.int .i64 7)).setCell ⟨g5, 1, none⟩ (.int .i64 0)).setCell ⟨g5, 2, none⟩ (.int .i64 1) = V at *
        refine hK.out _ _ L0 (fun _ => ?_)
        clear hK K
        try simp only [zA, zS, zZ, Act.put, zP, zQ, zR]
        refine Node.on 10 rfl (fun K hK => ?_)
        refine wp_st_fr N6 rfl rfl rfl rfl ?_
        have F := FV.mk3 (f := f7) N6 hp rfl
        have hn6 := lt_of_at N6
        replace L0 := L0.at_
        replace L0 : LVar (((V.setCell ⟨g6, 0, none⟩ (.int .u8 (f7.1.toNat : Int))).setCell ⟨g6, 1, none⟩ (.int .u8 (f7.2.1.toNat : Int))).setCell ⟨g6, 2, none⟩ (.slice A3 f7.2.2.length c3)) g50 200 0 1 := ⟨frame_far3' L0 (by omega) _ _ _⟩
        replace N5' : LVar (((V.setCell ⟨g6, 0, none⟩ (.int .u8 (f7.1.toNat : Int))).setCell ⟨g6, 1, none⟩ (.int .u8 (f7.2.1.toNat : Int))).setCell ⟨g6, 2, none⟩ (.slice A3 f7.2.2.length c3)) g5 7 0 1 := ⟨frame_far3' N5'.at_ (Ne.symm n56) _ _ _⟩
        replace Bb := ((Bb.setCell (p := ⟨g6, 0, none⟩) n6 (.int .u8 (f7.1.toNat : Int))).setCell (p := ⟨g6, 1, none⟩) n6 (.int .u8 (f7.2.1.toNat : Int))).setCell (p := ⟨g6, 2, none⟩) n6 (.slice A3 f7.2.2.length c3)
        clear N6 hp
        generalize ((V.setCell ⟨g6, 0, none⟩ (.int .u8 (f7.1.toNat : Int))).setCell ⟨g6, 1, none⟩ (.int .u8 (f7.2.1.toNat : Int))).setCell ⟨g6, 2, none⟩ (.slice A3 f7.2.2.length c3) = V at *
        refine hK.out _ _ L0 (fun _ => ?_)
        clear hK K
        try simp only [zA, zS, zZ, Act.put, zP, zQ, zR]
        refine Node.tk 11 ?_ rfl ?_ ?_
        rotate_left
        · intro w hSw; (try dsimp only at hSw); go_simp; try with_reducible rfl
        simp only [zA, zS, zZ, Act.put, zP, zQ, zR]
        refine wpAnyH_done (by kernel_rfl) ?_ _
        exact ⟨g5, g6, ⟨rfl, rfl, by simp⟩, N5', F, Bb⟩
      · skip
        have N6 := new_at (w := V) rfl (.cells #[.int .u8 0, .int .u8 0, .slice none 0 0] 41)
        have b := below_new V (.cells #[.int .u8 0, .int .u8 0, .slice none 0 0] 41)
        refine Node.wp_new 41 (.agg #[.int .u8 0, .int .u8 0, .slice none 0 0]) #[.int .u8 0, .int .u8 0, .slice none 0 0] (by kernel_rfl) rfl (by rfl) ?_
        have n6 := Bb.size
        replace Bb := below_step Bb b
        replace L0 := L0.later b
        replace hT0 := hT0.below b
        try replace hs := hs.later b
        try replace hp := hp.later b
        try (have n56 := lt_of_at N5.at_; replace N5 := N5.later b)
        clear b
        generalize V.heap.size = g6 at *
        generalize V.alloc (.cells #[.int .u8 0, .int .u8 0, .slice none 0 0] 41) = V at *
        try replace n56 := Ne.symm (Nat.ne_of_lt n56)
        refine hK.out _ _ L0 (fun _ => ?_)
        clear hK K
        try simp only [zA, zS, zZ, Act.put, zP, zQ, zR]
        refine Node.on 2 rfl (fun K hK => ?_)
        refine Node.wp_fn 11 [.tmp 43, .const (.int .u8 2), .tmp 44] _ [lkv (200, 0, 1), .int .u8 2, .slice Ap X.length cp] (by rfl) (by rfl) (enters Tryd.func11 (by kernel_rfl) rfl) (Hear_v (200, 0, 1) 2 (.slice Ap X.length cp) X V _ HR.out hT0 hs HL.out) ?_
        rintro e V' ⟨A3, c3, rfl, b, hp, hq⟩
        clear hq
        refine ⟨_, rfl, ?_⟩
        replace Bb := below_step Bb b
        replace L0 := L0.later b
        replace hT0 := hT0.below b
        try replace N5 := N5.later b
        try replace N6 := below_at b N6 (lt_of_at N6)
        clear b hs
        generalize V' = V at *
        refine hK.out _ _ L0 (fun _ => ?_)
        clear hK K
        try simp only [zA, zS, zZ, Act.put, zP, zQ, zR]
        refine Node.tk 3 ?_ rfl ?_ ?_
        rotate_left
        · intro w hSw; (try dsimp only at hSw); go_simp; try with_reducible rfl
        simp only [zA, zS, zZ, Act.put, zP, zQ, zR]
        refine Node.tk 4 ?_ rfl ?_ ?_
        rotate_left
        · intro w hSw; (try dsimp only at hSw); go_simp; try with_reducible rfl
        simp only [zA, zS, zZ, Act.put, zP, zQ, zR]
        refine Node.tk 5 ?_ rfl ?_ ?_
        rotate_left
        · intro w hSw; (try dsimp only at hSw); go_simp; try with_reducible rfl
        simp only [zA, zS, zZ, Act.put, zP, zQ, zR]
        refine Node.tk 6 ?_ rfl ?_ ?_
        rotate_left
        · intro w hSw; (try dsimp only at hSw); go_simp; try with_reducible rfl
        simp only [zA, zS, zZ, Act.put, zP, zQ, zR]
        refine Node.on 9 rfl (fun K hK => ?_)
        refine wp_st_lk N5 rfl rfl rfl rfl ?_
        have hn5 := lt_of_at N5.at_
        replace L0 := L0.far3 (g' := g5) (by omega) 7 0 1
        replace N6 := frame_far3 N6 (g' := g5) n56 7 0 1
        have N5' := N5.set3 7 0 1
        replace Bb := ((Bb.setCell (p := ⟨g5, 0, none⟩) n5 (.int .i64 7)).setCell (p := ⟨g5, 1, none⟩) n5 (.int .i64 0)).setCell (p := ⟨g5, 2, none⟩) n5 (.int .i64 1)
        replace hp : SliceAt (((V.setCell ⟨g5, 0, none⟩ (.int .i64 7)).setCell ⟨g5, 1, none⟩ (.int .i64 0)).setCell ⟨g5, 2, none⟩ (.int .i64 1)) 1 (.slice A3 f7.2.2.length c3) f7.2.2.length (u8s f7.2.2) := slice_zero hp rfl
        clear N5 hT0 hn5
        generalize ((V.setCell ⟨g5, 0, none⟩ (.int .i64 7)).setCell ⟨g5, 1, none⟩ (.int .i64 0)).setCell ⟨g5, 2, none⟩ (.int .i64 1) = V at *
        refine hK.out _ _ L0 (fun _ => ?_)
        clear hK K
        try simp only [zA, zS, zZ, Act.put, zP, zQ, zR]
        refine Node.on 10 rfl (fun K hK => ?_)
        refine wp_st_fr N6 rfl rfl rfl rfl ?_
        have F := FV.mk3 (f := f7) N6 hp rfl
        have hn6 := lt_of_at N6
        replace L0 := L0.at_
        replace L0 : LVar (((V.setCell ⟨g6, 0, none⟩ (.int .u8 (f7.1.toNat : Int))).setCell ⟨g6, 1, none⟩ (.int .u8 (f7.2.1.toNat : Int))).setCell ⟨g6, 2, none⟩ (.slice A3 f7.2.2.length c3)) g50 200 0 1 := ⟨frame_far3' L0 (by omega) _ _ _⟩
        replace N5' : LVar (((V.setCell ⟨g6, 0, none⟩ (.int .u8 (f7.1.toNat : Int))).setCell ⟨g6, 1, none⟩ (.int .u8 (f7.2.1.toNat : Int))).setCell ⟨g6, 2, none⟩ (.slice A3 f7.2.2.length c3)) g5 7 0 1 := ⟨frame_far3' N5'.at_ (Ne.symm n56) _ _ _⟩
        replace Bb := ((Bb.setCell (p := ⟨g6, 0, none⟩) n6 (.int .u8 (f7.1.toNat : Int))).setCell (p := ⟨g6, 1, none⟩) n6 (.int .u8 (f7.2.1.toNat : Int))).setCell (p := ⟨g6, 2, none⟩) n6 (.slice A3 f7.2.2.length c3)
        clear N6 hp
        generalize ((V.setCell ⟨g6, 0, none⟩ (.int .u8 (f7.1.toNat : Int))).setCell ⟨g6, 1, none⟩ (.int .u8 (f7.2.1.toNat : Int))).setCell ⟨g6, 2, none⟩ (.slice A3 f7.2.2.length c3) = V at *
        refine hK.out _ _ L0 (fun _ => ?_)
        clear hK K
        try simp only [zA, zS, zZ, Act.put, zP, zQ, zR]
        refine Node.tk 11 ?_ rfl ?_ ?_
        rotate_left
        · intro w hSw; (try dsimp only at hSw); go_simp; try with_reducible rfl
        simp only [zA, zS, zZ, Act.put, zP, zQ, zR]
        refine wpAnyH_done (by kernel_rfl) ?_ _
        exact ⟨g5, g6, ⟨rfl, rfl, by simp⟩, N5', F, Bb⟩
    · skip
      have N6 := new_at (w := V) rfl (.cells #[.int .u8 0, .int .u8 0, .slice none 0 0] 41)
      have b := below_new V (.cells #[.int .u8 0, .int .u8 0, .slice none 0 0] 41)
      refine Node.wp_new 41 (.agg #[.int .u8 0, .int .u8 0, .slice none 0 0]) #[.int .u8 0, .int .u8 0, .slice none 0 0] (by kernel_rfl) rfl (by rfl) ?_
      have n6 := Bb.size
      replace Bb := below_step Bb b
      replace L0 := L0.later b
      replace hT0 := hT0.below b
      try replace hs := hs.later b
      try replace hp := hp.later b
      try (have n56 := lt_of_at N5.at_; replace N5 := N5.later b)
      clear b
      generalize V.heap.size = g6 at *
      generalize V.alloc (.cells #[.int .u8 0, .int .u8 0, .slice none 0 0] 41) = V at *
      try replace n56 := Ne.symm (Nat.ne_of_lt n56)
      refine hK.out _ _ L0 (fun _ => ?_)
      clear hK K
      try simp only [zA, zS, zZ, Act.put, zP, zQ, zR]
      refine Node.on 1 rfl (fun K hK => ?_)
      refine Node.wp_fn 31 [.const (.int .u8 7)] _ [.int .u8 7] (by rfl) (by rfl) (enters Tryd.func31 (by kernel_rfl) rfl) (panel_c 7#8 7 rfl X HX.out V) ?_
      rintro e V' ⟨b, Ap, cp, rfl, hs⟩
      refine ⟨_, rfl, ?_⟩
      replace Bb := below_step Bb b
      replace L0 := L0.later b
      replace hT0 := hT0.below b
      try replace N5 := N5.later b
      try replace N6 := below_at b N6 (lt_of_at N6)
      clear b
      generalize V' = V at *
      refine hK.out _ _ L0 (fun _ => ?_)
      clear hK K
      try simp only [zA, zS, zZ, Act.put, zP, zQ, zR]
      refine Node.on 2 rfl (fun K hK => ?_)
      refine Node.wp_fn 11 [.tmp 43, .const (.int .u8 2), .tmp 44] _ [lkv (200, 0, 1), .int .u8 2, .slice Ap X.length cp] (by rfl) (by rfl) (enters Tryd.func11 (by kernel_rfl) rfl) (Hear_v (200, 0, 1) 2 (.slice Ap X.length cp) X V _ HR.out hT0 hs HL.out) ?_
      rintro e V' ⟨A3, c3, rfl, b, hp, hq⟩
      clear hq
      refine ⟨_, rfl, ?_⟩
      replace Bb := below_step Bb b
      replace L0 := L0.later b
      replace hT0 := hT0.below b
      try replace N5 := N5.later b
      try replace N6 := below_at b N6 (lt_of_at N6)
      clear b hs
      generalize V' = V at *
      refine hK.out _ _ L0 (fun _ => ?_)
      clear hK K
      try simp only [zA, zS, zZ, Act.put, zP, zQ, zR]
      refine Node.tk 3 ?_ rfl ?_ ?_
      rotate_left
      · intro w hSw; (try dsimp only at hSw); go_simp; try with_reducible rfl
      simp only [zA, zS, zZ, Act.put, zP, zQ, zR]
      refine Node.tk 4 ?_ rfl ?_ ?_
      rotate_left
      · intro w hSw; (try dsimp only at hSw); go_simp; try with_reducible rfl
      simp only [zA, zS, zZ, Act.put, zP, zQ, zR]
      refine Node.tk 5 ?_ rfl ?_ ?_
      rotate_left
      · intro w hSw; (try dsimp only at hSw); go_simp; try with_reducible rfl
      simp only [zA, zS, zZ, Act.put, zP, zQ, zR]
      refine Node.tk 6 ?_ rfl ?_ ?_
      rotate_left
      · intro w hSw; (try dsimp only at hSw); go_simp; try with_reducible rfl
      simp only [zA, zS, zZ, Act.put, zP, zQ, zR]
      refine Node.on 9 rfl (fun K hK => ?_)
      refine wp_st_lk N5 rfl rfl rfl rfl ?_
      have hn5 := lt_of_at N5.at_
      replace L0 := L0.far3 (g' := g5) (by omega) 7 0 1
      replace N6 := frame_far3 N6 (g' := g5) n56 7 0 1
      have N5' := N5.set3 7 0 1
      replace Bb := ((Bb.setCell (p := ⟨g5, 0, none⟩) n5 (.int .i64 7)).setCell (p := ⟨g5, 1, none⟩) n5 (.int .i64 0)).setCell (p := ⟨g5, 2, none⟩) n5 (.int .i64 1)
      replace hp : SliceAt (((V.setCell ⟨g5, 0, none⟩ (.int .i64 7)).setCell ⟨g5, 1, none⟩ (.int .i64 0)).setCell ⟨g5, 2, none⟩ (.int .i64 1)) 1 (.slice A3 f7.2.2.length c3) f7.2.2.length (u8s f7.2.2) := slice_zero hp rfl
      clear N5 hT0 hn5
      generalize ((V.setCell ⟨g5, 0, none⟩ (.int .i64 7)).setCell ⟨g5, 1, none⟩ (.int .i64 0)).setCell ⟨g5, 2, none⟩ (.int .i64 1) = V at *
      refine hK.out _ _ L0 (fun _ => ?_)
      clear hK K
      try simp only [zA, zS, zZ, Act.put, zP, zQ, zR]
      refine Node.on 10 rfl (fun K hK => ?_)
      refine wp_st_fr N6 rfl rfl rfl rfl ?_
      have F := FV.mk3 (f := f7) N6 hp rfl
      have hn6 := lt_of_at N6
      replace L0 := L0.at_
      replace L0 : LVar (((V.setCell ⟨g6, 0, none⟩ (.int .u8 (f7.1.toNat : Int))).setCell ⟨g6, 1, none⟩ (.int .u8 (f7.2.1.toNat : Int))).setCell ⟨g6, 2, none⟩ (.slice A3 f7.2.2.length c3)) g50 200 0 1 := ⟨frame_far3' L0 (by omega) _ _ _⟩
      replace N5' : LVar (((V.setCell ⟨g6, 0, none⟩ (.int .u8 (f7.1.toNat : Int))).setCell ⟨g6, 1, none⟩ (.int .u8 (f7.2.1.toNat : Int))).setCell ⟨g6, 2, none⟩ (.slice A3 f7.2.2.length c3)) g5 7 0 1 := ⟨frame_far3' N5'.at_ (Ne.symm n56) _ _ _⟩
      replace Bb := ((Bb.setCell (p := ⟨g6, 0, none⟩) n6 (.int .u8 (f7.1.toNat : Int))).setCell (p := ⟨g6, 1, none⟩) n6 (.int .u8 (f7.2.1.toNat : Int))).setCell (p := ⟨g6, 2, none⟩) n6 (.slice A3 f7.2.2.length c3)
      clear N6 hp
      generalize ((V.setCell ⟨g6, 0, none⟩ (.int .u8 (f7.1.toNat : Int))).setCell ⟨g6, 1, none⟩ (.int .u8 (f7.2.1.toNat : Int))).setCell ⟨g6, 2, none⟩ (.slice A3 f7.2.2.length c3) = V at *
      refine hK.out _ _ L0 (fun _ => ?_)
      clear hK K
      try simp only [zA, zS, zZ, Act.put, zP, zQ, zR]
      refine Node.tk 11 ?_ rfl ?_ ?_
      rotate_left
      · intro w hSw; (try dsimp only at hSw); go_simp; try with_reducible rfl
      simp only [zA, zS, zZ, Act.put, zP, zQ, zR]
      refine wpAnyH_done (by kernel_rfl) ?_ _
      exact ⟨g5, g6, ⟨rfl, rfl, by simp⟩, N5', F, Bb⟩
  · skip
    have N6 := new_at (w := V) rfl (.cells #[.int .u8 0, .int .u8 0, .slice none 0 0] 41)
    have b := below_new V (.cells #[.int .u8 0, .int .u8 0, .slice none 0 0] 41)
    refine Node.wp_new 41 (.agg #[.int .u8 0, .int .u8 0, .slice none 0 0]) #[.int .u8 0, .int .u8 0, .slice none 0 0] (by kernel_rfl) rfl (by rfl) ?_
    have n6 := Bb.size
    replace Bb := below_step Bb b
    replace L0 := L0.later b
    replace hT0 := hT0.below b
    try replace hs := hs.later b
    try replace hp := hp.later b
    try (have n56 := lt_of_at N5.at_; replace N5 := N5.later b)
    clear b
    generalize V.heap.size = g6 at *
    generalize V.alloc (.cells #[.int .u8 0, .int .u8 0, .slice none 0 0] 41) = V at *
    try replace n56 := Ne.symm (Nat.ne_of_lt n56)
    refine hK.out _ _ L0 (fun _ => ?_)
    clear hK K
    try simp only [zA, zS, zZ, Act.put, zP, zQ, zR]
    refine wpAnyH_ready (rs := [1, 7]) (by kernel_rfl) (by simp) ?_
    refine AllReadyH.cons rfl (fun K hK => ?_) (AllReadyH.cons rfl (fun K hK => ?_) AllReadyH.nil)
    · skip
      refine Node.wp_fn 31 [.const (.int .u8 7)] _ [.int .u8 7] (by rfl) (by rfl) (enters Tryd.func31 (by kernel_rfl) rfl) (panel_c 7#8 7 rfl X HX.out V) ?_
      rintro e V' ⟨b, Ap, cp, rfl, hs⟩
      refine ⟨_, rfl, ?_⟩
      replace Bb := below_step Bb b
      replace L0 := L0.later b
      replace hT0 := hT0.below b
      try replace N5 := N5.later b
      try replace N6 := below_at b N6 (lt_of_at N6)
      clear b
      generalize V' = V at *
      refine hK.out _ _ L0 (fun _ => ?_)
      clear hK K
      try simp only [zA, zS, zZ, Act.put, zP, zQ, zR]
      refine wpAnyH_ready (rs := [2, 7]) (by kernel_rfl) (by simp) ?_
      refine AllReadyH.cons rfl (fun K hK => ?_) (AllReadyH.cons rfl (fun K hK => ?_) AllReadyH.nil)
      · skip
        refine Node.wp_fn 11 [.tmp 43, .const (.int .u8 2), .tmp 44] _ [lkv (200, 0, 1), .int .u8 2, .slice Ap X.length cp] (by rfl) (by rfl) (enters Tryd.func11 (by kernel_rfl) rfl) (Hear_v (200, 0, 1) 2 (.slice Ap X.length cp) X V _ HR.out hT0 hs HL.out) ?_
        rintro e V' ⟨A3, c3, rfl, b, hp, hq⟩
        clear hq
        refine ⟨_, rfl, ?_⟩
        replace Bb := below_step Bb b
        replace L0 := L0.later b
        replace hT0 := hT0.below b
        try replace N5 := N5.later b
        try replace N6 := below_at b N6 (lt_of_at N6)
        clear b hs
        generalize V' = V at *
        refine hK.out _ _ L0 (fun _ => ?_)
        clear hK K
        try simp only [zA, zS, zZ, Act.put, zP, zQ, zR]
        refine Node.tk 3 ?_ rfl ?_ ?_
        rotate_left
        · intro w hSw; (try dsimp only at hSw); go_simp; try with_reducible rfl
        simp only [zA, zS, zZ, Act.put, zP, zQ, zR]
        refine Node.tk 4 ?_ rfl ?_ ?_
        rotate_left
        · intro w hSw; (try dsimp only at hSw); go_simp; try with_reducible rfl
        simp only [zA, zS, zZ, Act.put, zP, zQ, zR]
        refine Node.tk 5 ?_ rfl ?_ ?_
        rotate_left
        · intro w hSw; (try dsimp only at hSw); go_simp; try with_reducible rfl
        simp only [zA, zS, zZ, Act.put, zP, zQ, zR]
        refine Node.tk 6 ?_ rfl ?_ ?_
        rotate_left
        · intro w hSw; (try dsimp only at hSw); go_simp; try with_reducible rfl
        simp only [zA, zS, zZ, Act.put, zP, zQ, zR]
        refine Node.on 7 rfl (fun K hK => ?_)
        have N5 := LVar.new V 0 0 0
        have b := below_new V (.cells #[.int .i64 0, .int .i64 0, .int .i64 0] 31)
        refine Node.wp_new 31 (.agg #[.int .i64 0, .int .i64 0, .int .i64 0]) #[.int .i64 0, .int .i64 0, .int .i64 0] (by kernel_rfl) rfl (by rfl) ?_
        have n5 := Bb.size
        replace Bb := below_step Bb b
        replace L0 := L0.later b
        replace hT0 := hT0.below b
        try replace hs := hs.later b
        try replace hp := hp.later b
        try (have n56 := lt_of_at N6; replace N6 := below_at b N6 n56)
        clear b
        generalize V.heap.size = g5 at *
        generalize V.alloc (.cells #[.int .i64 0, .int .i64 0, .int .i64 0] 31) = V at *
        try replace n56 := Nat.ne_of_lt n56
        refine hK.out _ _ L0 (fun _ => ?_)
        clear hK K
        try simp only [zA, zS, zZ, Act.put, zP, zQ, zR]
        refine Node.on 9 rfl (fun K hK => ?_)
        refine wp_st_lk N5 rfl rfl rfl rfl ?_
        have hn5 := lt_of_at N5.at_
        replace L0 := L0.far3 (g' := g5) (by omega) 7 0 1
        replace N6 := frame_far3 N6 (g' := g5) n56 7 0 1
        have N5' := N5.set3 7 0 1
        replace Bb := ((Bb.setCell (p := ⟨g5, 0, none⟩) n5 (.int .i64 7)).setCell (p := ⟨g5, 1, none⟩) n5 (.int .i64 0)).setCell (p := ⟨g5, 2, none⟩) n5 (.int .i64 1)
        replace hp : SliceAt (((V.setCell ⟨g5, 0, none⟩ (.int .i64 7)).setCell ⟨g5, 1, none⟩ (.int .i64 0)).setCell ⟨g5, 2, none⟩ (.int .i64 1)) 1 (.slice A3 f7.2.2.length c3) f7.2.2.length (u8s f7.2.2) := slice_zero hp rfl
        clear N5 hT0 hn5
        generalize ((V.setCell ⟨g5, 0, none⟩ (.int .i64 7)).setCell ⟨g5, 1, none⟩ (.int .i64 0)).setCell ⟨g5, 2, none⟩ (.int .i64 1) = V at *
        refine hK.out _ _ L0 (fun _ => ?_)
        clear hK K
        try simp only [zA, zS, zZ, Act.put, zP, zQ, zR]
        refine Node.on 10 rfl (fun K hK => ?_)
        refine wp_st_fr N6 rfl rfl rfl rfl ?_
        have F := FV.mk3 (f := f7) N6 hp rfl
        have hn6 := lt_of_at N6
        replace L0 := L0.at_
        replace L0 : LVar (((V.setCell ⟨g6, 0, none⟩ (.int .u8 (f7.1.toNat : Int))).setCell ⟨g6, 1, none⟩ (.int .u8 (f7.2.1.toNat : Int))).setCell ⟨g6, 2, none⟩ (.slice A3 f7.2.2.length c3)) g50 200 0 1 := ⟨frame_far3' L0 (by omega) _ _ _⟩
        replace N5' : LVar (((V.setCell ⟨g6, 0, none⟩ (.int .u8 (f7.1.toNat : Int))).setCell ⟨g6, 1, none⟩ (.int .u8 (f7.2.1.toNat : Int))).setCell ⟨g6, 2, none⟩ (.slice A3 f7.2.2.length c3)) g5 7 0 1 := ⟨frame_far3' N5'.at_ (Ne.symm n56) _ _ _⟩
        replace Bb := ((Bb.setCell (p := ⟨g6, 0, none⟩) n6 (.int .u8 (f7.1.toNat : Int))).setCell (p := ⟨g6, 1, none⟩) n6 (.int .u8 (f7.2.1.toNat : Int))).setCell (p := ⟨g6, 2, none⟩) n6 (.slice A3 f7.2.2.length c3)
        clear N6 hp
        generalize ((V.setCell ⟨g6, 0, none⟩ (.int .u8 (f7.1.toNat : Int))).setCell ⟨g6, 1, none⟩ (.int .u8 (f7.2.1.toNat : Int))).setCell ⟨g6, 2, none⟩ (.slice A3 f7.2.2.length c3) = V at *
        refine hK.out _ _ L0 (fun _ => ?_)
        clear hK K
        try simp only [zA, zS, zZ, Act.put, zP, zQ, zR]
        refine Node.tk 11 ?_ rfl ?_ ?_
        rotate_left
        · intro w hSw; (try dsimp only at hSw); go_simp; try with_reducible rfl
        simp only [zA, zS, zZ, Act.put, zP, zQ, zR]
        refine wpAnyH_done (by kernel_rfl) ?_ _
        exact ⟨g5, g6, ⟨rfl, rfl, by simp⟩, N5', F, Bb⟩
      · skip
        have N5 := LVar.new V 0 0 0
        have b := below_new V (.cells #[.int .i64 0, .int .i64 0, .int .i64 0] 31)
        refine Node.wp_new 31 (.agg #[.int .i64 0, .int .i64 0, .int .i64 0]) #[.int .i64 0, .int .i64 0, .int .i64 0] (by kernel_rfl) rfl (by rfl) ?_
        have n5 := Bb.size
        replace Bb := below_step Bb b
        replace L0 := L0.later b
        replace hT0 := hT0.below b
        try replace hs := hs.later b
        try replace hp := hp.later b
        try (have n56 := lt_of_at N6; replace N6 := below_at b N6 n56)
        clear b
        generalize V.heap.size = g5 at *
        generalize V.alloc (.cells #[.int .i64 0, .int .i64 0, .int .i64 0] 31) = V at *
        try replace n56 := Nat.ne_of_lt n56
        refine hK.out _ _ L0 (fun _ => ?_)
        clear hK K
        try simp only [zA, zS, zZ, Act.put, zP, zQ, zR]
        refine Node.on 2 rfl (fun K hK => ?_)
        refine Node.wp_fn 11 [.tmp 43, .const (.int .u8 2), .tmp 44] _ [lkv (200, 0, 1), .int .u8 2, .slice Ap X.length cp] (by rfl) (by rfl) (enters Tryd.func11 (by kernel_rfl) rfl) (Hear_v (200, 0, 1) 2 (.slice Ap X.length cp) X V _ HR.out hT0 hs HL.out) ?_
        rintro e V' ⟨A3, c3, rfl, b, hp, hq⟩
        clear hq
        refine ⟨_, rfl, ?_⟩
        replace Bb := below_step Bb b
        replace L0 := L0.later b
        replace hT0 := hT0.below b
        try replace N5 := N5.later b
        try replace N6 := below_at b N6 (lt_of_at N6)
        clear b hs
        generalize V' = V at *
        refine hK.out _ _ L0 (fun _ => ?_)
        clear hK K
        try simp only [zA, zS, zZ, Act.put, zP, zQ, zR]
        refine Node.tk 3 ?_ rfl ?_ ?_
        rotate_left
        · intro w hSw; (try dsimp only at hSw); go_simp; try with_reducible rfl
        simp only [zA, zS, zZ, Act.put, zP, zQ, zR]
        refine Node.tk 4 ?_ rfl ?_ ?_
        rotate_left
        · intro w hSw; (try dsimp only at hSw); go_simp; try with_reducible rfl
        simp only [zA, zS, zZ, Act.put, zP, zQ, zR]
        refine Node.tk 5 ?_ rfl ?_ ?_
        rotate_left
        · intro w hSw; (try dsimp only at hSw); go_simp; try with_reducible rfl
        simp only [zA, zS, zZ, Act.put, zP, zQ, zR]
        refine Node.tk 6 ?_ rfl ?_ ?_
        rotate_left
        · intro w hSw; (try dsimp only at hSw); go_simp; try with_reducible rfl
        simp only [zA, zS, zZ, Act.put, zP, zQ, zR]
        refine Node.on 9 rfl (fun K hK => ?_)
        refine wp_st_lk N5 rfl rfl rfl rfl ?_
        have hn5 := lt_of_at N5.at_
        replace L0 := L0.far3 (g' := g5) (by omega) 7 0 1
        replace N6 := frame_far3 N6 (g' := g5) n56 7 0 1
        have N5' := N5.set3 7 0 1
        replace Bb := ((Bb.setCell (p := ⟨g5, 0, none⟩) n5 (.int .i64 7)).setCell (p := ⟨g5, 1, none⟩) n5 (.int .i64 0)).setCell (p := ⟨g5, 2, none⟩) n5 (.int .i64 1)
        replace hp : SliceAt (((V.setCell ⟨g5, 0, none⟩ (.int .i64 7)).setCell ⟨g5, 1, none⟩ (.int .i64 0)).setCell ⟨g5, 2, none⟩ (.int .i64 1)) 1 (.slice A3 f7.2.2.length c3) f7.2.2.length (u8s f7.2.2) := slice_zero hp rfl
        clear N5 hT0 hn5
        generalize ((V.setCell ⟨g5, 0, none⟩ (.int .i64 7)).setCell ⟨g5, 1, none⟩ (.int .i64 0)).setCell ⟨g5, 2, none⟩ (.int .i64 1) = V at *
        refine hK.out _ _ L0 (fun _ => ?_)
        clear hK K
        try simp only [zA, zS, zZ, Act.put, zP, zQ, zR]
        refine Node.on 10 rfl (fun K hK => ?_)
        refine wp_st_fr N6 rfl rfl rfl rfl ?_
        have F := FV.mk3 (f := f7) N6 hp rfl
        have hn6 := lt_of_at N6
        replace L0 := L0.at_
        replace L0 : LVar (((V.setCell ⟨g6, 0, none⟩ (.int .u8 (f7.1.toNat : Int))).setCell ⟨g6, 1, none⟩ (.int .u8 (f7.2.1.toNat : Int))).setCell ⟨g6, 2, none⟩ (.slice A3 f7.2.2.length c3)) g50 200 0 1 := ⟨frame_far3' L0 (by omega) _ _ _⟩
        replace N5' : LVar (((V.setCell ⟨g6, 0, none⟩ (.int .u8 (f7.1.toNat : Int))).setCell ⟨g6, 1, none⟩ (.int .u8 (f7.2.1.toNat : Int))).setCell ⟨g6, 2, none⟩ (.slice A3 f7.2.2.length c3)) g5 7 0 1 := ⟨frame_far3' N5'.at_ (Ne.symm n56) _ _ _⟩
        replace Bb := ((Bb.setCell (p := ⟨g6, 0, none⟩) n6 (.int .u8 (f7.1.toNat : Int))).setCell (p := ⟨g6, 1, none⟩) n6 (.int .u8 (f7.2.1.toNat : Int))).setCell (p := ⟨g6, 2, none⟩) n6 (.slice A3 f7.2.2.length c3)
        clear N6 hp
        generalize ((V.setCell ⟨g6, 0, none⟩ (.int .u8 (f7.1.toNat : Int))).setCell ⟨g6, 1, none⟩ (.int .u8 (f7.2.1.toNat : Int))).setCell ⟨g6, 2, none⟩ (.slice A3 f7.2.2.length c3) = V at *
        refine hK.out _ _ L0 (fun _ => ?_)
        clear hK K
        try simp only [zA, zS, zZ, Act.put, zP, zQ, zR]
        refine Node.tk 11 ?_ rfl ?_ ?_
        rotate_left
        · intro w hSw; (try dsimp only at hSw); go_simp; try with_reducible rfl
        simp only [zA, zS, zZ, Act.put, zP, zQ, zR]
        refine wpAnyH_done (by kernel_rfl) ?_ _
        exact ⟨g5, g6, ⟨rfl, rfl, by simp⟩, N5', F, Bb⟩
    · skip
      have N5 := LVar.new V 0 0 0
      have b := below_new V (.cells #[.int .i64 0, .int .i64 0, .int .i64 0] 31)
      refine Node.wp_new 31 (.agg #[.int .i64 0, .int .i64 0, .int .i64 0]) #[.int .i64 0, .int .i64 0, .int .i64 0] (by kernel_rfl) rfl (by rfl) ?_
      have n5 := Bb.size
      replace Bb := below_step Bb b
      replace L0 := L0.later b
      replace hT0 := hT0.below b
      try replace hs := hs.later b
      try replace hp := hp.later b
      try (have n56 := lt_of_at N6; replace N6 := below_at b N6 n56)
      clear b
      generalize V.heap.size = g5 at *
      generalize V.alloc (.cells #[.int .i64 0, .int .i64 0, .int .i64 0] 31) = V at *
      try replace n56 := Nat.ne_of_lt n56
      refine hK.out _ _ L0 (fun _ => ?_)
      clear hK K
      try simp only [zA, zS, zZ, Act.put, zP, zQ, zR]
      refine Node.on 1 rfl (fun K hK => ?_)
      refine Node.wp_fn 31 [.const (.int .u8 7)] _ [.int .u8 7] (by rfl) (by rfl) (enters Tryd.func31 (by kernel_rfl) rfl) (panel_c 7#8 7 rfl X HX.out V) ?_
      rintro e V' ⟨b, Ap, cp, rfl, hs⟩
      refine ⟨_, rfl, ?_⟩
      replace Bb := below_step Bb b
      replace L0 := L0.later b
      replace hT0 := hT0.below b
      try replace N5 := N5.later b
      try replace N6 := below_at b N6 (lt_of_at N6)
      clear b
      generalize V' = V at *
      refine hK.out _ _ L0 (fun _ => ?_)
      clear hK K
      try simp only [zA, zS, zZ, Act.put, zP, zQ, zR]
      refine Node.on 2 rfl (fun K hK => ?_)
      refine Node.wp_fn 11 [.tmp 43, .const (.int .u8 2), .tmp 44] _ [lkv (200, 0, 1), .int .u8 2, .slice Ap X.length cp] (by rfl) (by rfl) (enters Tryd.func11 (by kernel_rfl) rfl) (Hear_v (200, 0, 1) 2 (.slice Ap X.length cp) X V _ HR.out hT0 hs HL.out) ?_
      rintro e V' ⟨A3, c3, rfl, b, hp, hq⟩
      clear hq
      refine ⟨_, rfl, ?_⟩
      replace Bb := below_step Bb b
      replace L0 := L0.later b
      replace hT0 := hT0.below b
      try replace N5 := N5.later b
      try replace N6 := below_at b N6 (lt_of_at N6)
      clear b hs
      generalize V' = V at *
      refine hK.out _ _ L0 (fun _ => ?_)
      clear hK K
      try simp only [zA, zS, zZ, Act.put, zP, zQ, zR]
      refine Node.tk 3 ?_ rfl ?_ ?_
      rotate_left
      · intro w hSw; (try dsimp only at hSw); go_simp; try with_reducible rfl
      simp only [zA, zS, zZ, Act.put, zP, zQ, zR]
      refine Node.tk 4 ?_ rfl ?_ ?_
      rotate_left
      · intro w hSw; (try dsimp only at hSw); go_simp; try with_reducible rfl
      simp only [zA, zS, zZ, Act.put, zP, zQ, zR]
      refine Node.tk 5 ?_ rfl ?_ ?_
      rotate_left
      · intro w hSw; (try dsimp only at hSw); go_simp; try with_reducible rfl
      simp only [zA, zS, zZ, Act.put, zP, zQ, zR]
      refine Node.tk 6 ?_ rfl ?_ ?_
      rotate_left
      · intro w hSw; (try dsimp only at hSw); go_simp; try with_reducible rfl
      simp only [zA, zS, zZ, Act.put, zP, zQ, zR]
      refine Node.on 9 rfl (fun K hK => ?_)
      refine wp_st_lk N5 rfl rfl rfl rfl ?_
      have hn5 := lt_of_at N5.at_
      replace L0 := L0.far3 (g' := g5) (by omega) 7 0 1
      replace N6 := frame_far3 N6 (g' := g5) n56 7 0 1
      have N5' := N5.set3 7 0 1
      replace Bb := ((Bb.setCell (p := ⟨g5, 0, none⟩) n5 (.int .i64 7)).setCell (p := ⟨g5, 1, none⟩) n5 (.int .i64 0)).setCell (p := ⟨g5, 2, none⟩) n5 (.int .i64 1)
      replace hp : SliceAt (((V.setCell ⟨g5, 0, none⟩ (.int .i64 7)).setCell ⟨g5, 1, none⟩ (.int .i64 0)).setCell ⟨g5, 2, none⟩ (.int .i64 1)) 1 (.slice A3 f7.2.2.length c3) f7.2.2.length (u8s f7.2.2) := slice_zero hp rfl
      clear N5 hT0 hn5
      generalize ((V.setCell ⟨g5, 0, none⟩ (.int .i64 7)).setCell ⟨g5, 1, none⟩ (.int .i64 0)).setCell ⟨g5, 2, none⟩ (.int .i64 1) = V at *
      refine hK.out _ _ L0 (fun _ => ?_)
      clear hK K
      try simp only [zA, zS, zZ, Act.put, zP, zQ, zR]
      refine Node.on 10 rfl (fun K hK => ?_)
      refine wp_st_fr N6 rfl rfl rfl rfl ?_
      have F := FV.mk3 (f := f7) N6 hp rfl
      have hn6 := lt_of_at N6
      replace L0 := L0.at_
      replace L0 : LVar (((V.setCell ⟨g6, 0, none⟩ (.int .u8 (f7.1.toNat : Int))).setCell ⟨g6, 1, none⟩ (.int .u8 (f7.2.1.toNat : Int))).setCell ⟨g6, 2, none⟩ (.slice A3 f7.2.2.length c3)) g50 200 0 1 := ⟨frame_far3' L0 (by omega) _ _ _⟩
      replace N5' : LVar (((V.setCell ⟨g6, 0, none⟩ (.int .u8 (f7.1.toNat : Int))).setCell ⟨g6, 1, none⟩ (.int .u8 (f7.2.1.toNat : Int))).setCell ⟨g6, 2, none⟩ (.slice A3 f7.2.2.length c3)) g5 7 0 1 := ⟨frame_far3' N5'.at_ (Ne.symm n56) _ _ _⟩
      replace Bb := ((Bb.setCell (p := ⟨g6, 0, none⟩) n6 (.int .u8 (f7.1.toNat : Int))).setCell (p := ⟨g6, 1, none⟩) n6 (.int .u8 (f7.2.1.toNat : Int))).setCell (p := ⟨g6, 2, none⟩) n6 (.slice A3 f7.2.2.length c3)
      clear N6 hp
      generalize ((V.setCell ⟨g6, 0, none⟩ (.int .u8 (f7.1.toNat : Int))).setCell ⟨g6, 1, none⟩ (.int .u8 (f7.2.1.toNat : Int))).setCell ⟨g6, 2, none⟩ (.slice A3 f7.2.2.length c3) = V at *
      refine hK.out _ _ L0 (fun _ => ?_)
      clear hK K
      try simp only [zA, zS, zZ, Act.put, zP, zQ, zR]
      refine Node.tk 11 ?_ rfl ?_ ?_
      rotate_left
      · intro w hSw; (try dsimp only at hSw); go_simp; try with_reducible rfl
      simp only [zA, zS, zZ, Act.put, zP, zQ, zR]
      refine wpAnyH_done (by kernel_rfl) ?_ _
      exact ⟨g5, g6, ⟨rfl, rfl, by simp⟩, N5', F, Bb⟩
end Go.Proofs.YtlanlkpamnoekaaDoor
