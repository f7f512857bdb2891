/- Link, in company. Nothing that was there is turned. -/
import Derived.Test.YtlanlkpamnoekaaDoorZD13
import Derived.Test.YtlanlkpamnoekaaDoorZD09
import Derived.Test.YtlanlkpamnoekaaDoorProg
import Derived.Test.YtlanlkpamnoekaaDoorZD00
import Derived.Conc.TokenWords
import Derived.Conc.WalkWords
import Derived.KernelRfl
import Derived.Test.YtlanlkpamnoekaaDoorZD02
set_option linter.unusedSimpArgs false
set_option linter.unusedVariables false
namespace Go.Proofs.YtlanlkpamnoekaaDoor
open List renaming getElem_toArray → zA, getElem_cons_succ → zS, getElem_cons_zero → zZ, setIfInBounds_toArray → zP, set_cons_zero → zQ, set_cons_succ → zR
open Go Go.RowKit Rf Mem Bv Crc Str Lk
set_option maxRecDepth 100000
attribute [local go_sem ↓] run_max2 run_min2
theorem hear_other (n : BitVec 8) (x : Lst) (hr : rightL x.1 x.2.1 x.2.2 = true) : hearV 1 (panelV n) x = ((x.1, x.2.1, onV x.2.2 1 65535), 41, noF) := by
  have ht : takeV (panelV n) = (2#8, n, [], 0) := take_hb 2#8 n [] rfl
  unfold hearV
  rw [ht, if_neg (by rw [hr]; simp), if_neg (by simp), if_pos (show (((2#8 : BitVec 8).toNat : Int) ≠ 1) by decide)]
set_option maxHeartbeats 4000000 in
theorem wk5 (a : Act) (g1 g2 g3 g50 g60 g80 g90 : Nat) (hS : Sl a 190 [(0, .bool false), (1, .pointer (some ⟨g1, 0, none⟩)), (2, .pointer (some ⟨g2, 0, none⟩)), (3, .pointer (some ⟨g3, 0, none⟩)), (4, .int .i64 0), (5, .pointer (some ⟨g50, 0, none⟩)), (6, .pointer (some ⟨g60, 0, none⟩)), (7, .int .i64 290), (8, .pointer (some ⟨g80, 0, none⟩)), (9, .pointer (some ⟨g90, 0, none⟩)), (10, .int .i64 0)]) (w : World) (hT : Tops w) (L : LVar w g80 7 0 1) : (rg 5).wp Tryd.prog (nrm fun a' w' => ∃ ga gb, Sl a' 190 [(0, .bool false), (1, .pointer (some ⟨g1, 0, none⟩)), (2, .pointer (some ⟨g2, 0, none⟩)), (3, .pointer (some ⟨g3, 0, none⟩)), (4, .int .i64 0), (5, .pointer (some ⟨g50, 0, none⟩)), (6, .pointer (some ⟨g60, 0, none⟩)), (7, .int .i64 290), (8, .pointer (some ⟨g80, 0, none⟩)), (9, .pointer (some ⟨g90, 0, none⟩)), (10, .int .i64 0), (11, .pointer (some ⟨ga, 0, none⟩)), (12, .pointer (some ⟨gb, 0, none⟩)), (13, .int .i64 41)] ∧ LVar w' ga 7 0 2 ∧ FV w' gb noF ∧ Below w.heap.size w w') a w := by
  obtain ⟨j, rfl, hj⟩ := hS.lit190
  have h0 : j 0 = .bool false := hj (0, _) (by simp)
  have h1 : j 1 = .pointer (some ⟨g1, 0, none⟩) := hj (1, _) (by simp)
  have h2 : j 2 = .pointer (some ⟨g2, 0, none⟩) := hj (2, _) (by simp)
  have h3 : j 3 = .pointer (some ⟨g3, 0, none⟩) := hj (3, _) (by simp)
  have h4 : j 4 = .int .i64 0 := hj (4, _) (by simp)
  have h5 : j 5 = .pointer (some ⟨g50, 0, none⟩) := hj (5, _) (by simp)
  have h6 : j 6 = .pointer (some ⟨g60, 0, none⟩) := hj (6, _) (by simp)
  have h7 : j 7 = .int .i64 290 := hj (7, _) (by simp)
  have h8 : j 8 = .pointer (some ⟨g80, 0, none⟩) := hj (8, _) (by simp)
  have h9 : j 9 = .pointer (some ⟨g90, 0, none⟩) := hj (9, _) (by simp)
  have h10 : j 10 = .int .i64 0 := hj (10, _) (by simp)
  clear hj hS
  unfold rg body10
  simp only [Tryd.f10, Option.getD_some, nthSeq, lit190, List.cons_append, List.nil_append, h0, h1, h2, h3, h4, h5, h6, h7, h8, h9, h10]
  obtain ⟨X, hX⟩ : ∃ X, X = panelV 8#8 := ⟨_, rfl⟩
  have hr : (((7, 0, 2), 41, noF) : Lst × Int × Frm) = hearV 1 X (7, 0, 1) := by rw [hX]; exact (by rw [hear_other 8#8 (7, 0, 1) (by decide)]; rfl)
  have HR := Lib.hid hr
  have hl : X.length ≤ 140737488355328 := by rw [hX]; decide
  have HL := Lib.hid hl
  have HX := Lib.hid hX
  clear hr hX hl
  refine wp_region_held_drew (S := (fun w' => LVar w' g80 7 0 1)) (by kernel_rfl) ?_ (fun hHeld => ?_)
  · exact ⟨L.at_⟩
  have Bb : Below w.heap.size w w.drew := (Below.refl _ w).drew
  clear hHeld
  have L0 := L.later Bb
  have hT0 := hT.below Bb
  have hg2 := lt_of_at L.at_
  clear L hT
  generalize w.drew = V at *
  have hHeld := L0
  refine Node.tk 0 (lk 7 0 1) rfl (fun _ hSw => run_ld hSw rfl rfl) ?_
  simp only [zA, zS, zZ, Act.put, zP, zQ, zR]
  clear hHeld
  refine wpAnyH_ready (rs := [1, 7, 8]) (by kernel_rfl) (by simp) ?_
  refine AllReadyH.cons rfl (fun K hK => ?_) (AllReadyH.cons rfl (fun K hK => ?_) (AllReadyH.cons rfl (fun K hK => ?_) AllReadyH.nil))
  · skip
    refine Node.wp_fn 31 [.const (.int .u8 8)] _ [.int .u8 8] (by rfl) (by rfl) (enters Tryd.func31 (by kernel_rfl) rfl) (panel_c 8#8 8 rfl X HX.out V) ?_
    rintro e V' ⟨b, Ap, cp, rfl, hs⟩
    refine ⟨_, rfl, ?_⟩
    replace Bb := below_step Bb b
    replace L0 := L0.later b
    replace hT0 := hT0.below b
    try replace N5 := N5.later b
    try replace N6 := below_at b N6 (lt_of_at N6)
    clear b
    generalize V' = V at *
    refine hK.out _ _ L0 (fun _ => ?_)
    clear hK K
    try simp only [zA, zS, zZ, Act.put, zP, zQ, zR]
    refine wpAnyH_ready (rs := [2, 7, 8]) (by kernel_rfl) (by simp) ?_
    refine AllReadyH.cons rfl (fun K hK => ?_) (AllReadyH.cons rfl (fun K hK => ?_) (AllReadyH.cons rfl (fun K hK => ?_) AllReadyH.nil))
    · skip
      refine Node.wp_fn 11 [.tmp 50, .const (.int .u8 1), .tmp 51] _ [lkv (7, 0, 1), .int .u8 1, .slice Ap X.length cp] (by rfl) (by rfl) (enters Tryd.func11 (by kernel_rfl) rfl) (Hear_v (7, 0, 1) 1 (.slice Ap X.length cp) X V _ HR.out hT0 hs HL.out) ?_
      rintro e V' ⟨A3, c3, rfl, b, hp, hq⟩
      clear hq
      refine ⟨_, rfl, ?_⟩
      replace Bb := below_step Bb b
      replace L0 := L0.later b
      replace hT0 := hT0.below b
      try replace N5 := N5.later b
      try replace N6 := below_at b N6 (lt_of_at N6)
      clear b hs
      generalize V' = V at *
      refine hK.out _ _ L0 (fun _ => ?_)
      clear hK K
      try simp only [zA, zS, zZ, Act.put, zP, zQ, zR]
      refine Node.tk 3 ?_ rfl ?_ ?_
      rotate_left
      · intro w hSw; (try dsimp only at hSw); go_simp; try with_reducible rfl
      simp only [zA, zS, zZ, Act.put, zP, zQ, zR]
      refine Node.tk 4 ?_ rfl ?_ ?_
      rotate_left
      · intro w hSw; (try dsimp only at hSw); go_simp; try with_reducible rfl
      simp only [zA, zS, zZ, Act.put, zP, zQ, zR]
      refine Node.tk 5 ?_ rfl ?_ ?_
      rotate_left
      · intro w hSw; (try dsimp only at hSw); go_simp; try with_reducible rfl
      simp only [zA, zS, zZ, Act.put, zP, zQ, zR]
      refine Node.tk 6 ?_ rfl ?_ ?_
      rotate_left
      · intro w hSw; (try dsimp only at hSw); go_simp; try with_reducible rfl
      simp only [zA, zS, zZ, Act.put, zP, zQ, zR]
      refine wpAnyH_ready (rs := [7, 8]) (by kernel_rfl) (by simp) ?_
      refine AllReadyH.cons rfl (fun K hK => ?_) (AllReadyH.cons rfl (fun K hK => ?_) AllReadyH.nil)
      · skip
        have N5 := LVar.new V 0 0 0
        have b := below_new V (.cells #[.int .i64 0, .int .i64 0, .int .i64 0] 31)
        refine Node.wp_new 31 (.agg #[.int .i64 0, .int .i64 0, .int .i64 0]) #[.int .i64 0, .int .i64 0, .int .i64 0] (by kernel_rfl) rfl (by rfl) ?_
        have n5 := Bb.size
        replace Bb := below_step Bb b
        replace L0 := L0.later b
        replace hT0 := hT0.below b
        try replace hs := hs.later b
        try replace hp := hp.later b
        try (have n56 := lt_of_at N6; replace N6 := below_at b N6 n56)
        clear b
        generalize V.heap.size = g5 at *
        generalize V.alloc (.cells #[.int .i64 0, .int .i64 0, .int .i64 0] 31) = V at *
        try replace n56 := Nat.ne_of_lt n56
        refine hK.out _ _ L0 (fun _ => ?_)
        clear hK K
        try simp only [zA, zS, zZ, Act.put, zP, zQ, zR]
        refine Node.on 8 rfl (fun K hK => ?_)
        have N6 := new_at (w := V) rfl (.cells #[.int .u8 0, .int .u8 0, .slice none 0 0] 41)
        have b := below_new V (.cells #[.int .u8 0, .int .u8 0, .slice none 0 0] 41)
        refine Node.wp_new 41 (.agg #[.int .u8 0, .int .u8 0, .slice none 0 0]) #[.int .u8 0, .int .u8 0, .slice none 0 0] (by kernel_rfl) rfl (by rfl) ?_
        have n6 := Bb.size
        replace Bb := below_step Bb b
        replace L0 := L0.later b
        replace hT0 := hT0.below b
        try replace hs := hs.later b
        try replace hp := hp.later b
        try (have n56 := lt_of_at N5.at_; replace N5 := N5.later b)
        clear b
        generalize V.heap.size = g6 at *
        generalize V.alloc (.cells #[.int .u8 0, .int .u8 0, .slice none 0 0] 41) = V at *
        try replace n56 := Ne.symm (Nat.ne_of_lt n56)
        refine hK.out _ _ L0 (fun _ => ?_)
        clear hK K
        try simp only [zA, zS, zZ, Act.put, zP, zQ, zR]
        refine Node.on 9 rfl (fun K hK => ?_)
        refine wp_st_lk N5 rfl rfl rfl rfl ?_
        have hn5 := lt_of_at N5.at_
        replace L0 := L0.far3 (g' := g5) (by omega) 7 0 2
        replace N6 := frame_far3 N6 (g' := g5) n56 7 0 2
        have N5' := N5.set3 7 0 2
        replace Bb := ((Bb.setCell (p := ⟨g5, 0, none⟩) n5 (.int .i64 7)).setCell (p := ⟨g5, 1, none⟩) n5 (.int .i64 0)).setCell (p := ⟨g5, 2, none⟩) n5 (.int .i64 2)
        replace hp : SliceAt (((V.setCell ⟨g5, 0, none⟩ (.int .i64 7)).setCell ⟨g5, 1, none⟩ (.int .i64 0)).setCell ⟨g5, 2, none⟩ (.int .i64 2)) 1 (.slice A3 noF.2.2.length c3) noF.2.2.length (u8s noF.2.2) := slice_zero hp rfl
        clear N5 hT0 hn5
        generalize ((V.setCell ⟨g5, 0, none⟩ (.int .i64 7)).setCell ⟨g5, 1, none⟩ (.int .i64 0)).setCell ⟨g5, 2, none⟩ (.int .i64 2) = V at *
        refine hK.out _ _ L0 (fun _ => ?_)
        clear hK K
        try simp only [zA, zS, zZ, Act.put, zP, zQ, zR]
        refine Node.on 10 rfl (fun K hK => ?_)
        refine wp_st_fr N6 rfl rfl rfl rfl ?_
        have F := FV.mk3 (f := noF) N6 hp rfl
        have hn6 := lt_of_at N6
        replace L0 := L0.at_
        replace L0 : LVar (((V.setCell ⟨g6, 0, none⟩ (.int .u8 (noF.1.toNat : Int))).setCell ⟨g6, 1, none⟩ (.int .u8 (noF.2.1.toNat : Int))).setCell ⟨g6, 2, none⟩ (.slice A3 noF.2.2.length c3)) g80 7 0 1 := ⟨frame_far3' L0 (by omega) _ _ _⟩
        replace N5' : LVar (((V.setCell ⟨g6, 0, none⟩ (.int .u8 (noF.1.toNat : Int))).setCell ⟨g6, 1, none⟩ (.int .u8 (noF.2.1.toNat : Int))).setCell ⟨g6, 2, none⟩ (.slice A3 noF.2.2.length c3)) g5 7 0 2 := ⟨frame_far3' N5'.at_ (Ne.symm n56) _ _ _⟩
        replace Bb := ((Bb.setCell (p := ⟨g6, 0, none⟩) n6 (.int .u8 (noF.1.toNat : Int))).setCell (p := ⟨g6, 1, none⟩) n6 (.int .u8 (noF.2.1.toNat : Int))).setCell (p := ⟨g6, 2, none⟩) n6 (.slice A3 noF.2.2.length c3)
        clear N6 hp
        generalize ((V.setCell ⟨g6, 0, none⟩ (.int .u8 (noF.1.toNat : Int))).setCell ⟨g6, 1, none⟩ (.int .u8 (noF.2.1.toNat : Int))).setCell ⟨g6, 2, none⟩ (.slice A3 noF.2.2.length c3) = V at *
        refine hK.out _ _ L0 (fun _ => ?_)
        clear hK K
        try simp only [zA, zS, zZ, Act.put, zP, zQ, zR]
        refine Node.tk 11 ?_ rfl ?_ ?_
        rotate_left
        · intro w hSw; (try dsimp only at hSw); go_simp; try with_reducible rfl
        simp only [zA, zS, zZ, Act.put, zP, zQ, zR]
        refine wpAnyH_done (by kernel_rfl) ?_ _
        exact ⟨g5, g6, ⟨rfl, rfl, by simp⟩, N5', F, Bb⟩
      · skip
        have N6 := new_at (w := V) rfl (.cells #[.int .u8 0, .int .u8 0, .slice none 0 0] 41)
        have b := below_new V (.cells #[.int .u8 0, .int .u8 0, .slice none 0 0] 41)
        refine Node.wp_new 41 (.agg #[.int .u8 0, .int .u8 0, .slice none 0 0]) #[.int .u8 0, .int .u8 0, .slice none 0 0] (by kernel_rfl) rfl (by rfl) ?_
        have n6 := Bb.size
        replace Bb := below_step Bb b
        replace L0 := L0.later b
        replace hT0 := hT0.below b
        try replace hs := hs.later b
        try replace hp := hp.later b
        try (have n56 := lt_of_at N5.at_; replace N5 := N5.later b)
        clear b
        generalize V.heap.size = g6 at *
        generalize V.alloc (.cells #[.int .u8 0, .int .u8 0, .slice none 0 0] 41) = V at *
        try replace n56 := Ne.symm (Nat.ne_of_lt n56)
        refine hK.out _ _ L0 (fun _ => ?_)
        clear hK K
        try simp only [zA, zS, zZ, Act.put, zP, zQ, zR]
        refine Node.on 7 rfl (fun K hK => ?_)
        have N5 := LVar.new V 0 0 0
        have b := below_new V (.cells #[.int .i64 0, .int .i64 0, .int .i64 0] 31)
        refine Node.wp_new 31 (.agg #[.int .i64 0, .int .i64 0, .int .i64 0]) #[.int .i64 0, .int .i64 0, .int .i64 0] (by kernel_rfl) rfl (by rfl) ?_
        have n5 := Bb.size
        replace Bb := below_step Bb b
        replace L0 := L0.later b
        replace hT0 := hT0.below b
        try replace hs := hs.later b
        try replace hp := hp.later b
        try (have n56 := lt_of_at N6; replace N6 := below_at b N6 n56)
        clear b
        generalize V.heap.size = g5 at *
        generalize V.alloc (.cells #[.int .i64 0, .int .i64 0, .int .i64 0] 31) = V at *
        try replace n56 := Nat.ne_of_lt n56
        refine hK.out _ _ L0 (fun _ => ?_)
        clear hK K
        try simp only [zA, zS, zZ, Act.put, zP, zQ, zR]
        refine Node.on 9 rfl (fun K hK => ?_)
        refine wp_st_lk N5 rfl rfl rfl rfl ?_
        have hn5 := lt_of_at N5.at_
        replace L0 := L0.far3 (g' := g5) (by omega) 7 0 2
        replace N6 := frame_far3 N6 (g' := g5) n56 7 0 2
        have N5' := N5.set3 7 0 2
        replace Bb := ((Bb.setCell (p := ⟨g5, 0, none⟩) n5 (.int .i64 7)).setCell (p := ⟨g5, 1, none⟩) n5 (.int .i64 0)).setCell (p := ⟨g5, 2, none⟩) n5 (.int .i64 2)
        replace hp : SliceAt (((V.setCell ⟨g5, 0, none⟩ (.int .i64 7)).setCell ⟨g5, 1, none⟩ (.int .i64 0)).setCell ⟨g5, 2, none⟩ (.int .i64 2)) 1 (.slice A3 noF.2.2.length c3) noF.2.2.length (u8s noF.2.2) := slice_zero hp rfl
        clear N5 hT0 hn5
        generalize ((V.setCell ⟨g5, 0, none⟩ (.int .i64 7)).setCell ⟨g5, 1, none⟩ (.int .i64 0)).setCell ⟨g5, 2, none⟩ (.int .i64 2) = V at *
        refine hK.out _ _ L0 (fun _ => ?_)
        clear hK K
        try simp only [zA, zS, zZ, Act.put, zP, zQ, zR]
        refine Node.on 10 rfl (fun K hK => ?_)
        refine wp_st_fr N6 rfl rfl rfl rfl ?_
        have F := FV.mk3 (f := noF) N6 hp rfl
        have hn6 := lt_of_at N6
        replace L0 := L0.at_
        replace L0 : LVar (((V.setCell ⟨g6, 0, none⟩ (.int .u8 (noF.1.toNat : Int))).setCell ⟨g6, 1, none⟩ (.int .u8 (noF.2.1.toNat : Int))).setCell ⟨g6, 2, none⟩ (.slice A3 noF.2.2.length c3)) g80 7 0 1 := ⟨frame_far3' L0 (by omega) _ _ _⟩
        replace N5' : LVar (((V.setCell ⟨g6, 0, none⟩ (.int .u8 (noF.1.toNat : Int))).setCell ⟨g6, 1, none⟩ (.int .u8 (noF.2.1.toNat : Int))).setCell ⟨g6, 2, none⟩ (.slice A3 noF.2.2.length c3)) g5 7 0 2 := ⟨frame_far3' N5'.at_ (Ne.symm n56) _ _ _⟩
        replace Bb := ((Bb.setCell (p := ⟨g6, 0, none⟩) n6 (.int .u8 (noF.1.toNat : Int))).setCell (p := ⟨g6, 1, none⟩) n6 (.int .u8 (noF.2.1.toNat : Int))).setCell (p := ⟨g6, 2, none⟩) n6 (.slice A3 noF.2.2.length c3)
        clear N6 hp
        generalize ((V.setCell ⟨g6, 0, none⟩ (.int .u8 (noF.1.toNat : Int))).setCell ⟨g6, 1, none⟩ (.int .u8 (noF.2.1.toNat : Int))).setCell ⟨g6, 2, none⟩ (.slice A3 noF.2.2.length c3) = V at *
        refine hK.out _ _ L0 (fun _ => ?_)
        clear hK K
        try simp only [zA, zS, zZ, Act.put, zP, zQ, zR]
        refine Node.tk 11 ?_ rfl ?_ ?_
        rotate_left
        · intro w hSw; (try dsimp only at hSw); go_simp; try with_reducible rfl
        simp only [zA, zS, zZ, Act.put, zP, zQ, zR]
        refine wpAnyH_done (by kernel_rfl) ?_ _
        exact ⟨g5, g6, ⟨rfl, rfl, by simp⟩, N5', F, Bb⟩
    · skip
      have N5 := LVar.new V 0 0 0
      have b := below_new V (.cells #[.int .i64 0, .int .i64 0, .int .i64 0] 31)
      refine Node.wp_new 31 (.agg #[.int .i64 0, .int .i64 0, .int .i64 0]) #[.int .i64 0, .int .i64 0, .int .i64 0] (by kernel_rfl) rfl (by rfl) ?_
      have n5 := Bb.size
      replace Bb := below_step Bb b
      replace L0 := L0.later b
      replace hT0 := hT0.below b
      try replace hs := hs.later b
      try replace hp := hp.later b
      try (have n56 := lt_of_at N6; replace N6 := below_at b N6 n56)
      clear b
      generalize V.heap.size = g5 at *
      generalize V.alloc (.cells #[.int .i64 0, .int .i64 0, .int .i64 0] 31) = V at *
      try replace n56 := Nat.ne_of_lt n56
      refine hK.out _ _ L0 (fun _ => ?_)
      clear hK K
      try simp only [zA, zS, zZ, Act.put, zP, zQ, zR]
      refine wpAnyH_ready (rs := [2, 8]) (by kernel_rfl) (by simp) ?_
      refine AllReadyH.cons rfl (fun K hK => ?_) (AllReadyH.cons rfl (fun K hK => ?_) AllReadyH.nil)
      · skip
        refine Node.wp_fn 11 [.tmp 50, .const (.int .u8 1), .tmp 51] _ [lkv (7, 0, 1), .int .u8 1, .slice Ap X.length cp] (by rfl) (by rfl) (enters Tryd.func11 (by kernel_rfl) rfl) (Hear_v (7, 0, 1) 1 (.slice Ap X.length cp) X V _ HR.out hT0 hs HL.out) ?_
        rintro e V' ⟨A3, c3, rfl, b, hp, hq⟩
        clear hq
        refine ⟨_, rfl, ?_⟩
        replace Bb := below_step Bb b
        replace L0 := L0.later b
        replace hT0 := hT0.below b
        try replace N5 := N5.later b
        try replace N6 := below_at b N6 (lt_of_at N6)
        clear b hs
        generalize V' = V at *
        refine hK.out _ _ L0 (fun _ => ?_)
        clear hK K
        try simp only [zA, zS, zZ, Act.put, zP, zQ, zR]
        refine Node.tk 3 ?_ rfl ?_ ?_
        rotate_left
        · intro w hSw; (try dsimp only at hSw); go_simp; try with_reducible rfl
        simp only [zA, zS, zZ, Act.put, zP, zQ, zR]
        refine Node.tk 4 ?_ rfl ?_ ?_
        rotate_left
        · intro w hSw; (try dsimp only at hSw); go_simp; try with_reducible rfl
        simp only [zA, zS, zZ, Act.put, zP, zQ, zR]
        refine Node.tk 5 ?_ rfl ?_ ?_
        rotate_left
        · intro w hSw; (try dsimp only at hSw); go_simp; try with_reducible rfl
        simp only [zA, zS, zZ, Act.put, zP, zQ, zR]
        refine Node.tk 6 ?_ rfl ?_ ?_
        rotate_left
        · intro w hSw; (try dsimp only at hSw); go_simp; try with_reducible rfl
        simp only [zA, zS, zZ, Act.put, zP, zQ, zR]
        refine Node.on 8 rfl (fun K hK => ?_)
        have N6 := new_at (w := V) rfl (.cells #[.int .u8 0, .int .u8 0, .slice none 0 0] 41)
        have b := below_new V (.cells #[.int .u8 0, .int .u8 0, .slice none 0 0] 41)
        refine Node.wp_new 41 (.agg #[.int .u8 0, .int .u8 0, .slice none 0 0]) #[.int .u8 0, .int .u8 0, .slice none 0 0] (by kernel_rfl) rfl (by rfl) ?_
        have n6 := Bb.size
        replace Bb := below_step Bb b
        replace L0 := L0.later b
        replace hT0 := hT0.below b
        try replace hs := hs.later b
        try replace hp := hp.later b
        try (have n56 := lt_of_at N5.at_; replace N5 := N5.later b)
        clear b
        generalize V.heap.size = g6 at *
        generalize V.alloc (.cells #[.int .u8 0, .int .u8 0, .slice none 0 0] 41) = V at *
        try replace n56 := Ne.symm (Nat.ne_of_lt n56)
        refine hK.out _ _ L0 (fun _ => ?_)
        clear hK K
        try simp only [zA, zS, zZ, Act.put, zP, zQ, zR]
        refine Node.on 9 rfl (fun K hK => ?_)
        refine wp_st_lk N5 rfl rfl rfl rfl ?_
        have hn5 := lt_of_at N5.at_
        replace L0 := L0.far3 (g' := g5) (by omega) 7 0 2
        replace N6 := frame_far3 N6 (g' := g5) n56 7 0 2
        have N5' := N5.set3 7 0 2
        replace Bb := ((Bb.setCell (p := ⟨g5, 0, none⟩) n5 (.int .i64 7)).setCell (p := ⟨g5, 1, none⟩) n5 (.int .i64 0)).setCell (p := ⟨g5, 2, none⟩) n5 (.int .i64 2)
        replace hp : SliceAt (((V.setCell ⟨g5, 0, none⟩ (.int .i64 7)).setCell ⟨g5, 1, none⟩ (.int .i64 0)).setCell ⟨g5, 2, none⟩ (.int .i64 2)) 1 (.slice A3 noF.2.2.length c3) noF.2.2.length (u8s noF.2.2) := slice_zero hp rfl
        clear N5 hT0 hn5
        generalize ((V.setCell ⟨g5, 0, none⟩ (.int .i64 7)).setCell ⟨g5, 1, none⟩ (.int .i64 0)).setCell ⟨g5, 2, none⟩ (.int .i64 2) = V at *
        refine hK.out _ _ L0 (fun _ => ?_)
        clear hK K
        try simp only [zA, zS, zZ, Act.put, zP, zQ, zR]
        refine Node.on 10 rfl (fun K hK => ?_)
        refine wp_st_fr N6 rfl rfl rfl rfl ?_
        have F := FV.mk3 (f := noF) N6 hp rfl
        have hn6 := lt_of_at N6
        replace L0 := L0.at_
        replace L0 : LVar (((V.setCell ⟨g6, 0, none⟩ (.int .u8 (noF.1.toNat : Int))).setCell ⟨g6, 1, none⟩ (.int .u8 (noF.2.1.toNat : Int))).setCell ⟨g6, 2, none⟩ (.slice A3 noF.2.2.length c3)) g80 7 0 1 := ⟨frame_far3' L0 (by omega) _ _ _⟩
        replace N5' : LVar (((V.setCell ⟨g6, 0, none⟩ (.int .u8 (noF.1.toNat : Int))).setCell ⟨g6, 1, none⟩ (.int .u8 (noF.2.1.toNat : Int))).setCell ⟨g6, 2, none⟩ (.slice A3 noF.2.2.length c3)) g5 7 0 2 := ⟨frame_far3' N5'.at_ (Ne.symm n56) _ _ _⟩
        replace Bb := ((Bb.setCell (p := ⟨g6, 0, none⟩) n6 (.int .u8 (noF.1.toNat : Int))).setCell (p := ⟨g6, 1, none⟩) n6 (.int .u8 (noF.2.1.toNat : Int))).setCell (p := ⟨g6, 2, none⟩) n6 (.slice A3 noF.2.2.length c3)
        clear N6 hp
        generalize ((V.setCell ⟨g6, 0, none⟩ (.int .u8 (noF.1.toNat : Int))).setCell ⟨g6, 1, none⟩ (.int .u8 (noF.2.1.toNat : Int))).setCell ⟨g6, 2, none⟩ (.slice A3 noF.2.2.length c3) = V at *
        refine hK.out _ _ L0 (fun _ => ?_)
        clear hK K
        try simp only [zA, zS, zZ, Act.put, zP, zQ, zR]
        refine Node.tk 11 ?_ rfl ?_ ?_
        rotate_left
        · intro w hSw; (try dsimp only at hSw); go_simp; try with_reducible rfl
        simp only [zA, zS, zZ, Act.put, zP, zQ, zR]
        refine wpAnyH_done (by kernel_rfl) ?_ _
        exact ⟨g5, g6, ⟨rfl, rfl, by simp⟩, N5', F, Bb⟩
      · skip
        have N6 := new_at (w := V) rfl (.cells #[.int .u8 0, .int .u8 0, .slice none 0 0] 41)
        have b := below_new V (.cells #[.int .u8 0, .int .u8 0, .slice none 0 0] 41)
        refine Node.wp_new 41 (.agg #[.int .u8 0, .int .u8 0, .slice none 0 0]) #[.int .u8 0, .int .u8 0, .slice none 0 0] (by kernel_rfl) rfl (by rfl) ?_
        have n6 := Bb.size
        replace Bb := below_step Bb b
        replace L0 := L0.later b
        replace hT0 := hT0.below b
        try replace hs := hs.later b
        try replace hp := hp.later b
        try (have n56 := lt_of_at N5.at_; replace N5 := N5.later b)
        clear b
        generalize V.heap.size = g6 at *
        generalize V.alloc (.cells #[.int .u8 0, .int .u8 0, .slice none 0 0] 41) = V at *
        try replace n56 := Ne.symm (Nat.ne_of_lt n56)
        refine hK.out _ _ L0 (fun _ => ?_)
        clear hK K
        try simp only [zA, zS, zZ, Act.put, zP, zQ, zR]
        refine Node.on 2 rfl (fun K hK => ?_)
        refine Node.wp_fn 11 [.tmp 50, .const (.int .u8 1), .tmp 51] _ [lkv (7, 0, 1), .int .u8 1, .slice Ap X.length cp] (by rfl) (by rfl) (enters Tryd.func11 (by kernel_rfl) rfl) (Hear_v (7, 0, 1) 1 (.slice Ap X.length cp) X V _ HR.out hT0 hs HL.out) ?_
        rintro e V' ⟨A3, c3, rfl, b, hp, hq⟩
        clear hq
        refine ⟨_, rfl, ?_⟩
        replace Bb := below_step Bb b
        replace L0 := L0.later b
        replace hT0 := hT0.below b
        try replace N5 := N5.later b
        try replace N6 := below_at b N6 (lt_of_at N6)
        clear b hs
        generalize V' = V at *
        refine hK.out _ _ L0 (fun _ => ?_)
        clear hK K
        try simp only [zA, zS, zZ, Act.put, zP, zQ, zR]
        refine Node.tk 3 ?_ rfl ?_ ?_
        rotate_left
        · intro w hSw; (try dsimp only at hSw); go_simp; try with_reducible rfl
        simp only [zA, zS, zZ, Act.put, zP, zQ, zR]
        refine Node.tk 4 ?_ rfl ?_ ?_
        rotate_left
        · intro w hSw; (try dsimp only at hSw); go_simp; try with_reducible rfl
        simp only [zA, zS, zZ, Act.put, zP, zQ, zR]
        refine Node.tk 5 ?_ rfl ?_ ?_
        rotate_left
        · intro w hSw; (try dsimp only at hSw); go_simp; try with_reducible rfl
        simp only [zA, zS, zZ, Act.put, zP, zQ, zR]
        refine Node.tk 6 ?_ rfl ?_ ?_
        rotate_left
        · intro w hSw; (try dsimp only at hSw); go_simp; try with_reducible rfl
        simp only [zA, zS, zZ, Act.put, zP, zQ, zR]
        refine Node.on 9 rfl (fun K hK => ?_)
        refine wp_st_lk N5 rfl rfl rfl rfl ?_
        have hn5 := lt_of_at N5.at_
        replace L0 := L0.far3 (g' := g5) (by omega) 7 0 2
        replace N6 := frame_far3 N6 (g' := g5) n56 7 0 2
        have N5' := N5.set3 7 0 2
        replace Bb := ((Bb.setCell (p := ⟨g5, 0, none⟩) n5 (.int .i64 7)).setCell (p := ⟨g5, 1, none⟩) n5 (.int .i64 0)).setCell (p := ⟨g5, 2, none⟩) n5 (.int .i64 2)
        replace hp : SliceAt (((V.setCell ⟨g5, 0, none⟩ (.int .i64 7)).setCell ⟨g5, 1, none⟩ (.int .i64 0)).setCell ⟨g5, 2, none⟩ (.int .i64 2)) 1 (.slice A3 noF.2.2.length c3) noF.2.2.length (u8s noF.2.2) := slice_zero hp rfl
        clear N5 hT0 hn5
        generalize ((V.setCell ⟨g5, 0, none⟩ (.int .i64 7)).setCell ⟨g5, 1, none⟩ (.int .i64 0)).setCell ⟨g5, 2, none⟩ (.int .i64 2) = V at *
        refine hK.out _ _ L0 (fun _ => ?_)
        clear hK K
        try simp only [zA, zS, zZ, Act.put, zP, zQ, zR]
        refine Node.on 10 rfl (fun K hK => ?_)
        refine wp_st_fr N6 rfl rfl rfl rfl ?_
        have F := FV.mk3 (f := noF) N6 hp rfl
        have hn6 := lt_of_at N6
        replace L0 := L0.at_
        replace L0 : LVar (((V.setCell ⟨g6, 0, none⟩ (.int .u8 (noF.1.toNat : Int))).setCell ⟨g6, 1, none⟩ (.int .u8 (noF.2.1.toNat : Int))).setCell ⟨g6, 2, none⟩ (.slice A3 noF.2.2.length c3)) g80 7 0 1 := ⟨frame_far3' L0 (by omega) _ _ _⟩
        replace N5' : LVar (((V.setCell ⟨g6, 0, none⟩ (.int .u8 (noF.1.toNat : Int))).setCell ⟨g6, 1, none⟩ (.int .u8 (noF.2.1.toNat : Int))).setCell ⟨g6, 2, none⟩ (.slice A3 noF.2.2.length c3)) g5 7 0 2 := ⟨frame_far3' N5'.at_ (Ne.symm n56) _ _ _⟩
        replace Bb := ((Bb.setCell (p := ⟨g6, 0, none⟩) n6 (.int .u8 (noF.1.toNat : Int))).setCell (p := ⟨g6, 1, none⟩) n6 (.int .u8 (noF.2.1.toNat : Int))).setCell (p := ⟨g6, 2, none⟩) n6 (.slice A3 noF.2.2.length c3)
        clear N6 hp
        generalize ((V.setCell ⟨g6, 0, none⟩ (.int .u8 (noF.1.toNat : Int))).setCell ⟨g6, 1, none⟩ (.int .u8 (noF.2.1.toNat : Int))).setCell ⟨g6, 2, none⟩ (.slice A3 noF.2.2.length c3) = V at *
        refine hK.out _ _ L0 (fun _ => ?_)
        clear hK K
        try simp only [zA, zS, zZ, Act.put, zP, zQ, zR]
        refine Node.tk 11 ?_ rfl ?_ ?_
        rotate_left
        · intro w hSw; (try dsimp only at hSw); go_simp; try with_reducible rfl
        simp only [zA, zS, zZ, Act.put, zP, zQ, zR]
        refine wpAnyH_done (by kernel_rfl) ?_ _
        exact ⟨g5, g6, ⟨rfl, rfl, by simp⟩, N5', F, Bb⟩
    · skip
      have N6 := new_at (w := V) rfl (.cells #[.int .u8 0, .int .u8 0, .slice none 0 0] 41)
      have b := below_new V (.cells #[.int .u8 0, .int .u8 0, .slice none 0 0] 41)
      refine Node.wp_new 41 (.agg #[.int .u8 0, .int .u8 0, .slice none 0 0]) #[.int .u8 0, .int .u8 0, .slice none 0 0] (by kernel_rfl) rfl (by rfl) ?_
      have n6 := Bb.size
      replace Bb := below_step Bb b
      replace L0 := L0.later b
      replace hT0 := hT0.below b
      try replace hs := hs.later b
      try replace hp := hp.later b
      try (have n56 := lt_of_at N5.at_; replace N5 := N5.later b)
      clear b
      generalize V.heap.size = g6 at *
      generalize V.alloc (.cells #[.int .u8 0, .int .u8 0, .slice none 0 0] 41) = V at *
      try replace n56 := Ne.symm (Nat.ne_of_lt n56)
      refine hK.out _ _ L0 (fun _ => ?_)
      clear hK K
      try simp only [zA, zS, zZ, Act.put, zP, zQ, zR]
      refine wpAnyH_ready (rs := [2, 7]) (by kernel_rfl) (by simp) ?_
      refine AllReadyH.cons rfl (fun K hK => ?_) (AllReadyH.cons rfl (fun K hK => ?_) AllReadyH.nil)
      · skip
        refine Node.wp_fn 11 [.tmp 50, .const (.int .u8 1), .tmp 51] _ [lkv (7, 0, 1), .int .u8 1, .slice Ap X.length cp] (by rfl) (by rfl) (enters Tryd.func11 (by kernel_rfl) rfl) (Hear_v (7, 0, 1) 1 (.slice Ap X.length cp) X V _ HR.out hT0 hs HL.out) ?_
        rintro e V' ⟨A3, c3, rfl, b, hp, hq⟩
        clear hq
        refine ⟨_, rfl, ?_⟩
        replace Bb := below_step Bb b
        replace L0 := L0.later b
        replace hT0 := hT0.below b
        try replace N5 := N5.later b
        try replace N6 := below_at b N6 (lt_of_at N6)
        clear b hs
        generalize V' = V at *
        refine hK.out _ _ L0 (fun _ => ?_)
        clear hK K
        try simp only [zA, zS, zZ, Act.put, zP, zQ, zR]
        refine Node.tk 3 ?_ rfl ?_ ?_
        rotate_left
        · intro w hSw; (try dsimp only at hSw); go_simp; try with_reducible rfl
        simp only [zA, zS, zZ, Act.put, zP, zQ, zR]
        refine Node.tk 4 ?_ rfl ?_ ?_
        rotate_left
        · intro w hSw; (try dsimp only at hSw); go_simp; try with_reducible rfl
        simp only [zA, zS, zZ, Act.put, zP, zQ, zR]
        refine Node.tk 5 ?_ rfl ?_ ?_
        rotate_left
        · intro w hSw; (try dsimp only at hSw); go_simp; try with_reducible rfl
        simp only [zA, zS, zZ, Act.put, zP, zQ, zR]
        refine Node.tk 6 ?_ rfl ?_ ?_
        rotate_left
        · intro w hSw; (try dsimp only at hSw); go_simp; try with_reducible rfl
        simp only [zA, zS, zZ, Act.put, zP, zQ, zR]
        refine Node.on 7 rfl (fun K hK => ?_)
        have N5 := LVar.new V 0 0 0
        have b := below_new V (.cells #[.int .i64 0, .int .i64 0, .int .i64 0] 31)
        refine Node.wp_new 31 (.agg #[.int .i64 0, .int .i64 0, .int .i64 0]) #[.int .i64 0, .int .i64 0, .int .i64 0] (by kernel_rfl) rfl (by rfl) ?_
        have n5 := Bb.size
        replace Bb := below_step Bb b
        replace L0 := L0.later b
        replace hT0 := hT0.below b
        try replace hs := hs.later b
        try replace hp := hp.later b
        try (have n56 := lt_of_at N6; replace N6 := below_at b N6 n56)
        clear b
        generalize V.heap.size = g5 at *
        generalize V.alloc (.cells #[.int .i64 0, .int .i64 0, .int .i64 0] 31) = V at *
        try replace n56 := Nat.ne_of_lt n56
        refine hK.out _ _ L0 (fun _ => ?_)
        clear hK K
        try simp only [zA, zS, zZ, Act.put, zP, zQ, zR]
        refine Node.on 9 rfl (fun K hK => ?_)
        refine wp_st_lk N5 rfl rfl rfl rfl ?_
        have hn5 := lt_of_at N5.at_
        replace L0 := L0.far3 (g' := g5) (by omega) 7 0 2
        replace N6 := frame_far3 N6 (g' := g5) n56 7 0 2
        have N5' := N5.set3 7 0 2
        replace Bb := ((Bb.setCell (p := ⟨g5, 0, none⟩) n5 (.int .i64 7)).setCell (p := ⟨g5, 1, none⟩) n5 (.int .i64 0)).setCell (p := ⟨g5, 2, none⟩) n5 (.int .i64 2)
        replace hp : SliceAt (((V.setCell ⟨g5, 0, none⟩ (.int .i64 7)).setCell ⟨g5, 1, none⟩ (.int .i64 0)).setCell ⟨g5, 2, none⟩ (.int .i64 2)) 1 (.slice A3 noF.2.2.length c3) noF.2.2.length (u8s noF.2.2) := slice_zero hp rfl
        clear N5 hT0 hn5
        generalize ((V.setCell ⟨g5, 0, none⟩ (.int .i64 7)).setCell ⟨g5, 1, none⟩ (.int .i64 0)).setCell ⟨g5, 2, none⟩ (.int .i64 2) = V at *
        refine hK.out _ _ L0 (fun _ => ?_)
        clear hK K
        try simp only [zA, zS, zZ, Act.put, zP, zQ, zR]
        refine Node.on 10 rfl (fun K hK => ?_)
        refine wp_st_fr N6 rfl rfl rfl rfl ?_
        have F := FV.mk3 (f := noF) N6 hp rfl
        have hn6 := lt_of_at N6
        replace L0 := L0.at_
        replace L0 : LVar (((V.setCell ⟨g6, 0, none⟩ (.int .u8 (noF.1.toNat : Int))).setCell ⟨g6, 1, none⟩ (.int .u8 (noF.2.1.toNat : Int))).setCell ⟨g6, 2, none⟩ (.slice A3 noF.2.2.length c3)) g80 7 0 1 := ⟨frame_far3' L0 (by omega) _ _ _⟩
        replace N5' : LVar (((V.setCell ⟨g6, 0, none⟩ (.int .u8 (noF.1.toNat : Int))).setCell ⟨g6, 1, none⟩ (.int .u8 (noF.2.1.toNat : Int))).setCell ⟨g6, 2, none⟩ (.slice A3 noF.2.2.length c3)) g5 7 0 2 := ⟨frame_far3' N5'.at_ (Ne.symm n56) _ _ _⟩
        replace Bb := ((Bb.setCell (p := ⟨g6, 0, none⟩) n6 (.int .u8 (noF.1.toNat : Int))).setCell (p := ⟨g6, 1, none⟩) n6 (.int .u8 (noF.2.1.toNat : Int))).setCell (p := ⟨g6, 2, none⟩) n6 (.slice A3 noF.2.2.length c3)
        clear N6 hp
        generalize ((V.setCell ⟨g6, 0, none⟩ (.int .u8 (noF.1.toNat : Int))).setCell ⟨g6, 1, none⟩ (.int .u8 (noF.2.1.toNat : Int))).setCell ⟨g6, 2, none⟩ (.slice A3 noF.2.2.length c3) = V at *
        refine hK.out _ _ L0 (fun _ => ?_)
        clear hK K
        try simp only [zA, zS, zZ, Act.put, zP, zQ, zR]
        refine Node.tk 11 ?_ rfl ?_ ?_
        rotate_left
        · intro w hSw; (try dsimp only at hSw); go_simp; try with_reducible rfl
        simp only [zA, zS, zZ, Act.put, zP, zQ, zR]
        refine wpAnyH_done (by kernel_rfl) ?_ _
        exact ⟨g5, g6, ⟨rfl, rfl, by simp⟩, N5', F, Bb⟩
      · skip
        have N5 := LVar.new V 0 0 0
        have b := below_new V (.cells #[.int .i64 0, .int .i64 0, .int .i64 0] 31)
        refine Node.wp_new 31 (.agg #[.int .i64 0, .int .i64 0, .int .i64 0]) #[.int .i64 0, .int .i64 0, .int .i64 0] (by kernel_rfl) rfl (by rfl) ?_
        have n5 := Bb.size
        replace Bb := below_step Bb b
        replace L0 := L0.later b
        replace hT0 := hT0.below b
        try replace hs := hs.later b
        try replace hp := hp.later b
        try (have n56 := lt_of_at N6; replace N6 := below_at b N6 n56)
        clear b
        generalize V.heap.size = g5 at *
        generalize V.alloc (.cells #[.int .i64 0, .int .i64 0, .int .i64 0] 31) = V at *
        try replace n56 := Nat.ne_of_lt n56
        refine hK.out _ _ L0 (fun _ => ?_)
        clear hK K
        try simp only [zA, zS, zZ, Act.put, zP, zQ, zR]
        refine Node.on 2 rfl (fun K hK => ?_)
        refine Node.wp_fn 11 [.tmp 50, .const (.int .u8 1), .tmp 51] _ [lkv (7, 0, 1), .int .u8 1, .slice Ap X.length cp] (by rfl) (by rfl) (enters Tryd.func11 (by kernel_rfl) rfl) (Hear_v (7, 0, 1) 1 (.slice Ap X.length cp) X V _ HR.out hT0 hs HL.out) ?_
        rintro e V' ⟨A3, c3, rfl, b, hp, hq⟩
        clear hq
        refine ⟨_, rfl, ?_⟩
        replace Bb := below_step Bb b
        replace L0 := L0.later b
        replace hT0 := hT0.below b
        try replace N5 := N5.later b
        try replace N6 := below_at b N6 (lt_of_at N6)
        clear b hs
        generalize V' = V at *
        refine hK.out _ _ L0 (fun _ => ?_)
        clear hK K
        try simp only [zA, zS, zZ, Act.put, zP, zQ, zR]
        refine Node.tk 3 ?_ rfl ?_ ?_
        rotate_left
        · intro w hSw; (try dsimp only at hSw); go_simp; try with_reducible rfl
        simp only [zA, zS, zZ, Act.put, zP, zQ, zR]
        refine Node.tk 4 ?_ rfl ?_ ?_
        rotate_left
        · intro w hSw; (try dsimp only at hSw); go_simp; try with_reducible rfl
        simp only [zA, zS, zZ, Act.put, zP, zQ, zR]
        refine Node.tk 5 ?_ rfl ?_ ?_
        rotate_left
        · intro w hSw; (try dsimp only at hSw); go_simp; try with_reducible rfl
        simp only [zA, zS, zZ, Act.put, zP, zQ, zR]
        refine Node.tk 6 ?_ rfl ?_ ?_
        rotate_left
        · intro w hSw; (try dsimp only at hSw); go_simp; try with_reducible rfl
        simp only [zA, zS, zZ, Act.put, zP, zQ, zR]
        refine Node.on 9 rfl (fun K hK => ?_)
        refine wp_st_lk N5 rfl rfl rfl rfl ?_
        have hn5 := lt_of_at N5.at_
        replace L0 := L0.far3 (g' := g5) (by omega) 7 0 2
        replace N6 := frame_far3 N6 (g' := g5) n56 7 0 2
        have N5' := N5.set3 7 0 2
        replace Bb := ((Bb.setCell (p := ⟨g5, 0, none⟩) n5 (.int .i64 7)).setCell (p := ⟨g5, 1, none⟩) n5 (.int .i64 0)).setCell (p := ⟨g5, 2, none⟩) n5 (.int .i64 2)
        replace hp : SliceAt (((V.setCell ⟨g5, 0, none⟩ (.int .i64 7)).setCell ⟨g5, 1, none⟩ (.int .i64 0)).setCell ⟨g5, 2, none⟩ (.int .i64 2)) 1 (.slice A3 noF.2.2.length c3) noF.2.2.length (u8s noF.2.2) := slice_zero hp rfl
        clear N5 hT0 hn5
        generalize ((V.setCell ⟨g5, 0, none⟩ (.int .i64 7)).setCell ⟨g5, 1, none⟩ (.int .i64 0)).setCell ⟨g5, 2, none⟩ (.int .i64 2) = V at *
        refine hK.out _ _ L0 (fun _ => ?_)
        clear hK K
        try simp only [zA, zS, zZ, Act.put, zP, zQ, zR]
        refine Node.on 10 rfl (fun K hK => ?_)
        refine wp_st_fr N6 rfl rfl rfl rfl ?_
        have F := FV.mk3 (f := noF) N6 hp rfl
        have hn6 := lt_of_at N6
        replace L0 := L0.at_
        replace L0 : LVar (((V.setCell ⟨g6, 0, none⟩ (.int .u8 (noF.1.toNat : Int))).setCell ⟨g6, 1, none⟩ (.int .u8 (noF.2.1.toNat : Int))).setCell ⟨g6, 2, none⟩ (.slice A3 noF.2.2.length c3)) g80 7 0 1 := ⟨frame_far3' L0 (by omega) _ _ _⟩
        replace N5' : LVar (((V.setCell ⟨g6, 0, none⟩ (.int .u8 (noF.1.toNat : Int))).setCell ⟨g6, 1, none⟩ (.int .u8 (noF.2.1.toNat : Int))).setCell ⟨g6, 2, none⟩ (.slice A3 noF.2.2.length c3)) g5 7 0 2 := ⟨frame_far3' N5'.at_ (Ne.symm n56) _ _ _⟩
        replace Bb := ((Bb.setCell (p := ⟨g6, 0, none⟩) n6 (.int .u8 (noF.1.toNat : Int))).setCell (p := ⟨g6, 1, none⟩) n6 (.int .u8 (noF.2.1.toNat : Int))).setCell (p := ⟨g6, 2, none⟩) n6 (.slice A3 noF.2.2.length c3)
        clear N6 hp
        generalize ((V.setCell ⟨g6, 0, none⟩ (.int .u8 (noF.1.toNat : Int))).setCell ⟨g6, 1, none⟩ (.int .u8 (noF.2.1.toNat : Int))).setCell ⟨g6, 2, none⟩ (.slice A3 noF.2.2.length c3) = V at *
        refine hK.out _ _ L0 (fun _ => ?_)
        clear hK K
        try simp only [zA, zS, zZ, Act.put, zP, zQ, zR]
        refine Node.tk 11 ?_ rfl ?_ ?_
        rotate_left
        · intro w hSw; (try dsimp only at hSw); go_simp; try with_reducible rfl
        simp only [zA, zS, zZ, Act.put, zP, zQ, zR]
        refine wpAnyH_done (by kernel_rfl) ?_ _
        exact ⟨g5, g6, ⟨rfl, rfl, by simp⟩, N5', F, Bb⟩
  · skip
    have N5 := LVar.new V 0 0 0
    have b := below_new V (.cells #[.int .i64 0, .int .i64 0, .int .i64 0] 31)
    refine Node.wp_new 31 (.agg #[.int .i64 0, .int .i64 0, .int .i64 0]) #[.int .i64 0, .int .i64 0, .int .i64 0] (by kernel_rfl) rfl (by rfl) ?_
    have n5 := Bb.size
    replace Bb := below_step Bb b
    replace L0 := L0.later b
    replace hT0 := hT0.below b
    try replace hs := hs.later b
    try replace hp := hp.later b
    try (have n56 := lt_of_at N6; replace N6 := below_at b N6 n56)
    clear b
    generalize V.heap.size = g5 at *
    generalize V.alloc (.cells #[.int .i64 0, .int .i64 0, .int .i64 0] 31) = V at *
    try replace n56 := Nat.ne_of_lt n56
    refine hK.out _ _ L0 (fun _ => ?_)
    clear hK K
    try simp only [zA, zS, zZ, Act.put, zP, zQ, zR]
    refine wpAnyH_ready (rs := [1, 8]) (by kernel_rfl) (by simp) ?_
    refine AllReadyH.cons rfl (fun K hK => ?_) (AllReadyH.cons rfl (fun K hK => ?_) AllReadyH.nil)
    · skip
      refine Node.wp_fn 31 [.const (.int .u8 8)] _ [.int .u8 8] (by rfl) (by rfl) (enters Tryd.func31 (by kernel_rfl) rfl) (panel_c 8#8 8 rfl X HX.out V) ?_
      rintro e V' ⟨b, Ap, cp, rfl, hs⟩
      refine ⟨_, rfl, ?_⟩
      replace Bb := below_step Bb b
      replace L0 := L0.later b
      replace hT0 := hT0.below b
      try replace N5 := N5.later b
      try replace N6 := below_at b N6 (lt_of_at N6)
      clear b
      generalize V' = V at *
      refine hK.out _ _ L0 (fun _ => ?_)
      clear hK K
      try simp only [zA, zS, zZ, Act.put, zP, zQ, zR]
      refine wpAnyH_ready (rs := [2, 8]) (by kernel_rfl) (by simp) ?_
      refine AllReadyH.cons rfl (fun K hK => ?_) (AllReadyH.cons rfl (fun K hK => ?_) AllReadyH.nil)
      · skip
        refine Node.wp_fn 11 [.tmp 50, .const (.int .u8 1), .tmp 51] _ [lkv (7, 0, 1), .int .u8 1, .slice Ap X.length cp] (by rfl) (by rfl) (enters Tryd.func11 (by kernel_rfl) rfl) (Hear_v (7, 0, 1) 1 (.slice Ap X.length cp) X V _ HR.out hT0 hs HL.out) ?_
        rintro e V' ⟨A3, c3, rfl, b, hp, hq⟩
        clear hq
        refine ⟨_, rfl, ?_⟩
        replace Bb := below_step Bb b
        replace L0 := L0.later b
        replace hT0 := hT0.below b
        try replace N5 := N5.later b
        try replace N6 := below_at b N6 (lt_of_at N6)
        clear b hs
        generalize V' = V at *
        refine hK.out _ _ L0 (fun _ => ?_)
        clear hK K
        try simp only [zA, zS, zZ, Act.put, zP, zQ, zR]
        refine Node.tk 3 ?_ rfl ?_ ?_
        rotate_left
        · intro w hSw; (try dsimp only at hSw); go_simp; try with_reducible rfl
        simp only [zA, zS, zZ, Act.put, zP, zQ, zR]
        refine Node.tk 4 ?_ rfl ?_ ?_
        rotate_left
        · intro w hSw; (try dsimp only at hSw); go_simp; try with_reducible rfl
        simp only [zA, zS, zZ, Act.put, zP, zQ, zR]
        refine Node.tk 5 ?_ rfl ?_ ?_
        rotate_left
        · intro w hSw; (try dsimp only at hSw); go_simp; try with_reducible rfl
        simp only [zA, zS, zZ, Act.put, zP, zQ, zR]
        refine Node.tk 6 ?_ rfl ?_ ?_
        rotate_left
        · intro w hSw; (try dsimp only at hSw); go_simp; try with_reducible rfl
        simp only [zA, zS, zZ, Act.put, zP, zQ, zR]
        refine Node.on 8 rfl (fun K hK => ?_)
        have N6 := new_at (w := V) rfl (.cells #[.int .u8 0, .int .u8 0, .slice none 0 0] 41)
        have b := below_new V (.cells #[.int .u8 0, .int .u8 0, .slice none 0 0] 41)
        refine Node.wp_new 41 (.agg #[.int .u8 0, .int .u8 0, .slice none 0 0]) #[.int .u8 0, .int .u8 0, .slice none 0 0] (by kernel_rfl) rfl (by rfl) ?_
        have n6 := Bb.size
        replace Bb := below_step Bb b
        replace L0 := L0.later b
        replace hT0 := hT0.below b
        try replace hs := hs.later b
        try replace hp := hp.later b
        try (have n56 := lt_of_at N5.at_; replace N5 := N5.later b)
        clear b
        generalize V.heap.size = g6 at *
        generalize V.alloc (.cells #[.int .u8 0, .int .u8 0, .slice none 0 0] 41) = V at *
        try replace n56 := Ne.symm (Nat.ne_of_lt n56)
        refine hK.out _ _ L0 (fun _ => ?_)
        clear hK K
        try simp only [zA, zS, zZ, Act.put, zP, zQ, zR]
        refine Node.on 9 rfl (fun K hK => ?_)
        refine wp_st_lk N5 rfl rfl rfl rfl ?_
        have hn5 := lt_of_at N5.at_
        replace L0 := L0.far3 (g' := g5) (by omega) 7 0 2
        replace N6 := frame_far3 N6 (g' := g5) n56 7 0 2
        have N5' := N5.set3 7 0 2
        replace Bb := ((Bb.setCell (p := ⟨g5, 0, none⟩) n5 (.int .i64 7)).setCell (p := ⟨g5, 1, none⟩) n5 (.int .i64 0)).setCell (p := ⟨g5, 2, none⟩) n5 (.int .i64 2)
        replace hp : SliceAt (((V.setCell ⟨g5, 0, none⟩ (.int .i64 7)).setCell ⟨g5, 1, none⟩ (.int .i64 0)).setCell ⟨g5, 2, none⟩ (.int .i64 2)) 1 (.slice A3 noF.2.2.length c3) noF.2.2.length (u8s noF.2.2) := slice_zero hp rfl
        clear N5 hT0 hn5
        generalize ((V.setCell ⟨g5, 0, none⟩ (.int .i64 7)).setCell ⟨g5, 1, none⟩ (.int .i64 0)).setCell ⟨g5, 2, none⟩ (.int .i64 2) = V at *
        refine hK.out _ _ L0 (fun _ => ?_)
        clear hK K
        try simp only [zA, zS, zZ, Act.put, zP, zQ, zR]
        refine Node.on 10 rfl (fun K hK => ?_)
        refine wp_st_fr N6 rfl rfl rfl rfl ?_
        have F := FV.mk3 (f := noF) N6 hp rfl
        have hn6 := lt_of_at N6
        replace L0 := L0.at_
        replace L0 : LVar (((V.setCell ⟨g6, 0, none⟩ (.int .u8 (noF.1.toNat : Int))).setCell ⟨g6, 1, none⟩ (.int .u8 (noF.2.1.toNat : Int))).setCell ⟨g6, 2, none⟩ (.slice A3 noF.2.2.length c3)) g80 7 0 1 := ⟨frame_far3' L0 (by omega) _ _ _⟩
        replace N5' : LVar (((V.setCell ⟨g6, 0, none⟩ (.int .u8 (noF.1.toNat : Int))).setCell ⟨g6, 1, none⟩ (.int .u8 (noF.2.1.toNat : Int))).setCell ⟨g6, 2, none⟩ (.slice A3 noF.2.2.length c3)) g5 7 0 2 := ⟨frame_far3' N5'.at_ (Ne.symm n56) _ _ _⟩
        replace Bb := ((Bb.setCell (p := ⟨g6, 0, none⟩) n6 (.int .u8 (noF.1.toNat : Int))).setCell (p := ⟨g6, 1, none⟩) n6 (.int .u8 (noF.2.1.toNat : Int))).setCell (p := ⟨g6, 2, none⟩) n6 (.slice A3 noF.2.2.length c3)
        clear N6 hp
        generalize ((V.setCell ⟨g6, 0, none⟩ (.int .u8 (noF.1.toNat : Int))).setCell ⟨g6, 1, none⟩ (.int .u8 (noF.2.1.toNat : Int))).setCell ⟨g6, 2, none⟩ (.slice A3 noF.2.2.length c3) = V at *
        refine hK.out _ _ L0 (fun _ => ?_)
        clear hK K
        try simp only [zA, zS, zZ, Act.put, zP, zQ, zR]
        refine Node.tk 11 ?_ rfl ?_ ?_
        rotate_left
        · intro w hSw; (try dsimp only at hSw); go_simp; try with_reducible rfl
        simp only [zA, zS, zZ, Act.put, zP, zQ, zR]
        refine wpAnyH_done (by kernel_rfl) ?_ _
        exact ⟨g5, g6, ⟨rfl, rfl, by simp⟩, N5', F, Bb⟩
      · skip
        have N6 := new_at (w := V) rfl (.cells #[.int .u8 0, .int .u8 0, .slice none 0 0] 41)
        have b := below_new V (.cells #[.int .u8 0, .int .u8 0, .slice none 0 0] 41)
        refine Node.wp_new 41 (.agg #[.int .u8 0, .int .u8 0, .slice none 0 0]) #[.int .u8 0, .int .u8 0, .slice none 0 0] (by kernel_rfl) rfl (by rfl) ?_
        have n6 := Bb.size
        replace Bb := below_step Bb b
        replace L0 := L0.later b
        replace hT0 := hT0.below b
        try replace hs := hs.later b
        try replace hp := hp.later b
        try (have n56 := lt_of_at N5.at_; replace N5 := N5.later b)
        clear b
        generalize V.heap.size = g6 at *
        generalize V.alloc (.cells #[.int .u8 0, .int .u8 0, .slice none 0 0] 41) = V at *
        try replace n56 := Ne.symm (Nat.ne_of_lt n56)
        refine hK.out _ _ L0 (fun _ => ?_)
        clear hK K
        try simp only [zA, zS, zZ, Act.put, zP, zQ, zR]
        refine Node.on 2 rfl (fun K hK => ?_)
        refine Node.wp_fn 11 [.tmp 50, .const (.int .u8 1), .tmp 51] _ [lkv (7, 0, 1), .int .u8 1, .slice Ap X.length cp] (by rfl) (by rfl) (enters Tryd.func11 (by kernel_rfl) rfl) (Hear_v (7, 0, 1) 1 (.slice Ap X.length cp) X V _ HR.out hT0 hs HL.out) ?_
        rintro e V' ⟨A3, c3, rfl, b, hp, hq⟩
        clear hq
        refine ⟨_, rfl, ?_⟩
        replace Bb := below_step Bb b
        replace L0 := L0.later b
        replace hT0 := hT0.below b
        try replace N5 := N5.later b
        try replace N6 := below_at b N6 (lt_of_at N6)
        clear b hs
        generalize V' = V at *
        refine hK.out _ _ L0 (fun _ => ?_)
        clear hK K
        try simp only [zA, zS, zZ, Act.put, zP, zQ, zR]
        refine Node.tk 3 ?_ rfl ?_ ?_
        rotate_left
        · intro w hSw; (try dsimp only at hSw); go_simp; try with_reducible rfl
        simp only [zA, zS, zZ, Act.put, zP, zQ, zR]
        refine Node.tk 4 ?_ rfl ?_ ?_
        rotate_left
        · intro w hSw; (try dsimp only at hSw); go_simp; try with_reducible rfl
        simp only [zA, zS, zZ, Act.put, zP, zQ, zR]
        refine Node.tk 5 ?_ rfl ?_ ?_
        rotate_left
        · intro w hSw; (try dsimp only at hSw); go_simp; try with_reducible rfl
        simp only [zA, zS, zZ, Act.put, zP, zQ, zR]
        refine Node.tk 6 ?_ rfl ?_ ?_
        rotate_left
        · intro w hSw; (try dsimp only at hSw); go_simp; try with_reducible rfl
        simp only [zA, zS, zZ, Act.put, zP, zQ, zR]
        refine Node.on 9 rfl (fun K hK => ?_)
        refine wp_st_lk N5 rfl rfl rfl rfl ?_
        have hn5 := lt_of_at N5.at_
        replace L0 := L0.far3 (g' := g5) (by omega) 7 0 2
        replace N6 := frame_far3 N6 (g' := g5) n56 7 0 2
        have N5' := N5.set3 7 0 2
        replace Bb := ((Bb.setCell (p := ⟨g5, 0, none⟩) n5 (.int .i64 7)).setCell (p := ⟨g5, 1, none⟩) n5 (.int .i64 0)).setCell (p := ⟨g5, 2, none⟩) n5 (.int .i64 2)
        replace hp : SliceAt (((V.setCell ⟨g5, 0, none⟩ (.int .i64 7)).setCell ⟨g5, 1, none⟩ (.int .i64 0)).setCell ⟨g5, 2, none⟩ (.int .i64 2)) 1 (.slice A3 noF.2.2.length c3) noF.2.2.length (u8s noF.2.2) := slice_zero hp rfl
        clear N5 hT0 hn5
        generalize ((V.setCell ⟨g5, 0, none⟩ (.int .i64 7)).setCell ⟨g5, 1, none⟩ (.int .i64 0)).setCell ⟨g5, 2, none⟩ (.int .i64 2) = V at *
        refine hK.out _ _ L0 (fun _ => ?_)
        clear hK K
        try simp only [zA, zS, zZ, Act.put, zP, zQ, zR]
        refine Node.on 10 rfl (fun K hK => ?_)
        refine wp_st_fr N6 rfl rfl rfl rfl ?_
        have F := FV.mk3 (f := noF) N6 hp rfl
        have hn6 := lt_of_at N6
        replace L0 := L0.at_
        replace L0 : LVar (((V.setCell ⟨g6, 0, none⟩ (.int .u8 (noF.1.toNat : Int))).setCell ⟨g6, 1, none⟩ (.int .u8 (noF.2.1.toNat : Int))).setCell ⟨g6, 2, none⟩ (.slice A3 noF.2.2.length c3)) g80 7 0 1 := ⟨frame_far3' L0 (by omega) _ _ _⟩
        replace N5' : LVar (((V.setCell ⟨g6, 0, none⟩ (.int .u8 (noF.1.toNat : Int))).setCell ⟨g6, 1, none⟩ (.int .u8 (noF.2.1.toNat : Int))).setCell ⟨g6, 2, none⟩ (.slice A3 noF.2.2.length c3)) g5 7 0 2 := ⟨frame_far3' N5'.at_ (Ne.symm n56) _ _ _⟩
        replace Bb := ((Bb.setCell (p := ⟨g6, 0, none⟩) n6 (.int .u8 (noF.1.toNat : Int))).setCell (p := ⟨g6, 1, none⟩) n6 (.int .u8 (noF.2.1.toNat : Int))).setCell (p := ⟨g6, 2, none⟩) n6 (.slice A3 noF.2.2.length c3)
        clear N6 hp
        generalize ((V.setCell ⟨g6, 0, none⟩ (.int .u8 (noF.1.toNat : Int))).setCell ⟨g6, 1, none⟩ (.int .u8 (noF.2.1.toNat : Int))).setCell ⟨g6, 2, none⟩ (.slice A3 noF.2.2.length c3) = V at *
        refine hK.out _ _ L0 (fun _ => ?_)
        clear hK K
        try simp only [zA, zS, zZ, Act.put, zP, zQ, zR]
        refine Node.tk 11 ?_ rfl ?_ ?_
        rotate_left
        · intro w hSw; (try dsimp only at hSw); go_simp; try with_reducible rfl
        simp only [zA, zS, zZ, Act.put, zP, zQ, zR]
        refine wpAnyH_done (by kernel_rfl) ?_ _
        exact ⟨g5, g6, ⟨rfl, rfl, by simp⟩, N5', F, Bb⟩
    · skip
      have N6 := new_at (w := V) rfl (.cells #[.int .u8 0, .int .u8 0, .slice none 0 0] 41)
      have b := below_new V (.cells #[.int .u8 0, .int .u8 0, .slice none 0 0] 41)
      refine Node.wp_new 41 (.agg #[.int .u8 0, .int .u8 0, .slice none 0 0]) #[.int .u8 0, .int .u8 0, .slice none 0 0] (by kernel_rfl) rfl (by rfl) ?_
      have n6 := Bb.size
      replace Bb := below_step Bb b
      replace L0 := L0.later b
      replace hT0 := hT0.below b
      try replace hs := hs.later b
      try replace hp := hp.later b
      try (have n56 := lt_of_at N5.at_; replace N5 := N5.later b)
      clear b
      generalize V.heap.size = g6 at *
      generalize V.alloc (.cells #[.int .u8 0, .int .u8 0, .slice none 0 0] 41) = V at *
      try replace n56 := Ne.symm (Nat.ne_of_lt n56)
      refine hK.out _ _ L0 (fun _ => ?_)
      clear hK K
      try simp only [zA, zS, zZ, Act.put, zP, zQ, zR]
      refine Node.on 1 rfl (fun K hK => ?_)
      refine Node.wp_fn 31 [.const (.int .u8 8)] _ [.int .u8 8] (by rfl) (by rfl) (enters Tryd.func31 (by kernel_rfl) rfl) (panel_c 8#8 8 rfl X HX.out V) ?_
      rintro e V' ⟨b, Ap, cp, rfl, hs⟩
      refine ⟨_, rfl, ?_⟩
      replace Bb := below_step Bb b
      replace L0 := L0.later b
      replace hT0 := hT0.below b
      try replace N5 := N5.later b
      try replace N6 := below_at b N6 (lt_of_at N6)
      clear b
      generalize V' = V at *
      refine hK.out _ _ L0 (fun _ => ?_)
      clear hK K
      try simp only [zA, zS, zZ, Act.put, zP, zQ, zR]
      refine Node.on 2 rfl (fun K hK => ?_)
      refine Node.wp_fn 11 [.tmp 50, .const (.int .u8 1), .tmp 51] _ [lkv (7, 0, 1), .int .u8 1, .slice Ap X.length cp] (by rfl) (by rfl) (enters Tryd.func11 (by kernel_rfl) rfl) (Hear_v (7, 0, 1) 1 (.slice Ap X.length cp) X V _ HR.out hT0 hs HL.out) ?_
      rintro e V' ⟨A3, c3, rfl, b, hp, hq⟩
      clear hq
      refine ⟨_, rfl, ?_⟩
      replace Bb := below_step Bb b
      replace L0 := L0.later b
      replace hT0 := hT0.below b
      try replace N5 := N5.later b
      try replace N6 := below_at b N6 (lt_of_at N6)
      clear b hs
      generalize V' = V at *
      refine hK.out _ _ L0 (fun _ => ?_)
      clear hK K
      try simp only [zA, zS, zZ, Act.put, zP, zQ, zR]
      refine Node.tk 3 ?_ rfl ?_ ?_
      rotate_left
      · intro w hSw; (try dsimp only at hSw); go_simp; try with_reducible rfl
      simp only [zA, zS, zZ, Act.put, zP, zQ, zR]
      refine Node.tk 4 ?_ rfl ?_ ?_
      rotate_left
      · intro w hSw; (try dsimp only at hSw); go_simp; try with_reducible rfl
      simp only [zA, zS, zZ, Act.put, zP, zQ, zR]
      refine Node.tk 5 ?_ rfl ?_ ?_
      rotate_left
      · intro w hSw; (try dsimp only at hSw); go_simp; try with_reducible rfl
      simp only [zA, zS, zZ, Act.put, zP, zQ, zR]
      refine Node.tk 6 ?_ rfl ?_ ?_
      rotate_left
      · intro w hSw; (try dsimp only at hSw); go_simp; try with_reducible rfl
      simp only [zA, zS, zZ, Act.put, zP, zQ, zR]
      refine Node.on 9 rfl (fun K hK => ?_)
      refine wp_st_lk N5 rfl rfl rfl rfl ?_
      have hn5 := lt_of_at N5.at_
      replace L0 := L0.far3 (g' := g5) (by omega) 7 0 2
      replace N6 := frame_far3 N6 (g' := g5) n56 7 0 2
      have N5' := N5.set3 7 0 2
      replace Bb := ((Bb.setCell (p := ⟨g5, 0, none⟩) n5 (.int .i64 7)).setCell (p := ⟨g5, 1, none⟩) n5 (.int .i64 0)).setCell (p := ⟨g5, 2, none⟩) n5 (.int .i64 2)
      replace hp : SliceAt (((V.setCell ⟨g5, 0, none⟩ (.int .i64 7)).setCell ⟨g5, 1, none⟩ (.int .i64 0)).setCell ⟨g5, 2, none⟩ (.int .i64 2)) 1 (.slice A3 noF.2.2.length c3) noF.2.2.length (u8s noF.2.2) := slice_zero hp rfl
      clear N5 hT0 hn5
      generalize ((V.setCell ⟨g5, 0, none⟩ (.int .i64 7)).setCell ⟨g5, 1, none⟩ (.int .i64 0)).setCell ⟨g5, 2, none⟩ (.int .i64 2) = V at *
      refine hK.out _ _ L0 (fun _ => ?_)
      clear hK K
      try simp only [zA, zS, zZ, Act.put, zP, zQ, zR]
      refine Node.on 10 rfl (fun K hK => ?_)
      refine wp_st_fr N6 rfl rfl rfl rfl ?_
      have F := FV.mk3 (f := noF) N6 hp rfl
      have hn6 := lt_of_at N6
      replace L0 := L0.at_
      replace L0 : LVar (((V.setCell ⟨g6, 0, none⟩ (.int .u8 (noF.1.toNat : Int))).setCell ⟨g6, 1, none⟩ (.int .u8 (noF.2.1.toNat : Int))).setCell ⟨g6, 2, none⟩ (.slice A3 noF.2.2.length c3)) g80 7 0 1 := ⟨frame_far3' L0 (by omega) _ _ _⟩
      replace N5' : LVar (((V.setCell ⟨g6, 0, none⟩ (.int .u8 (noF.1.toNat : Int))).setCell ⟨g6, 1, none⟩ (.int .u8 (noF.2.1.toNat : Int))).setCell ⟨g6, 2, none⟩ (.slice A3 noF.2.2.length c3)) g5 7 0 2 := ⟨frame_far3' N5'.at_ (Ne.symm n56) _ _ _⟩
      replace Bb := ((Bb.setCell (p := ⟨g6, 0, none⟩) n6 (.int .u8 (noF.1.toNat : Int))).setCell (p := ⟨g6, 1, none⟩) n6 (.int .u8 (noF.2.1.toNat : Int))).setCell (p := ⟨g6, 2, none⟩) n6 (.slice A3 noF.2.2.length c3)
      clear N6 hp
      generalize ((V.setCell ⟨g6, 0, none⟩ (.int .u8 (noF.1.toNat : Int))).setCell ⟨g6, 1, none⟩ (.int .u8 (noF.2.1.toNat : Int))).setCell ⟨g6, 2, none⟩ (.slice A3 noF.2.2.length c3) = V at *
      refine hK.out _ _ L0 (fun _ => ?_)
      clear hK K
      try simp only [zA, zS, zZ, Act.put, zP, zQ, zR]
      refine Node.tk 11 ?_ rfl ?_ ?_
      rotate_left
      · intro w hSw; (try dsimp only at hSw); go_simp; try with_reducible rfl
      simp only [zA, zS, zZ, Act.put, zP, zQ, zR]
      refine wpAnyH_done (by kernel_rfl) ?_ _
      exact ⟨g5, g6, ⟨rfl, rfl, by simp⟩, N5', F, Bb⟩
  · skip
    have N6 := new_at (w := V) rfl (.cells #[.int .u8 0, .int .u8 0, .slice none 0 0] 41)
    have b := below_new V (.cells #[.int .u8 0, .int .u8 0, .slice none 0 0] 41)
    refine Node.wp_new 41 (.agg #[.int .u8 0, .int .u8 0, .slice none 0 0]) #[.int .u8 0, .int .u8 0, .slice none 0 0] (by kernel_rfl) rfl (by rfl) ?_
    have n6 := Bb.size
    replace Bb := below_step Bb b
    replace L0 := L0.later b
    replace hT0 := hT0.below b
    try replace hs := hs.later b
    try replace hp := hp.later b
    try (have n56 := lt_of_at N5.at_; replace N5 := N5.later b)
    clear b
    generalize V.heap.size = g6 at *
    generalize V.alloc (.cells #[.int .u8 0, .int .u8 0, .slice none 0 0] 41) = V at *
    try replace n56 := Ne.symm (Nat.ne_of_lt n56)
    refine hK.out _ _ L0 (fun _ => ?_)
    clear hK K
    try simp only [zA, zS, zZ, Act.put, zP, zQ, zR]
    refine wpAnyH_ready (rs := [1, 7]) (by kernel_rfl) (by simp) ?_
    refine AllReadyH.cons rfl (fun K hK => ?_) (AllReadyH.cons rfl (fun K hK => ?_) AllReadyH.nil)
    · skip
      refine Node.wp_fn 31 [.const (.int .u8 8)] _ [.int .u8 8] (by rfl) (by rfl) (enters Tryd.func31 (by kernel_rfl) rfl) (panel_c 8#8 8 rfl X HX.out V) ?_
      rintro e V' ⟨b, Ap, cp, rfl, hs⟩
      refine ⟨_, rfl, ?_⟩
      replace Bb := below_step Bb b
      replace L0 := L0.later b
      replace hT0 := hT0.below b
      try replace N5 := N5.later b
      try replace N6 := below_at b N6 (lt_of_at N6)
      clear b
      generalize V' = V at *
      refine hK.out _ _ L0 (fun _ => ?_)
      clear hK K
      try simp only [zA, zS, zZ, Act.put, zP, zQ, zR]
      refine wpAnyH_ready (rs := [2, 7]) (by kernel_rfl) (by simp) ?_
      refine AllReadyH.cons rfl (fun K hK => ?_) (AllReadyH.cons rfl (fun K hK => ?_) AllReadyH.nil)
      · skip
        refine Node.wp_fn 11 [.tmp 50, .const (.int .u8 1), .tmp 51] _ [lkv (7, 0, 1), .int .u8 1, .slice Ap X.length cp] (by rfl) (by rfl) (enters Tryd.func11 (by kernel_rfl) rfl) (Hear_v (7, 0, 1) 1 (.slice Ap X.length cp) X V _ HR.out hT0 hs HL.out) ?_
        rintro e V' ⟨A3, c3, rfl, b, hp, hq⟩
        clear hq
        refine ⟨_, rfl, ?_⟩
        replace Bb := below_step Bb b
        replace L0 := L0.later b
        replace hT0 := hT0.below b
        try replace N5 := N5.later b
        try replace N6 := below_at b N6 (lt_of_at N6)
        clear b hs
        generalize V' = V at *
        refine hK.out _ _ L0 (fun _ => ?_)
        clear hK K
        try simp only [zA, zS, zZ, Act.put, zP, zQ, zR]
        refine Node.tk 3 ?_ rfl ?_ ?_
        rotate_left
        · intro w hSw; (try dsimp only at hSw); go_simp; try with_reducible rfl
        simp only [zA, zS, zZ, Act.put, zP, zQ, zR]
        refine Node.tk 4 ?_ rfl ?_ ?_
        rotate_left
        · intro w hSw; (try dsimp only at hSw); go_simp; try with_reducible rfl
        simp only [zA, zS, zZ, Act.put, zP, zQ, zR]
        refine Node.tk 5 ?_ rfl ?_ ?_
        rotate_left
        · intro w hSw; (try dsimp only at hSw); go_simp; try with_reducible rfl
        simp only [zA, zS, zZ, Act.put, zP, zQ, zR]
        refine Node.tk 6 ?_ rfl ?_ ?_
        rotate_left
        · intro w hSw; (try dsimp only at hSw); go_simp; try with_reducible rfl
        simp only [zA, zS, zZ, Act.put, zP, zQ, zR]
        refine Node.on 7 rfl (fun K hK => ?_)
        have N5 := LVar.new V 0 0 0
        have b := below_new V (.cells #[.int .i64 0, .int .i64 0, .int .i64 0] 31)
        refine Node.wp_new 31 (.agg #[.int .i64 0, .int .i64 0, .int .i64 0]) #[.int .i64 0, .int .i64 0, .int .i64 0] (by kernel_rfl) rfl (by rfl) ?_
        have n5 := Bb.size
        replace Bb := below_step Bb b
        replace L0 := L0.later b
        replace hT0 := hT0.below b
        try replace hs := hs.later b
        try replace hp := hp.later b
        try (have n56 := lt_of_at N6; replace N6 := below_at b N6 n56)
        clear b
        generalize V.heap.size = g5 at *
        generalize V.alloc (.cells #[.int .i64 0, .int .i64 0, .int .i64 0] 31) = V at *
        try replace n56 := Nat.ne_of_lt n56
        refine hK.out _ _ L0 (fun _ => ?_)
        clear hK K
        try simp only [zA, zS, zZ, Act.put, zP, zQ, zR]
        refine Node.on 9 rfl (fun K hK => ?_)
        refine wp_st_lk N5 rfl rfl rfl rfl ?_
        have hn5 := lt_of_at N5.at_
        replace L0 := L0.far3 (g' := g5) (by omega) 7 0 2
        replace N6 := frame_far3 N6 (g' := g5) n56 7 0 2
        have N5' := N5.set3 7 0 2
        replace Bb := ((Bb.setCell (p := ⟨g5, 0, none⟩) n5 (.int .i64 7)).setCell (p := ⟨g5, 1, none⟩) n5 (.int .i64 0)).setCell (p := ⟨g5, 2, none⟩) n5 (.int .i64 2)
        replace hp : SliceAt (((V.setCell ⟨g5, 0, none⟩ (.int .i64 7)).setCell ⟨g5, 1, none⟩ (.int .i64 0)).setCell ⟨g5, 2, none⟩ (.int .i64 2)) 1 (.slice A3 noF.2.2.length c3) noF.2.2.length (u8s noF.2.2) := slice_zero hp rfl
        clear N5 hT0 hn5
        generalize ((V.setCell ⟨g5, 0, none⟩ (.int .i64 7)).setCell ⟨g5, 1, none⟩ (.int .i64 0)).setCell ⟨g5, 2, none⟩ (.int .i64 2) = V at *
        refine hK.out _ _ L0 (fun _ => ?_)
        clear hK K
        try simp only [zA, zS, zZ, Act.put, zP, zQ, zR]
        refine Node.on 10 rfl (fun K hK => ?_)
        refine wp_st_fr N6 rfl rfl rfl rfl ?_
        have F := FV.mk3 (f := noF) N6 hp rfl
        have hn6 := lt_of_at N6
        replace L0 := L0.at_
        replace L0 : LVar (((V.setCell ⟨g6, 0, none⟩ (.int .u8 (noF.1.toNat : Int))).setCell ⟨g6, 1, none⟩ (.int .u8 (noF.2.1.toNat : Int))).setCell ⟨g6, 2, none⟩ (.slice A3 noF.2.2.length c3)) g80 7 0 1 := ⟨frame_far3' L0 (by omega) _ _ _⟩
        replace N5' : LVar (((V.setCell ⟨g6, 0, none⟩ (.int .u8 (noF.1.toNat : Int))).setCell ⟨g6, 1, none⟩ (.int .u8 (noF.2.1.toNat : Int))).setCell ⟨g6, 2, none⟩ (.slice A3 noF.2.2.length c3)) g5 7 0 2 := ⟨frame_far3' N5'.at_ (Ne.symm n56) _ _ _⟩
        replace Bb := ((Bb.setCell (p := ⟨g6, 0, none⟩) n6 (.int .u8 (noF.1.toNat : Int))).setCell (p := ⟨g6, 1, none⟩) n6 (.int .u8 (noF.2.1.toNat : Int))).setCell (p := ⟨g6, 2, none⟩) n6 (.slice A3 noF.2.2.length c3)
        clear N6 hp
        generalize ((V.setCell ⟨g6, 0, none⟩ (.int .u8 (noF.1.toNat : Int))).setCell ⟨g6, 1, none⟩ (.int .u8 (noF.2.1.toNat : Int))).setCell ⟨g6, 2, none⟩ (.slice A3 noF.2.2.length c3) = V at *
        refine hK.out _ _ L0 (fun _ => ?_)
        clear hK K
        try simp only [zA, zS, zZ, Act.put, zP, zQ, zR]
        refine Node.tk 11 ?_ rfl ?_ ?_
        rotate_left
        · intro w hSw; (try dsimp only at hSw); go_simp; try with_reducible rfl
        simp only [zA, zS, zZ, Act.put, zP, zQ, zR]
        refine wpAnyH_done (by kernel_rfl) ?_ _
        exact ⟨g5, g6, ⟨rfl, rfl, by simp⟩, N5', F, Bb⟩
      · skip
        have N5 := LVar.new V 0 0 0
        have b := below_new V (.cells #[.int .i64 0, .int .i64 0, .int .i64 0] 31)
        refine Node.wp_new 31 (.agg #[.int .i64 0, .int .i64 0, .int .i64 0]) #[.int .i64 0, .int .i64 0, .int .i64 0] (by kernel_rfl) rfl (by rfl) ?_
        have n5 := Bb.size
        replace Bb := below_step Bb b
        replace L0 := L0.later b
        replace hT0 := hT0.below b
        try replace hs := hs.later b
        try replace hp := hp.later b
        try (have n56 := lt_of_at N6; replace N6 := below_at b N6 n56)
        clear b
        generalize V.heap.size = g5 at *
        generalize V.alloc (.cells #[.int .i64 0, .int .i64 0, .int .i64 0] 31) = V at *
        try replace n56 := Nat.ne_of_lt n56
        refine hK.out _ _ L0 (fun _ => ?_)
        clear hK K
        try simp only [zA, zS, zZ, Act.put, zP, zQ, zR]
        refine Node.on 2 rfl (fun K hK => ?_)
        refine Node.wp_fn 11 [.tmp 50, .const (.int .u8 1), .tmp 51] _ [lkv (7, 0, 1), .int .u8 1, .slice Ap X.length cp] (by rfl) (by rfl) (enters Tryd.func11 (by kernel_rfl) rfl) (Hear_v (7, 0, 1) 1 (.slice Ap X.length cp) X V _ HR.out hT0 hs HL.out) ?_
        rintro e V' ⟨A3, c3, rfl, b, hp, hq⟩
        clear hq
        refine ⟨_, rfl, ?_⟩
        replace Bb := below_step Bb b
        replace L0 := L0.later b
        replace hT0 := hT0.below b
        try replace N5 := N5.later b
        try replace N6 := below_at b N6 (lt_of_at N6)
        clear b hs
        generalize V' = V at *
        refine hK.out _ _ L0 (fun _ => ?_)
        clear hK K
        try simp only [zA, zS, zZ, Act.put, zP, zQ, zR]
        refine Node.tk 3 ?_ rfl ?_ ?_
        rotate_left
        · intro w hSw; (try dsimp only at hSw); go_simp; try with_reducible rfl
        simp only [zA, zS, zZ, Act.put, zP, zQ, zR]
        refine Node.tk 4 ?_ rfl ?_ ?_
        rotate_left
        · intro w hSw; (try dsimp only at hSw); go_simp; try with_reducible rfl
        simp only [zA, zS, zZ, Act.put, zP, zQ, zR]
        refine Node.tk 5 ?_ rfl ?_ ?_
        rotate_left
        · intro w hSw; (try dsimp only at hSw); go_simp; try with_reducible rfl
        simp only [zA, zS, zZ, Act.put, zP, zQ, zR]
        refine Node.tk 6 ?_ rfl ?_ ?_
        rotate_left
        · intro w hSw; (try dsimp only at hSw); go_simp; try with_reducible rfl
        simp only [zA, zS, zZ, Act.put, zP, zQ, zR]
        refine Node.on 9 rfl (fun K hK => ?_)
        refine wp_st_lk N5 rfl rfl rfl rfl ?_
        have hn5 := lt_of_at N5.at_
        replace L0 := L0.far3 (g' := g5) (by omega) 7 0 2
        replace N6 := frame_far3 N6 (g' := g5) n56 7 0 2
        have N5' := N5.set3 7 0 2
        replace Bb := ((Bb.setCell (p := ⟨g5, 0, none⟩) n5 (.int .i64 7)).setCell (p := ⟨g5, 1, none⟩) n5 (.int .i64 0)).setCell (p := ⟨g5, 2, none⟩) n5 (.int .i64 2)
        replace hp : SliceAt (((V.setCell ⟨g5, 0, none⟩ (.int .i64 7)).setCell ⟨g5, 1, none⟩ (.int .i64 0)).setCell ⟨g5, 2, none⟩ (.int .i64 2)) 1 (.slice A3 noF.2.2.length c3) noF.2.2.length (u8s noF.2.2) := slice_zero hp rfl
        clear N5 hT0 hn5
        generalize ((V.setCell ⟨g5, 0, none⟩ (.int .i64 7)).setCell ⟨g5, 1, none⟩ (.int .i64 0)).setCell ⟨g5, 2, none⟩ (.int .i64 2) = V at *
        refine hK.out _ _ L0 (fun _ => ?_)
        clear hK K
        try simp only [zA, zS, zZ, Act.put, zP, zQ, zR]
        refine Node.on 10 rfl (fun K hK => ?_)
        refine wp_st_fr N6 rfl rfl rfl rfl ?_
        have F := FV.mk3 (f := noF) N6 hp rfl
        have hn6 := lt_of_at N6
        replace L0 := L0.at_
        replace L0 : LVar (((V.setCell ⟨g6, 0, none⟩ (.int .u8 (noF.1.toNat : Int))).setCell ⟨g6, 1, none⟩ (.int .u8 (noF.2.1.toNat : Int))).setCell ⟨g6, 2, none⟩ (.slice A3 noF.2.2.length c3)) g80 7 0 1 := ⟨frame_far3' L0 (by omega) _ _ _⟩
        replace N5' : LVar (((V.setCell ⟨g6, 0, none⟩ (.int .u8 (noF.1.toNat : Int))).setCell ⟨g6, 1, none⟩ (.int .u8 (noF.2.1.toNat : Int))).setCell ⟨g6, 2, none⟩ (.slice A3 noF.2.2.length c3)) g5 7 0 2 := ⟨frame_far3' N5'.at_ (Ne.symm n56) _ _ _⟩
        replace Bb := ((Bb.setCell (p := ⟨g6, 0, none⟩) n6 (.int .u8 (noF.1.toNat : Int))).setCell (p := ⟨g6, 1, none⟩) n6 (.int .u8 (noF.2.1.toNat : Int))).setCell (p := ⟨g6, 2, none⟩) n6 (.slice A3 noF.2.2.length c3)
        clear N6 hp
        generalize ((V.setCell ⟨g6, 0, none⟩ (.int .u8 (noF.1.toNat : Int))).setCell ⟨g6, 1, none⟩ (.int .u8 (noF.2.1.toNat : Int))).setCell ⟨g6, 2, none⟩ (.slice A3 noF.2.2.length c3) = V at *
        refine hK.out _ _ L0 (fun _ => ?_)
        clear hK K
        try simp only [zA, zS, zZ, Act.put, zP, zQ, zR]
        refine Node.tk 11 ?_ rfl ?_ ?_
        rotate_left
        · intro w hSw; (try dsimp only at hSw); go_simp; try with_reducible rfl
        simp only [zA, zS, zZ, Act.put, zP, zQ, zR]
        refine wpAnyH_done (by kernel_rfl) ?_ _
        exact ⟨g5, g6, ⟨rfl, rfl, by simp⟩, N5', F, Bb⟩
    · skip
      have N5 := LVar.new V 0 0 0
      have b := below_new V (.cells #[.int .i64 0, .int .i64 0, .int .i64 0] 31)
      refine Node.wp_new 31 (.agg #[.int .i64 0, .int .i64 0, .int .i64 0]) #[.int .i64 0, .int .i64 0, .int .i64 0] (by kernel_rfl) rfl (by rfl) ?_
      have n5 := Bb.size
      replace Bb := below_step Bb b
      replace L0 := L0.later b
      replace hT0 := hT0.below b
      try replace hs := hs.later b
      try replace hp := hp.later b
      try (have n56 := lt_of_at N6; replace N6 := below_at b N6 n56)
      clear b
      generalize V.heap.size = g5 at *
      generalize V.alloc (.cells #[.int .i64 0, .int .i64 0, .int .i64 0] 31) = V at *
      try replace n56 := Nat.ne_of_lt n56
      refine hK.out _ _ L0 (fun _ => ?_)
      clear hK K
      try simp only [zA, zS, zZ, Act.put, zP, zQ, zR]
      refine Node.on 1 rfl (fun K hK => ?_)
      refine Node.wp_fn 31 [.const (.int .u8 8)] _ [.int .u8 8] (by rfl) (by rfl) (enters Tryd.func31 (by kernel_rfl) rfl) (panel_c 8#8 8 rfl X HX.out V) ?_
      rintro e V' ⟨b, Ap, cp, rfl, hs⟩
      refine ⟨_, rfl, ?_⟩
      replace Bb := below_step Bb b
      replace L0 := L0.later b
      replace hT0 := hT0.below b
      try replace N5 := N5.later b
      try replace N6 := below_at b N6 (lt_of_at N6)
      clear b
      generalize V' = V at *
      refine hK.out _ _ L0 (fun _ => ?_)
      clear hK K
      try simp only [zA, zS, zZ, Act.put, zP, zQ, zR]
      refine Node.on 2 rfl (fun K hK => ?_)
      refine Node.wp_fn 11 [.tmp 50, .const (.int .u8 1), .tmp 51] _ [lkv (7, 0, 1), .int .u8 1, .slice Ap X.length cp] (by rfl) (by rfl) (enters Tryd.func11 (by kernel_rfl) rfl) (Hear_v (7, 0, 1) 1 (.slice Ap X.length cp) X V _ HR.out hT0 hs HL.out) ?_
      rintro e V' ⟨A3, c3, rfl, b, hp, hq⟩
      clear hq
      refine ⟨_, rfl, ?_⟩
      replace Bb := below_step Bb b
      replace L0 := L0.later b
      replace hT0 := hT0.below b
      try replace N5 := N5.later b
      try replace N6 := below_at b N6 (lt_of_at N6)
      clear b hs
      generalize V' = V at *
      refine hK.out _ _ L0 (fun _ => ?_)
      clear hK K
      try simp only [zA, zS, zZ, Act.put, zP, zQ, zR]
      refine Node.tk 3 ?_ rfl ?_ ?_
      rotate_left
      · intro w hSw; (try dsimp only at hSw); go_simp; try with_reducible rfl
      simp only [zA, zS, zZ, Act.put, zP, zQ, zR]
      refine Node.tk 4 ?_ rfl ?_ ?_
      rotate_left
      · intro w hSw; (try dsimp only at hSw); go_simp; try with_reducible rfl
      simp only [zA, zS, zZ, Act.put, zP, zQ, zR]
      refine Node.tk 5 ?_ rfl ?_ ?_
      rotate_left
      · intro w hSw; (try dsimp only at hSw); go_simp; try with_reducible rfl
      simp only [zA, zS, zZ, Act.put, zP, zQ, zR]
      refine Node.tk 6 ?_ rfl ?_ ?_
      rotate_left
      · intro w hSw; (try dsimp only at hSw); go_simp; try with_reducible rfl
      simp only [zA, zS, zZ, Act.put, zP, zQ, zR]
      refine Node.on 9 rfl (fun K hK => ?_)
      refine wp_st_lk N5 rfl rfl rfl rfl ?_
      have hn5 := lt_of_at N5.at_
      replace L0 := L0.far3 (g' := g5) (by omega) 7 0 2
      replace N6 := frame_far3 N6 (g' := g5) n56 7 0 2
      have N5' := N5.set3 7 0 2
      replace Bb := ((Bb.setCell (p := ⟨g5, 0, none⟩) n5 (.int .i64 7)).setCell (p := ⟨g5, 1, none⟩) n5 (.int .i64 0)).setCell (p := ⟨g5, 2, none⟩) n5 (.int .i64 2)
      replace hp : SliceAt (((V.setCell ⟨g5, 0, none⟩ (.int .i64 7)).setCell ⟨g5, 1, none⟩ (.int .i64 0)).setCell ⟨g5, 2, none⟩ (.int .i64 2)) 1 (.slice A3 noF.2.2.length c3) noF.2.2.length (u8s noF.2.2) := slice_zero hp rfl
      clear N5 hT0 hn5
      generalize ((V.setCell ⟨g5, 0, none⟩ (.int .i64 7)).setCell ⟨g5, 1, none⟩ (.int .i64 0)).setCell ⟨g5, 2, none⟩ (.int .i64 2) = V at *
      refine hK.out _ _ L0 (fun _ => ?_)
      clear hK K
      try simp only [zA, zS, zZ, Act.put, zP, zQ, zR]
      refine Node.on 10 rfl (fun K hK => ?_)
      refine wp_st_fr N6 rfl rfl rfl rfl ?_
      have F := FV.mk3 (f := noF) N6 hp rfl
      have hn6 := lt_of_at N6
      replace L0 := L0.at_
      replace L0 : LVar (((V.setCell ⟨g6, 0, none⟩ (.int .u8 (noF.1.toNat : Int))).setCell ⟨g6, 1, none⟩ (.int .u8 (noF.2.1.toNat : Int))).setCell ⟨g6, 2, none⟩ (.slice A3 noF.2.2.length c3)) g80 7 0 1 := ⟨frame_far3' L0 (by omega) _ _ _⟩
      replace N5' : LVar (((V.setCell ⟨g6, 0, none⟩ (.int .u8 (noF.1.toNat : Int))).setCell ⟨g6, 1, none⟩ (.int .u8 (noF.2.1.toNat : Int))).setCell ⟨g6, 2, none⟩ (.slice A3 noF.2.2.length c3)) g5 7 0 2 := ⟨frame_far3' N5'.at_ (Ne.symm n56) _ _ _⟩
      replace Bb := ((Bb.setCell (p := ⟨g6, 0, none⟩) n6 (.int .u8 (noF.1.toNat : Int))).setCell (p := ⟨g6, 1, none⟩) n6 (.int .u8 (noF.2.1.toNat : Int))).setCell (p := ⟨g6, 2, none⟩) n6 (.slice A3 noF.2.2.length c3)
      clear N6 hp
      generalize ((V.setCell ⟨g6, 0, none⟩ (.int .u8 (noF.1.toNat : Int))).setCell ⟨g6, 1, none⟩ (.int .u8 (noF.2.1.toNat : Int))).setCell ⟨g6, 2, none⟩ (.slice A3 noF.2.2.length c3) = V at *
      refine hK.out _ _ L0 (fun _ => ?_)
      clear hK K
      try simp only [zA, zS, zZ, Act.put, zP, zQ, zR]
      refine Node.tk 11 ?_ rfl ?_ ?_
      rotate_left
      · intro w hSw; (try dsimp only at hSw); go_simp; try with_reducible rfl
      simp only [zA, zS, zZ, Act.put, zP, zQ, zR]
      refine wpAnyH_done (by kernel_rfl) ?_ _
      exact ⟨g5, g6, ⟨rfl, rfl, by simp⟩, N5', F, Bb⟩
end Go.Proofs.YtlanlkpamnoekaaDoor
namespace Go.Proofs.YtlanlkpamnoekaaDoor
open List renaming getElem_toArray → zA, getElem_cons_succ → zS, getElem_cons_zero → zZ, setIfInBounds_toArray → zP, set_cons_zero → zQ, set_cons_succ → zR
open Go Go.RowKit Rf Mem Bv Crc Str Lk
set_option maxRecDepth 100000
attribute [local go_sem ↓] run_max2 run_min2
theorem hear_short : hearV 2 [1#8] (7, 0, 1) = ((7, 0, 2), 40, noF) := by decide
theorem wk6 (a : Act) (g1 g2 g3 g5 g8 : Nat) (hS : Sl a 190 [(0, .bool false), (1, .pointer (some ⟨g1, 0, none⟩)), (2, .pointer (some ⟨g2, 0, none⟩)), (3, .pointer (some ⟨g3, 0, none⟩)), (4, .int .i64 0), (5, .pointer (some ⟨g5, 0, none⟩)), (7, .int .i64 290), (8, .pointer (some ⟨g8, 0, none⟩)), (10, .int .i64 0), (13, .int .i64 41)]) (w : World) (hT : Tops w) (L : LVar w g8 7 0 1) : (rg 6).wp Tryd.prog (nrm fun a' w' => Sl a' 190 [(0, .bool false), (1, .pointer (some ⟨g1, 0, none⟩)), (2, .pointer (some ⟨g2, 0, none⟩)), (3, .pointer (some ⟨g3, 0, none⟩)), (4, .int .i64 0), (5, .pointer (some ⟨g5, 0, none⟩)), (7, .int .i64 290), (8, .pointer (some ⟨g8, 0, none⟩)), (10, .int .i64 0), (13, .int .i64 41), (16, .int .i64 40)] ∧ Below w.heap.size w w') a w := by
  obtain ⟨j, rfl, hj⟩ := hS.lit190
  have h0 : j 0 = .bool false := hj (0, _) (by simp)
  have h1 : j 1 = .pointer (some ⟨g1, 0, none⟩) := hj (1, _) (by simp)
  have h2 : j 2 = .pointer (some ⟨g2, 0, none⟩) := hj (2, _) (by simp)
  have h3 : j 3 = .pointer (some ⟨g3, 0, none⟩) := hj (3, _) (by simp)
  have h4 : j 4 = .int .i64 0 := hj (4, _) (by simp)
  have h5 : j 5 = .pointer (some ⟨g5, 0, none⟩) := hj (5, _) (by simp)
  have h7 : j 7 = .int .i64 290 := hj (7, _) (by simp)
  have h8 : j 8 = .pointer (some ⟨g8, 0, none⟩) := hj (8, _) (by simp)
  have h10 : j 10 = .int .i64 0 := hj (10, _) (by simp)
  have h13 : j 13 = .int .i64 41 := hj (13, _) (by simp)
  clear hj hS
  unfold rg body10
  simp only [Tryd.f10, Option.getD_some, nthSeq, lit190, List.cons_append, List.nil_append, h0, h1, h2, h3, h4, h5, h7, h8, h10, h13]
  have x0 := L.c0
  have x1 := L.c1
  have x2 := L.c2
  go_wp2_with fail
  have b1 := below_new w (.cells #[.int .u8 1] 5)
  have hs : SliceAt (w.alloc (.cells #[.int .u8 1] 5)) 1 (.slice (some ⟨w.heap.size, 0, none⟩) 1 1) [1#8].length (u8s [1#8]) := sliceAt_blk (cs := [.int .u8 1]) (new_at rfl _) rfl (by simp [maxLen])
  refine (Hear_v (7, 0, 1) 2 _ [1#8] _ ((7, 0, 2), 40, noF) hear_short.symm (hT.below b1) hs (by simp)).mono ?_
  rintro e W ⟨A, c, rfl, b2, _, _⟩
  have B := below_step b1 b2
  have b3 := below_new W (.cells #[.int .i64 7, .int .i64 0, .int .i64 2] 31)
  have b4 := below_new (W.alloc (.cells #[.int .i64 7, .int .i64 0, .int .i64 2] 31)) (.cells #[.int .u8 0, .int .u8 0, .slice A 0 c] 41)
  have B4 := below_step (below_step B b3) b4
  clear x0 x1 x2 hs b1 b2 b3 b4 B hT L
  go_wp2
  exact ⟨⟨rfl, rfl, by simp⟩, B4⟩

theorem run_ly {w : World} {a : Act} {o : Oper} {x : Operand} {g : Nat} {y : Nat → Value} {tl : Int} (h : LY w g y tl) (ho : o.op = .load 29 x) (hx : a.eval x = .pointer (some ⟨g, 0, none⟩)) : (execOp a.eval o).run Tryd.prog w = .ok (.value (ly y tl)) w := by
  obtain ⟨c0, c1, c2, c3, c4, c5, c6, c7, c8, c9, c10⟩ := h.cells
  generalize a.eval = ρ at *
  unfold execOp
  simp [ho, hx, go_sem, c0, c1, c2, c3, c4, c5, c6, c7, c8, c9, c10]
set_option maxHeartbeats 4000000 in
theorem wk7 (a : Act) (g1 g2 g3 g5 g8 : Nat) (hS : Sl a 190 [(0, .bool false), (1, .pointer (some ⟨g1, 0, none⟩)), (2, .pointer (some ⟨g2, 0, none⟩)), (3, .pointer (some ⟨g3, 0, none⟩)), (4, .int .i64 0), (5, .pointer (some ⟨g5, 0, none⟩)), (7, .int .i64 290), (8, .pointer (some ⟨g8, 0, none⟩)), (10, .int .i64 0), (13, .int .i64 41), (16, .int .i64 40)]) (w : World) (hT : Tops w) (L : LVar w g8 7 0 1) (Y : LY w g1 y1 1) : (rg 7).wp Tryd.prog (nrm fun a' w' => ∃ g17, Sl a' 190 [(0, .bool false), (1, .pointer (some ⟨g1, 0, none⟩)), (2, .pointer (some ⟨g2, 0, none⟩)), (3, .pointer (some ⟨g3, 0, none⟩)), (4, .int .i64 0), (5, .pointer (some ⟨g5, 0, none⟩)), (7, .int .i64 290), (8, .pointer (some ⟨g8, 0, none⟩)), (10, .int .i64 0), (13, .int .i64 41), (16, .int .i64 40), (17, .pointer (some ⟨g17, 0, none⟩))] ∧ LVar w' g17 (-1) 2 1 ∧ Below w.heap.size w w') a w := by
  obtain ⟨j, rfl, hj⟩ := hS.lit190
  have h0 : j 0 = .bool false := hj (0, _) (by simp)
  have h1 : j 1 = .pointer (some ⟨g1, 0, none⟩) := hj (1, _) (by simp)
  have h2 : j 2 = .pointer (some ⟨g2, 0, none⟩) := hj (2, _) (by simp)
  have h3 : j 3 = .pointer (some ⟨g3, 0, none⟩) := hj (3, _) (by simp)
  have h4 : j 4 = .int .i64 0 := hj (4, _) (by simp)
  have h5 : j 5 = .pointer (some ⟨g5, 0, none⟩) := hj (5, _) (by simp)
  have h7 : j 7 = .int .i64 290 := hj (7, _) (by simp)
  have h8 : j 8 = .pointer (some ⟨g8, 0, none⟩) := hj (8, _) (by simp)
  have h10 : j 10 = .int .i64 0 := hj (10, _) (by simp)
  have h13 : j 13 = .int .i64 41 := hj (13, _) (by simp)
  have h16 : j 16 = .int .i64 40 := hj (16, _) (by simp)
  clear hj hS
  unfold rg body10
  simp only [Tryd.f10, Option.getD_some, nthSeq, lit190, List.cons_append, List.nil_append, h0, h1, h2, h3, h4, h5, h7, h8, h10, h13, h16]
  refine wp_region_held_drew (S := (fun w' => LVar w' g8 7 0 1 ∧ LY w' g1 y1 1)) (by kernel_rfl) ?_ (fun hHeld => ?_)
  · exact ⟨⟨L.at_⟩, ⟨Y.at_⟩⟩
  have Bb : Below w.heap.size w w.drew := (Below.refl _ w).drew
  clear hHeld
  have L0 := L.later Bb
  have Y0 := Y.later Bb
  have hT0 := hT.below Bb
  have hg8 := lt_of_at L.at_
  have hg1 := lt_of_at Y.at_
  clear L Y hT
  generalize w.drew = V at *
  have hHeld : LVar V g8 7 0 1 ∧ LY V g1 y1 1 := ⟨L0, Y0⟩
  refine Node.tk 0 (ly y1 1) rfl (fun _ hSw => run_ly hSw.2 rfl rfl) ?_
  simp only [zA, zS, zZ, Act.put, zP, zQ, zR]
  refine Node.tk 1 (ly y1 1) rfl (fun _ hSw => run_ly hSw.2 rfl rfl) ?_
  simp only [zA, zS, zZ, Act.put, zP, zQ, zR]
  refine Node.tk 2 (lk 7 0 1) rfl (fun _ hSw => run_ld hSw.1 rfl rfl) ?_
  simp only [zA, zS, zZ, Act.put, zP, zQ, zR]
  clear hHeld
  refine wpAnyH_ready (rs := [3, 5]) (by kernel_rfl) (by simp) ?_
  refine AllReadyH.cons rfl (fun K hK => ?_) (AllReadyH.cons rfl (fun K hK => ?_) AllReadyH.nil)
  · skip
    refine Node.wp_fn 25 [.tmp 64, .tmp 65] _ [ly y1 1, lkv (7, 0, 1)] (by rfl) (by rfl) (enters Tryd.func25 (by kernel_rfl) rfl) (Tick_c y1 1 (7, 0, 1) (7, 1, 1) (by decide) V hT0) ?_
    rintro e V' ⟨rfl, b⟩
    refine ⟨_, rfl, ?_⟩
    replace Bb := below_step Bb b
    replace L0 := L0.later b
    replace Y0 := Y0.later b
    replace hT0 := hT0.below b
    try replace N5 := N5.later b
    clear b
    generalize V' = V at *
    refine hK.out _ _ ⟨L0, Y0⟩ (fun _ => ?_)
    clear hK K
    try simp only [zA, zS, zZ, Act.put, zP, zQ, zR]
    refine wpAnyH_ready (rs := [4, 5]) (by kernel_rfl) (by simp) ?_
    refine AllReadyH.cons rfl (fun K hK => ?_) (AllReadyH.cons rfl (fun K hK => ?_) AllReadyH.nil)
    · skip
      refine Node.wp_fn 25 [.tmp 63, .tmp 66] _ [ly y1 1, lkv (7, 1, 1)] (by rfl) (by rfl) (enters Tryd.func25 (by kernel_rfl) rfl) (Tick_c y1 1 (7, 1, 1) (-1, 2, 1) (by decide) V hT0) ?_
      rintro e V' ⟨rfl, b⟩
      refine ⟨_, rfl, ?_⟩
      replace Bb := below_step Bb b
      replace L0 := L0.later b
      replace Y0 := Y0.later b
      replace hT0 := hT0.below b
      try replace N5 := N5.later b
      clear b
      generalize V' = V at *
      refine hK.out _ _ ⟨L0, Y0⟩ (fun _ => ?_)
      clear hK K
      try simp only [zA, zS, zZ, Act.put, zP, zQ, zR]
      refine Node.on 5 rfl (fun K hK => ?_)
      have N5 := LVar.new V 0 0 0
      have b := below_new V (.cells #[.int .i64 0, .int .i64 0, .int .i64 0] 31)
      refine Node.wp_new 31 (.agg #[.int .i64 0, .int .i64 0, .int .i64 0]) #[.int .i64 0, .int .i64 0, .int .i64 0] (by kernel_rfl) rfl (by rfl) ?_
      have n5 := Bb.size
      replace Bb := below_step Bb b
      replace L0 := L0.later b
      replace Y0 := Y0.later b
      replace hT0 := hT0.below b
      clear b
      generalize V.heap.size = g5' at *
      generalize V.alloc (.cells #[.int .i64 0, .int .i64 0, .int .i64 0] 31) = V at *
      refine hK.out _ _ ⟨L0, Y0⟩ (fun _ => ?_)
      clear hK K
      try simp only [zA, zS, zZ, Act.put, zP, zQ, zR]
      refine Node.on 6 rfl (fun K hK => ?_)
      refine wp_st_lk N5 rfl rfl rfl rfl ?_
      have hn5 := lt_of_at N5.at_
      replace L0 := L0.far3 (g' := g5') (by omega) (-1) 2 1
      replace Y0 : LY (((V.setCell ⟨g5', 0, none⟩ (.int .i64 (-1))).setCell ⟨g5', 1, none⟩ (.int .i64 2)).setCell ⟨g5', 2, none⟩ (.int .i64 1)) g1 y1 1 := ⟨frame_far3 Y0.at_ (g' := g5') (by omega) (-1) 2 1⟩
      have N5' := N5.set3 (-1) 2 1
      replace Bb := ((Bb.setCell (p := ⟨g5', 0, none⟩) n5 (.int .i64 (-1))).setCell (p := ⟨g5', 1, none⟩) n5 (.int .i64 2)).setCell (p := ⟨g5', 2, none⟩) n5 (.int .i64 1)
      clear N5 hT0 hn5
      generalize ((V.setCell ⟨g5', 0, none⟩ (.int .i64 (-1))).setCell ⟨g5', 1, none⟩ (.int .i64 2)).setCell ⟨g5', 2, none⟩ (.int .i64 1) = V at *
      refine hK.out _ _ ⟨L0, Y0⟩ (fun _ => ?_)
      clear hK K
      try simp only [zA, zS, zZ, Act.put, zP, zQ, zR]
      refine wpAnyH_done (by kernel_rfl) ?_ _
      exact ⟨g5', ⟨rfl, rfl, by simp⟩, N5', Bb⟩
    · skip
      have N5 := LVar.new V 0 0 0
      have b := below_new V (.cells #[.int .i64 0, .int .i64 0, .int .i64 0] 31)
      refine Node.wp_new 31 (.agg #[.int .i64 0, .int .i64 0, .int .i64 0]) #[.int .i64 0, .int .i64 0, .int .i64 0] (by kernel_rfl) rfl (by rfl) ?_
      have n5 := Bb.size
      replace Bb := below_step Bb b
      replace L0 := L0.later b
      replace Y0 := Y0.later b
      replace hT0 := hT0.below b
      clear b
      generalize V.heap.size = g5' at *
      generalize V.alloc (.cells #[.int .i64 0, .int .i64 0, .int .i64 0] 31) = V at *
      refine hK.out _ _ ⟨L0, Y0⟩ (fun _ => ?_)
      clear hK K
      try simp only [zA, zS, zZ, Act.put, zP, zQ, zR]
      refine Node.on 4 rfl (fun K hK => ?_)
      refine Node.wp_fn 25 [.tmp 63, .tmp 66] _ [ly y1 1, lkv (7, 1, 1)] (by rfl) (by rfl) (enters Tryd.func25 (by kernel_rfl) rfl) (Tick_c y1 1 (7, 1, 1) (-1, 2, 1) (by decide) V hT0) ?_
      rintro e V' ⟨rfl, b⟩
      refine ⟨_, rfl, ?_⟩
      replace Bb := below_step Bb b
      replace L0 := L0.later b
      replace Y0 := Y0.later b
      replace hT0 := hT0.below b
      try replace N5 := N5.later b
      clear b
      generalize V' = V at *
      refine hK.out _ _ ⟨L0, Y0⟩ (fun _ => ?_)
      clear hK K
      try simp only [zA, zS, zZ, Act.put, zP, zQ, zR]
      refine Node.on 6 rfl (fun K hK => ?_)
      refine wp_st_lk N5 rfl rfl rfl rfl ?_
      have hn5 := lt_of_at N5.at_
      replace L0 := L0.far3 (g' := g5') (by omega) (-1) 2 1
      replace Y0 : LY (((V.setCell ⟨g5', 0, none⟩ (.int .i64 (-1))).setCell ⟨g5', 1, none⟩ (.int .i64 2)).setCell ⟨g5', 2, none⟩ (.int .i64 1)) g1 y1 1 := ⟨frame_far3 Y0.at_ (g' := g5') (by omega) (-1) 2 1⟩
      have N5' := N5.set3 (-1) 2 1
      replace Bb := ((Bb.setCell (p := ⟨g5', 0, none⟩) n5 (.int .i64 (-1))).setCell (p := ⟨g5', 1, none⟩) n5 (.int .i64 2)).setCell (p := ⟨g5', 2, none⟩) n5 (.int .i64 1)
      clear N5 hT0 hn5
      generalize ((V.setCell ⟨g5', 0, none⟩ (.int .i64 (-1))).setCell ⟨g5', 1, none⟩ (.int .i64 2)).setCell ⟨g5', 2, none⟩ (.int .i64 1) = V at *
      refine hK.out _ _ ⟨L0, Y0⟩ (fun _ => ?_)
      clear hK K
      try simp only [zA, zS, zZ, Act.put, zP, zQ, zR]
      refine wpAnyH_done (by kernel_rfl) ?_ _
      exact ⟨g5', ⟨rfl, rfl, by simp⟩, N5', Bb⟩
  · skip
    have N5 := LVar.new V 0 0 0
    have b := below_new V (.cells #[.int .i64 0, .int .i64 0, .int .i64 0] 31)
    refine Node.wp_new 31 (.agg #[.int .i64 0, .int .i64 0, .int .i64 0]) #[.int .i64 0, .int .i64 0, .int .i64 0] (by kernel_rfl) rfl (by rfl) ?_
    have n5 := Bb.size
    replace Bb := below_step Bb b
    replace L0 := L0.later b
    replace Y0 := Y0.later b
    replace hT0 := hT0.below b
    clear b
    generalize V.heap.size = g5' at *
    generalize V.alloc (.cells #[.int .i64 0, .int .i64 0, .int .i64 0] 31) = V at *
    refine hK.out _ _ ⟨L0, Y0⟩ (fun _ => ?_)
    clear hK K
    try simp only [zA, zS, zZ, Act.put, zP, zQ, zR]
    refine Node.on 3 rfl (fun K hK => ?_)
    refine Node.wp_fn 25 [.tmp 64, .tmp 65] _ [ly y1 1, lkv (7, 0, 1)] (by rfl) (by rfl) (enters Tryd.func25 (by kernel_rfl) rfl) (Tick_c y1 1 (7, 0, 1) (7, 1, 1) (by decide) V hT0) ?_
    rintro e V' ⟨rfl, b⟩
    refine ⟨_, rfl, ?_⟩
    replace Bb := below_step Bb b
    replace L0 := L0.later b
    replace Y0 := Y0.later b
    replace hT0 := hT0.below b
    try replace N5 := N5.later b
    clear b
    generalize V' = V at *
    refine hK.out _ _ ⟨L0, Y0⟩ (fun _ => ?_)
    clear hK K
    try simp only [zA, zS, zZ, Act.put, zP, zQ, zR]
    refine Node.on 4 rfl (fun K hK => ?_)
    refine Node.wp_fn 25 [.tmp 63, .tmp 66] _ [ly y1 1, lkv (7, 1, 1)] (by rfl) (by rfl) (enters Tryd.func25 (by kernel_rfl) rfl) (Tick_c y1 1 (7, 1, 1) (-1, 2, 1) (by decide) V hT0) ?_
    rintro e V' ⟨rfl, b⟩
    refine ⟨_, rfl, ?_⟩
    replace Bb := below_step Bb b
    replace L0 := L0.later b
    replace Y0 := Y0.later b
    replace hT0 := hT0.below b
    try replace N5 := N5.later b
    clear b
    generalize V' = V at *
    refine hK.out _ _ ⟨L0, Y0⟩ (fun _ => ?_)
    clear hK K
    try simp only [zA, zS, zZ, Act.put, zP, zQ, zR]
    refine Node.on 6 rfl (fun K hK => ?_)
    refine wp_st_lk N5 rfl rfl rfl rfl ?_
    have hn5 := lt_of_at N5.at_
    replace L0 := L0.far3 (g' := g5') (by omega) (-1) 2 1
    replace Y0 : LY (((V.setCell ⟨g5', 0, none⟩ (.int .i64 (-1))).setCell ⟨g5', 1, none⟩ (.int .i64 2)).setCell ⟨g5', 2, none⟩ (.int .i64 1)) g1 y1 1 := ⟨frame_far3 Y0.at_ (g' := g5') (by omega) (-1) 2 1⟩
    have N5' := N5.set3 (-1) 2 1
    replace Bb := ((Bb.setCell (p := ⟨g5', 0, none⟩) n5 (.int .i64 (-1))).setCell (p := ⟨g5', 1, none⟩) n5 (.int .i64 2)).setCell (p := ⟨g5', 2, none⟩) n5 (.int .i64 1)
    clear N5 hT0 hn5
    generalize ((V.setCell ⟨g5', 0, none⟩ (.int .i64 (-1))).setCell ⟨g5', 1, none⟩ (.int .i64 2)).setCell ⟨g5', 2, none⟩ (.int .i64 1) = V at *
    refine hK.out _ _ ⟨L0, Y0⟩ (fun _ => ?_)
    clear hK K
    try simp only [zA, zS, zZ, Act.put, zP, zQ, zR]
    refine wpAnyH_done (by kernel_rfl) ?_ _
    exact ⟨g5', ⟨rfl, rfl, by simp⟩, N5', Bb⟩
end Go.Proofs.YtlanlkpamnoekaaDoor
namespace Go.Proofs.YtlanlkpamnoekaaDoor.Lk
open Go Go.Conc Go.RowKit Mem

/-- What the three captured variables hold, and the row's elements. -/
structure KL (bl bc be ce ee : Nat) (A : Option Addr) (n c b off : Nat) (vs : List Value) (w : World) : Prop where
  l : w.cell? ⟨bl, 0, none⟩ = some (.slice A n c)
  m : w.cell? ⟨bc, 0, none⟩ = some (.chan (some ce))
  e : w.cell? ⟨be, 0, none⟩ = some (.chan (some ee))
  s : ∀ i u, vs[i]? = some u → w.cell? ⟨b, off + i, none⟩ = some u

noncomputable def bot36 : Frame := { (default : Frame) with fn := Tryd.prog.funcs.size, defers := [], mode := .panicking [goexitEntry] }
noncomputable def body36 : Code := Tryd.f36.body.getD .skip
def b36 : Frame := baseD 36
def call36 (bl bc be : Nat) : Deferred := { target := .fn (.func 36) #[.pointer (some ⟨bl, 0, none⟩), .pointer (some ⟨bc, 0, none⟩), .pointer (some ⟨be, 0, none⟩)], args := #[] }
theorem loud36 : (Tryd.prog.funcs[b36.fn]?).any (·.norace) = false := by kernel_rfl

theorem born36 (bl bc be : Nat) (w : World) : stepG Tryd.prog false (born Tryd.prog (call36 bl bc be)) w =
    .go (G (b36.at ⟨#[.pointer (some ⟨bl, 0, none⟩), .pointer (some ⟨bc, 0, none⟩), .pointer (some ⟨be, 0, none⟩), undef, undef, undef, undef, undef, undef, undef, undef, undef, undef, undef, undef], []⟩ [.code body36]) [bot36]) w #[] := by
  simp [born, call36, stepG, unwind, callDeferred, invoke, callFunc, Tryd.func36, Tryd.f36, seen, GStep.after, G, Frame.enter, Frame.at, b36, baseD, bot36, body36]

/-- The literal's own way out: it only leaves. -/
theorem tail36 (T : Array Value) : QuitsIn Tryd.prog 2 (G { b36.at ⟨T, []⟩ [] with mode := .returning } [bot36]) := by
  refine QuitsIn.ctl (g' := G bot36 []) rfl (fun w => ?_) ?_
  · simp [G, stepG, unwind, doReturn, results, Frame.at, b36, baseD, bot36, Tryd.func36, Tryd.f36, seen, GStep.after, goexitEntry]
  refine QuitsIn.ctl (g' := { G bot36 [] with status := .finished }) rfl (fun w => ?_) rfl
  simp [G, stepG, unwind, bot36, goexitEntry, Frame.catches]
  rfl
end Go.Proofs.YtlanlkpamnoekaaDoor.Lk
set_option linter.unusedSimpArgs false
namespace Go.Proofs.YtlanlkpamnoekaaDoor.Lk
open Go Go.Conc Go.RowKit Mem
set_option maxRecDepth 100000

noncomputable def loop36 : Code := match body36 with | .seq (.seq _ (.block _ (.loop c))) _ => c | _ => .skip
noncomputable def reg36 : Code := match body36 with | .seq _ r => r | _ => .skip

/-- What is held of the world's places for the sender's sake. -/
structure Row36 (E : Env) (bl bc be : Nat) (A : Option Addr) (n c b off : Nat) (vs : List Value) : Prop where
  keep : ∀ w, E.K w → KL bl bc be E.ce E.ee A n c b off vs w
  hA : 0 < n → A = some ⟨b, off, none⟩
  len : vs.length = n
  most : n ≤ c ∧ c ≤ 9223372036854775807
  sl : E.Still (.cell ⟨bl, 0, none⟩)
  sc : E.Still (.cell ⟨bc, 0, none⟩)
  se : E.Still (.cell ⟨be, 0, none⟩)
  sa : ∀ i, i < n → E.Still (.cell ⟨b, off + i, none⟩)
  bl_ : bl < E.B
  bc_ : bc < E.B
  be_ : be < E.B
  ba_ : 0 < n → b < E.B

noncomputable def head36 (bl bc be : Nat) (A : Option Addr) (n c : Nat) (k : Nat) (j3 j4 j8 j9 j10 j11 j12 j13 j14 : Value) : Goroutine :=
  G (b36.at ⟨#[.pointer (some ⟨bl, 0, none⟩), .pointer (some ⟨bc, 0, none⟩), .pointer (some ⟨be, 0, none⟩), j3, j4, .slice A n c, .int .i64 n, .int .i64 k, j8, j9, j10, j11, j12, j13, j14], []⟩ [.code loop36, .inLoop loop36, .inBlock 0, .code reg36]) [bot36]

section
variable {E : Env} {bl bc be : Nat} {A : Option Addr} {n c b off : Nat} {vs : List Value}

theorem atS_of {P : Program} {b : Frame} {a : Act} {kk : List Item} {cs : List Frame} {ops : Array Oper} {i : Nat} {rest : List Nat} {o : Oper} {v z : Value} {vs : List Value} {N : Nat} (ho : ops[i]? = some o) (hw : Region.wanted o (yielded ops a.tmps) = true) (hk : b.kind ≠ .early)
    (hr : ∀ w, (execOp a.eval o).run P w = .ok (.comm #[scase E.ce v z] true .send) w) (he : ∀ w, (execOp a.eval o).events P w #[] = #[])
    (h : ∀ w, Goes P false (RK E.K) (DS E.Still E.B) (fun g _ => AtS P E vs g) N (G (b.at (a.put o.dst undef) (.inRegion ops rest :: kk)) cs) w) : AtS P E (v :: vs) (G (b.at a (.inRegion ops (i :: rest) :: kk)) cs) :=
  ⟨rfl, _, z, #[], by simp, fun w _ => by rw [stepG_comm ho hw hk (hr _), listed_none (he _)], N, fun w => by
    rw [served_fr, Frame.finish_at, ho]
    exact h w⟩

theorem close36 (R : Row36 E bl bc be A n c b off vs) (k : Nat) (hk : k = n) (j3 j4 j8 j9 j10 j11 j12 j13 j14 : Value) (w : World) :
    Goes Tryd.prog false (RK E.K) (DS E.Still E.B) (fun g _ => AtS Tryd.prog E [] g) 9 (head36 bl bc be A n c k j3 j4 j8 j9 j10 j11 j12 j13 j14) w := by
  unfold head36 loop36 reg36 body36
  simp only [Tryd.f36, Option.getD_some]
  k_c stepG_seq
  k_reg
  k_in
  refine goes_oper_k rfl rfl (by decide) (fun K hK' => ?_)
  go_simp
  refine hK' _ _ ⟨⟨rfl, fun e he => ?_⟩, ?_⟩
  · have hm := mem_listed he
    simp [go_sem] at hm
  clear hK' K
  have hd : decide ((k : Int) < (n : Int)) = false := by subst hk; simp
  try rw [hd]
  k_c stepG_region_end
  k_c stepG_seq
  k_in
  rw [stepG_cond (t := false) (by first | rfl | (simp [Act.eval, Act.put]; done))]
  simp only [goes_go, if_false, Bool.false_eq_true, ↓reduceIte]
  refine ⟨ds_none _, ?_⟩
  k_in
  refine goes_exit rfl ?_
  refine ⟨ds_none _, ?_⟩
  k_reg
  k_in
  refine goes_oper_k rfl rfl (by decide) (fun K hK => ?_)
  have hfact := ((R.keep _ h₁).e)
  go_simp
  refine hK _ _ ⟨⟨rfl, fun e he => by (have hm := mem_listed he; simp [go_sem, *] at hm; subst hm; exact evC_read _ (R.se) (R.be_))⟩, ?_⟩
  clear hK K hfact
  refine Goes.stop fun w₁ h₁ => ⟨rfl, rfl, _, fun w k hK hc => stepG_close rfl rfl (by decide) rfl rfl hc loud36, ?_⟩
  walk_nrm
  refine QuitsIn.ctl rfl (fun w => stepG_region_end) ?_
  refine QuitsIn.ctl rfl (fun w => stepG_end) ?_
  exact tail36 _

/-- From the loop's head with k values handed over: to the next send, or to the close. -/
theorem row36 (R : Row36 E bl bc be A n c b off vs) : ∀ (m k : Nat), k + m = n → ∃ N, ∀ (j3 j4 j8 j9 j10 j11 j12 j13 j14 : Value) (w : World),
    Goes Tryd.prog false (RK E.K) (DS E.Still E.B) (fun g _ => AtS Tryd.prog E (vs.drop k) g) N (head36 bl bc be A n c k j3 j4 j8 j9 j10 j11 j12 j13 j14) w := by
  intro m
  induction m with
  | zero =>
    intro k hk
    refine ⟨9, fun j3 j4 j8 j9 j10 j11 j12 j13 j14 w => ?_⟩
    have := close36 R k (by omega) j3 j4 j8 j9 j10 j11 j12 j13 j14 w
    rw [List.drop_eq_nil_of_le (by rw [R.len]; omega)]
    exact this
  | succ m ih =>
    intro k hk
    obtain ⟨N, hN⟩ := ih (k + 1) (by omega)
    have hkv : k < vs.length := by rw [R.len]; omega
    obtain ⟨v, hv⟩ : ∃ v, vs[k]? = some v := ⟨_, List.getElem?_eq_getElem hkv⟩
    have hdrop : vs.drop k = v :: vs.drop (k + 1) := by
      rw [List.drop_eq_getElem_cons hkv]
      rw [List.getElem?_eq_getElem hkv] at hv
      rw [Option.some.inj hv]
    obtain rfl := R.hA (by omega)
    have hmost := R.most
    have hba := R.ba_ (by omega)
    have hS := R.sa k (by omega)
    refine ⟨40, fun j3 j4 j8 j9 j10 j11 j12 j13 j14 w => ?_⟩
    rw [hdrop]
    unfold head36 loop36 reg36 body36
    simp only [Tryd.f36, Option.getD_some]
    k_c stepG_seq
    k_reg
    k_in
    refine goes_oper_k rfl rfl (by decide) (fun K hK' => ?_)
    go_simp
    refine hK' _ _ ⟨⟨rfl, fun e he => ?_⟩, ?_⟩
    · have hm := mem_listed he
      simp [go_sem] at hm
    clear hK' K
    have hd : decide ((k : Int) < (n : Int)) = true := by simp; omega
    try rw [hd]
    k_c stepG_region_end
    k_c stepG_seq
    k_in
    rw [stepG_cond (t := true) (by first | rfl | (simp [Act.eval, Act.put]; omega))]
    simp only [goes_go, if_true, ↓reduceIte]
    refine ⟨ds_none _, ?_⟩
    k_c stepG_skip
    k_c stepG_seq
    k_c stepG_block
    k_c stepG_seq
    k_reg
    have hk1 : (0 : Int) ≤ (k : Int) ∧ (k : Int) < (n : Int) := by omega
    k_in
    refine goes_oper_k rfl rfl (by decide) (fun K hK' => ?_)
    go_simp
    refine hK' _ _ ⟨⟨rfl, fun e he => ?_⟩, ?_⟩
    · have hm := mem_listed he
      simp [go_sem, hk1] at hm
    clear hK' K
    k_in
    refine goes_oper_k rfl rfl (by decide) (fun K hK => ?_)
    have hfact := ((R.keep _ h₁).s k v hv)
    go_simp
    refine hK _ _ ⟨⟨rfl, fun e he => by (have hm := mem_listed he; simp [go_sem, *] at hm; subst hm; exact evC_read _ hS hba)⟩, ?_⟩
    clear hK K hfact
    k_in
    refine goes_oper_k rfl rfl (by decide) (fun K hK' => ?_)
    go_simp
    refine hK' _ _ ⟨⟨rfl, fun e he => ?_⟩, ?_⟩
    · have hm := mem_listed he
      simp [go_sem] at hm
    clear hK' K
    k_c stepG_region_end
    k_reg
    k_in
    refine goes_oper_k rfl rfl (by decide) (fun K hK => ?_)
    have hfact := ((R.keep _ h₁).m)
    go_simp
    refine hK _ _ ⟨⟨rfl, fun e he => by (have hm := mem_listed he; simp [go_sem, *] at hm; subst hm; exact evC_read _ (R.sc) (R.bc_))⟩, ?_⟩
    clear hK K hfact
    k_in
    refine goes_oper_k rfl rfl (by decide) (fun K hK' => ?_)
    go_simp
    refine hK' _ _ ⟨⟨rfl, fun e he => ?_⟩, ?_⟩
    · have hm := mem_listed he
      simp [go_sem] at hm
    clear hK' K
    refine Goes.stop fun w₁ h₁ => atS_of (z := .tuple #[]) (N := N + 7) rfl rfl (by decide) (fun w => by simp [execOp, scase, Act.eval]) (fun w => by simp [go_sem, execOp, Act.eval]) fun w => ?_
    walk_nrm
    k_c stepG_region_end
    k_c stepG_inBlock
    k_reg
    k_in
    refine goes_oper_k rfl rfl (by decide) (fun K hK' => ?_)
    go_simp
    refine hK' _ _ ⟨⟨rfl, fun e he => ?_⟩, ?_⟩
    · have hm := mem_listed he
      simp [go_sem] at hm
    clear hK' K
    k_in
    refine goes_oper_k rfl rfl (by decide) (fun K hK' => ?_)
    go_simp
    refine hK' _ _ ⟨⟨rfl, fun e he => ?_⟩, ?_⟩
    · have hm := mem_listed he
      simp [go_sem] at hm
    clear hK' K
    k_c stepG_region_end
    k_c stepG_inLoop
    have := hN j3 v (.bool (decide (k < n))) (.pointer (some ⟨b, off + k, none⟩)) v (.chan (some E.ce)) v (.int .i64 ((k + 1 : Nat) : Int)) j14
    unfold head36 loop36 reg36 body36 at this
    simp only [Tryd.f36, Option.getD_some] at this
    rw [show IntKind.i64.wrap ((k : Int) + 1) = ((k + 1 : Nat) : Int) by rw [IntWalk.i64_in _ (by omega)]; rfl]
    exact this _

/-- From its birth: to its first send, or to the close. -/
theorem birth36 (R : Row36 E bl bc be A n c b off vs) : ∃ N, ∀ w, Goes Tryd.prog false (RK E.K) (DS E.Still E.B) (fun g _ => AtS Tryd.prog E vs g) N (born Tryd.prog (call36 bl bc be)) w := by
  obtain ⟨N, hN⟩ := row36 R n 0 (by omega)
  refine ⟨N + 10, fun w => Goes.step rfl fun w₁ h₁ => ?_⟩
  rw [born36]
  refine ⟨ds_none _, ?_⟩
  simp only [body36, Tryd.f36, Option.getD_some]
  k_c stepG_seq
  k_c stepG_seq
  k_reg
  k_in
  refine goes_oper_k rfl rfl (by decide) (fun K hK => ?_)
  have hfact := ((R.keep _ h₁).l)
  go_simp
  refine hK _ _ ⟨⟨rfl, fun e he => by (have hm := mem_listed he; simp [go_sem, *] at hm; subst hm; exact evC_read _ (R.sl) (R.bl_))⟩, ?_⟩
  clear hK K hfact
  k_in
  refine goes_oper_k rfl rfl (by decide) (fun K hK' => ?_)
  go_simp
  refine hK' _ _ ⟨⟨rfl, fun e he => ?_⟩, ?_⟩
  · have hm := mem_listed he
    simp [go_sem] at hm
  clear hK' K
  k_in
  refine goes_oper_k rfl rfl (by decide) (fun K hK' => ?_)
  go_simp
  refine hK' _ _ ⟨⟨rfl, fun e he => ?_⟩, ?_⟩
  · have hm := mem_listed he
    simp [go_sem] at hm
  clear hK' K
  k_c stepG_region_end
  k_c stepG_block
  k_c stepG_loop
  have := hN undef undef undef undef undef undef undef undef undef
  unfold head36 loop36 reg36 body36 at this
  simp only [Tryd.f36, Option.getD_some] at this
  exact this _
end
end Go.Proofs.YtlanlkpamnoekaaDoor.Lk
namespace Go.Proofs.YtlanlkpamnoekaaDoor.Lk
open Go Go.Conc Go.RowKit Mem Rf
set_option maxRecDepth 100000

noncomputable def body14 : Code := Tryd.f14.body.getD .skip
noncomputable def r014 : Code := match body14 with | .seq r _ => r | _ => .skip
noncomputable def r114 : Code := match body14 with | .seq _ (.seq r _) => r | _ => .skip
noncomputable def ops214 : Array Oper := match body14 with | .seq _ (.seq _ (.seq (.region _ o _) _)) => o | _ => #[]
noncomputable def loop14 : Code := match body14 with | .seq _ (.seq _ (.seq _ (.block _ (.loop c)))) => c | _ => .skip
theorem body14_eq : body14 = .seq r014 (.seq r114 (.seq (.region 2 ops214 false) (.block 0 (.loop loop14)))) := rfl

abbrev u25 : List Value := [undef, undef, undef, undef, undef, undef, undef, undef, undef, undef, undef, undef, undef, undef, undef, undef, undef, undef, undef, undef, undef, undef, undef, undef, undef]
/-- The slots ahead of the loop. -/
abbrev pre14 (L : Value) (kind : Int) (lv : Value) (bx bl br : Nat) (vc ve c₁ c₂ : Value) : List Value :=
  [L, .int .u8 kind, lv, .pointer (some ⟨bx, 0, none⟩), undef, .pointer (some ⟨bl, 0, none⟩), .pointer (some ⟨br, 0, none⟩), .slice none 0 0, vc, ve, undef, undef, undef, undef, c₁, c₂] ++ u25

theorem all_r0 (s q e kind : Int) (lv : Value) (hlv : ∃ A n c, lv = .slice A n c) (w : World) :
    r014.wp Tryd.prog (nrm fun a' w' => a' = ⟨(pre14 (lk s q e) kind lv w.heap.size (w.heap.size + 1) (w.heap.size + 1 + 1) undef undef undef undef).toArray, []⟩ ∧ LVar w' w.heap.size s q e ∧ LVar w' (w.heap.size + 1 + 1) 0 0 0 ∧ w'.heap[w.heap.size + 1]? = some (.cells #[lv] 32) ∧ Below w.heap.size w w' ∧ w'.heap.size = w.heap.size + 1 + 1 + 1) ⟨#[lk s q e, .int .u8 kind, lv] ++ Array.replicate 38 undef, []⟩ w := by
  obtain ⟨A, n, c, rfl⟩ := hlv
  unfold r014 body14
  simp only [Tryd.f14, Option.getD_some, Array.replicate_succ, Array.replicate_zero, List.push_toArray, List.append_toArray, List.nil_append, List.cons_append]
  go_wp2_with fail
  have b1 := below_new w (.cells #[.int .i64 s, .int .i64 q, .int .i64 e] 31)
  have V0 := LVar.new w s q e
  generalize hw1 : w.alloc (.cells #[.int .i64 s, .int .i64 q, .int .i64 e] 31) = w1 at *
  have h1 : w1.heap.size = w.heap.size + 1 := by rw [← hw1]; simp
  have b2 := below_new w1 (.cells #[.slice A n c] 32)
  have g2 : (w1.alloc (.cells #[.slice A n c] 32)).heap[w1.heap.size]? = some _ := new_at rfl _
  have V1 := V0.later b2
  generalize hw2 : w1.alloc (.cells #[.slice A n c] 32) = w2 at *
  have h2 : w2.heap.size = w.heap.size + 1 + 1 := by rw [← hw2]; simp [h1]
  have b3 := below_new w2 (.cells #[.int .i64 0, .int .i64 0, .int .i64 0] 31)
  have R := LVar.new w2 0 0 0
  have V2 := V1.later b3
  have g3 := below_at b3 g2 (by omega)
  rw [h1] at g3
  rw [h2] at R
  refine ⟨rfl, V2, R, g3, below_step (below_step b1 b2) b3, ?_⟩
  simp [h2]

theorem bytes36 : ∃ i, Tryd.prog.info? 36 = some i ∧ i.bytes = 24 := by
  have h : (Tryd.prog.info? 36).map (·.bytes) = some 24 := by kernel_rfl
  obtain ⟨i, hi, hb⟩ := Option.map_eq_some_iff.1 h
  exact ⟨i, hi, hb⟩
theorem bytes73 : ∃ i, Tryd.prog.info? 73 = some i ∧ i.bytes = 0 := by
  have h : (Tryd.prog.info? 73).map (·.bytes) = some 0 := by kernel_rfl
  obtain ⟨i, hi, hb⟩ := Option.map_eq_some_iff.1 h
  exact ⟨i, hi, hb⟩
theorem mk71 (w : World) : (Instr.makeChan 71 (.int .i64 0)).run Tryd.prog w = .ok (.chan (some w.heap.size)) (w.alloc (.chan 0 #[] false 0 0 false)) := by
  obtain ⟨i, hi, hb⟩ := bytes36
  simpa using run_makeChan (P := Tryd.prog) (w := w) Tryd.underlying71 hi .i64 0 (by omega) (by rw [hb]; omega)
theorem mk72 (w : World) : (Instr.makeChan 72 (.int .i64 0)).run Tryd.prog w = .ok (.chan (some w.heap.size)) (w.alloc (.chan 0 #[] false 0 0 false)) := by
  obtain ⟨i, hi, hb⟩ := bytes73
  simpa using run_makeChan (P := Tryd.prog) (w := w) Tryd.underlying72 hi .i64 0 (by omega) (by rw [hb]; omega)

/-- The two channels and the variables that hold them. -/
structure Chans (w : World) (bc be ce ee : Nat) (w' : World) : Prop where
  below : Below w.heap.size w w'
  come : w'.heap[bc]? = some (.cells #[.chan (some ce)] 71)
  end_ : w'.heap[be]? = some (.cells #[.chan (some ee)] 72)
  cc : w'.heap[ce]? = some (.chan 0 #[] false 0 0 false)
  ec : w'.heap[ee]? = some (.chan 0 #[] false 0 0 false)
  new : w.heap.size ≤ bc ∧ w.heap.size ≤ be ∧ w.heap.size ≤ ce ∧ w.heap.size ≤ ee
  ne : ce ≠ ee ∧ ce ≠ bc ∧ ce ≠ be ∧ ee ≠ bc ∧ ee ≠ be
theorem four (w : World) (a b c d : Obj) : Below w.heap.size w ((((w.alloc a).alloc b).alloc c).alloc d).drew ∧ ((((w.alloc a).alloc b).alloc c).alloc d).drew.heap[w.heap.size]? = some a ∧ ((((w.alloc a).alloc b).alloc c).alloc d).drew.heap[w.heap.size + 1]? = some b ∧
    ((((w.alloc a).alloc b).alloc c).alloc d).drew.heap[w.heap.size + 1 + 1]? = some c ∧ ((((w.alloc a).alloc b).alloc c).alloc d).drew.heap[w.heap.size + 1 + 1 + 1]? = some d := by
  have b1 := below_new w a
  have b2 := below_new (w.alloc a) b
  have b3 := below_new ((w.alloc a).alloc b) c
  have b4 := below_new (((w.alloc a).alloc b).alloc c) d
  have n1 : (w.alloc a).heap[w.heap.size]? = some a := new_at rfl _
  have n2 : ((w.alloc a).alloc b).heap[(w.alloc a).heap.size]? = some b := new_at rfl _
  have n3 : (((w.alloc a).alloc b).alloc c).heap[((w.alloc a).alloc b).heap.size]? = some c := new_at rfl _
  have n4 : ((((w.alloc a).alloc b).alloc c).alloc d).heap[(((w.alloc a).alloc b).alloc c).heap.size]? = some d := new_at rfl _
  simp only [World.size_alloc] at n2 n3 n4
  exact ⟨(below_step (below_step (below_step b1 b2) b3) b4).drew, below_at b4 (below_at b3 (below_at b2 n1 (by simp)) (by simp <;> omega)) (by simp <;> omega), below_at b4 (below_at b3 n2 (by simp)) (by simp <;> omega), below_at b4 n3 (by simp), n4⟩
set_option maxHeartbeats 0 in
theorem all_r1 (L lv : Value) (kind : Int) (bx bl br : Nat) (w : World) :
    r114.wp Tryd.prog (nrm fun a' w' => ∃ bc be ce ee, a' = ⟨(pre14 L kind lv bx bl br (.pointer (some ⟨bc, 0, none⟩)) (.pointer (some ⟨be, 0, none⟩)) (.chan (some ce)) (.chan (some ee))).toArray, []⟩ ∧ Chans w bc be ce ee w') ⟨(pre14 L kind lv bx bl br undef undef undef undef).toArray, []⟩ w := by
  unfold r114 body14
  simp only [Tryd.f14, Option.getD_some]
  have m1 := mk71
  have m2 := mk72
  go_region
  all_goals
    refine ⟨_, _, _, _, rfl, ?_⟩
    have h4 := four w
    refine ⟨(h4 _ _ _ _).1, ?_, ?_, ?_, ?_, ?_, ?_⟩
    all_goals first | omega | exact (h4 _ _ _ _).2.1 | exact (h4 _ _ _ _).2.2.1 | exact (h4 _ _ _ _).2.2.2.1 | exact (h4 _ _ _ _).2.2.2.2 | skip
end Go.Proofs.YtlanlkpamnoekaaDoor.Lk
namespace Go.Proofs.YtlanlkpamnoekaaDoor.Lk
open Go Go.Conc Go.RowKit Mem Rf
set_option maxRecDepth 100000

noncomputable def b14 : Frame := base 14
theorem size214 : List.range ops214.size = [0] ++ [1] := by kernel_rfl
/-- The slots at the go statement. -/
abbrev at14 (L : Value) (kind : Int) (lv : Value) (bx bl br bc be ce ee : Nat) : Act :=
  ⟨(pre14 L kind lv bx bl br (.pointer (some ⟨bc, 0, none⟩)) (.pointer (some ⟨be, 0, none⟩)) (.chan (some ce)) (.chan (some ee))).toArray.setIfInBounds 16 (.func (.func 36) #[] #[.pointer (some ⟨bl, 0, none⟩), .pointer (some ⟨bc, 0, none⟩), .pointer (some ⟨be, 0, none⟩)]), []⟩

theorem all_mf (L lv : Value) (kind : Int) (bx bl br bc be ce ee : Nat) (w : World) :
    wpOps Tryd.prog ops214 (nrm fun a' w' => a' = at14 L kind lv bx bl br bc be ce ee ∧ w' = w) [0] ⟨(pre14 L kind lv bx bl br (.pointer (some ⟨bc, 0, none⟩)) (.pointer (some ⟨be, 0, none⟩)) (.chan (some ce)) (.chan (some ee))).toArray, []⟩ w := by
  unfold ops214 body14
  simp only [Tryd.f14, Option.getD_some]
  simp only [wpOps, List.getElem?_toArray, List.getElem?_cons_zero, Region.wanted]
  rw [if_pos (by trivial)]
  refine .inl ?_
  unfold Oper.wp execOp
  simp [go_sem, Instr.makeFunc, nrm, at14, Act.eval, Act.put]

/-- What is known at the go statement. -/
structure Entry (G : World) (s q e : Int) (lv : Value) (bx bl br bc be ce ee : Nat) (W : World) : Prop where
  below : Below G.heap.size G W
  x : LVar W bx s q e
  r : LVar W br 0 0 0
  l : W.heap[bl]? = some (.cells #[lv] 32)
  ch : ∃ W1, Below G.heap.size G W1 ∧ W1.heap.size = G.heap.size + 1 + 1 + 1 ∧ Chans W1 bc be ce ee W
  at_ : bx = G.heap.size ∧ bl = G.heap.size + 1 ∧ br = G.heap.size + 1 + 1

theorem all_wins {T : Frame → List Frame → World → Prop} (s q e kind : Int) (A : Option Addr) (n c : Nat) (fs : List Frame) (G : World)
    (h : ∀ bx bl br bc be ce ee W, Entry G s q e (.slice A n c) bx bl br bc be ce ee W → Wins Tryd.prog T (b14.at (at14 (lk s q e) kind (.slice A n c) bx bl br bc be ce ee) (.inRegion ops214 [1] :: [.code (.block 0 (.loop loop14))])) fs W) :
    Wins Tryd.prog T (Frame.enter Tryd.prog 14 #[lk s q e, .int .u8 kind, .slice A n c] .normal) fs G := by
  have he : Frame.enter Tryd.prog 14 #[lk s q e, .int .u8 kind, .slice A n c] .normal = b14.at ⟨#[lk s q e, .int .u8 kind, .slice A n c] ++ Array.replicate 38 undef, []⟩ [.code body14] := by
    rw [enter_at (c := body14) _ Tryd.func14 rfl, Tryd.ntmps14]
    rfl
  rw [he, body14_eq]
  refine Wins.seq (Wins.wp (all_r0 s q e kind _ ⟨_, _, _, rfl⟩ G) fun a1 W1 ⟨h1, hx, hr, hl, hb, hs⟩ => ?_)
  subst h1
  refine Wins.seq (Wins.wp (all_r1 _ _ kind _ _ _ W1) fun a2 W2 ⟨bc, be, ce, ee, h2, hc⟩ => ?_)
  subst h2
  refine Wins.seq (Wins.region (Wins.ops [0] [1] size214 (all_mf _ _ kind _ _ _ bc be ce ee W2) fun a3 W3 ⟨h3, h3'⟩ => ?_))
  subst h3 h3'
  have hbb := hc.below
  exact h _ _ _ bc be ce ee W3 ⟨hb.trans (hbb.mono (by omega)), hx.later hbb, hr.later hbb, below_at hbb hl (by omega), ⟨W1, hb, hs, hc⟩, rfl, rfl, rfl⟩
end Go.Proofs.YtlanlkpamnoekaaDoor.Lk
