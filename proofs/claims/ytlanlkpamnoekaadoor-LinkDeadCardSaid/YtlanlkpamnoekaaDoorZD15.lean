/- Contracts of functions and words for memory. Nothing that was there is turned. -/
import Derived.Test.YtlanlkpamnoekaaDoorZD14
import Derived.Test.YtlanlkpamnoekaaDoorRows
import Derived.WalkKit
import Derived.ProofKit
import Derived.OpenShut
import Derived.Deep.DeepHandedRow
import Derived.Lib.LaidTab
import Derived.Carry
import Derived.Conc.LeavingOf
import Derived.Conc.Crowd
import Derived.SevenTiedAt
namespace Go.Proofs.YtlanlkpamnoekaaDoor
open List renaming getElem_toArray → zA, getElem_cons_succ → zS, getElem_cons_zero → zZ, setIfInBounds_toArray → zP, set_cons_zero → zQ, set_cons_succ → zR
open Go Go.RowKit Rf Mem Bv Crc Str Lk
set_option maxRecDepth 100000
attribute [local go_sem ↓] run_max2 run_min2
def fD (n : BitVec 8) : Frm := (2#8, n, [])
set_option maxHeartbeats 4000000 in
theorem ld6 (a : Act) (tk s1 s2 : Int) (g7 g8 : Nat) (n2 : BitVec 8) (hn2 : s2 = n2.toNat) (h1t : 1 ≤ tk ∧ tk ≤ 50) (hS : Sl a 104 [(0, .int .i64 tk), (1, .int .u8 s1), (2, .int .u8 s2), (6, .bool false), (7, .pointer (some ⟨g7, 0, none⟩)), (8, .pointer (some ⟨g8, 0, none⟩)), (10, .int .i64 0)]) (w : World) (hT : Tops w) (L : LVar w g8 (-1) (tk + 1) 0) : (rgD 6).wp Tryd.prog (nrm fun a' w' => ∃ g12 g13, Sl a' 104 [(0, .int .i64 tk), (1, .int .u8 s1), (2, .int .u8 s2), (6, .bool false), (7, .pointer (some ⟨g7, 0, none⟩)), (8, .pointer (some ⟨g8, 0, none⟩)), (10, .int .i64 0), (12, .pointer (some ⟨g12, 0, none⟩)), (13, .pointer (some ⟨g13, 0, none⟩)), (14, .int .i64 0)] ∧ LVar w' g12 s2 0 0 ∧ FV w' g13 (fD n2) ∧ Below w.heap.size w w') a w := by
  have HN2 := Lib.hid hn2
  have HT1 := Lib.hid h1t
  clear hn2 h1t
  obtain ⟨j, rfl, hj⟩ := hS.lit104
  have h0 : j 0 = .int .i64 tk := hj (0, _) (by simp)
  have h1 : j 1 = .int .u8 s1 := hj (1, _) (by simp)
  have h2 : j 2 = .int .u8 s2 := hj (2, _) (by simp)
  have h6 : j 6 = .bool false := hj (6, _) (by simp)
  have h7 : j 7 = .pointer (some ⟨g7, 0, none⟩) := hj (7, _) (by simp)
  have h8 : j 8 = .pointer (some ⟨g8, 0, none⟩) := hj (8, _) (by simp)
  have h10 : j 10 = .int .i64 0 := hj (10, _) (by simp)
  clear hj hS
  unfold rgD bodyD
  simp only [Tryd.f6, Option.getD_some, nthSeq, lit104, List.cons_append, List.nil_append, h0, h1, h2, h6, h7, h8, h10]
  obtain ⟨q1, hq1⟩ : ∃ q1, q1 = tk + 1 := ⟨_, rfl⟩
  rw [← hq1] at L
  have HQ := Lib.hid hq1
  clear hq1
  obtain ⟨X, hX⟩ : ∃ X, X = panelV n2 := ⟨_, rfl⟩
  have hr : (((s2, 0, 0), 0, fD n2) : Lst × Int × Frm) = hearV 2 X (-1, q1, 0) := by rw [hX, hear_panel n2 s2 HN2.out (-1, q1, 0) (by have := HT1.out; have := HQ.out; unfold rightL clamp; simp; omega), if_neg (by simp)]; rfl
  have HR := Lib.hid hr
  have hl : X.length ≤ 140737488355328 := by rw [hX]; unfold panelV; simp [Crc.close, hb]
  have HL := Lib.hid hl
  have HX := Lib.hid hX
  clear hr hX hl
  refine wp_region_held_drew (S := (fun w' => LVar w' g8 (-1) q1 0)) (by kernel_rfl) ?_ (fun hHeld => ?_)
  · exact ⟨L.at_⟩
  have Bb : Below w.heap.size w w.drew := (Below.refl _ w).drew
  clear hHeld
  have L0 := L.later Bb
  have hT0 := hT.below Bb
  have hg2 := lt_of_at L.at_
  clear L hT
  generalize w.drew = V at *
  have hHeld := L0
  refine Node.tk 0 (lk (-1) q1 0) rfl (fun _ hSw => run_ld hSw rfl rfl) ?_
  simp only [zA, zS, zZ, Act.put, zP, zQ, zR]
  refine Node.tk 1 ?_ rfl ?_ ?_
  rotate_left
  · intro w hSw; (try dsimp only at hSw); go_simp; try with_reducible rfl
  simp only [zA, zS, zZ, Act.put, zP, zQ, zR]
  clear hHeld
  refine wpAnyH_ready (rs := [2, 8, 9]) (by kernel_rfl) (by simp) ?_
  refine AllReadyH.cons rfl (fun K hK => ?_) (AllReadyH.cons rfl (fun K hK => ?_) (AllReadyH.cons rfl (fun K hK => ?_) AllReadyH.nil))
  · skip
    refine Node.wp_fn 31 [.tmp 76] _ [.int .u8 s2] (by rfl) (by rfl) (enters Tryd.func31 (by kernel_rfl) rfl) (panel_c n2 s2 HN2.out X HX.out V) ?_
    rintro e V' ⟨b, Ap, cp, rfl, hs⟩
    refine ⟨_, rfl, ?_⟩
    replace Bb := below_step Bb b
    replace L0 := L0.later b
    replace hT0 := hT0.below b
    try replace N5 := N5.later b
    try replace N6 := below_at b N6 (lt_of_at N6)
    clear b
    generalize V' = V at *
    refine hK.out _ _ L0 (fun _ => ?_)
    clear hK K
    try simp only [zA, zS, zZ, Act.put, zP, zQ, zR]
    refine wpAnyH_ready (rs := [3, 8, 9]) (by kernel_rfl) (by simp) ?_
    refine AllReadyH.cons rfl (fun K hK => ?_) (AllReadyH.cons rfl (fun K hK => ?_) (AllReadyH.cons rfl (fun K hK => ?_) AllReadyH.nil))
    · skip
      refine Node.wp_fn 11 [.tmp 75, .const (.int .u8 2), .tmp 77] _ [lkv (-1, q1, 0), .int .u8 2, .slice Ap X.length cp] (by rfl) (by rfl) (enters Tryd.func11 (by kernel_rfl) rfl) (Hear_v (-1, q1, 0) 2 (.slice Ap X.length cp) X V _ HR.out hT0 hs HL.out) ?_
      rintro e V' ⟨A3, c3, rfl, b, hp, hq⟩
      clear hq
      refine ⟨_, rfl, ?_⟩
      replace Bb := below_step Bb b
      replace L0 := L0.later b
      replace hT0 := hT0.below b
      try replace N5 := N5.later b
      try replace N6 := below_at b N6 (lt_of_at N6)
      clear b hs
      generalize V' = V at *
      refine hK.out _ _ L0 (fun _ => ?_)
      clear hK K
      try simp only [zA, zS, zZ, Act.put, zP, zQ, zR]
      refine Node.tk 4 ?_ rfl ?_ ?_
      rotate_left
      · intro w hSw; (try dsimp only at hSw); go_simp; try with_reducible rfl
      simp only [zA, zS, zZ, Act.put, zP, zQ, zR]
      refine Node.tk 5 ?_ rfl ?_ ?_
      rotate_left
      · intro w hSw; (try dsimp only at hSw); go_simp; try with_reducible rfl
      simp only [zA, zS, zZ, Act.put, zP, zQ, zR]
      refine Node.tk 6 ?_ rfl ?_ ?_
      rotate_left
      · intro w hSw; (try dsimp only at hSw); go_simp; try with_reducible rfl
      simp only [zA, zS, zZ, Act.put, zP, zQ, zR]
      refine Node.tk 7 ?_ rfl ?_ ?_
      rotate_left
      · intro w hSw; (try dsimp only at hSw); go_simp; try with_reducible rfl
      simp only [zA, zS, zZ, Act.put, zP, zQ, zR]
      refine wpAnyH_ready (rs := [8, 9]) (by kernel_rfl) (by simp) ?_
      refine AllReadyH.cons rfl (fun K hK => ?_) (AllReadyH.cons rfl (fun K hK => ?_) AllReadyH.nil)
      · skip
        have N5 := LVar.new V 0 0 0
        have b := below_new V (.cells #[.int .i64 0, .int .i64 0, .int .i64 0] 31)
        refine Node.wp_new 31 (.agg #[.int .i64 0, .int .i64 0, .int .i64 0]) #[.int .i64 0, .int .i64 0, .int .i64 0] (by kernel_rfl) rfl (by rfl) ?_
        have n5 := Bb.size
        replace Bb := below_step Bb b
        replace L0 := L0.later b
        replace hT0 := hT0.below b
        try replace hs := hs.later b
        try replace hp := hp.later b
        try (have n56 := lt_of_at N6; replace N6 := below_at b N6 n56)
        clear b
        generalize V.heap.size = g5 at *
        generalize V.alloc (.cells #[.int .i64 0, .int .i64 0, .int .i64 0] 31) = V at *
        try replace n56 := Nat.ne_of_lt n56
        refine hK.out _ _ L0 (fun _ => ?_)
        clear hK K
        try simp only [zA, zS, zZ, Act.put, zP, zQ, zR]
        refine Node.on 9 rfl (fun K hK => ?_)
        have N6 := new_at (w := V) rfl (.cells #[.int .u8 0, .int .u8 0, .slice none 0 0] 41)
        have b := below_new V (.cells #[.int .u8 0, .int .u8 0, .slice none 0 0] 41)
        refine Node.wp_new 41 (.agg #[.int .u8 0, .int .u8 0, .slice none 0 0]) #[.int .u8 0, .int .u8 0, .slice none 0 0] (by kernel_rfl) rfl (by rfl) ?_
        have n6 := Bb.size
        replace Bb := below_step Bb b
        replace L0 := L0.later b
        replace hT0 := hT0.below b
        try replace hs := hs.later b
        try replace hp := hp.later b
        try (have n56 := lt_of_at N5.at_; replace N5 := N5.later b)
        clear b
        generalize V.heap.size = g6 at *
        generalize V.alloc (.cells #[.int .u8 0, .int .u8 0, .slice none 0 0] 41) = V at *
        try replace n56 := Ne.symm (Nat.ne_of_lt n56)
        refine hK.out _ _ L0 (fun _ => ?_)
        clear hK K
        try simp only [zA, zS, zZ, Act.put, zP, zQ, zR]
        refine Node.on 10 rfl (fun K hK => ?_)
        refine wp_st_lk N5 rfl rfl rfl rfl ?_
        have hn5 := lt_of_at N5.at_
        replace L0 := L0.far3 (g' := g5) (by omega) s2 0 0
        replace N6 := frame_far3 N6 (g' := g5) n56 s2 0 0
        have N5' := N5.set3 s2 0 0
        replace Bb := ((Bb.setCell (p := ⟨g5, 0, none⟩) n5 (.int .i64 s2)).setCell (p := ⟨g5, 1, none⟩) n5 (.int .i64 0)).setCell (p := ⟨g5, 2, none⟩) n5 (.int .i64 0)
        replace hp : SliceAt (((V.setCell ⟨g5, 0, none⟩ (.int .i64 s2)).setCell ⟨g5, 1, none⟩ (.int .i64 0)).setCell ⟨g5, 2, none⟩ (.int .i64 0)) 1 (.slice A3 (fD n2).2.2.length c3) (fD n2).2.2.length (u8s (fD n2).2.2) := slice_zero hp rfl
        clear N5 hT0 hn5
        generalize ((V.setCell ⟨g5, 0, none⟩ (.int .i64 s2)).setCell ⟨g5, 1, none⟩ (.int .i64 0)).setCell ⟨g5, 2, none⟩ (.int .i64 0) = V at *
        refine hK.out _ _ L0 (fun _ => ?_)
        clear hK K
        try simp only [zA, zS, zZ, Act.put, zP, zQ, zR]
        refine Node.on 11 rfl (fun K hK => ?_)
        refine wp_st_fr N6 rfl rfl rfl rfl ?_
        have F := FV.mk3 (f := (fD n2)) N6 hp rfl
        have hn6 := lt_of_at N6
        replace L0 := L0.at_
        replace L0 : LVar (((V.setCell ⟨g6, 0, none⟩ (.int .u8 ((fD n2).1.toNat : Int))).setCell ⟨g6, 1, none⟩ (.int .u8 ((fD n2).2.1.toNat : Int))).setCell ⟨g6, 2, none⟩ (.slice A3 (fD n2).2.2.length c3)) g8 (-1) q1 0 := ⟨frame_far3' L0 (by omega) _ _ _⟩
        replace N5' : LVar (((V.setCell ⟨g6, 0, none⟩ (.int .u8 ((fD n2).1.toNat : Int))).setCell ⟨g6, 1, none⟩ (.int .u8 ((fD n2).2.1.toNat : Int))).setCell ⟨g6, 2, none⟩ (.slice A3 (fD n2).2.2.length c3)) g5 s2 0 0 := ⟨frame_far3' N5'.at_ (Ne.symm n56) _ _ _⟩
        replace Bb := ((Bb.setCell (p := ⟨g6, 0, none⟩) n6 (.int .u8 ((fD n2).1.toNat : Int))).setCell (p := ⟨g6, 1, none⟩) n6 (.int .u8 ((fD n2).2.1.toNat : Int))).setCell (p := ⟨g6, 2, none⟩) n6 (.slice A3 (fD n2).2.2.length c3)
        clear N6 hp
        generalize ((V.setCell ⟨g6, 0, none⟩ (.int .u8 ((fD n2).1.toNat : Int))).setCell ⟨g6, 1, none⟩ (.int .u8 ((fD n2).2.1.toNat : Int))).setCell ⟨g6, 2, none⟩ (.slice A3 (fD n2).2.2.length c3) = V at *
        refine hK.out _ _ L0 (fun _ => ?_)
        clear hK K
        try simp only [zA, zS, zZ, Act.put, zP, zQ, zR]
        refine Node.tk 12 ?_ rfl ?_ ?_
        rotate_left
        · intro w hSw; (try dsimp only at hSw); go_simp; try with_reducible rfl
        simp only [zA, zS, zZ, Act.put, zP, zQ, zR]
        refine wpAnyH_done (by kernel_rfl) ?_ _
        exact ⟨g5, g6, ⟨rfl, rfl, by simp⟩, N5', F, Bb⟩
      · skip
        have N6 := new_at (w := V) rfl (.cells #[.int .u8 0, .int .u8 0, .slice none 0 0] 41)
        have b := below_new V (.cells #[.int .u8 0, .int .u8 0, .slice none 0 0] 41)
        refine Node.wp_new 41 (.agg #[.int .u8 0, .int .u8 0, .slice none 0 0]) #[.int .u8 0, .int .u8 0, .slice none 0 0] (by kernel_rfl) rfl (by rfl) ?_
        have n6 := Bb.size
        replace Bb := below_step Bb b
        replace L0 := L0.later b
        replace hT0 := hT0.below b
        try replace hs := hs.later b
        try replace hp := hp.later b
        try (have n56 := lt_of_at N5.at_; replace N5 := N5.later b)
        clear b
        generalize V.heap.size = g6 at *
        generalize V.alloc (.cells #[.int .u8 0, .int .u8 0, .slice none 0 0] 41) = V at *
        try replace n56 := Ne.symm (Nat.ne_of_lt n56)
        refine hK.out _ _ L0 (fun _ => ?_)
        clear hK K
        try simp only [zA, zS, zZ, Act.put, zP, zQ, zR]
        refine Node.on 8 rfl (fun K hK => ?_)
        have N5 := LVar.new V 0 0 0
        have b := below_new V (.cells #[.int .i64 0, .int .i64 0, .int .i64 0] 31)
        refine Node.wp_new 31 (.agg #[.int .i64 0, .int .i64 0, .int .i64 0]) #[.int .i64 0, .int .i64 0, .int .i64 0] (by kernel_rfl) rfl (by rfl) ?_
        have n5 := Bb.size
        replace Bb := below_step Bb b
        replace L0 := L0.later b
        replace hT0 := hT0.below b
        try replace hs := hs.later b
        try replace hp := hp.later b
        try (have n56 := lt_of_at N6; replace N6 := below_at b N6 n56)
        clear b
        generalize V.heap.size = g5 at *
        generalize V.alloc (.cells #[.int .i64 0, .int .i64 0, .int .i64 0] 31) = V at *
        try replace n56 := Nat.ne_of_lt n56
        refine hK.out _ _ L0 (fun _ => ?_)
        clear hK K
        try simp only [zA, zS, zZ, Act.put, zP, zQ, zR]
        refine Node.on 10 rfl (fun K hK => ?_)
        refine wp_st_lk N5 rfl rfl rfl rfl ?_
        have hn5 := lt_of_at N5.at_
        replace L0 := L0.far3 (g' := g5) (by omega) s2 0 0
        replace N6 := frame_far3 N6 (g' := g5) n56 s2 0 0
        have N5' := N5.set3 s2 0 0
        replace Bb := ((Bb.setCell (p := ⟨g5, 0, none⟩) n5 (.int .i64 s2)).setCell (p := ⟨g5, 1, none⟩) n5 (.int .i64 0)).setCell (p := ⟨g5, 2, none⟩) n5 (.int .i64 0)
        replace hp : SliceAt (((V.setCell ⟨g5, 0, none⟩ (.int .i64 s2)).setCell ⟨g5, 1, none⟩ (.int .i64 0)).setCell ⟨g5, 2, none⟩ (.int .i64 0)) 1 (.slice A3 (fD n2).2.2.length c3) (fD n2).2.2.length (u8s (fD n2).2.2) := slice_zero hp rfl
        clear N5 hT0 hn5
        generalize ((V.setCell ⟨g5, 0, none⟩ (.int .i64 s2)).setCell ⟨g5, 1, none⟩ (.int .i64 0)).setCell ⟨g5, 2, none⟩ (.int .i64 0) = V at *
        refine hK.out _ _ L0 (fun _ => ?_)
        clear hK K
        try simp only [zA, zS, zZ, Act.put, zP, zQ, zR]
        refine Node.on 11 rfl (fun K hK => ?_)
        refine wp_st_fr N6 rfl rfl rfl rfl ?_
        have F := FV.mk3 (f := (fD n2)) N6 hp rfl
        have hn6 := lt_of_at N6
        replace L0 := L0.at_
        replace L0 : LVar (((V.setCell ⟨g6, 0, none⟩ (.int .u8 ((fD n2).1.toNat : Int))).setCell ⟨g6, 1, none⟩ (.int .u8 ((fD n2).2.1.toNat : Int))).setCell ⟨g6, 2, none⟩ (.slice A3 (fD n2).2.2.length c3)) g8 (-1) q1 0 := ⟨frame_far3' L0 (by omega) _ _ _⟩
        replace N5' : LVar (((V.setCell ⟨g6, 0, none⟩ (.int .u8 ((fD n2).1.toNat : Int))).setCell ⟨g6, 1, none⟩ (.int .u8 ((fD n2).2.1.toNat : Int))).setCell ⟨g6, 2, none⟩ (.slice A3 (fD n2).2.2.length c3)) g5 s2 0 0 := ⟨frame_far3' N5'.at_ (Ne.symm n56) _ _ _⟩
        replace Bb := ((Bb.setCell (p := ⟨g6, 0, none⟩) n6 (.int .u8 ((fD n2).1.toNat : Int))).setCell (p := ⟨g6, 1, none⟩) n6 (.int .u8 ((fD n2).2.1.toNat : Int))).setCell (p := ⟨g6, 2, none⟩) n6 (.slice A3 (fD n2).2.2.length c3)
        clear N6 hp
        generalize ((V.setCell ⟨g6, 0, none⟩ (.int .u8 ((fD n2).1.toNat : Int))).setCell ⟨g6, 1, none⟩ (.int .u8 ((fD n2).2.1.toNat : Int))).setCell ⟨g6, 2, none⟩ (.slice A3 (fD n2).2.2.length c3) = V at *
        refine hK.out _ _ L0 (fun _ => ?_)
        clear hK K
        try simp only [zA, zS, zZ, Act.put, zP, zQ, zR]
        refine Node.tk 12 ?_ rfl ?_ ?_
        rotate_left
        · intro w hSw; (try dsimp only at hSw); go_simp; try with_reducible rfl
        simp only [zA, zS, zZ, Act.put, zP, zQ, zR]
        refine wpAnyH_done (by kernel_rfl) ?_ _
        exact ⟨g5, g6, ⟨rfl, rfl, by simp⟩, N5', F, Bb⟩
    · skip
      have N5 := LVar.new V 0 0 0
      have b := below_new V (.cells #[.int .i64 0, .int .i64 0, .int .i64 0] 31)
      refine Node.wp_new 31 (.agg #[.int .i64 0, .int .i64 0, .int .i64 0]) #[.int .i64 0, .int .i64 0, .int .i64 0] (by kernel_rfl) rfl (by rfl) ?_
      have n5 := Bb.size
      replace Bb := below_step Bb b
      replace L0 := L0.later b
      replace hT0 := hT0.below b
      try replace hs := hs.later b
      try replace hp := hp.later b
      try (have n56 := lt_of_at N6; replace N6 := below_at b N6 n56)
      clear b
      generalize V.heap.size = g5 at *
      generalize V.alloc (.cells #[.int .i64 0, .int .i64 0, .int .i64 0] 31) = V at *
      try replace n56 := Nat.ne_of_lt n56
      refine hK.out _ _ L0 (fun _ => ?_)
      clear hK K
      try simp only [zA, zS, zZ, Act.put, zP, zQ, zR]
      refine wpAnyH_ready (rs := [3, 9]) (by kernel_rfl) (by simp) ?_
      refine AllReadyH.cons rfl (fun K hK => ?_) (AllReadyH.cons rfl (fun K hK => ?_) AllReadyH.nil)
      · skip
        refine Node.wp_fn 11 [.tmp 75, .const (.int .u8 2), .tmp 77] _ [lkv (-1, q1, 0), .int .u8 2, .slice Ap X.length cp] (by rfl) (by rfl) (enters Tryd.func11 (by kernel_rfl) rfl) (Hear_v (-1, q1, 0) 2 (.slice Ap X.length cp) X V _ HR.out hT0 hs HL.out) ?_
        rintro e V' ⟨A3, c3, rfl, b, hp, hq⟩
        clear hq
        refine ⟨_, rfl, ?_⟩
        replace Bb := below_step Bb b
        replace L0 := L0.later b
        replace hT0 := hT0.below b
        try replace N5 := N5.later b
        try replace N6 := below_at b N6 (lt_of_at N6)
        clear b hs
        generalize V' = V at *
        refine hK.out _ _ L0 (fun _ => ?_)
        clear hK K
        try simp only [zA, zS, zZ, Act.put, zP, zQ, zR]
        refine Node.tk 4 ?_ rfl ?_ ?_
        rotate_left
        · intro w hSw; (try dsimp only at hSw); go_simp; try with_reducible rfl
        simp only [zA, zS, zZ, Act.put, zP, zQ, zR]
        refine Node.tk 5 ?_ rfl ?_ ?_
        rotate_left
        · intro w hSw; (try dsimp only at hSw); go_simp; try with_reducible rfl
        simp only [zA, zS, zZ, Act.put, zP, zQ, zR]
        refine Node.tk 6 ?_ rfl ?_ ?_
        rotate_left
        · intro w hSw; (try dsimp only at hSw); go_simp; try with_reducible rfl
        simp only [zA, zS, zZ, Act.put, zP, zQ, zR]
        refine Node.tk 7 ?_ rfl ?_ ?_
        rotate_left
        · intro w hSw; (try dsimp only at hSw); go_simp; try with_reducible rfl
        simp only [zA, zS, zZ, Act.put, zP, zQ, zR]
        refine Node.on 9 rfl (fun K hK => ?_)
        have N6 := new_at (w := V) rfl (.cells #[.int .u8 0, .int .u8 0, .slice none 0 0] 41)
        have b := below_new V (.cells #[.int .u8 0, .int .u8 0, .slice none 0 0] 41)
        refine Node.wp_new 41 (.agg #[.int .u8 0, .int .u8 0, .slice none 0 0]) #[.int .u8 0, .int .u8 0, .slice none 0 0] (by kernel_rfl) rfl (by rfl) ?_
        have n6 := Bb.size
        replace Bb := below_step Bb b
        replace L0 := L0.later b
        replace hT0 := hT0.below b
        try replace hs := hs.later b
        try replace hp := hp.later b
        try (have n56 := lt_of_at N5.at_; replace N5 := N5.later b)
        clear b
        generalize V.heap.size = g6 at *
        generalize V.alloc (.cells #[.int .u8 0, .int .u8 0, .slice none 0 0] 41) = V at *
        try replace n56 := Ne.symm (Nat.ne_of_lt n56)
        refine hK.out _ _ L0 (fun _ => ?_)
        clear hK K
        try simp only [zA, zS, zZ, Act.put, zP, zQ, zR]
        refine Node.on 10 rfl (fun K hK => ?_)
        refine wp_st_lk N5 rfl rfl rfl rfl ?_
        have hn5 := lt_of_at N5.at_
        replace L0 := L0.far3 (g' := g5) (by omega) s2 0 0
        replace N6 := frame_far3 N6 (g' := g5) n56 s2 0 0
        have N5' := N5.set3 s2 0 0
        replace Bb := ((Bb.setCell (p := ⟨g5, 0, none⟩) n5 (.int .i64 s2)).setCell (p := ⟨g5, 1, none⟩) n5 (.int .i64 0)).setCell (p := ⟨g5, 2, none⟩) n5 (.int .i64 0)
        replace hp : SliceAt (((V.setCell ⟨g5, 0, none⟩ (.int .i64 s2)).setCell ⟨g5, 1, none⟩ (.int .i64 0)).setCell ⟨g5, 2, none⟩ (.int .i64 0)) 1 (.slice A3 (fD n2).2.2.length c3) (fD n2).2.2.length (u8s (fD n2).2.2) := slice_zero hp rfl
        clear N5 hT0 hn5
        generalize ((V.setCell ⟨g5, 0, none⟩ (.int .i64 s2)).setCell ⟨g5, 1, none⟩ (.int .i64 0)).setCell ⟨g5, 2, none⟩ (.int .i64 0) = V at *
        refine hK.out _ _ L0 (fun _ => ?_)
        clear hK K
        try simp only [zA, zS, zZ, Act.put, zP, zQ, zR]
        refine Node.on 11 rfl (fun K hK => ?_)
        refine wp_st_fr N6 rfl rfl rfl rfl ?_
        have F := FV.mk3 (f := (fD n2)) N6 hp rfl
        have hn6 := lt_of_at N6
        replace L0 := L0.at_
        replace L0 : LVar (((V.setCell ⟨g6, 0, none⟩ (.int .u8 ((fD n2).1.toNat : Int))).setCell ⟨g6, 1, none⟩ (.int .u8 ((fD n2).2.1.toNat : Int))).setCell ⟨g6, 2, none⟩ (.slice A3 (fD n2).2.2.length c3)) g8 (-1) q1 0 := ⟨frame_far3' L0 (by omega) _ _ _⟩
        replace N5' : LVar (((V.setCell ⟨g6, 0, none⟩ (.int .u8 ((fD n2).1.toNat : Int))).setCell ⟨g6, 1, none⟩ (.int .u8 ((fD n2).2.1.toNat : Int))).setCell ⟨g6, 2, none⟩ (.slice A3 (fD n2).2.2.length c3)) g5 s2 0 0 := ⟨frame_far3' N5'.at_ (Ne.symm n56) _ _ _⟩
        replace Bb := ((Bb.setCell (p := ⟨g6, 0, none⟩) n6 (.int .u8 ((fD n2).1.toNat : Int))).setCell (p := ⟨g6, 1, none⟩) n6 (.int .u8 ((fD n2).2.1.toNat : Int))).setCell (p := ⟨g6, 2, none⟩) n6 (.slice A3 (fD n2).2.2.length c3)
        clear N6 hp
        generalize ((V.setCell ⟨g6, 0, none⟩ (.int .u8 ((fD n2).1.toNat : Int))).setCell ⟨g6, 1, none⟩ (.int .u8 ((fD n2).2.1.toNat : Int))).setCell ⟨g6, 2, none⟩ (.slice A3 (fD n2).2.2.length c3) = V at *
        refine hK.out _ _ L0 (fun _ => ?_)
        clear hK K
        try simp only [zA, zS, zZ, Act.put, zP, zQ, zR]
        refine Node.tk 12 ?_ rfl ?_ ?_
        rotate_left
        · intro w hSw; (try dsimp only at hSw); go_simp; try with_reducible rfl
        simp only [zA, zS, zZ, Act.put, zP, zQ, zR]
        refine wpAnyH_done (by kernel_rfl) ?_ _
        exact ⟨g5, g6, ⟨rfl, rfl, by simp⟩, N5', F, Bb⟩
      · skip
        have N6 := new_at (w := V) rfl (.cells #[.int .u8 0, .int .u8 0, .slice none 0 0] 41)
        have b := below_new V (.cells #[.int .u8 0, .int .u8 0, .slice none 0 0] 41)
        refine Node.wp_new 41 (.agg #[.int .u8 0, .int .u8 0, .slice none 0 0]) #[.int .u8 0, .int .u8 0, .slice none 0 0] (by kernel_rfl) rfl (by rfl) ?_
        have n6 := Bb.size
        replace Bb := below_step Bb b
        replace L0 := L0.later b
        replace hT0 := hT0.below b
        try replace hs := hs.later b
        try replace hp := hp.later b
        try (have n56 := lt_of_at N5.at_; replace N5 := N5.later b)
        clear b
        generalize V.heap.size = g6 at *
        generalize V.alloc (.cells #[.int .u8 0, .int .u8 0, .slice none 0 0] 41) = V at *
        try replace n56 := Ne.symm (Nat.ne_of_lt n56)
        refine hK.out _ _ L0 (fun _ => ?_)
        clear hK K
        try simp only [zA, zS, zZ, Act.put, zP, zQ, zR]
        refine Node.on 3 rfl (fun K hK => ?_)
        refine Node.wp_fn 11 [.tmp 75, .const (.int .u8 2), .tmp 77] _ [lkv (-1, q1, 0), .int .u8 2, .slice Ap X.length cp] (by rfl) (by rfl) (enters Tryd.func11 (by kernel_rfl) rfl) (Hear_v (-1, q1, 0) 2 (.slice Ap X.length cp) X V _ HR.out hT0 hs HL.out) ?_
        rintro e V' ⟨A3, c3, rfl, b, hp, hq⟩
        clear hq
        refine ⟨_, rfl, ?_⟩
        replace Bb := below_step Bb b
        replace L0 := L0.later b
        replace hT0 := hT0.below b
        try replace N5 := N5.later b
        try replace N6 := below_at b N6 (lt_of_at N6)
        clear b hs
        generalize V' = V at *
        refine hK.out _ _ L0 (fun _ => ?_)
        clear hK K
        try simp only [zA, zS, zZ, Act.put, zP, zQ, zR]
        refine Node.tk 4 ?_ rfl ?_ ?_
        rotate_left
        · intro w hSw; (try dsimp only at hSw); go_simp; try with_reducible rfl
        simp only [zA, zS, zZ, Act.put, zP, zQ, zR]
        refine Node.tk 5 ?_ rfl ?_ ?_
        rotate_left
        · intro w hSw; (try dsimp only at hSw); go_simp; try with_reducible rfl
        simp only [zA, zS, zZ, Act.put, zP, zQ, zR]
        refine Node.tk 6 ?_ rfl ?_ ?_
        rotate_left
        · intro w hSw; (try dsimp only at hSw); go_simp; try with_reducible rfl
        simp only [zA, zS, zZ, Act.put, zP, zQ, zR]
        refine Node.tk 7 ?_ rfl ?_ ?_
        rotate_left
        · intro w hSw; (try dsimp only at hSw); go_simp; try with_reducible rfl
        simp only [zA, zS, zZ, Act.put, zP, zQ, zR]
        refine Node.on 10 rfl (fun K hK => ?_)
        refine wp_st_lk N5 rfl rfl rfl rfl ?_
        have hn5 := lt_of_at N5.at_
        replace L0 := L0.far3 (g' := g5) (by omega) s2 0 0
        replace N6 := frame_far3 N6 (g' := g5) n56 s2 0 0
        have N5' := N5.set3 s2 0 0
        replace Bb := ((Bb.setCell (p := ⟨g5, 0, none⟩) n5 (.int .i64 s2)).setCell (p := ⟨g5, 1, none⟩) n5 (.int .i64 0)).setCell (p := ⟨g5, 2, none⟩) n5 (.int .i64 0)
        replace hp : SliceAt (((V.setCell ⟨g5, 0, none⟩ (.int .i64 s2)).setCell ⟨g5, 1, none⟩ (.int .i64 0)).setCell ⟨g5, 2, none⟩ (.int .i64 0)) 1 (.slice A3 (fD n2).2.2.length c3) (fD n2).2.2.length (u8s (fD n2).2.2) := slice_zero hp rfl
        clear N5 hT0 hn5
        generalize ((V.setCell ⟨g5, 0, none⟩ (.int .i64 s2)).setCell ⟨g5, 1, none⟩ (.int .i64 0)).setCell ⟨g5, 2, none⟩ (.int .i64 0) = V at *
        refine hK.out _ _ L0 (fun _ => ?_)
        clear hK K
        try simp only [zA, zS, zZ, Act.put, zP, zQ, zR]
        refine Node.on 11 rfl (fun K hK => ?_)
        refine wp_st_fr N6 rfl rfl rfl rfl ?_
        have F := FV.mk3 (f := (fD n2)) N6 hp rfl
        have hn6 := lt_of_at N6
        replace L0 := L0.at_
        replace L0 : LVar (((V.setCell ⟨g6, 0, none⟩ (.int .u8 ((fD n2).1.toNat : Int))).setCell ⟨g6, 1, none⟩ (.int .u8 ((fD n2).2.1.toNat : Int))).setCell ⟨g6, 2, none⟩ (.slice A3 (fD n2).2.2.length c3)) g8 (-1) q1 0 := ⟨frame_far3' L0 (by omega) _ _ _⟩
        replace N5' : LVar (((V.setCell ⟨g6, 0, none⟩ (.int .u8 ((fD n2).1.toNat : Int))).setCell ⟨g6, 1, none⟩ (.int .u8 ((fD n2).2.1.toNat : Int))).setCell ⟨g6, 2, none⟩ (.slice A3 (fD n2).2.2.length c3)) g5 s2 0 0 := ⟨frame_far3' N5'.at_ (Ne.symm n56) _ _ _⟩
        replace Bb := ((Bb.setCell (p := ⟨g6, 0, none⟩) n6 (.int .u8 ((fD n2).1.toNat : Int))).setCell (p := ⟨g6, 1, none⟩) n6 (.int .u8 ((fD n2).2.1.toNat : Int))).setCell (p := ⟨g6, 2, none⟩) n6 (.slice A3 (fD n2).2.2.length c3)
        clear N6 hp
        generalize ((V.setCell ⟨g6, 0, none⟩ (.int .u8 ((fD n2).1.toNat : Int))).setCell ⟨g6, 1, none⟩ (.int .u8 ((fD n2).2.1.toNat : Int))).setCell ⟨g6, 2, none⟩ (.slice A3 (fD n2).2.2.length c3) = V at *
        refine hK.out _ _ L0 (fun _ => ?_)
        clear hK K
        try simp only [zA, zS, zZ, Act.put, zP, zQ, zR]
        refine Node.tk 12 ?_ rfl ?_ ?_
        rotate_left
        · intro w hSw; (try dsimp only at hSw); go_simp; try with_reducible rfl
        simp only [zA, zS, zZ, Act.put, zP, zQ, zR]
        refine wpAnyH_done (by kernel_rfl) ?_ _
        exact ⟨g5, g6, ⟨rfl, rfl, by simp⟩, N5', F, Bb⟩
    · skip
      have N6 := new_at (w := V) rfl (.cells #[.int .u8 0, .int .u8 0, .slice none 0 0] 41)
      have b := below_new V (.cells #[.int .u8 0, .int .u8 0, .slice none 0 0] 41)
      refine Node.wp_new 41 (.agg #[.int .u8 0, .int .u8 0, .slice none 0 0]) #[.int .u8 0, .int .u8 0, .slice none 0 0] (by kernel_rfl) rfl (by rfl) ?_
      have n6 := Bb.size
      replace Bb := below_step Bb b
      replace L0 := L0.later b
      replace hT0 := hT0.below b
      try replace hs := hs.later b
      try replace hp := hp.later b
      try (have n56 := lt_of_at N5.at_; replace N5 := N5.later b)
      clear b
      generalize V.heap.size = g6 at *
      generalize V.alloc (.cells #[.int .u8 0, .int .u8 0, .slice none 0 0] 41) = V at *
      try replace n56 := Ne.symm (Nat.ne_of_lt n56)
      refine hK.out _ _ L0 (fun _ => ?_)
      clear hK K
      try simp only [zA, zS, zZ, Act.put, zP, zQ, zR]
      refine wpAnyH_ready (rs := [3, 8]) (by kernel_rfl) (by simp) ?_
      refine AllReadyH.cons rfl (fun K hK => ?_) (AllReadyH.cons rfl (fun K hK => ?_) AllReadyH.nil)
      · skip
        refine Node.wp_fn 11 [.tmp 75, .const (.int .u8 2), .tmp 77] _ [lkv (-1, q1, 0), .int .u8 2, .slice Ap X.length cp] (by rfl) (by rfl) (enters Tryd.func11 (by kernel_rfl) rfl) (Hear_v (-1, q1, 0) 2 (.slice Ap X.length cp) X V _ HR.out hT0 hs HL.out) ?_
        rintro e V' ⟨A3, c3, rfl, b, hp, hq⟩
        clear hq
        refine ⟨_, rfl, ?_⟩
        replace Bb := below_step Bb b
        replace L0 := L0.later b
        replace hT0 := hT0.below b
        try replace N5 := N5.later b
        try replace N6 := below_at b N6 (lt_of_at N6)
        clear b hs
        generalize V' = V at *
        refine hK.out _ _ L0 (fun _ => ?_)
        clear hK K
        try simp only [zA, zS, zZ, Act.put, zP, zQ, zR]
        refine Node.tk 4 ?_ rfl ?_ ?_
        rotate_left
        · intro w hSw; (try dsimp only at hSw); go_simp; try with_reducible rfl
        simp only [zA, zS, zZ, Act.put, zP, zQ, zR]
        refine Node.tk 5 ?_ rfl ?_ ?_
        rotate_left
        · intro w hSw; (try dsimp only at hSw); go_simp; try with_reducible rfl
        simp only [zA, zS, zZ, Act.put, zP, zQ, zR]
        refine Node.tk 6 ?_ rfl ?_ ?_
        rotate_left
        · intro w hSw; (try dsimp only at hSw); go_simp; try with_reducible rfl
        simp only [zA, zS, zZ, Act.put, zP, zQ, zR]
        refine Node.tk 7 ?_ rfl ?_ ?_
        rotate_left
        · intro w hSw; (try dsimp only at hSw); go_simp; try with_reducible rfl
        simp only [zA, zS, zZ, Act.put, zP, zQ, zR]
        refine Node.on 8 rfl (fun K hK => ?_)
        have N5 := LVar.new V 0 0 0
        have b := below_new V (.cells #[.int .i64 0, .int .i64 0, .int .i64 0] 31)
        refine Node.wp_new 31 (.agg #[.int .i64 0, .int .i64 0, .int .i64 0]) #[.int .i64 0, .int .i64 0, .int .i64 0] (by kernel_rfl) rfl (by rfl) ?_
        have n5 := Bb.size
        replace Bb := below_step Bb b
        replace L0 := L0.later b
        replace hT0 := hT0.below b
        try replace hs := hs.later b
        try replace hp := hp.later b
        try (have n56 := lt_of_at N6; replace N6 := below_at b N6 n56)
        clear b
        generalize V.heap.size = g5 at *
        generalize V.alloc (.cells #[.int .i64 0, .int .i64 0, .int .i64 0] 31) = V at *
        try replace n56 := Nat.ne_of_lt n56
        refine hK.out _ _ L0 (fun _ => ?_)
        clear hK K
        try simp only [zA, zS, zZ, Act.put, zP, zQ, zR]
        refine Node.on 10 rfl (fun K hK => ?_)
        refine wp_st_lk N5 rfl rfl rfl rfl ?_
        have hn5 := lt_of_at N5.at_
        replace L0 := L0.far3 (g' := g5) (by omega) s2 0 0
        replace N6 := frame_far3 N6 (g' := g5) n56 s2 0 0
        have N5' := N5.set3 s2 0 0
        replace Bb := ((Bb.setCell (p := ⟨g5, 0, none⟩) n5 (.int .i64 s2)).setCell (p := ⟨g5, 1, none⟩) n5 (.int .i64 0)).setCell (p := ⟨g5, 2, none⟩) n5 (.int .i64 0)
        replace hp : SliceAt (((V.setCell ⟨g5, 0, none⟩ (.int .i64 s2)).setCell ⟨g5, 1, none⟩ (.int .i64 0)).setCell ⟨g5, 2, none⟩ (.int .i64 0)) 1 (.slice A3 (fD n2).2.2.length c3) (fD n2).2.2.length (u8s (fD n2).2.2) := slice_zero hp rfl
        clear N5 hT0 hn5
        generalize ((V.setCell ⟨g5, 0, none⟩ (.int .i64 s2)).setCell ⟨g5, 1, none⟩ (.int .i64 0)).setCell ⟨g5, 2, none⟩ (.int .i64 0) = V at *
        refine hK.out _ _ L0 (fun _ => ?_)
        clear hK K
        try simp only [zA, zS, zZ, Act.put, zP, zQ, zR]
        refine Node.on 11 rfl (fun K hK => ?_)
        refine wp_st_fr N6 rfl rfl rfl rfl ?_
        have F := FV.mk3 (f := (fD n2)) N6 hp rfl
        have hn6 := lt_of_at N6
        replace L0 := L0.at_
        replace L0 : LVar (((V.setCell ⟨g6, 0, none⟩ (.int .u8 ((fD n2).1.toNat : Int))).setCell ⟨g6, 1, none⟩ (.int .u8 ((fD n2).2.1.toNat : Int))).setCell ⟨g6, 2, none⟩ (.slice A3 (fD n2).2.2.length c3)) g8 (-1) q1 0 := ⟨frame_far3' L0 (by omega) _ _ _⟩
        replace N5' : LVar (((V.setCell ⟨g6, 0, none⟩ (.int .u8 ((fD n2).1.toNat : Int))).setCell ⟨g6, 1, none⟩ (.int .u8 ((fD n2).2.1.toNat : Int))).setCell ⟨g6, 2, none⟩ (.slice A3 (fD n2).2.2.length c3)) g5 s2 0 0 := ⟨frame_far3' N5'.at_ (Ne.symm n56) _ _ _⟩
        replace Bb := ((Bb.setCell (p := ⟨g6, 0, none⟩) n6 (.int .u8 ((fD n2).1.toNat : Int))).setCell (p := ⟨g6, 1, none⟩) n6 (.int .u8 ((fD n2).2.1.toNat : Int))).setCell (p := ⟨g6, 2, none⟩) n6 (.slice A3 (fD n2).2.2.length c3)
        clear N6 hp
        generalize ((V.setCell ⟨g6, 0, none⟩ (.int .u8 ((fD n2).1.toNat : Int))).setCell ⟨g6, 1, none⟩ (.int .u8 ((fD n2).2.1.toNat : Int))).setCell ⟨g6, 2, none⟩ (.slice A3 (fD n2).2.2.length c3) = V at *
        refine hK.out _ _ L0 (fun _ => ?_)
        clear hK K
        try simp only [zA, zS, zZ, Act.put, zP, zQ, zR]
        refine Node.tk 12 ?_ rfl ?_ ?_
        rotate_left
        · intro w hSw; (try dsimp only at hSw); go_simp; try with_reducible rfl
        simp only [zA, zS, zZ, Act.put, zP, zQ, zR]
        refine wpAnyH_done (by kernel_rfl) ?_ _
        exact ⟨g5, g6, ⟨rfl, rfl, by simp⟩, N5', F, Bb⟩
      · skip
        have N5 := LVar.new V 0 0 0
        have b := below_new V (.cells #[.int .i64 0, .int .i64 0, .int .i64 0] 31)
        refine Node.wp_new 31 (.agg #[.int .i64 0, .int .i64 0, .int .i64 0]) #[.int .i64 0, .int .i64 0, .int .i64 0] (by kernel_rfl) rfl (by rfl) ?_
        have n5 := Bb.size
        replace Bb := below_step Bb b
        replace L0 := L0.later b
        replace hT0 := hT0.below b
        try replace hs := hs.later b
        try replace hp := hp.later b
        try (have n56 := lt_of_at N6; replace N6 := below_at b N6 n56)
        clear b
        generalize V.heap.size = g5 at *
        generalize V.alloc (.cells #[.int .i64 0, .int .i64 0, .int .i64 0] 31) = V at *
        try replace n56 := Nat.ne_of_lt n56
        refine hK.out _ _ L0 (fun _ => ?_)
        clear hK K
        try simp only [zA, zS, zZ, Act.put, zP, zQ, zR]
        refine Node.on 3 rfl (fun K hK => ?_)
        refine Node.wp_fn 11 [.tmp 75, .const (.int .u8 2), .tmp 77] _ [lkv (-1, q1, 0), .int .u8 2, .slice Ap X.length cp] (by rfl) (by rfl) (enters Tryd.func11 (by kernel_rfl) rfl) (Hear_v (-1, q1, 0) 2 (.slice Ap X.length cp) X V _ HR.out hT0 hs HL.out) ?_
        rintro e V' ⟨A3, c3, rfl, b, hp, hq⟩
        clear hq
        refine ⟨_, rfl, ?_⟩
        replace Bb := below_step Bb b
        replace L0 := L0.later b
        replace hT0 := hT0.below b
        try replace N5 := N5.later b
        try replace N6 := below_at b N6 (lt_of_at N6)
        clear b hs
        generalize V' = V at *
        refine hK.out _ _ L0 (fun _ => ?_)
        clear hK K
        try simp only [zA, zS, zZ, Act.put, zP, zQ, zR]
        refine Node.tk 4 ?_ rfl ?_ ?_
        rotate_left
        · intro w hSw; (try dsimp only at hSw); go_simp; try with_reducible rfl
        simp only [zA, zS, zZ, Act.put, zP, zQ, zR]
        refine Node.tk 5 ?_ rfl ?_ ?_
        rotate_left
        · intro w hSw; (try dsimp only at hSw); go_simp; try with_reducible rfl
        simp only [zA, zS, zZ, Act.put, zP, zQ, zR]
        refine Node.tk 6 ?_ rfl ?_ ?_
        rotate_left
        · intro w hSw; (try dsimp only at hSw); go_simp; try with_reducible rfl
        simp only [zA, zS, zZ, Act.put, zP, zQ, zR]
        refine Node.tk 7 ?_ rfl ?_ ?_
        rotate_left
        · intro w hSw; (try dsimp only at hSw); go_simp; try with_reducible rfl
        simp only [zA, zS, zZ, Act.put, zP, zQ, zR]
        refine Node.on 10 rfl (fun K hK => ?_)
        refine wp_st_lk N5 rfl rfl rfl rfl ?_
        have hn5 := lt_of_at N5.at_
        replace L0 := L0.far3 (g' := g5) (by omega) s2 0 0
        replace N6 := frame_far3 N6 (g' := g5) n56 s2 0 0
        have N5' := N5.set3 s2 0 0
        replace Bb := ((Bb.setCell (p := ⟨g5, 0, none⟩) n5 (.int .i64 s2)).setCell (p := ⟨g5, 1, none⟩) n5 (.int .i64 0)).setCell (p := ⟨g5, 2, none⟩) n5 (.int .i64 0)
        replace hp : SliceAt (((V.setCell ⟨g5, 0, none⟩ (.int .i64 s2)).setCell ⟨g5, 1, none⟩ (.int .i64 0)).setCell ⟨g5, 2, none⟩ (.int .i64 0)) 1 (.slice A3 (fD n2).2.2.length c3) (fD n2).2.2.length (u8s (fD n2).2.2) := slice_zero hp rfl
        clear N5 hT0 hn5
        generalize ((V.setCell ⟨g5, 0, none⟩ (.int .i64 s2)).setCell ⟨g5, 1, none⟩ (.int .i64 0)).setCell ⟨g5, 2, none⟩ (.int .i64 0) = V at *
        refine hK.out _ _ L0 (fun _ => ?_)
        clear hK K
        try simp only [zA, zS, zZ, Act.put, zP, zQ, zR]
        refine Node.on 11 rfl (fun K hK => ?_)
        refine wp_st_fr N6 rfl rfl rfl rfl ?_
        have F := FV.mk3 (f := (fD n2)) N6 hp rfl
        have hn6 := lt_of_at N6
        replace L0 := L0.at_
        replace L0 : LVar (((V.setCell ⟨g6, 0, none⟩ (.int .u8 ((fD n2).1.toNat : Int))).setCell ⟨g6, 1, none⟩ (.int .u8 ((fD n2).2.1.toNat : Int))).setCell ⟨g6, 2, none⟩ (.slice A3 (fD n2).2.2.length c3)) g8 (-1) q1 0 := ⟨frame_far3' L0 (by omega) _ _ _⟩
        replace N5' : LVar (((V.setCell ⟨g6, 0, none⟩ (.int .u8 ((fD n2).1.toNat : Int))).setCell ⟨g6, 1, none⟩ (.int .u8 ((fD n2).2.1.toNat : Int))).setCell ⟨g6, 2, none⟩ (.slice A3 (fD n2).2.2.length c3)) g5 s2 0 0 := ⟨frame_far3' N5'.at_ (Ne.symm n56) _ _ _⟩
        replace Bb := ((Bb.setCell (p := ⟨g6, 0, none⟩) n6 (.int .u8 ((fD n2).1.toNat : Int))).setCell (p := ⟨g6, 1, none⟩) n6 (.int .u8 ((fD n2).2.1.toNat : Int))).setCell (p := ⟨g6, 2, none⟩) n6 (.slice A3 (fD n2).2.2.length c3)
        clear N6 hp
        generalize ((V.setCell ⟨g6, 0, none⟩ (.int .u8 ((fD n2).1.toNat : Int))).setCell ⟨g6, 1, none⟩ (.int .u8 ((fD n2).2.1.toNat : Int))).setCell ⟨g6, 2, none⟩ (.slice A3 (fD n2).2.2.length c3) = V at *
        refine hK.out _ _ L0 (fun _ => ?_)
        clear hK K
        try simp only [zA, zS, zZ, Act.put, zP, zQ, zR]
        refine Node.tk 12 ?_ rfl ?_ ?_
        rotate_left
        · intro w hSw; (try dsimp only at hSw); go_simp; try with_reducible rfl
        simp only [zA, zS, zZ, Act.put, zP, zQ, zR]
        refine wpAnyH_done (by kernel_rfl) ?_ _
        exact ⟨g5, g6, ⟨rfl, rfl, by simp⟩, N5', F, Bb⟩
  · skip
    have N5 := LVar.new V 0 0 0
    have b := below_new V (.cells #[.int .i64 0, .int .i64 0, .int .i64 0] 31)
    refine Node.wp_new 31 (.agg #[.int .i64 0, .int .i64 0, .int .i64 0]) #[.int .i64 0, .int .i64 0, .int .i64 0] (by kernel_rfl) rfl (by rfl) ?_
    have n5 := Bb.size
    replace Bb := below_step Bb b
    replace L0 := L0.later b
    replace hT0 := hT0.below b
    try replace hs := hs.later b
    try replace hp := hp.later b
    try (have n56 := lt_of_at N6; replace N6 := below_at b N6 n56)
    clear b
    generalize V.heap.size = g5 at *
    generalize V.alloc (.cells #[.int .i64 0, .int .i64 0, .int .i64 0] 31) = V at *
    try replace n56 := Nat.ne_of_lt n56
    refine hK.out _ _ L0 (fun _ => ?_)
    clear hK K
    try simp only [zA, zS, zZ, Act.put, zP, zQ, zR]
    refine wpAnyH_ready (rs := [2, 9]) (by kernel_rfl) (by simp) ?_
    refine AllReadyH.cons rfl (fun K hK => ?_) (AllReadyH.cons rfl (fun K hK => ?_) AllReadyH.nil)
    · skip
      refine Node.wp_fn 31 [.tmp 76] _ [.int .u8 s2] (by rfl) (by rfl) (enters Tryd.func31 (by kernel_rfl) rfl) (panel_c n2 s2 HN2.out X HX.out V) ?_
      rintro e V' ⟨b, Ap, cp, rfl, hs⟩
      refine ⟨_, rfl, ?_⟩
      replace Bb := below_step Bb b
      replace L0 := L0.later b
      replace hT0 := hT0.below b
      try replace N5 := N5.later b
      try replace N6 := below_at b N6 (lt_of_at N6)
      clear b
      generalize V' = V at *
      refine hK.out _ _ L0 (fun _ => ?_)
      clear hK K
      try simp only [zA, zS, zZ, Act.put, zP, zQ, zR]
      refine wpAnyH_ready (rs := [3, 9]) (by kernel_rfl) (by simp) ?_
      refine AllReadyH.cons rfl (fun K hK => ?_) (AllReadyH.cons rfl (fun K hK => ?_) AllReadyH.nil)
      · skip
        refine Node.wp_fn 11 [.tmp 75, .const (.int .u8 2), .tmp 77] _ [lkv (-1, q1, 0), .int .u8 2, .slice Ap X.length cp] (by rfl) (by rfl) (enters Tryd.func11 (by kernel_rfl) rfl) (Hear_v (-1, q1, 0) 2 (.slice Ap X.length cp) X V _ HR.out hT0 hs HL.out) ?_
        rintro e V' ⟨A3, c3, rfl, b, hp, hq⟩
        clear hq
        refine ⟨_, rfl, ?_⟩
        replace Bb := below_step Bb b
        replace L0 := L0.later b
        replace hT0 := hT0.below b
        try replace N5 := N5.later b
        try replace N6 := below_at b N6 (lt_of_at N6)
        clear b hs
        generalize V' = V at *
        refine hK.out _ _ L0 (fun _ => ?_)
        clear hK K
        try simp only [zA, zS, zZ, Act.put, zP, zQ, zR]
        refine Node.tk 4 ?_ rfl ?_ ?_
        rotate_left
        · intro w hSw; (try dsimp only at hSw); go_simp; try with_reducible rfl
        simp only [zA, zS, zZ, Act.put, zP, zQ, zR]
        refine Node.tk 5 ?_ rfl ?_ ?_
        rotate_left
        · intro w hSw; (try dsimp only at hSw); go_simp; try with_reducible rfl
        simp only [zA, zS, zZ, Act.put, zP, zQ, zR]
        refine Node.tk 6 ?_ rfl ?_ ?_
        rotate_left
        · intro w hSw; (try dsimp only at hSw); go_simp; try with_reducible rfl
        simp only [zA, zS, zZ, Act.put, zP, zQ, zR]
        refine Node.tk 7 ?_ rfl ?_ ?_
        rotate_left
        · intro w hSw; (try dsimp only at hSw); go_simp; try with_reducible rfl
        simp only [zA, zS, zZ, Act.put, zP, zQ, zR]
        refine Node.on 9 rfl (fun K hK => ?_)
        have N6 := new_at (w := V) rfl (.cells #[.int .u8 0, .int .u8 0, .slice none 0 0] 41)
        have b := below_new V (.cells #[.int .u8 0, .int .u8 0, .slice none 0 0] 41)
        refine Node.wp_new 41 (.agg #[.int .u8 0, .int .u8 0, .slice none 0 0]) #[.int .u8 0, .int .u8 0, .slice none 0 0] (by kernel_rfl) rfl (by rfl) ?_
        have n6 := Bb.size
        replace Bb := below_step Bb b
        replace L0 := L0.later b
        replace hT0 := hT0.below b
        try replace hs := hs.later b
        try replace hp := hp.later b
        try (have n56 := lt_of_at N5.at_; replace N5 := N5.later b)
        clear b
        generalize V.heap.size = g6 at *
        generalize V.alloc (.cells #[.int .u8 0, .int .u8 0, .slice none 0 0] 41) = V at *
        try replace n56 := Ne.symm (Nat.ne_of_lt n56)
        refine hK.out _ _ L0 (fun _ => ?_)
        clear hK K
        try simp only [zA, zS, zZ, Act.put, zP, zQ, zR]
        refine Node.on 10 rfl (fun K hK => ?_)
        refine wp_st_lk N5 rfl rfl rfl rfl ?_
        have hn5 := lt_of_at N5.at_
        replace L0 := L0.far3 (g' := g5) (by omega) s2 0 0
        replace N6 := frame_far3 N6 (g' := g5) n56 s2 0 0
        have N5' := N5.set3 s2 0 0
        replace Bb := ((Bb.setCell (p := ⟨g5, 0, none⟩) n5 (.int .i64 s2)).setCell (p := ⟨g5, 1, none⟩) n5 (.int .i64 0)).setCell (p := ⟨g5, 2, none⟩) n5 (.int .i64 0)
        replace hp : SliceAt (((V.setCell ⟨g5, 0, none⟩ (.int .i64 s2)).setCell ⟨g5, 1, none⟩ (.int .i64 0)).setCell ⟨g5, 2, none⟩ (.int .i64 0)) 1 (.slice A3 (fD n2).2.2.length c3) (fD n2).2.2.length (u8s (fD n2).2.2) := slice_zero hp rfl
        clear N5 hT0 hn5
        generalize ((V.setCell ⟨g5, 0, none⟩ (.int .i64 s2)).setCell ⟨g5, 1, none⟩ (.int .i64 0)).setCell ⟨g5, 2, none⟩ (.int .i64 0) = V at *
        refine hK.out _ _ L0 (fun _ => ?_)
        clear hK K
        try simp only [zA, zS, zZ, Act.put, zP, zQ, zR]
        refine Node.on 11 rfl (fun K hK => ?_)
        refine wp_st_fr N6 rfl rfl rfl rfl ?_
        have F := FV.mk3 (f := (fD n2)) N6 hp rfl
        have hn6 := lt_of_at N6
        replace L0 := L0.at_
        replace L0 : LVar (((V.setCell ⟨g6, 0, none⟩ (.int .u8 ((fD n2).1.toNat : Int))).setCell ⟨g6, 1, none⟩ (.int .u8 ((fD n2).2.1.toNat : Int))).setCell ⟨g6, 2, none⟩ (.slice A3 (fD n2).2.2.length c3)) g8 (-1) q1 0 := ⟨frame_far3' L0 (by omega) _ _ _⟩
        replace N5' : LVar (((V.setCell ⟨g6, 0, none⟩ (.int .u8 ((fD n2).1.toNat : Int))).setCell ⟨g6, 1, none⟩ (.int .u8 ((fD n2).2.1.toNat : Int))).setCell ⟨g6, 2, none⟩ (.slice A3 (fD n2).2.2.length c3)) g5 s2 0 0 := ⟨frame_far3' N5'.at_ (Ne.symm n56) _ _ _⟩
        replace Bb := ((Bb.setCell (p := ⟨g6, 0, none⟩) n6 (.int .u8 ((fD n2).1.toNat : Int))).setCell (p := ⟨g6, 1, none⟩) n6 (.int .u8 ((fD n2).2.1.toNat : Int))).setCell (p := ⟨g6, 2, none⟩) n6 (.slice A3 (fD n2).2.2.length c3)
        clear N6 hp
        generalize ((V.setCell ⟨g6, 0, none⟩ (.int .u8 ((fD n2).1.toNat : Int))).setCell ⟨g6, 1, none⟩ (.int .u8 ((fD n2).2.1.toNat : Int))).setCell ⟨g6, 2, none⟩ (.slice A3 (fD n2).2.2.length c3) = V at *
        refine hK.out _ _ L0 (fun _ => ?_)
        clear hK K
        try simp only [zA, zS, zZ, Act.put, zP, zQ, zR]
        refine Node.tk 12 ?_ rfl ?_ ?_
        rotate_left
        · intro w hSw; (try dsimp only at hSw); go_simp; try with_reducible rfl
        simp only [zA, zS, zZ, Act.put, zP, zQ, zR]
        refine wpAnyH_done (by kernel_rfl) ?_ _
        exact ⟨g5, g6, ⟨rfl, rfl, by simp⟩, N5', F, Bb⟩
      · skip
        have N6 := new_at (w := V) rfl (.cells #[.int .u8 0, .int .u8 0, .slice none 0 0] 41)
        have b := below_new V (.cells #[.int .u8 0, .int .u8 0, .slice none 0 0] 41)
        refine Node.wp_new 41 (.agg #[.int .u8 0, .int .u8 0, .slice none 0 0]) #[.int .u8 0, .int .u8 0, .slice none 0 0] (by kernel_rfl) rfl (by rfl) ?_
        have n6 := Bb.size
        replace Bb := below_step Bb b
        replace L0 := L0.later b
        replace hT0 := hT0.below b
        try replace hs := hs.later b
        try replace hp := hp.later b
        try (have n56 := lt_of_at N5.at_; replace N5 := N5.later b)
        clear b
        generalize V.heap.size = g6 at *
        generalize V.alloc (.cells #[.int .u8 0, .int .u8 0, .slice none 0 0] 41) = V at *
        try replace n56 := Ne.symm (Nat.ne_of_lt n56)
        refine hK.out _ _ L0 (fun _ => ?_)
        clear hK K
        try simp only [zA, zS, zZ, Act.put, zP, zQ, zR]
        refine Node.on 3 rfl (fun K hK => ?_)
        refine Node.wp_fn 11 [.tmp 75, .const (.int .u8 2), .tmp 77] _ [lkv (-1, q1, 0), .int .u8 2, .slice Ap X.length cp] (by rfl) (by rfl) (enters Tryd.func11 (by kernel_rfl) rfl) (Hear_v (-1, q1, 0) 2 (.slice Ap X.length cp) X V _ HR.out hT0 hs HL.out) ?_
        rintro e V' ⟨A3, c3, rfl, b, hp, hq⟩
        clear hq
        refine ⟨_, rfl, ?_⟩
        replace Bb := below_step Bb b
        replace L0 := L0.later b
        replace hT0 := hT0.below b
        try replace N5 := N5.later b
        try replace N6 := below_at b N6 (lt_of_at N6)
        clear b hs
        generalize V' = V at *
        refine hK.out _ _ L0 (fun _ => ?_)
        clear hK K
        try simp only [zA, zS, zZ, Act.put, zP, zQ, zR]
        refine Node.tk 4 ?_ rfl ?_ ?_
        rotate_left
        · intro w hSw; (try dsimp only at hSw); go_simp; try with_reducible rfl
        simp only [zA, zS, zZ, Act.put, zP, zQ, zR]
        refine Node.tk 5 ?_ rfl ?_ ?_
        rotate_left
        · intro w hSw; (try dsimp only at hSw); go_simp; try with_reducible rfl
        simp only [zA, zS, zZ, Act.put, zP, zQ, zR]
        refine Node.tk 6 ?_ rfl ?_ ?_
        rotate_left
        · intro w hSw; (try dsimp only at hSw); go_simp; try with_reducible rfl
        simp only [zA, zS, zZ, Act.put, zP, zQ, zR]
        refine Node.tk 7 ?_ rfl ?_ ?_
        rotate_left
        · intro w hSw; (try dsimp only at hSw); go_simp; try with_reducible rfl
        simp only [zA, zS, zZ, Act.put, zP, zQ, zR]
        refine Node.on 10 rfl (fun K hK => ?_)
        refine wp_st_lk N5 rfl rfl rfl rfl ?_
        have hn5 := lt_of_at N5.at_
        replace L0 := L0.far3 (g' := g5) (by omega) s2 0 0
        replace N6 := frame_far3 N6 (g' := g5) n56 s2 0 0
        have N5' := N5.set3 s2 0 0
        replace Bb := ((Bb.setCell (p := ⟨g5, 0, none⟩) n5 (.int .i64 s2)).setCell (p := ⟨g5, 1, none⟩) n5 (.int .i64 0)).setCell (p := ⟨g5, 2, none⟩) n5 (.int .i64 0)
        replace hp : SliceAt (((V.setCell ⟨g5, 0, none⟩ (.int .i64 s2)).setCell ⟨g5, 1, none⟩ (.int .i64 0)).setCell ⟨g5, 2, none⟩ (.int .i64 0)) 1 (.slice A3 (fD n2).2.2.length c3) (fD n2).2.2.length (u8s (fD n2).2.2) := slice_zero hp rfl
        clear N5 hT0 hn5
        generalize ((V.setCell ⟨g5, 0, none⟩ (.int .i64 s2)).setCell ⟨g5, 1, none⟩ (.int .i64 0)).setCell ⟨g5, 2, none⟩ (.int .i64 0) = V at *
        refine hK.out _ _ L0 (fun _ => ?_)
        clear hK K
        try simp only [zA, zS, zZ, Act.put, zP, zQ, zR]
        refine Node.on 11 rfl (fun K hK => ?_)
        refine wp_st_fr N6 rfl rfl rfl rfl ?_
        have F := FV.mk3 (f := (fD n2)) N6 hp rfl
        have hn6 := lt_of_at N6
        replace L0 := L0.at_
        replace L0 : LVar (((V.setCell ⟨g6, 0, none⟩ (.int .u8 ((fD n2).1.toNat : Int))).setCell ⟨g6, 1, none⟩ (.int .u8 ((fD n2).2.1.toNat : Int))).setCell ⟨g6, 2, none⟩ (.slice A3 (fD n2).2.2.length c3)) g8 (-1) q1 0 := ⟨frame_far3' L0 (by omega) _ _ _⟩
        replace N5' : LVar (((V.setCell ⟨g6, 0, none⟩ (.int .u8 ((fD n2).1.toNat : Int))).setCell ⟨g6, 1, none⟩ (.int .u8 ((fD n2).2.1.toNat : Int))).setCell ⟨g6, 2, none⟩ (.slice A3 (fD n2).2.2.length c3)) g5 s2 0 0 := ⟨frame_far3' N5'.at_ (Ne.symm n56) _ _ _⟩
        replace Bb := ((Bb.setCell (p := ⟨g6, 0, none⟩) n6 (.int .u8 ((fD n2).1.toNat : Int))).setCell (p := ⟨g6, 1, none⟩) n6 (.int .u8 ((fD n2).2.1.toNat : Int))).setCell (p := ⟨g6, 2, none⟩) n6 (.slice A3 (fD n2).2.2.length c3)
        clear N6 hp
        generalize ((V.setCell ⟨g6, 0, none⟩ (.int .u8 ((fD n2).1.toNat : Int))).setCell ⟨g6, 1, none⟩ (.int .u8 ((fD n2).2.1.toNat : Int))).setCell ⟨g6, 2, none⟩ (.slice A3 (fD n2).2.2.length c3) = V at *
        refine hK.out _ _ L0 (fun _ => ?_)
        clear hK K
        try simp only [zA, zS, zZ, Act.put, zP, zQ, zR]
        refine Node.tk 12 ?_ rfl ?_ ?_
        rotate_left
        · intro w hSw; (try dsimp only at hSw); go_simp; try with_reducible rfl
        simp only [zA, zS, zZ, Act.put, zP, zQ, zR]
        refine wpAnyH_done (by kernel_rfl) ?_ _
        exact ⟨g5, g6, ⟨rfl, rfl, by simp⟩, N5', F, Bb⟩
    · skip
      have N6 := new_at (w := V) rfl (.cells #[.int .u8 0, .int .u8 0, .slice none 0 0] 41)
      have b := below_new V (.cells #[.int .u8 0, .int .u8 0, .slice none 0 0] 41)
      refine Node.wp_new 41 (.agg #[.int .u8 0, .int .u8 0, .slice none 0 0]) #[.int .u8 0, .int .u8 0, .slice none 0 0] (by kernel_rfl) rfl (by rfl) ?_
      have n6 := Bb.size
      replace Bb := below_step Bb b
      replace L0 := L0.later b
      replace hT0 := hT0.below b
      try replace hs := hs.later b
      try replace hp := hp.later b
      try (have n56 := lt_of_at N5.at_; replace N5 := N5.later b)
      clear b
      generalize V.heap.size = g6 at *
      generalize V.alloc (.cells #[.int .u8 0, .int .u8 0, .slice none 0 0] 41) = V at *
      try replace n56 := Ne.symm (Nat.ne_of_lt n56)
      refine hK.out _ _ L0 (fun _ => ?_)
      clear hK K
      try simp only [zA, zS, zZ, Act.put, zP, zQ, zR]
      refine Node.on 2 rfl (fun K hK => ?_)
      refine Node.wp_fn 31 [.tmp 76] _ [.int .u8 s2] (by rfl) (by rfl) (enters Tryd.func31 (by kernel_rfl) rfl) (panel_c n2 s2 HN2.out X HX.out V) ?_
      rintro e V' ⟨b, Ap, cp, rfl, hs⟩
      refine ⟨_, rfl, ?_⟩
      replace Bb := below_step Bb b
      replace L0 := L0.later b
      replace hT0 := hT0.below b
      try replace N5 := N5.later b
      try replace N6 := below_at b N6 (lt_of_at N6)
      clear b
      generalize V' = V at *
      refine hK.out _ _ L0 (fun _ => ?_)
      clear hK K
      try simp only [zA, zS, zZ, Act.put, zP, zQ, zR]
      refine Node.on 3 rfl (fun K hK => ?_)
      refine Node.wp_fn 11 [.tmp 75, .const (.int .u8 2), .tmp 77] _ [lkv (-1, q1, 0), .int .u8 2, .slice Ap X.length cp] (by rfl) (by rfl) (enters Tryd.func11 (by kernel_rfl) rfl) (Hear_v (-1, q1, 0) 2 (.slice Ap X.length cp) X V _ HR.out hT0 hs HL.out) ?_
      rintro e V' ⟨A3, c3, rfl, b, hp, hq⟩
      clear hq
      refine ⟨_, rfl, ?_⟩
      replace Bb := below_step Bb b
      replace L0 := L0.later b
      replace hT0 := hT0.below b
      try replace N5 := N5.later b
      try replace N6 := below_at b N6 (lt_of_at N6)
      clear b hs
      generalize V' = V at *
      refine hK.out _ _ L0 (fun _ => ?_)
      clear hK K
      try simp only [zA, zS, zZ, Act.put, zP, zQ, zR]
      refine Node.tk 4 ?_ rfl ?_ ?_
      rotate_left
      · intro w hSw; (try dsimp only at hSw); go_simp; try with_reducible rfl
      simp only [zA, zS, zZ, Act.put, zP, zQ, zR]
      refine Node.tk 5 ?_ rfl ?_ ?_
      rotate_left
      · intro w hSw; (try dsimp only at hSw); go_simp; try with_reducible rfl
      simp only [zA, zS, zZ, Act.put, zP, zQ, zR]
      refine Node.tk 6 ?_ rfl ?_ ?_
      rotate_left
      · intro w hSw; (try dsimp only at hSw); go_simp; try with_reducible rfl
      simp only [zA, zS, zZ, Act.put, zP, zQ, zR]
      refine Node.tk 7 ?_ rfl ?_ ?_
      rotate_left
      · intro w hSw; (try dsimp only at hSw); go_simp; try with_reducible rfl
      simp only [zA, zS, zZ, Act.put, zP, zQ, zR]
      refine Node.on 10 rfl (fun K hK => ?_)
      refine wp_st_lk N5 rfl rfl rfl rfl ?_
      have hn5 := lt_of_at N5.at_
      replace L0 := L0.far3 (g' := g5) (by omega) s2 0 0
      replace N6 := frame_far3 N6 (g' := g5) n56 s2 0 0
      have N5' := N5.set3 s2 0 0
      replace Bb := ((Bb.setCell (p := ⟨g5, 0, none⟩) n5 (.int .i64 s2)).setCell (p := ⟨g5, 1, none⟩) n5 (.int .i64 0)).setCell (p := ⟨g5, 2, none⟩) n5 (.int .i64 0)
      replace hp : SliceAt (((V.setCell ⟨g5, 0, none⟩ (.int .i64 s2)).setCell ⟨g5, 1, none⟩ (.int .i64 0)).setCell ⟨g5, 2, none⟩ (.int .i64 0)) 1 (.slice A3 (fD n2).2.2.length c3) (fD n2).2.2.length (u8s (fD n2).2.2) := slice_zero hp rfl
      clear N5 hT0 hn5
      generalize ((V.setCell ⟨g5, 0, none⟩ (.int .i64 s2)).setCell ⟨g5, 1, none⟩ (.int .i64 0)).setCell ⟨g5, 2, none⟩ (.int .i64 0) = V at *
      refine hK.out _ _ L0 (fun _ => ?_)
      clear hK K
      try simp only [zA, zS, zZ, Act.put, zP, zQ, zR]
      refine Node.on 11 rfl (fun K hK => ?_)
      refine wp_st_fr N6 rfl rfl rfl rfl ?_
      have F := FV.mk3 (f := (fD n2)) N6 hp rfl
      have hn6 := lt_of_at N6
      replace L0 := L0.at_
      replace L0 : LVar (((V.setCell ⟨g6, 0, none⟩ (.int .u8 ((fD n2).1.toNat : Int))).setCell ⟨g6, 1, none⟩ (.int .u8 ((fD n2).2.1.toNat : Int))).setCell ⟨g6, 2, none⟩ (.slice A3 (fD n2).2.2.length c3)) g8 (-1) q1 0 := ⟨frame_far3' L0 (by omega) _ _ _⟩
      replace N5' : LVar (((V.setCell ⟨g6, 0, none⟩ (.int .u8 ((fD n2).1.toNat : Int))).setCell ⟨g6, 1, none⟩ (.int .u8 ((fD n2).2.1.toNat : Int))).setCell ⟨g6, 2, none⟩ (.slice A3 (fD n2).2.2.length c3)) g5 s2 0 0 := ⟨frame_far3' N5'.at_ (Ne.symm n56) _ _ _⟩
      replace Bb := ((Bb.setCell (p := ⟨g6, 0, none⟩) n6 (.int .u8 ((fD n2).1.toNat : Int))).setCell (p := ⟨g6, 1, none⟩) n6 (.int .u8 ((fD n2).2.1.toNat : Int))).setCell (p := ⟨g6, 2, none⟩) n6 (.slice A3 (fD n2).2.2.length c3)
      clear N6 hp
      generalize ((V.setCell ⟨g6, 0, none⟩ (.int .u8 ((fD n2).1.toNat : Int))).setCell ⟨g6, 1, none⟩ (.int .u8 ((fD n2).2.1.toNat : Int))).setCell ⟨g6, 2, none⟩ (.slice A3 (fD n2).2.2.length c3) = V at *
      refine hK.out _ _ L0 (fun _ => ?_)
      clear hK K
      try simp only [zA, zS, zZ, Act.put, zP, zQ, zR]
      refine Node.tk 12 ?_ rfl ?_ ?_
      rotate_left
      · intro w hSw; (try dsimp only at hSw); go_simp; try with_reducible rfl
      simp only [zA, zS, zZ, Act.put, zP, zQ, zR]
      refine wpAnyH_done (by kernel_rfl) ?_ _
      exact ⟨g5, g6, ⟨rfl, rfl, by simp⟩, N5', F, Bb⟩
  · skip
    have N6 := new_at (w := V) rfl (.cells #[.int .u8 0, .int .u8 0, .slice none 0 0] 41)
    have b := below_new V (.cells #[.int .u8 0, .int .u8 0, .slice none 0 0] 41)
    refine Node.wp_new 41 (.agg #[.int .u8 0, .int .u8 0, .slice none 0 0]) #[.int .u8 0, .int .u8 0, .slice none 0 0] (by kernel_rfl) rfl (by rfl) ?_
    have n6 := Bb.size
    replace Bb := below_step Bb b
    replace L0 := L0.later b
    replace hT0 := hT0.below b
    try replace hs := hs.later b
    try replace hp := hp.later b
    try (have n56 := lt_of_at N5.at_; replace N5 := N5.later b)
    clear b
    generalize V.heap.size = g6 at *
    generalize V.alloc (.cells #[.int .u8 0, .int .u8 0, .slice none 0 0] 41) = V at *
    try replace n56 := Ne.symm (Nat.ne_of_lt n56)
    refine hK.out _ _ L0 (fun _ => ?_)
    clear hK K
    try simp only [zA, zS, zZ, Act.put, zP, zQ, zR]
    refine wpAnyH_ready (rs := [2, 8]) (by kernel_rfl) (by simp) ?_
    refine AllReadyH.cons rfl (fun K hK => ?_) (AllReadyH.cons rfl (fun K hK => ?_) AllReadyH.nil)
    · skip
      refine Node.wp_fn 31 [.tmp 76] _ [.int .u8 s2] (by rfl) (by rfl) (enters Tryd.func31 (by kernel_rfl) rfl) (panel_c n2 s2 HN2.out X HX.out V) ?_
      rintro e V' ⟨b, Ap, cp, rfl, hs⟩
      refine ⟨_, rfl, ?_⟩
      replace Bb := below_step Bb b
      replace L0 := L0.later b
      replace hT0 := hT0.below b
      try replace N5 := N5.later b
      try replace N6 := below_at b N6 (lt_of_at N6)
      clear b
      generalize V' = V at *
      refine hK.out _ _ L0 (fun _ => ?_)
      clear hK K
      try simp only [zA, zS, zZ, Act.put, zP, zQ, zR]
      refine wpAnyH_ready (rs := [3, 8]) (by kernel_rfl) (by simp) ?_
      refine AllReadyH.cons rfl (fun K hK => ?_) (AllReadyH.cons rfl (fun K hK => ?_) AllReadyH.nil)
      · skip
        refine Node.wp_fn 11 [.tmp 75, .const (.int .u8 2), .tmp 77] _ [lkv (-1, q1, 0), .int .u8 2, .slice Ap X.length cp] (by rfl) (by rfl) (enters Tryd.func11 (by kernel_rfl) rfl) (Hear_v (-1, q1, 0) 2 (.slice Ap X.length cp) X V _ HR.out hT0 hs HL.out) ?_
        rintro e V' ⟨A3, c3, rfl, b, hp, hq⟩
        clear hq
        refine ⟨_, rfl, ?_⟩
        replace Bb := below_step Bb b
        replace L0 := L0.later b
        replace hT0 := hT0.below b
        try replace N5 := N5.later b
        try replace N6 := below_at b N6 (lt_of_at N6)
        clear b hs
        generalize V' = V at *
        refine hK.out _ _ L0 (fun _ => ?_)
        clear hK K
        try simp only [zA, zS, zZ, Act.put, zP, zQ, zR]
        refine Node.tk 4 ?_ rfl ?_ ?_
        rotate_left
        · intro w hSw; (try dsimp only at hSw); go_simp; try with_reducible rfl
        simp only [zA, zS, zZ, Act.put, zP, zQ, zR]
        refine Node.tk 5 ?_ rfl ?_ ?_
        rotate_left
        · intro w hSw; (try dsimp only at hSw); go_simp; try with_reducible rfl
        simp only [zA, zS, zZ, Act.put, zP, zQ, zR]
        refine Node.tk 6 ?_ rfl ?_ ?_
        rotate_left
        · intro w hSw; (try dsimp only at hSw); go_simp; try with_reducible rfl
        simp only [zA, zS, zZ, Act.put, zP, zQ, zR]
        refine Node.tk 7 ?_ rfl ?_ ?_
        rotate_left
        · intro w hSw; (try dsimp only at hSw); go_simp; try with_reducible rfl
        simp only [zA, zS, zZ, Act.put, zP, zQ, zR]
        refine Node.on 8 rfl (fun K hK => ?_)
        have N5 := LVar.new V 0 0 0
        have b := below_new V (.cells #[.int .i64 0, .int .i64 0, .int .i64 0] 31)
        refine Node.wp_new 31 (.agg #[.int .i64 0, .int .i64 0, .int .i64 0]) #[.int .i64 0, .int .i64 0, .int .i64 0] (by kernel_rfl) rfl (by rfl) ?_
        have n5 := Bb.size
        replace Bb := below_step Bb b
        replace L0 := L0.later b
        replace hT0 := hT0.below b
        try replace hs := hs.later b
        try replace hp := hp.later b
        try (have n56 := lt_of_at N6; replace N6 := below_at b N6 n56)
        clear b
        generalize V.heap.size = g5 at *
        generalize V.alloc (.cells #[.int .i64 0, .int .i64 0, .int .i64 0] 31) = V at *
        try replace n56 := Nat.ne_of_lt n56
        refine hK.out _ _ L0 (fun _ => ?_)
        clear hK K
        try simp only [zA, zS, zZ, Act.put, zP, zQ, zR]
        refine Node.on 10 rfl (fun K hK => ?_)
        refine wp_st_lk N5 rfl rfl rfl rfl ?_
        have hn5 := lt_of_at N5.at_
        replace L0 := L0.far3 (g' := g5) (by omega) s2 0 0
        replace N6 := frame_far3 N6 (g' := g5) n56 s2 0 0
        have N5' := N5.set3 s2 0 0
        replace Bb := ((Bb.setCell (p := ⟨g5, 0, none⟩) n5 (.int .i64 s2)).setCell (p := ⟨g5, 1, none⟩) n5 (.int .i64 0)).setCell (p := ⟨g5, 2, none⟩) n5 (.int .i64 0)
        replace hp : SliceAt (((V.setCell ⟨g5, 0, none⟩ (.int .i64 s2)).setCell ⟨g5, 1, none⟩ (.int .i64 0)).setCell ⟨g5, 2, none⟩ (.int .i64 0)) 1 (.slice A3 (fD n2).2.2.length c3) (fD n2).2.2.length (u8s (fD n2).2.2) := slice_zero hp rfl
        clear N5 hT0 hn5
        generalize ((V.setCell ⟨g5, 0, none⟩ (.int .i64 s2)).setCell ⟨g5, 1, none⟩ (.int .i64 0)).setCell ⟨g5, 2, none⟩ (.int .i64 0) = V at *
        refine hK.out _ _ L0 (fun _ => ?_)
        clear hK K
        try simp only [zA, zS, zZ, Act.put, zP, zQ, zR]
        refine Node.on 11 rfl (fun K hK => ?_)
        refine wp_st_fr N6 rfl rfl rfl rfl ?_
        have F := FV.mk3 (f := (fD n2)) N6 hp rfl
        have hn6 := lt_of_at N6
        replace L0 := L0.at_
        replace L0 : LVar (((V.setCell ⟨g6, 0, none⟩ (.int .u8 ((fD n2).1.toNat : Int))).setCell ⟨g6, 1, none⟩ (.int .u8 ((fD n2).2.1.toNat : Int))).setCell ⟨g6, 2, none⟩ (.slice A3 (fD n2).2.2.length c3)) g8 (-1) q1 0 := ⟨frame_far3' L0 (by omega) _ _ _⟩
        replace N5' : LVar (((V.setCell ⟨g6, 0, none⟩ (.int .u8 ((fD n2).1.toNat : Int))).setCell ⟨g6, 1, none⟩ (.int .u8 ((fD n2).2.1.toNat : Int))).setCell ⟨g6, 2, none⟩ (.slice A3 (fD n2).2.2.length c3)) g5 s2 0 0 := ⟨frame_far3' N5'.at_ (Ne.symm n56) _ _ _⟩
        replace Bb := ((Bb.setCell (p := ⟨g6, 0, none⟩) n6 (.int .u8 ((fD n2).1.toNat : Int))).setCell (p := ⟨g6, 1, none⟩) n6 (.int .u8 ((fD n2).2.1.toNat : Int))).setCell (p := ⟨g6, 2, none⟩) n6 (.slice A3 (fD n2).2.2.length c3)
        clear N6 hp
        generalize ((V.setCell ⟨g6, 0, none⟩ (.int .u8 ((fD n2).1.toNat : Int))).setCell ⟨g6, 1, none⟩ (.int .u8 ((fD n2).2.1.toNat : Int))).setCell ⟨g6, 2, none⟩ (.slice A3 (fD n2).2.2.length c3) = V at *
        refine hK.out _ _ L0 (fun _ => ?_)
        clear hK K
        try simp only [zA, zS, zZ, Act.put, zP, zQ, zR]
        refine Node.tk 12 ?_ rfl ?_ ?_
        rotate_left
        · intro w hSw; (try dsimp only at hSw); go_simp; try with_reducible rfl
        simp only [zA, zS, zZ, Act.put, zP, zQ, zR]
        refine wpAnyH_done (by kernel_rfl) ?_ _
        exact ⟨g5, g6, ⟨rfl, rfl, by simp⟩, N5', F, Bb⟩
      · skip
        have N5 := LVar.new V 0 0 0
        have b := below_new V (.cells #[.int .i64 0, .int .i64 0, .int .i64 0] 31)
        refine Node.wp_new 31 (.agg #[.int .i64 0, .int .i64 0, .int .i64 0]) #[.int .i64 0, .int .i64 0, .int .i64 0] (by kernel_rfl) rfl (by rfl) ?_
        have n5 := Bb.size
        replace Bb := below_step Bb b
        replace L0 := L0.later b
        replace hT0 := hT0.below b
        try replace hs := hs.later b
        try replace hp := hp.later b
        try (have n56 := lt_of_at N6; replace N6 := below_at b N6 n56)
        clear b
        generalize V.heap.size = g5 at *
        generalize V.alloc (.cells #[.int .i64 0, .int .i64 0, .int .i64 0] 31) = V at *
        try replace n56 := Nat.ne_of_lt n56
        refine hK.out _ _ L0 (fun _ => ?_)
        clear hK K
        try simp only [zA, zS, zZ, Act.put, zP, zQ, zR]
        refine Node.on 3 rfl (fun K hK => ?_)
        refine Node.wp_fn 11 [.tmp 75, .const (.int .u8 2), .tmp 77] _ [lkv (-1, q1, 0), .int .u8 2, .slice Ap X.length cp] (by rfl) (by rfl) (enters Tryd.func11 (by kernel_rfl) rfl) (Hear_v (-1, q1, 0) 2 (.slice Ap X.length cp) X V _ HR.out hT0 hs HL.out) ?_
        rintro e V' ⟨A3, c3, rfl, b, hp, hq⟩
        clear hq
        refine ⟨_, rfl, ?_⟩
        replace Bb := below_step Bb b
        replace L0 := L0.later b
        replace hT0 := hT0.below b
        try replace N5 := N5.later b
        try replace N6 := below_at b N6 (lt_of_at N6)
        clear b hs
        generalize V' = V at *
        refine hK.out _ _ L0 (fun _ => ?_)
        clear hK K
        try simp only [zA, zS, zZ, Act.put, zP, zQ, zR]
        refine Node.tk 4 ?_ rfl ?_ ?_
        rotate_left
        · intro w hSw; (try dsimp only at hSw); go_simp; try with_reducible rfl
        simp only [zA, zS, zZ, Act.put, zP, zQ, zR]
        refine Node.tk 5 ?_ rfl ?_ ?_
        rotate_left
        · intro w hSw; (try dsimp only at hSw); go_simp; try with_reducible rfl
        simp only [zA, zS, zZ, Act.put, zP, zQ, zR]
        refine Node.tk 6 ?_ rfl ?_ ?_
        rotate_left
        · intro w hSw; (try dsimp only at hSw); go_simp; try with_reducible rfl
        simp only [zA, zS, zZ, Act.put, zP, zQ, zR]
        refine Node.tk 7 ?_ rfl ?_ ?_
        rotate_left
        · intro w hSw; (try dsimp only at hSw); go_simp; try with_reducible rfl
        simp only [zA, zS, zZ, Act.put, zP, zQ, zR]
        refine Node.on 10 rfl (fun K hK => ?_)
        refine wp_st_lk N5 rfl rfl rfl rfl ?_
        have hn5 := lt_of_at N5.at_
        replace L0 := L0.far3 (g' := g5) (by omega) s2 0 0
        replace N6 := frame_far3 N6 (g' := g5) n56 s2 0 0
        have N5' := N5.set3 s2 0 0
        replace Bb := ((Bb.setCell (p := ⟨g5, 0, none⟩) n5 (.int .i64 s2)).setCell (p := ⟨g5, 1, none⟩) n5 (.int .i64 0)).setCell (p := ⟨g5, 2, none⟩) n5 (.int .i64 0)
        replace hp : SliceAt (((V.setCell ⟨g5, 0, none⟩ (.int .i64 s2)).setCell ⟨g5, 1, none⟩ (.int .i64 0)).setCell ⟨g5, 2, none⟩ (.int .i64 0)) 1 (.slice A3 (fD n2).2.2.length c3) (fD n2).2.2.length (u8s (fD n2).2.2) := slice_zero hp rfl
        clear N5 hT0 hn5
        generalize ((V.setCell ⟨g5, 0, none⟩ (.int .i64 s2)).setCell ⟨g5, 1, none⟩ (.int .i64 0)).setCell ⟨g5, 2, none⟩ (.int .i64 0) = V at *
        refine hK.out _ _ L0 (fun _ => ?_)
        clear hK K
        try simp only [zA, zS, zZ, Act.put, zP, zQ, zR]
        refine Node.on 11 rfl (fun K hK => ?_)
        refine wp_st_fr N6 rfl rfl rfl rfl ?_
        have F := FV.mk3 (f := (fD n2)) N6 hp rfl
        have hn6 := lt_of_at N6
        replace L0 := L0.at_
        replace L0 : LVar (((V.setCell ⟨g6, 0, none⟩ (.int .u8 ((fD n2).1.toNat : Int))).setCell ⟨g6, 1, none⟩ (.int .u8 ((fD n2).2.1.toNat : Int))).setCell ⟨g6, 2, none⟩ (.slice A3 (fD n2).2.2.length c3)) g8 (-1) q1 0 := ⟨frame_far3' L0 (by omega) _ _ _⟩
        replace N5' : LVar (((V.setCell ⟨g6, 0, none⟩ (.int .u8 ((fD n2).1.toNat : Int))).setCell ⟨g6, 1, none⟩ (.int .u8 ((fD n2).2.1.toNat : Int))).setCell ⟨g6, 2, none⟩ (.slice A3 (fD n2).2.2.length c3)) g5 s2 0 0 := ⟨frame_far3' N5'.at_ (Ne.symm n56) _ _ _⟩
        replace Bb := ((Bb.setCell (p := ⟨g6, 0, none⟩) n6 (.int .u8 ((fD n2).1.toNat : Int))).setCell (p := ⟨g6, 1, none⟩) n6 (.int .u8 ((fD n2).2.1.toNat : Int))).setCell (p := ⟨g6, 2, none⟩) n6 (.slice A3 (fD n2).2.2.length c3)
        clear N6 hp
        generalize ((V.setCell ⟨g6, 0, none⟩ (.int .u8 ((fD n2).1.toNat : Int))).setCell ⟨g6, 1, none⟩ (.int .u8 ((fD n2).2.1.toNat : Int))).setCell ⟨g6, 2, none⟩ (.slice A3 (fD n2).2.2.length c3) = V at *
        refine hK.out _ _ L0 (fun _ => ?_)
        clear hK K
        try simp only [zA, zS, zZ, Act.put, zP, zQ, zR]
        refine Node.tk 12 ?_ rfl ?_ ?_
        rotate_left
        · intro w hSw; (try dsimp only at hSw); go_simp; try with_reducible rfl
        simp only [zA, zS, zZ, Act.put, zP, zQ, zR]
        refine wpAnyH_done (by kernel_rfl) ?_ _
        exact ⟨g5, g6, ⟨rfl, rfl, by simp⟩, N5', F, Bb⟩
    · skip
      have N5 := LVar.new V 0 0 0
      have b := below_new V (.cells #[.int .i64 0, .int .i64 0, .int .i64 0] 31)
      refine Node.wp_new 31 (.agg #[.int .i64 0, .int .i64 0, .int .i64 0]) #[.int .i64 0, .int .i64 0, .int .i64 0] (by kernel_rfl) rfl (by rfl) ?_
      have n5 := Bb.size
      replace Bb := below_step Bb b
      replace L0 := L0.later b
      replace hT0 := hT0.below b
      try replace hs := hs.later b
      try replace hp := hp.later b
      try (have n56 := lt_of_at N6; replace N6 := below_at b N6 n56)
      clear b
      generalize V.heap.size = g5 at *
      generalize V.alloc (.cells #[.int .i64 0, .int .i64 0, .int .i64 0] 31) = V at *
      try replace n56 := Nat.ne_of_lt n56
      refine hK.out _ _ L0 (fun _ => ?_)
      clear hK K
      try simp only [zA, zS, zZ, Act.put, zP, zQ, zR]
      refine Node.on 2 rfl (fun K hK => ?_)
      refine Node.wp_fn 31 [.tmp 76] _ [.int .u8 s2] (by rfl) (by rfl) (enters Tryd.func31 (by kernel_rfl) rfl) (panel_c n2 s2 HN2.out X HX.out V) ?_
      rintro e V' ⟨b, Ap, cp, rfl, hs⟩
      refine ⟨_, rfl, ?_⟩
      replace Bb := below_step Bb b
      replace L0 := L0.later b
      replace hT0 := hT0.below b
      try replace N5 := N5.later b
      try replace N6 := below_at b N6 (lt_of_at N6)
      clear b
      generalize V' = V at *
      refine hK.out _ _ L0 (fun _ => ?_)
      clear hK K
      try simp only [zA, zS, zZ, Act.put, zP, zQ, zR]
      refine Node.on 3 rfl (fun K hK => ?_)
      refine Node.wp_fn 11 [.tmp 75, .const (.int .u8 2), .tmp 77] _ [lkv (-1, q1, 0), .int .u8 2, .slice Ap X.length cp] (by rfl) (by rfl) (enters Tryd.func11 (by kernel_rfl) rfl) (Hear_v (-1, q1, 0) 2 (.slice Ap X.length cp) X V _ HR.out hT0 hs HL.out) ?_
      rintro e V' ⟨A3, c3, rfl, b, hp, hq⟩
      clear hq
      refine ⟨_, rfl, ?_⟩
      replace Bb := below_step Bb b
      replace L0 := L0.later b
      replace hT0 := hT0.below b
      try replace N5 := N5.later b
      try replace N6 := below_at b N6 (lt_of_at N6)
      clear b hs
      generalize V' = V at *
      refine hK.out _ _ L0 (fun _ => ?_)
      clear hK K
      try simp only [zA, zS, zZ, Act.put, zP, zQ, zR]
      refine Node.tk 4 ?_ rfl ?_ ?_
      rotate_left
      · intro w hSw; (try dsimp only at hSw); go_simp; try with_reducible rfl
      simp only [zA, zS, zZ, Act.put, zP, zQ, zR]
      refine Node.tk 5 ?_ rfl ?_ ?_
      rotate_left
      · intro w hSw; (try dsimp only at hSw); go_simp; try with_reducible rfl
      simp only [zA, zS, zZ, Act.put, zP, zQ, zR]
      refine Node.tk 6 ?_ rfl ?_ ?_
      rotate_left
      · intro w hSw; (try dsimp only at hSw); go_simp; try with_reducible rfl
      simp only [zA, zS, zZ, Act.put, zP, zQ, zR]
      refine Node.tk 7 ?_ rfl ?_ ?_
      rotate_left
      · intro w hSw; (try dsimp only at hSw); go_simp; try with_reducible rfl
      simp only [zA, zS, zZ, Act.put, zP, zQ, zR]
      refine Node.on 10 rfl (fun K hK => ?_)
      refine wp_st_lk N5 rfl rfl rfl rfl ?_
      have hn5 := lt_of_at N5.at_
      replace L0 := L0.far3 (g' := g5) (by omega) s2 0 0
      replace N6 := frame_far3 N6 (g' := g5) n56 s2 0 0
      have N5' := N5.set3 s2 0 0
      replace Bb := ((Bb.setCell (p := ⟨g5, 0, none⟩) n5 (.int .i64 s2)).setCell (p := ⟨g5, 1, none⟩) n5 (.int .i64 0)).setCell (p := ⟨g5, 2, none⟩) n5 (.int .i64 0)
      replace hp : SliceAt (((V.setCell ⟨g5, 0, none⟩ (.int .i64 s2)).setCell ⟨g5, 1, none⟩ (.int .i64 0)).setCell ⟨g5, 2, none⟩ (.int .i64 0)) 1 (.slice A3 (fD n2).2.2.length c3) (fD n2).2.2.length (u8s (fD n2).2.2) := slice_zero hp rfl
      clear N5 hT0 hn5
      generalize ((V.setCell ⟨g5, 0, none⟩ (.int .i64 s2)).setCell ⟨g5, 1, none⟩ (.int .i64 0)).setCell ⟨g5, 2, none⟩ (.int .i64 0) = V at *
      refine hK.out _ _ L0 (fun _ => ?_)
      clear hK K
      try simp only [zA, zS, zZ, Act.put, zP, zQ, zR]
      refine Node.on 11 rfl (fun K hK => ?_)
      refine wp_st_fr N6 rfl rfl rfl rfl ?_
      have F := FV.mk3 (f := (fD n2)) N6 hp rfl
      have hn6 := lt_of_at N6
      replace L0 := L0.at_
      replace L0 : LVar (((V.setCell ⟨g6, 0, none⟩ (.int .u8 ((fD n2).1.toNat : Int))).setCell ⟨g6, 1, none⟩ (.int .u8 ((fD n2).2.1.toNat : Int))).setCell ⟨g6, 2, none⟩ (.slice A3 (fD n2).2.2.length c3)) g8 (-1) q1 0 := ⟨frame_far3' L0 (by omega) _ _ _⟩
      replace N5' : LVar (((V.setCell ⟨g6, 0, none⟩ (.int .u8 ((fD n2).1.toNat : Int))).setCell ⟨g6, 1, none⟩ (.int .u8 ((fD n2).2.1.toNat : Int))).setCell ⟨g6, 2, none⟩ (.slice A3 (fD n2).2.2.length c3)) g5 s2 0 0 := ⟨frame_far3' N5'.at_ (Ne.symm n56) _ _ _⟩
      replace Bb := ((Bb.setCell (p := ⟨g6, 0, none⟩) n6 (.int .u8 ((fD n2).1.toNat : Int))).setCell (p := ⟨g6, 1, none⟩) n6 (.int .u8 ((fD n2).2.1.toNat : Int))).setCell (p := ⟨g6, 2, none⟩) n6 (.slice A3 (fD n2).2.2.length c3)
      clear N6 hp
      generalize ((V.setCell ⟨g6, 0, none⟩ (.int .u8 ((fD n2).1.toNat : Int))).setCell ⟨g6, 1, none⟩ (.int .u8 ((fD n2).2.1.toNat : Int))).setCell ⟨g6, 2, none⟩ (.slice A3 (fD n2).2.2.length c3) = V at *
      refine hK.out _ _ L0 (fun _ => ?_)
      clear hK K
      try simp only [zA, zS, zZ, Act.put, zP, zQ, zR]
      refine Node.tk 12 ?_ rfl ?_ ?_
      rotate_left
      · intro w hSw; (try dsimp only at hSw); go_simp; try with_reducible rfl
      simp only [zA, zS, zZ, Act.put, zP, zQ, zR]
      refine wpAnyH_done (by kernel_rfl) ?_ _
      exact ⟨g5, g6, ⟨rfl, rfl, by simp⟩, N5', F, Bb⟩

/-- The link behind i - 1 ticks. -/
def kD (tk s1 i : Int) : Lst := (if i ≤ tk + 1 then s1 else -1, i - 1, 0)
theorem kD_next (tk s1 i : Int) (h1 : 1 ≤ i ∧ i ≤ tk + 1 ∧ tk ≤ 50) (hs : 0 ≤ s1 ∧ s1 < 256) : kD tk s1 (i + 1) = tickV tk (kD tk s1 i) := by
  have hr : rightL s1 (i - 1) 0 = true := by unfold rightL clamp; simp; omega
  have ho : onV (i - 1) 1 65535 = i := by unfold onV clamp; omega
  unfold kD tickV
  rw [if_pos (show i ≤ tk + 1 by omega)]
  simp only [hr, ho]
  by_cases h : tk < i
  · rw [if_neg (by omega), if_neg (by simp), if_pos h]; simp
  · rw [if_pos (by omega), if_neg (by simp), if_neg h]; simp

end Go.Proofs.YtlanlkpamnoekaaDoor
namespace Go.Proofs.YtlanlkpamnoekaaDoor
open Go Go.RowKit Rf Mem Bv Crc Str Lk
set_option maxRecDepth 100000
attribute [local go_sem ↓] run_max2 run_min2
set_option maxHeartbeats 4000000 in
theorem ld5 (a : Act) (tk s1 s2 : Int) (g7 g8 : Nat) (h1t : 1 ≤ tk ∧ tk ≤ 50) (hs1 : 0 ≤ s1 ∧ s1 < 256) (hS : Sl a 104 [(0, .int .i64 tk), (1, .int .u8 s1), (2, .int .u8 s2), (6, .bool false), (7, .pointer (some ⟨g7, 0, none⟩)), (8, .pointer (some ⟨g8, 0, none⟩)), (10, .int .i64 0)]) (w : World) (hT : Tops w) (hB : 0 < w.heap.size) (hY : LY w g7 y1 tk) (hL : LVar w g8 s1 0 0) (hg : g7 ≠ g8) (B0 : Nat) (hB0 : B0 ≤ g8) (hB1 : 0 < B0) : (rgD 5).wp Tryd.prog (nrm fun a' w' => Sl a' 104 [(0, .int .i64 tk), (1, .int .u8 s1), (2, .int .u8 s2), (6, .bool false), (7, .pointer (some ⟨g7, 0, none⟩)), (8, .pointer (some ⟨g8, 0, none⟩)), (10, .int .i64 0)] ∧ LY w' g7 y1 tk ∧ LVar w' g8 (-1) (tk + 1) 0 ∧ Below B0 w w') a w := by
  obtain ⟨j, rfl, hj⟩ := hS.lit104
  have h0 : j 0 = .int .i64 tk := hj (0, _) (by simp)
  have h1 : j 1 = .int .u8 s1 := hj (1, _) (by simp)
  have h2 : j 2 = .int .u8 s2 := hj (2, _) (by simp)
  have h6 : j 6 = .bool false := hj (6, _) (by simp)
  have h7 : j 7 = .pointer (some ⟨g7, 0, none⟩) := hj (7, _) (by simp)
  have h8 : j 8 = .pointer (some ⟨g8, 0, none⟩) := hj (8, _) (by simp)
  have h10 : j 10 = .int .i64 0 := hj (10, _) (by simp)
  clear hj hS
  unfold rgD bodyD
  simp only [Tryd.f6, Option.getD_some, nthSeq, lit104, List.cons_append, List.nil_append, h0, h1, h2, h6, h7, h8, h10]
  obtain ⟨q1, hq1⟩ : ∃ q1, wrap64 (tk + 1) = q1 := ⟨_, rfl⟩
  have hq2 : q1 = tk + 1 := by rw [← hq1]; unfold wrap64; omega
  have hq3 : 2 ≤ q1 ∧ q1 ≤ 51 := by omega
  have HQ := Lib.hid hq2
  have HT1 := Lib.hid h1t
  have HS1 := Lib.hid hs1
  clear h1t hs1 hB hq2
  go_wp2
  go_loopw [6, 11] (fun f i wr => ∃ (k : Int) (x : Lst), 1 ≤ k ∧ k ≤ q1 + 1 ∧ f = .bool false ∧ i = .int .i64 k ∧ Hid (x = kD tk s1 k) ∧ LY wr g7 y1 tk ∧ LVar wr g8 x.1 x.2.1 x.2.2 ∧ Below B0 w wr) (fun _ i _ => (q1 + 1 - intOf i).toNat)
  case atStart => exact ⟨1, (s1, 0, 0), by omega, by omega, rfl, rfl, Lib.hid (by unfold kD; rw [if_pos (by have := HT1.out; omega)]; rfl), hY, hL, Below.refl _ _⟩
  case round =>
    obtain ⟨k, x, hk1, hk2, rfl, rfl, hx, hYr, hLr, hBr⟩ := hrel
    by_cases hlt : k ≤ q1
    · have hTr := hT.belowB hBr hB1
      have hg8 := lt_of_at hLr.at_
      obtain ⟨x', hx'⟩ : ∃ x' : Lst, x' = tickV tk x := ⟨_, rfl⟩
      have HX' := Lib.hid hx'
      have hxk : x' = kD tk s1 (k + 1) := by rw [hx', hx.out]; exact (kD_next tk s1 k (by have := HT1.out; have := HQ.out; omega) HS1.out).symm
      have HXK := Lib.hid hxk
      obtain ⟨y0, y1', y2, y3, y4, y5, y6, y7, y8, y9, y10⟩ := hYr.cells
      have r0 := hLr.c0
      have r1 := hLr.c1
      have r2 := hLr.c2
      clear hx' hxk hT hY hL
      go_wp2_with fail
      clear y0 y1' y2 y3 y4 y5 y6 y7 y8 y9 y10 r0 r1 r2
      refine (Tick_c y1 tk x x' HX'.out wr hTr).mono ?_
      rintro e W ⟨rfl, b⟩
      have hYW := hYr.later b
      have hLW := hLr.later b
      have hBW := hBr.trans (b.mono (by have := hBr.size; omega))
      clear hYr hLr hBr b HX' hTr
      obtain ⟨xs, xq, xe⟩ := x'
      have r0 := hLW.c0
      have r1 := hLW.c1
      have r2 := hLW.c2
      have e0 := free_at hLW.at_ 0
      have e1 := free_at hLW.at_ 1
      have e2 := free_at hLW.at_ 2
      go_upto_region 11 with (fail)
      have V3 := hLW.set3 xs xq xe
      have Y3 : LY (((W.setCell ⟨g8, 0, none⟩ (.int .i64 xs)).setCell ⟨g8, 1, none⟩ (.int .i64 xq)).setCell ⟨g8, 2, none⟩ (.int .i64 xe)) g7 y1 tk := ⟨frame_far3 hYW.at_ (g' := g8) hg xs xq xe⟩
      have B3 := ((hBW.setCell (p := ⟨g8, 0, none⟩) hB0 (.int .i64 xs)).setCell (p := ⟨g8, 1, none⟩) hB0 (.int .i64 xq)).setCell (p := ⟨g8, 2, none⟩) hB0 (.int .i64 xe)
      clear r0 r1 r2 e0 e1 e2 hYW hLW hBW
      generalize ((W.setCell ⟨g8, 0, none⟩ (.int .i64 xs)).setCell ⟨g8, 1, none⟩ (.int .i64 xq)).setCell ⟨g8, 2, none⟩ (.int .i64 xe) = W3 at *
      by_cases hkq : k < q1
      · have hx3 : ((xs, xq, xe) : Lst) = (s1, k, 0) := by rw [HXK.out]; unfold kD; rw [if_pos (by have := HQ.out; omega)]; congr 2; omega
        simp only [Prod.mk.injEq] at hx3
        obtain ⟨rfl, rfl, rfl⟩ := hx3
        have d1 : decide (tk < xq) = false := decide_eq_false (by have := HQ.out; omega)
        have d2 : decide (xq ≤ tk) = true := decide_eq_true (by have := HQ.out; omega)
        have hws : IntKind.i64.wrap xs = xs := IntWalk.i64_in _ (by have := HS1.out; omega)
        have HD := Lib.hid d1.symm
        have x0 := V3.c0
        have x1 := V3.c1
        have x2 := V3.c2
        obtain ⟨y0, y1', y2, y3, y4, y5, y6, y7, y8, y9, y10⟩ := Y3.cells
        go_wp2_with fail
        clear y0 y1' y2 y3 y4 y5 y6 y7 y8 y9 y10 x0 x1 x2
        refine (Dead_c y1 tk xs xq 0 false HD.out W3).mono ?_
        rintro e W4 ⟨rfl, b4⟩
        have Y4 := Y3.later b4
        have V4 := V3.later b4
        have B4 := B3.trans (b4.mono (by have := B3.size; have := lt_of_at V3.at_; omega))
        clear Y3 V3 B3 b4
        have x0 := V4.c0
        have HXR := Lib.hid (show ((xs, xq, 0) : Lst) = kD tk xs (xq + 1) from HXK.out)
        go_wp2
        go_roundw
        case rel => exact ⟨xq + 1, (xs, xq, 0), by omega, by omega, rfl, by go_num, HXR, Y4, V4, B4⟩
        case measure => simp [intOf]; omega
      · have hx3 : ((xs, xq, xe) : Lst) = (-1, k, 0) := by rw [HXK.out]; unfold kD; rw [if_neg (by have := HQ.out; omega)]; congr 2; omega
        simp only [Prod.mk.injEq] at hx3
        obtain ⟨rfl, rfl, rfl⟩ := hx3
        have d1 : decide (tk < xq) = true := decide_eq_true (by have := HQ.out; omega)
        have d2 : decide (xq ≤ tk) = false := decide_eq_false (by have := HQ.out; omega)
        have HD := Lib.hid d1.symm
        have x0 := V3.c0
        have x1 := V3.c1
        have x2 := V3.c2
        obtain ⟨y0, y1', y2, y3, y4, y5, y6, y7, y8, y9, y10⟩ := Y3.cells
        go_wp2_with fail
        clear y0 y1' y2 y3 y4 y5 y6 y7 y8 y9 y10 x0 x1 x2
        refine (Dead_c y1 tk (-1) xq 0 true HD.out W3).mono ?_
        rintro e W4 ⟨rfl, b4⟩
        have Y4 := Y3.later b4
        have V4 := V3.later b4
        have B4 := B3.trans (b4.mono (by have := B3.size; have := lt_of_at V3.at_; omega))
        clear Y3 V3 B3 b4
        have x0 := V4.c0
        have HXR := Lib.hid (show ((-1, xq, 0) : Lst) = kD tk s1 (xq + 1) from HXK.out)
        go_wp2
        go_roundw
        case rel => exact ⟨xq + 1, (-1, xq, 0), by omega, by omega, rfl, by go_num, HXR, Y4, V4, B4⟩
        case measure => simp [intOf]; omega
    · obtain rfl : k = q1 + 1 := by omega
      have hx2 : x = (-1, tk + 1, 0) := by rw [hx.out]; unfold kD; rw [if_neg (by have := HQ.out; omega)]; congr 2; have := HQ.out; omega
      have hBr' := Lib.hid hBr
      subst hx2
      have hlt' : ¬ (q1 + 1 ≤ q1) := by omega
      clear hlt
      go_wp2
      exact ⟨⟨rfl, rfl, by simp⟩, hYr, hLr, hBr'.out⟩
end Go.Proofs.YtlanlkpamnoekaaDoor
namespace Go.Proofs.YtlanlkpamnoekaaDoor
open Go Go.RowKit Rf Mem Bv Crc Str Lk
set_option maxRecDepth 100000
attribute [local go_sem ↓] run_max2 run_min2
theorem ld7a (a : Act) (tk s1 s2 : Int) (g7 g8 g12 g13 : Nat) (n2 : BitVec 8) (hn2 : s2 = n2.toNat) (h1t : 1 ≤ tk ∧ tk ≤ 50) (hS : Sl a 104 [(0, .int .i64 tk), (1, .int .u8 s1), (2, .int .u8 s2), (6, .bool false), (7, .pointer (some ⟨g7, 0, none⟩)), (8, .pointer (some ⟨g8, 0, none⟩)), (10, .int .i64 0), (12, .pointer (some ⟨g12, 0, none⟩)), (13, .pointer (some ⟨g13, 0, none⟩)), (14, .int .i64 0)]) (w : World) (hY : LY w g7 y1 tk) (hL : LVar w g8 (-1) (tk + 1) 0) (hO : LVar w g12 s2 0 0) (hF : FV w g13 (fD n2)) : wpOps Tryd.prog opsD14 (nrm fun a' w' => Sl a' 104 [(101, .bool true)] ∧ Below w.heap.size w w') [0, 1, 2, 3, 4, 5, 6, 7, 8, 9, 10, 11, 12, 13, 14, 15, 16, 17, 18, 19] a w := by
  have h4 := fun Q => wpOps_some (P := Tryd.prog) (Q := Q) ((opsD14.toList.drop 0).take 20) 0 (opsD14_from 0 20)
  have h5 : ((opsD14.toList.drop 0).take 20).length = 20 := by kernel_rfl
  rw [h5] at h4
  show wpOps _ _ _ (List.range' 0 20) _ _
  rw [h4]
  clear h4 h5
  have f1 : w.cell? ⟨g13, 1, none⟩ = some (.int .u8 s2) := by rw [hF.c1, hn2]; rfl
  have d2 : false = decide (tk < 0) := (decide_eq_false (by omega)).symm
  have D2 := Lib.hid d2
  clear hn2 h1t d2 hF
  obtain ⟨j, rfl, hj⟩ := hS.lit104
  have h0 : j 0 = .int .i64 tk := hj (0, _) (by simp)
  have h1 : j 1 = .int .u8 s1 := hj (1, _) (by simp)
  have h2 : j 2 = .int .u8 s2 := hj (2, _) (by simp)
  have h6 : j 6 = .bool false := hj (6, _) (by simp)
  have h7 : j 7 = .pointer (some ⟨g7, 0, none⟩) := hj (7, _) (by simp)
  have h8 : j 8 = .pointer (some ⟨g8, 0, none⟩) := hj (8, _) (by simp)
  have h10 : j 10 = .int .i64 0 := hj (10, _) (by simp)
  have h12 : j 12 = .pointer (some ⟨g12, 0, none⟩) := hj (12, _) (by simp)
  have h13 : j 13 = .pointer (some ⟨g13, 0, none⟩) := hj (13, _) (by simp)
  have h14 : j 14 = .int .i64 0 := hj (14, _) (by simp)
  clear hj hS
  unfold opsD14 rgD bodyD
  simp only [Tryd.f6, Option.getD_some, nthSeq, lit104, List.cons_append, List.nil_append, h0, h1, h2, h6, h7, h8, h10, h12, h13, h14]
  simp only [List.drop_zero, List.take_succ_cons, List.take_zero]
  have x0 := hL.c0
  have o0 := hO.c0
  have o1 := hO.c1
  have o2 := hO.c2
  obtain ⟨y0, y1', y2, y3, y4, y5, y6, y7, y8, y9, y10⟩ := hY.cells
  go_wp2_with fail
  clear y0 y1' y2 y3 y4 y5 y6 y7 y8 y9 y10 x0 o0 o1 o2 f1
  refine (Dead_c y1 tk s2 0 0 false D2.out w).mono ?_
  rintro e W ⟨rfl, b⟩
  go_wp2
  exact ⟨⟨rfl, rfl, by simp⟩, b⟩
theorem ld7b (a : Act) (hS : Sl a 104 [(101, .bool true), (102, .bool true)]) (w : World) : wpOps Tryd.prog opsD14 (nrm fun a' w' => a'.defers = [] ∧ a'.tmps[6]? = some (.bool true) ∧ w' = w) [21, 22] a w := by
  have h4 := fun Q => wpOps_some (P := Tryd.prog) (Q := Q) ((opsD14.toList.drop 21).take 2) 21 (opsD14_from 21 2)
  have h5 : ((opsD14.toList.drop 21).take 2).length = 2 := by kernel_rfl
  rw [h5] at h4
  show wpOps _ _ _ (List.range' 21 2) _ _
  rw [h4]
  clear h4 h5
  obtain ⟨j, rfl, hj⟩ := hS.lit104
  have h101 : j 101 = .bool true := hj (101, _) (by simp)
  have h102 : j 102 = .bool true := hj (102, _) (by simp)
  clear hj hS
  unfold opsD14 rgD bodyD
  simp only [Tryd.f6, Option.getD_some, nthSeq, lit104, List.cons_append, List.nil_append, h101, h102]
  simp only [List.drop_succ_cons, List.drop_zero, List.take_succ_cons, List.take_zero]
  go_wp2
  exact ⟨rfl, rfl, rfl⟩

namespace Lk
open Go.Conc
theorem enterD (tk s1 s2 : Int) : Frame.enter Tryd.prog 6 #[.int .i64 tk, .int .u8 s1, .int .u8 s2] .normal = (base 6).at ⟨#[.int .i64 tk, .int .u8 s1, .int .u8 s2] ++ Array.replicate 101 undef, []⟩ [.code bodyD] := by
  rw [enter_at (c := bodyD) _ Tryd.func6 rfl, Tryd.ntmps6]
  rfl
/-- LinkDead comes to wakes, alone. -/
theorem dead_wins (tk s1 s2 : Int) (n1 n2 : BitVec 8) (hn1 : s1 = n1.toNat) (hn2 : s2 = n2.toNat) (G : World) (hT : Tops G) : Wins Tryd.prog (AtWakes 6 6 G) (Frame.enter Tryd.prog 6 #[.int .i64 tk, .int .u8 s1, .int .u8 s2] .normal) [] G := by
  rw [enterD, bodyD_eq]
  refine Wins.seq (Wins.wp (ld0 _ tk s1 s2 ⟨rfl, by simp, by simp⟩ G) fun a0 W0 ⟨t0, e0⟩ => ?_)
  subst e0
  refine Wins.seq ?_
  rw [rgD1_eq]
  obtain ⟨b, hb⟩ : ∃ b, b = (decide (tk < 1) || decide (50 < tk)) := ⟨_, rfl⟩
  refine Wins.seq (Wins.wp (ld1 a0 tk s1 s2 b hb t0 W0) fun a1 W1 ⟨t1, e1⟩ => ?_)
  subst e1
  have e20 : a1.tmps[20]? = some (.bool b) := t1.get (by simp)
  refine Wins.cond b (by simp [Act.eval, e20]) ?_
  cases b with
  | true =>
    refine Wins.seq (Wins.region ?_)
    rw [sizeD2]
    obtain ⟨o, ho, hg, hop⟩ : ∃ o, opsD2[0]? = some o ∧ o.guard = none ∧ o.op = .call { callee := .value (.func 10), args := #[], argTypes := #[] } := ⟨_, rfl, rfl, rfl⟩
    refine wins_wakes ho (wanted_none hg) hop (AtWakes.mk ?_ hT (Below.refl _ _))
    obtain ⟨o2, ho2, hop2, hd2, hg2⟩ : ∃ o, opsD2[1]? = some o ∧ o.op = .assign (.tmp 21) ∧ o.dst = some 6 ∧ o.guard = none := ⟨_, rfl, rfl, rfl, rfl⟩
    exact cont_two rfl ho2 hop2 hd2 hg2 t1.defers (by rw [t1.size]; omega) (by rw [t1.size]; omega)
  | false =>
    have hr : 1 ≤ tk ∧ tk ≤ 50 := by
      have := hb.symm
      simp at this
      omega
    have hs1 : 0 ≤ s1 ∧ s1 < 256 := by have := n1.isLt; omega
    refine Wins.skip ?_
    refine Wins.seq (Wins.wp (ld2 a1 tk s1 s2 (t1.sub (by simp)) W1) fun a2 W2 ⟨g7, t2, y2, b2⟩ => ?_)
    have hT2 := hT.below b2
    refine Wins.seq (Wins.wp (ld3 a2 tk s1 s2 g7 n1 hn1 t2 W2 hT2) fun a3 W3 ⟨g8, t3, l3, hg8, b3⟩ => ?_)
    have B3 := below_step b2 b3
    have hT3 := hT.below B3
    have y3 := y2.later b3
    refine Wins.seq (Wins.wp (ld4 a3 tk s1 s2 g7 g8 hr t3 W3 y3 l3) fun a4 W4 ⟨t4, b4⟩ => ?_)
    have B4 := below_step B3 b4
    have hT4 := hT.below B4
    have hne : g7 ≠ g8 := fun e => by
      have h1 := y3.at_
      rw [e, l3.at_] at h1
      simp at h1
    refine Wins.seq (Wins.wp (ld5 a4 tk s1 s2 g7 g8 hr hs1 t4 W4 hT4 hT4.sz (y3.later b4) (l3.later b4) hne W1.heap.size (Nat.le_trans b2.size hg8) hT.sz) fun a5 W5 ⟨t5, y5, l5, b5⟩ => ?_)
    have B5 := B4.trans b5
    have hT5 := hT.below B5
    refine Wins.seq (Wins.wp (ld6 a5 tk s1 s2 g7 g8 n2 hn2 hr t5 W5 hT5 l5) fun a6 W6 ⟨g12, g13, t6, l6, f6, b6⟩ => ?_)
    have B6 := B5.trans (b6.mono B5.size)
    have hT6 := hT.below B6
    refine Wins.seq ?_
    rw [rgD7_eq]
    refine Wins.region (Wins.ops _ [20, 21, 22] sizeD14 (ld7a a6 tk s1 s2 g7 g8 g12 g13 n2 hn2 hr t6 W6 (y5.later b6) (l5.later b6) l6 f6) fun a7 W7 ⟨t7, b7⟩ => ?_)
    have B7 := B6.trans (b7.mono B6.size)
    have hT7 := hT.below B7
    obtain ⟨o, ho, hg, hop⟩ : ∃ o, opsD14[20]? = some o ∧ o.guard = some (19, true) ∧ o.op = .call { callee := .value (.func 10), args := #[], argTypes := #[] } := ⟨_, rfl, rfl, rfl⟩
    refine wins_wakes ho (wanted_some (d := 101) hg rfl (t7.get (by simp))) hop (AtWakes.mk ?_ hT7 B7)
    refine cont_of (d := 102) rfl fun w => ld7b _ ((t7.put 102 (.bool true) (by omega) (by simp)).sub (by simp)) w

/-- ████ LinkDead in company. ████ -/
theorem dead_runs (tk s1 s2 : Int) (n1 n2 : BitVec 8) (hn1 : s1 = n1.toNat) (hn2 : s2 = n2.toNat) (A : World) (hT : Tops A) (m : Machine) (t : Trace) (h : St (QL Tryd.prog) (Frame.enter Tryd.prog 6 #[.int .i64 tk, .int .u8 s1, .int .u8 s2] .normal) [] A m t) :
    Run Tryd.prog m t (To (QL Tryd.prog) fun f' cs' A' => cs' = [] ∧ DoneF 6 6 f' ∧ Below A.heap.size A A') := by
  refine wakes_run (NF.enter (fit (fun _ => False)).nice (by decide) _) (fun τ d => ?_) h
  have hTG := (Sees.down A).tops hT
  refine Wins.mono (dead_wins tk s1 s2 n1 n2 hn1 hn2 (re (scrub (Zset (fun _ => False) A) A) τ d) ⟨hTG.c0, hTG.c1, hTG.sz⟩) fun _ _ _ h => h.blind
end Lk
end Go.Proofs.YtlanlkpamnoekaaDoor
namespace Go.Proofs.YtlanlkpamnoekaaDoor
open Go.ChangeShapes Go.WideShapes Go.ChangeAt Go.RowKit
namespace Fr
section
variable {H : Type} {enc : TypeId × Value → H} {P : Program}

theorem trodAll_below (hl : laidOutB P = true) {W W' : World} (hb : Below W.heap.size W W') : ∀ (ts : List TypeId) (vs : List Value) (ds : List (DataW H)) (ps : List MemPlace),
    (ts.all fun t => P.readableRec t && decide (t < P.types.size)) = true →
    DataW.TrodAll enc P W 0 (fun _ => true) true ts vs ds ps → (∀ x ∈ ps, x.block < W.heap.size) → DataW.TrodAll enc P W' 0 (fun b => decide (b < W.heap.size)) true ts vs ds ps
  | [], [], [], _, _, h, _ => h
  | t :: ts, v :: vs, d :: ds, ps, ht, h, hlt => by
    obtain ⟨p, q, h1, h2, rfl⟩ := h
    simp only [List.all_cons, Bool.and_eq_true, decide_eq_true_eq] at ht
    exact ⟨p, q, Below.trod hl ht.1.1 ht.1.2 h1 hb (fun x hx => hlt x (List.mem_append_left _ hx)), trodAll_below hl hb ts vs ds q ht.2 h2 (fun x hx => hlt x (List.mem_append_right _ hx)), rfl⟩
  | [], [], _ :: _, _, _, h, _ => h.elim
  | [], _ :: _, _, _, _, h, _ => h.elim
  | _ :: _, [], _, _, _, h, _ => h.elim
  | _ :: _, _ :: _, [], _, _, h, _ => h.elim

/-- THE ROW's post, for a law: it returned true; below the heap's old size nothing has turned. -/
theorem law_post {f : Func} {s : ChangeSpec} {W W' : World} {args : Array Value} {ds : List (DataW H)} {before : List MemPlace} {tb : TypeId}
    (hl : laidOutB P = true) (hr : (f.params.toList.all fun t => P.readableRec t && decide (t < P.types.size)) = true) (hres : f.resultTypes = #[tb]) (htb : P.underlying tb = some .bool) (hvars : s.vars = [])
    (hs : s.fn H ds = { results := [.lit (.bool true)], args := ds })
    (hW : DataW.Whole enc P f.params.toList s.vars false W args.toList ds [] before) (hb : Below W.heap.size W W') :
    s.post enc P f false true false false W args (.bool true) W' := by
  have hW' := hW
  have hlt : ∀ x ∈ before, x.block < W.heap.size := fun p hp => hW.lt p hp
  obtain ⟨p, q, hA, hV, rfl, hfz, hnd⟩ := hW
  rw [hvars] at hV
  have hV' : q = [] := hV
  subst hV'
  have hlt' : ∀ x ∈ p, x.block < W.heap.size := fun x hx => hlt x (by simp [hx])
  refine ⟨ds, [], p ++ [], [], p, [], hW', ?_, ?_, ?_, ?_, fun h => by cases h⟩
  · rw [List.append_nil, hs, hres]
    exact trodAll_mk1 (shut_bool htb _)
  · rw [List.append_nil, hs]
    exact trodAll_below hl hb _ _ _ _ hr hA hlt'
  · rw [List.append_nil, hs, hvars]; rfl
  · exact hb.frame _

/-- THE LIFT: a law whose walk returns true and turns nothing. -/
theorem lift {C : Checked} {os : Os} {f : FuncId} {fn : Func} {s : OpenSpec} {F : Stop.Interp} {laid : List (String × DataW Unit)} {tb : TypeId}
    (own : ownKnob C.prog.godebug = none) (started : os.Started) (noInit : C.prog.inits.idxOf? f = none) (hfn : C.prog.funcs[f]? = some fn)
    (witness : ∃ (w : World) (tape : Tape) (i : Input), w.os = os ∧ (w.forCall tape i).Shaped C.prog ∧ i.vars = [] ∧ Input.okWide C.prog (w.forCall tape i) .any w.heap.size f i ∧
      s.preRow enc C.prog fn [] false laid (w.forCall tape i).memory i.args ∧ (({} : Assume)).holds C.prog (lone (Frame.enter C.prog f i.args .normal) [] (w.forCall tape i)))
    (hl : laidOutB C.prog = true) (hr : (fn.params.toList.all fun t => C.prog.readableRec t && decide (t < C.prog.types.size)) = true) (hres : fn.resultTypes = #[tb]) (htb : C.prog.underlying tb = some .bool) (hvars : s.vars = [])
    (hsv : (s.at F).vars = [])
    (hs : ∀ ds : List (DataW H), ds.length = fn.params.size → (s.at F).fn H ds = { results := [.lit (.bool true)], args := ds })
    (walk : ∀ (W : World) (base : Nat) (args : Array Value) (ds : List (DataW H)) (before : List MemPlace),
      (∀ (j : Nat) t v, fn.params[j]? = some t → args[j]? = some v → Value.okWide C.prog W .any base t v) →
      DataW.TrodAll enc C.prog W 0 (fun _ => true) true fn.params.toList args.toList ds before →
      (∀ x ∈ before, x.block < W.heap.size) →
      (∀ k, s.cond = some k → k H ds = true) →
      (DataW.weightsEach C.prog fn.params.toList ds).all (· ≤ reachBytes) = true →
      laidMetH C.prog laid W →
      Calls C.prog f args W fun e W' => e = .returned (.bool true) ∧ Below W.heap.size W W') :
    ReturnsInHanded {} C os f .any (s.preRow enc C.prog fn [] false laid) ((s.at F).post enc C.prog fn false true false false) := by
  refine returnsInHanded_of_row own started noInit hfn witness ?_
  intro W base args ds gs before hval hW _ hcond hweights hL _ _
  have hW' := hW
  have hlt : ∀ x ∈ before, x.block < W.heap.size := fun p hp => hW.lt p hp
  obtain ⟨p, q, hA, hV, rfl, hfz, hnd⟩ := hW
  rw [hvars] at hV
  obtain ⟨rfl, rfl⟩ := trodVars_none hV
  have hwe : (DataW.weightsEach C.prog fn.params.toList ds).all (· ≤ reachBytes) = true := by
    have : s.bare.plain.varTypes C.prog = [] := by
      have hv : s.bare.plain.vars = [] := hvars
      unfold DataSpec.varTypes
      rw [hv]; rfl
    rw [this, List.append_nil, List.append_nil] at hweights
    exact hweights
  have hlen : ds.length = fn.params.size := by
    have : ∀ (ts : List TypeId) (vs : List Value) (ds : List (DataW H)) (ps : List MemPlace), DataW.TrodAll enc C.prog W 0 (fun _ => true) true ts vs ds ps → ds.length = ts.length := by
      intro ts
      induction ts with
      | nil => intro vs ds ps h; cases vs <;> cases ds <;> first | rfl | exact h.elim
      | cons t ts ih =>
        intro vs ds ps h
        cases vs <;> cases ds <;> first | exact h.elim | (obtain ⟨_, _, _, h2, _⟩ := h; simp [ih _ _ _ h2])
    simpa using this _ _ _ _ hA
  refine (walk W base args ds p hval hA (fun x hx => hlt x (by simp [hx])) (fun k hk => by simpa using hcond k hk) hwe hL).mono fun e W' ⟨he, hb⟩ => ?_
  exact ⟨_, he, law_post hl hr hres htb hsv (hs ds hlen) (by rw [hsv, ← hvars]; exact hW') hb⟩
end
end Fr
end Go.Proofs.YtlanlkpamnoekaaDoor
namespace Go.Proofs.YtlanlkpamnoekaaDoor
open Go.ChangeShapes Go.WideShapes Go.ChangeAt Go.RowKit Go.Conc
namespace Fr
section
variable {H : Type} {enc : TypeId × Value → H} {P : Program}
theorem liftL {C : Checked} {os : Os} {f : FuncId} {fn : Func} {s : ChangeSpec} {laid : List (String × DataW Unit)} {tb : TypeId}
    (own : ownKnob C.prog.godebug = none) (started : os.Started) (hfn : C.prog.funcs[f]? = some fn)
    (witness : ∃ (w : World) (tape : Tape) (i : Input), w.os = os ∧ (w.forCall tape i).Shaped C.prog ∧ i.vars = [] ∧ Input.okWide C.prog (w.forCall tape i) .any w.heap.size f i ∧
      (OpenSpec.ofChange s).preRow enc C.prog fn [] false laid (w.forCall tape i).memory i.args ∧ (({} : Assume)).holds C.prog (lone (Frame.enter C.prog f i.args .normal) [] (w.forCall tape i)))
    (hl : laidOutB C.prog = true) (hr : (fn.params.toList.all fun t => C.prog.readableRec t && decide (t < C.prog.types.size)) = true) (hres : fn.resultTypes = #[tb]) (htb : C.prog.underlying tb = some .bool) (hvars : s.vars = [])
    (hs : ∀ ds : List (DataW H), ds.length = fn.params.size → s.fn H ds = { results := [.lit (.bool true)], args := ds })
    (walk : ∀ (W : World) (base : Nat) (args : Array Value) (ds : List (DataW H)) (before : List MemPlace),
      (∀ (j : Nat) t v, fn.params[j]? = some t → args[j]? = some v → Value.okWide C.prog W .any base t v) →
      DataW.TrodAll enc C.prog W 0 (fun _ => true) true fn.params.toList args.toList ds before →
      (∀ x ∈ before, x.block < W.heap.size) →
      (DataW.weightsEach C.prog fn.params.toList ds).all (· ≤ reachBytes) = true →
      laidMetH C.prog laid W →
      ∃ M last o w' t', runNT C.prog (M + 1) (crowd #[Conc.G (Frame.enter C.prog f args .normal) []] W none) #[] = (.ended o w', t') ∧ runN C.prog M (crowd #[Conc.G (Frame.enter C.prog f args .normal) []] W none) = .next last ∧ step C.prog last = .ended o w' ∧
        Conc.Good C.prog (fun v W' => v = .bool true ∧ Below W.heap.size W W') last o w' t') :
    ReturnsInLeavingWide {} C os f .any ((OpenSpec.ofChange s).preRow enc C.prog fn [] false laid) (s.post enc C.prog fn false true false false) := by
  refine returnsInLeavingWide_of_good own started witness ?_
  intro w tape i _ hsh _ hok hpre hholds
  obtain ⟨_, _, _, fn', hfn', _, _, _, _, hval⟩ := hok
  have e : fn' = fn := Option.some.inj (hfn'.symm.trans hfn)
  subst e
  obtain ⟨⟨hp, hL⟩, hz⟩ := hpre
  obtain ⟨ds, gs, before, hw, hc, hk⟩ := OpenSpec.pre_parts hp
  have hW := DataW.Whole.of_heap (w' := w.forCall tape i) (by rfl) hw
  have hweights := hz.weights hw
  have hL' := hL.of_heap (w' := w.forCall tape i) (by rfl)
  have hW' := hW
  have hlt : ∀ x ∈ before, x.block < (w.forCall tape i).heap.size := fun p hp => hW.lt p hp
  obtain ⟨p, q, hA, hV, rfl, hfz, hnd⟩ := hW
  have hv0 : (OpenSpec.ofChange s).vars = [] := hvars
  rw [hv0] at hV
  obtain ⟨rfl, rfl⟩ := trodVars_none hV
  have hwe : (DataW.weightsEach C.prog fn'.params.toList ds).all (· ≤ reachBytes) = true := by
    have : (OpenSpec.ofChange s).bare.plain.varTypes C.prog = [] := by
      have hv : (OpenSpec.ofChange s).bare.plain.vars = [] := hvars
      unfold DataSpec.varTypes
      rw [hv]; rfl
    rw [this, List.append_nil, List.append_nil] at hweights
    exact hweights
  have hlen : ds.length = fn'.params.size := by
    have : ∀ (ts : List TypeId) (vs : List Value) (ds : List (DataW H)) (ps : List MemPlace), DataW.TrodAll enc C.prog (w.forCall tape i) 0 (fun _ => true) true ts vs ds ps → ds.length = ts.length := by
      intro ts
      induction ts with
      | nil => intro vs ds ps h; cases vs <;> cases ds <;> first | rfl | exact h.elim
      | cons t ts ih =>
        intro vs ds ps h
        cases vs <;> cases ds <;> first | exact h.elim | (obtain ⟨_, _, _, h2, _⟩ := h; simp [ih _ _ _ h2])
    simpa using this _ _ _ _ hA
  obtain ⟨M, last, o, w', t', h1, h2, h3, h4⟩ := walk (w.forCall tape i) w.heap.size i.args ds p hval hA (fun x hx => hlt x (by simp [hx])) hwe hL'
  refine ⟨M, last, o, w', t', h1, h2, h3, h4.mono fun v hp => ?_⟩
  obtain ⟨rfl, hb⟩ := hp
  exact ChangeSpec.post_blind (law_post hl hr hres htb hvars (hs ds hlen) (by rw [hvars]; rw [hv0] at hW'; exact hW') hb)
end
end Fr
end Go.Proofs.YtlanlkpamnoekaaDoor
namespace Go.Proofs.YtlanlkpamnoekaaDoor
open Go.RowKit Rf Mem Go.ChangeAt
theorem tops_of_laid {W : World} (h : laidMetH Tryd.prog [("lockbar/tick.tops", Rows.laid_lockbar_tick_tops)] W) : Tops W := by
  have hg : Tryd.prog.globalNamed "lockbar/tick.tops" = some 0 := by kernel_rfl
  have t : Lib.TabIs Tryd.prog W "lockbar/tick.tops" .i64 [1073741824, 65535] := Lib.tabIs_of_head (rest := []) hg (t := 116) (by kernel_rfl) Tryd.underlying116 Tryd.underlying3 (by kernel_rfl) (by kernel_rfl) h
  have c0 := t.cell hg 0 (by decide)
  refine ⟨c0, t.cell hg 1 (by decide), ?_⟩
  unfold World.cell? at c0
  cases ho : W.heap[0]? with
  | none => simp [ho] at c0
  | some o => exact (Array.getElem?_eq_some_iff.1 ho).1
theorem byte_of {n : Int} (h : (Lit.int .u8 n).wf = true) : ∃ b : BitVec 8, n = (b.toNat : Int) := by
  have := bounds_u8 h
  exact ⟨BitVec.ofNat 8 n.toNat, by rw [BitVec.toNat_ofNat, Nat.mod_eq_of_lt (by omega)]; omega⟩
end Go.Proofs.YtlanlkpamnoekaaDoor
namespace Go.Proofs.YtlanlkpamnoekaaDoor
open Go
theorem tied_goes (Lk : Looks) {p : Pinned} {s : OpenSpec} {c : OpenClaim} (al : List (List PathCond)) (kinds : List LaidKind) (tests : Bool) (har : Bool × String) (lk : Bool)
    (hc : c.holds p s) (hal : ∀ D ∈ al, (c.withDomain D).holds p s) (hw : c.wfByText s = true) (hwal : ∀ D ∈ al, (c.withDomain D).wfByText s = true)
    (htie : c.laidByTextAt Lk p kinds tests)
    (hst : c.start = .entering) (hnb : c.noBlocks = false ∧ c.again = false) (hm : p.checked.prog.mainIs = some (har.1, har.2.toList)) (hn : (!har.1 && har.2.isEmpty && !lk) = false)
    (hl : ∀ f fn, p.checked.prog.funcNamed c.func = some f → p.checked.prog.funcs[f]? = some fn → lk = p.checked.prog.looks [] ∧ ∀ (j : Nat) t, fn.params[j]? = some t → p.checked.prog.wantsStandIn t = false)
    (hg : true = c.goesBy p.checked.prog) :
    Claim7.holds p (.plain s) { stood := { row := c, standIns := [], harness := har, looks := lk }, kinds := [], alts := al, goes := true, laidByText := true, laidKinds := kinds, laidTests := tests, laidLooks := Lk } := by
  have h6 : ∀ r : OpenClaim, Claim7.isSixth { stood := { row := r, standIns := [], harness := har, looks := lk }, kinds := [] } = false := fun r => by simpa [Claim7.isSixth] using hn
  refine ⟨?_, fun D hD => ?_, htie, (fun h => by cases h), hg⟩
  · have h := Claim7.tied_new_at Lk kinds tests (Claim7.new_of_sixth hc har lk hst hnb hm (h6 c) hl) hw
    exact h
  · have h := Claim7.tied_new_at Lk kinds tests (Claim7.new_of_sixth (hal D hD) har lk hst hnb hm (h6 _) hl) (hwal D hD)
    exact h
end Go.Proofs.YtlanlkpamnoekaaDoor
