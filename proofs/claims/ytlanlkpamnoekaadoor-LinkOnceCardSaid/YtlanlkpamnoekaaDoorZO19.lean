/- Link, in company. Nothing that was there is turned. -/
import Derived.Test.YtlanlkpamnoekaaDoorZO18
import Derived.Test.YtlanlkpamnoekaaDoorZD11
import Derived.Lib.LaidTab
import Derived.OpenShut
set_option linter.unusedSimpArgs false
set_option linter.unusedVariables false
namespace Go.Proofs.YtlanlkpamnoekaaDoor
open List renaming getElem_toArray → zA, getElem_cons_succ → zS, getElem_cons_zero → zZ, setIfInBounds_toArray → zP, set_cons_zero → zQ, set_cons_succ → zR
open Go Go.RowKit Rf Mem Bv Crc Str Lk
set_option maxRecDepth 100000
attribute [local go_sem ↓] run_max2 run_min2
set_option maxHeartbeats 8000000 in
theorem lo16 (a : Act) (Af : Option Addr) (cf n : Nat) (g3 : Nat) (ga gb g12 i : Nat) (er : Int) (s q e : Int) (f : Frm) (hs : -1 ≤ s ∧ s < 256) (hnw : ¬ (0 ≤ s ∧ newer (f.2.1.toNat : Int) s = false)) (hS : Sl a 134 [(1, .int .u8 (f.1.toNat : Int)), (2, .slice Af n cf), (3, .pointer (some ⟨g3, 0, none⟩)), (6, .bool false), (7, .int .i64 (i : Nat)), (8, .pointer (some ⟨ga, 0, none⟩)), (9, .pointer (some ⟨gb, 0, none⟩)), (10, .int .i64 er), (12, .pointer (some ⟨g12, 0, none⟩)), (13, .int .i64 0)]) (w : World) (hK : LVar w g3 s q e) (hA : LVar w ga (f.2.1.toNat : Int) 0 e) (hF : FV w gb f) (hG : FV w g12 f) : rO16.wp Tryd.prog (nrm fun a' w' => Sl a' 134 [(1, .int .u8 (f.1.toNat : Int)), (2, .slice Af n cf), (3, .pointer (some ⟨g3, 0, none⟩)), (6, .bool false), (7, .int .i64 (i : Nat)), (8, .pointer (some ⟨ga, 0, none⟩)), (9, .pointer (some ⟨gb, 0, none⟩)), (10, .int .i64 er), (12, .pointer (some ⟨g12, 0, none⟩)), (13, .int .i64 0), (118, .bool false)] ∧ Below w.heap.size w w') a w := by
  obtain ⟨A1, c1, hb1, hp1⟩ := hF.out
  obtain ⟨A2, c2, hb2, hp2⟩ := hG.out
  have f0 : w.cell? ⟨gb, 0, none⟩ = some (.int .u8 (f.1.toNat : Int)) := cell_at hb1 0
  have f1 : w.cell? ⟨gb, 1, none⟩ = some (.int .u8 (f.2.1.toNat : Int)) := cell_at hb1 1
  have f2 : w.cell? ⟨gb, 2, none⟩ = some (.slice A1 f.2.2.length c1) := cell_at hb1 2
  have m0 : w.cell? ⟨g12, 0, none⟩ = some (.int .u8 (f.1.toNat : Int)) := cell_at hb2 0
  have m1 : w.cell? ⟨g12, 1, none⟩ = some (.int .u8 (f.2.1.toNat : Int)) := cell_at hb2 1
  have m2 : w.cell? ⟨g12, 2, none⟩ = some (.slice A2 f.2.2.length c2) := cell_at hb2 2
  have hbs := lt_of_at hb1
  have h21 := f.2.1.isLt
  have hd : (f.2.1.toNat : Int) < 256 := by omega
  have HD := Lib.hid hd
  have HNW := Lib.hid hnw
  have HSB := Lib.hid hs
  clear hF hG hb1 hb2 hnw hs hd h21
  obtain ⟨j, rfl, hj⟩ := hS.lit134
  have h1 : j 1 = .int .u8 (f.1.toNat : Int) := hj (1, _) (by simp)
  have h2 : j 2 = .slice Af n cf := hj (2, _) (by simp)
  have h3 : j 3 = .pointer (some ⟨g3, 0, none⟩) := hj (3, _) (by simp)
  have h6 : j 6 = .bool false := hj (6, _) (by simp)
  have h7 : j 7 = .int .i64 (i : Nat) := hj (7, _) (by simp)
  have h8 : j 8 = .pointer (some ⟨ga, 0, none⟩) := hj (8, _) (by simp)
  have h9 : j 9 = .pointer (some ⟨gb, 0, none⟩) := hj (9, _) (by simp)
  have h10 : j 10 = .int .i64 er := hj (10, _) (by simp)
  have h12 : j 12 = .pointer (some ⟨g12, 0, none⟩) := hj (12, _) (by simp)
  have h13 : j 13 = .int .i64 0 := hj (13, _) (by simp)
  clear hj hS
  unfold rO16 c15 c9 c7 cO loopO rgO bodyO
  simp only [Tryd.f4, Option.getD_some, nthSeq, cfst, csnd, cyes, copsOf, lit134, List.cons_append, List.nil_append, h1, h2, h3, h6, h7, h8, h9, h10, h12, h13]
  go_wp2_with fail
  refine (refSame_c f.1.toNat f.2.1.toNat f.1.toNat f.2.1.toNat (.slice A1 f.2.2.length c1) (.slice A2 f.2.2.length c2) f.2.2 f.2.2 w hp1 hp2).mono ?_
  rintro e' W ⟨rfl, b⟩
  rw [sameF_refl]
  have f0' := below_cell' b hbs f0
  have f1' := below_cell' b hbs f1
  have hK' := hK.later b
  have hA' := hA.later b
  clear f0 f1 f2 m0 m1 m2 hK hA hp1 hp2
  have x0 := hK'.c0
  have x2 := hK'.c2
  have y0 := hA'.c0
  have y1 := hA'.c1
  have y2 := hA'.c2
  clear hK' hA'
  obtain ⟨fs, hfs⟩ : ∃ fs : Int, (f.2.1.toNat : Int) = fs := ⟨_, rfl⟩
  rw [hfs] at f1' y0
  have hfs2 : 0 ≤ fs ∧ fs < 256 := by have := HD.out; omega
  have hw64 : IntKind.i64.wrap fs = fs := IntWalk.i64_in _ (by omega)
  have HFS := Lib.hid hfs
  by_cases h0 : 0 ≤ s
  · have hnr : newer fs s = true := by
      cases hh : newer fs s with
      | true => rfl
      | false => exact absurd ⟨h0, by rw [HFS.out]; exact hh⟩ HNW.out
    have hsb : s < 256 := HSB.out.2
    have hwu : IntKind.u8.wrap s = s := by simp [IntKind.wrap, IntKind.signed, IntKind.bits]; omega
    have HNR := Lib.hid hnr
    clear hnr hfs
    go_wp2_with fail
    refine (refNewer_g fs s true W HNR.out.symm hfs2.1 hfs2.2 h0 hsb).mono ?_
    rintro e' W' ⟨rfl, rfl⟩
    go_wp2
    exact ⟨⟨rfl, rfl, by simp⟩, b⟩
  · have hd0 : decide (0 ≤ s) = false := decide_eq_false h0
    clear hfs
    go_wp2
    exact ⟨⟨rfl, rfl, by simp⟩, b⟩
set_option maxHeartbeats 8000000 in
theorem lo18 (a : Act) (bA oA cf n : Nat) (kd : Int) (g3 : Nat) (ga gb g12 i : Nat) (er : Int) (s q e : Int) (er2 : Int) (s' q' e' : Int) (f : Frm) (y : List (BitVec 8)) (us : List Value) (Ay : Option Addr) (cy : Nat) (hr : (((s', q', e'), er2, f) : Lst × Int × Frm) = hearV kd y (s, q, e)) (hin : i < n) (hu : us[i]? = some (.slice Ay y.length cy)) (hly : y.length ≤ 140737488355328) (hS : Sl a 134 [(1, .int .u8 kd), (2, .slice (some ⟨bA, oA, none⟩) n cf), (3, .pointer (some ⟨g3, 0, none⟩)), (6, .bool false), (7, .int .i64 (i : Nat)), (8, .pointer (some ⟨ga, 0, none⟩)), (9, .pointer (some ⟨gb, 0, none⟩)), (10, .int .i64 er), (12, .pointer (some ⟨g12, 0, none⟩)), (13, .int .i64 0)]) (w : World) (hT : Tops w) (L : LVar w ga s q e) (CS : SliceAt w 1 (.slice (some ⟨bA, oA, none⟩) n cf) n us) (SY : SliceAt w 1 (.slice Ay y.length cy) y.length (u8s y)) : rO18.wp Tryd.prog (nrm fun a' w' => ∃ gc gd, Sl a' 134 [(1, .int .u8 kd), (2, .slice (some ⟨bA, oA, none⟩) n cf), (3, .pointer (some ⟨g3, 0, none⟩)), (6, .bool false), (7, .int .i64 (i : Nat)), (8, .pointer (some ⟨ga, 0, none⟩)), (9, .pointer (some ⟨gb, 0, none⟩)), (10, .int .i64 er), (12, .pointer (some ⟨g12, 0, none⟩)), (13, .int .i64 0), (14, .pointer (some ⟨gc, 0, none⟩)), (15, .pointer (some ⟨gd, 0, none⟩)), (16, .int .i64 er2)] ∧ LVar w' gc s' q' e' ∧ FV w' gd f ∧ w.heap.size ≤ gc ∧ w.heap.size ≤ gd ∧ Below w.heap.size w w') a w := by
  have HR := Lib.hid hr
  have LY0 := Lib.hid hly
  have i1 : (0 : Int) ≤ (i : Int) ∧ (i : Int) < (n : Int) := by omega
  have hL5 : ∀ g, w.heap.size ≤ g → ga ≠ g := fun g hg => Nat.ne_of_lt (Nat.lt_of_lt_of_le (lt_of_at L.at_) hg)
  have hC5 : ∀ g, w.heap.size ≤ g → bA ≠ g := fun g hg => Nat.ne_of_lt (Nat.lt_of_lt_of_le (vblock_lt CS ⟨by omega, rfl⟩) hg)
  clear hr hly
  obtain ⟨j, rfl, hj⟩ := hS.lit134
  have h1 : j 1 = .int .u8 kd := hj (1, _) (by simp)
  have h2 : j 2 = .slice (some ⟨bA, oA, none⟩) n cf := hj (2, _) (by simp)
  have h3 : j 3 = .pointer (some ⟨g3, 0, none⟩) := hj (3, _) (by simp)
  have h6 : j 6 = .bool false := hj (6, _) (by simp)
  have h7 : j 7 = .int .i64 (i : Nat) := hj (7, _) (by simp)
  have h8 : j 8 = .pointer (some ⟨ga, 0, none⟩) := hj (8, _) (by simp)
  have h9 : j 9 = .pointer (some ⟨gb, 0, none⟩) := hj (9, _) (by simp)
  have h10 : j 10 = .int .i64 er := hj (10, _) (by simp)
  have h12 : j 12 = .pointer (some ⟨g12, 0, none⟩) := hj (12, _) (by simp)
  have h13 : j 13 = .int .i64 0 := hj (13, _) (by simp)
  clear hj hS
  unfold rO18 c18 c15 c9 c7 cO loopO rgO bodyO
  simp only [Tryd.f4, Option.getD_some, nthSeq, cfst, csnd, cyes, copsOf, lit134, List.cons_append, List.nil_append, h1, h2, h3, h6, h7, h8, h9, h10, h12, h13]
  refine wp_region_held_drew (S := (fun w' => LVar w' ga s q e ∧ SliceAt w' 1 (.slice (some ⟨bA, oA, none⟩) n cf) n us)) (by kernel_rfl) ?_ (fun hHeld => ?_)
  · exact ⟨⟨L.at_⟩, CS⟩
  have Bb : Below w.heap.size w w.drew := (Below.refl _ w).drew
  clear hHeld
  have L0 := L.later Bb
  have C0 := CS.later Bb
  have hT0 := hT.below Bb
  replace SY := SY.later Bb
  clear L hT CS
  generalize w.drew = V at *
  have hHeld : LVar V ga s q e ∧ SliceAt V 1 (.slice (some ⟨bA, oA, none⟩) n cf) n us := ⟨L0, C0⟩
  refine Node.tk 0 (lk s q e) rfl (fun _ hSw => run_ld hSw.1 rfl rfl) ?_
  simp only [zA, zS, zZ, Act.put, zP, zQ, zR]
  refine Node.tk 1 ?_ rfl ?_ ?_
  rotate_left
  · intro w hSw; (try dsimp only at hSw); go_simp; try with_reducible rfl
  simp only [zA, zS, zZ, Act.put, zP, zQ, zR]
  refine Node.tk 2 ?_ rfl ?_ ?_
  rotate_left
  · intro w hSw; (try dsimp only at hSw); go_simp; try with_reducible rfl
  simp only [zA, zS, zZ, Act.put, zP, zQ, zR]
  refine Node.tk 3 ?_ rfl ?_ ?_
  rotate_left
  · intro w hSw; (try dsimp only at hSw); go_simp; try with_reducible rfl
  simp only [zA, zS, zZ, Act.put, zP, zQ, zR]
  refine Node.tk 4 ?_ rfl ?_ ?_
  rotate_left
  · intro w hSw; (try dsimp only at hSw); go_simp; try with_reducible rfl
  simp only [zA, zS, zZ, Act.put, zP, zQ, zR]
  refine Node.tk 5 (.slice Ay y.length cy) rfl (fun _ hSw => run_el (slice_cell hSw.2 hu) rfl rfl) ?_
  simp only [zA, zS, zZ, Act.put, zP, zQ, zR]
  clear hHeld
  refine wpAnyH_ready (rs := [6, 11, 12]) (by kernel_rfl) (by simp) ?_
  refine AllReadyH.cons rfl (fun K hK => ?_) (AllReadyH.cons rfl (fun K hK => ?_) (AllReadyH.cons rfl (fun K hK => ?_) AllReadyH.nil))
  · skip
    refine Node.wp_fn 11 [.tmp 120, .tmp 121, .tmp 125] _ [lkv (s, q, e), .int .u8 kd, .slice Ay y.length cy] (by rfl) (by rfl) (enters Tryd.func11 (by kernel_rfl) rfl) (Hear_v (s, q, e) kd (.slice Ay y.length cy) y V _ HR.out hT0 SY LY0.out) ?_
    rintro e' V' ⟨A3, c3, rfl, b, hp, hq⟩
    refine ⟨_, rfl, ?_⟩
    try replace n6q := fun q hb => Ne.symm (Nat.ne_of_lt (Nat.lt_of_lt_of_le (lt_of_at N6) (hq q hb)))
    replace Bb := below_step Bb b
    replace L0 := L0.later b
    replace C0 := C0.later b
    replace hT0 := hT0.below b
    try replace N5 := N5.later b
    try replace N6 := below_at b N6 (lt_of_at N6)
    clear b hq SY
    generalize V' = V at *
    refine hK.out _ _ ⟨L0, C0⟩ (fun _ => ?_)
    clear hK K
    try simp only [zA, zS, zZ, Act.put, zP, zQ, zR]
    refine Node.tk 7 ?_ rfl ?_ ?_
    rotate_left
    · intro w hSw; (try dsimp only at hSw); go_simp; try with_reducible rfl
    simp only [zA, zS, zZ, Act.put, zP, zQ, zR]
    refine Node.tk 8 ?_ rfl ?_ ?_
    rotate_left
    · intro w hSw; (try dsimp only at hSw); go_simp; try with_reducible rfl
    simp only [zA, zS, zZ, Act.put, zP, zQ, zR]
    refine Node.tk 9 ?_ rfl ?_ ?_
    rotate_left
    · intro w hSw; (try dsimp only at hSw); go_simp; try with_reducible rfl
    simp only [zA, zS, zZ, Act.put, zP, zQ, zR]
    refine Node.tk 10 ?_ rfl ?_ ?_
    rotate_left
    · intro w hSw; (try dsimp only at hSw); go_simp; try with_reducible rfl
    simp only [zA, zS, zZ, Act.put, zP, zQ, zR]
    refine wpAnyH_ready (rs := [11, 12]) (by kernel_rfl) (by simp) ?_
    refine AllReadyH.cons rfl (fun K hK => ?_) (AllReadyH.cons rfl (fun K hK => ?_) AllReadyH.nil)
    · skip
      have N5 := LVar.new V 0 0 0
      have b := below_new V (.cells #[.int .i64 0, .int .i64 0, .int .i64 0] 31)
      refine Node.wp_new 31 (.agg #[.int .i64 0, .int .i64 0, .int .i64 0]) #[.int .i64 0, .int .i64 0, .int .i64 0] (by kernel_rfl) rfl (by rfl) ?_
      have n5 := Bb.size
      replace Bb := below_step Bb b
      replace L0 := L0.later b
      replace C0 := C0.later b
      replace hT0 := hT0.below b
      try replace SY := SY.later b
      try replace hp := hp.later b
      try (have n56 := lt_of_at N6; replace N6 := below_at b N6 n56)
      clear b
      generalize V.heap.size = g5 at *
      generalize V.alloc (.cells #[.int .i64 0, .int .i64 0, .int .i64 0] 31) = V at *
      try replace n56 := Nat.ne_of_lt n56
      refine hK.out _ _ ⟨L0, C0⟩ (fun _ => ?_)
      clear hK K
      try simp only [zA, zS, zZ, Act.put, zP, zQ, zR]
      refine Node.on 12 rfl (fun K hK => ?_)
      have N6 := new_at (w := V) rfl (.cells #[.int .u8 0, .int .u8 0, .slice none 0 0] 41)
      have b := below_new V (.cells #[.int .u8 0, .int .u8 0, .slice none 0 0] 41)
      refine Node.wp_new 41 (.agg #[.int .u8 0, .int .u8 0, .slice none 0 0]) #[.int .u8 0, .int .u8 0, .slice none 0 0] (by kernel_rfl) rfl (by rfl) ?_
      have n6 := Bb.size
      replace Bb := below_step Bb b
      replace L0 := L0.later b
      replace C0 := C0.later b
      replace hT0 := hT0.below b
      try replace SY := SY.later b
      have n6q : True := trivial
      try (replace n6q := fun q hb => Nat.ne_of_lt (vblock_lt hp (q := q) hb); replace hp := hp.later b)
      try (have n56 := lt_of_at N5.at_; replace N5 := N5.later b)
      clear b
      generalize V.heap.size = g6 at *
      generalize V.alloc (.cells #[.int .u8 0, .int .u8 0, .slice none 0 0] 41) = V at *
      try replace n56 := Ne.symm (Nat.ne_of_lt n56)
      refine hK.out _ _ ⟨L0, C0⟩ (fun _ => ?_)
      clear hK K
      try simp only [zA, zS, zZ, Act.put, zP, zQ, zR]
      refine Node.on 13 rfl (fun K hK => ?_)
      refine wp_st_lk N5 rfl rfl rfl rfl ?_
      have hn5 := lt_of_at N5.at_
      have k5 := hL5 g5 n5
      replace L0 := L0.far3 (g' := g5) k5 s' q' e'
      replace N6 := frame_far3 N6 (g' := g5) n56 s' q' e'
      replace C0 := slice_far C0 (hC5 g5 n5) (.int .i64 s') (.int .i64 q') (.int .i64 e')
      have N5' := N5.set3 s' q' e'
      replace Bb := ((Bb.setCell (p := ⟨g5, 0, none⟩) n5 (.int .i64 s')).setCell (p := ⟨g5, 1, none⟩) n5 (.int .i64 q')).setCell (p := ⟨g5, 2, none⟩) n5 (.int .i64 e')
      replace hp := bytes_far hp N5 (.int .i64 s') (.int .i64 q') (.int .i64 e')
      clear N5 hT0 hn5 k5
      generalize ((V.setCell ⟨g5, 0, none⟩ (.int .i64 s')).setCell ⟨g5, 1, none⟩ (.int .i64 q')).setCell ⟨g5, 2, none⟩ (.int .i64 e') = V at *
      refine hK.out _ _ ⟨L0, C0⟩ (fun _ => ?_)
      clear hK K
      try simp only [zA, zS, zZ, Act.put, zP, zQ, zR]
      refine Node.on 14 rfl (fun K hK => ?_)
      refine wp_st_fr N6 rfl rfl rfl rfl ?_
      have F := FV.put3 (f := f) N6 hp n6q
      have k6 := hL5 g6 n6
      replace L0 := L0.at_
      replace L0 : LVar (((V.setCell ⟨g6, 0, none⟩ (.int .u8 (f.1.toNat : Int))).setCell ⟨g6, 1, none⟩ (.int .u8 (f.2.1.toNat : Int))).setCell ⟨g6, 2, none⟩ (.slice A3 f.2.2.length c3)) ga s q e := ⟨frame_far3' L0 k6 _ _ _⟩
      replace C0 := slice_far C0 (hC5 g6 n6) (.int .u8 (f.1.toNat : Int)) (.int .u8 (f.2.1.toNat : Int)) (.slice A3 f.2.2.length c3)
      replace N5' : LVar (((V.setCell ⟨g6, 0, none⟩ (.int .u8 (f.1.toNat : Int))).setCell ⟨g6, 1, none⟩ (.int .u8 (f.2.1.toNat : Int))).setCell ⟨g6, 2, none⟩ (.slice A3 f.2.2.length c3)) g5 s' q' e' := ⟨frame_far3' N5'.at_ (Ne.symm n56) _ _ _⟩
      replace Bb := ((Bb.setCell (p := ⟨g6, 0, none⟩) n6 (.int .u8 (f.1.toNat : Int))).setCell (p := ⟨g6, 1, none⟩) n6 (.int .u8 (f.2.1.toNat : Int))).setCell (p := ⟨g6, 2, none⟩) n6 (.slice A3 f.2.2.length c3)
      clear N6 hp n6q k6
      generalize ((V.setCell ⟨g6, 0, none⟩ (.int .u8 (f.1.toNat : Int))).setCell ⟨g6, 1, none⟩ (.int .u8 (f.2.1.toNat : Int))).setCell ⟨g6, 2, none⟩ (.slice A3 f.2.2.length c3) = V at *
      refine hK.out _ _ ⟨L0, C0⟩ (fun _ => ?_)
      clear hK K
      try simp only [zA, zS, zZ, Act.put, zP, zQ, zR]
      refine Node.tk 15 ?_ rfl ?_ ?_
      rotate_left
      · intro w hSw; (try dsimp only at hSw); go_simp; try with_reducible rfl
      simp only [zA, zS, zZ, Act.put, zP, zQ, zR]
      refine wpAnyH_done (by kernel_rfl) ?_ _
      exact ⟨g5, g6, ⟨rfl, rfl, by simp⟩, N5', F, n5, n6, Bb⟩
    · skip
      have N6 := new_at (w := V) rfl (.cells #[.int .u8 0, .int .u8 0, .slice none 0 0] 41)
      have b := below_new V (.cells #[.int .u8 0, .int .u8 0, .slice none 0 0] 41)
      refine Node.wp_new 41 (.agg #[.int .u8 0, .int .u8 0, .slice none 0 0]) #[.int .u8 0, .int .u8 0, .slice none 0 0] (by kernel_rfl) rfl (by rfl) ?_
      have n6 := Bb.size
      replace Bb := below_step Bb b
      replace L0 := L0.later b
      replace C0 := C0.later b
      replace hT0 := hT0.below b
      try replace SY := SY.later b
      have n6q : True := trivial
      try (replace n6q := fun q hb => Nat.ne_of_lt (vblock_lt hp (q := q) hb); replace hp := hp.later b)
      try (have n56 := lt_of_at N5.at_; replace N5 := N5.later b)
      clear b
      generalize V.heap.size = g6 at *
      generalize V.alloc (.cells #[.int .u8 0, .int .u8 0, .slice none 0 0] 41) = V at *
      try replace n56 := Ne.symm (Nat.ne_of_lt n56)
      refine hK.out _ _ ⟨L0, C0⟩ (fun _ => ?_)
      clear hK K
      try simp only [zA, zS, zZ, Act.put, zP, zQ, zR]
      refine Node.on 11 rfl (fun K hK => ?_)
      have N5 := LVar.new V 0 0 0
      have b := below_new V (.cells #[.int .i64 0, .int .i64 0, .int .i64 0] 31)
      refine Node.wp_new 31 (.agg #[.int .i64 0, .int .i64 0, .int .i64 0]) #[.int .i64 0, .int .i64 0, .int .i64 0] (by kernel_rfl) rfl (by rfl) ?_
      have n5 := Bb.size
      replace Bb := below_step Bb b
      replace L0 := L0.later b
      replace C0 := C0.later b
      replace hT0 := hT0.below b
      try replace SY := SY.later b
      try replace hp := hp.later b
      try (have n56 := lt_of_at N6; replace N6 := below_at b N6 n56)
      clear b
      generalize V.heap.size = g5 at *
      generalize V.alloc (.cells #[.int .i64 0, .int .i64 0, .int .i64 0] 31) = V at *
      try replace n56 := Nat.ne_of_lt n56
      refine hK.out _ _ ⟨L0, C0⟩ (fun _ => ?_)
      clear hK K
      try simp only [zA, zS, zZ, Act.put, zP, zQ, zR]
      refine Node.on 13 rfl (fun K hK => ?_)
      refine wp_st_lk N5 rfl rfl rfl rfl ?_
      have hn5 := lt_of_at N5.at_
      have k5 := hL5 g5 n5
      replace L0 := L0.far3 (g' := g5) k5 s' q' e'
      replace N6 := frame_far3 N6 (g' := g5) n56 s' q' e'
      replace C0 := slice_far C0 (hC5 g5 n5) (.int .i64 s') (.int .i64 q') (.int .i64 e')
      have N5' := N5.set3 s' q' e'
      replace Bb := ((Bb.setCell (p := ⟨g5, 0, none⟩) n5 (.int .i64 s')).setCell (p := ⟨g5, 1, none⟩) n5 (.int .i64 q')).setCell (p := ⟨g5, 2, none⟩) n5 (.int .i64 e')
      replace hp := bytes_far hp N5 (.int .i64 s') (.int .i64 q') (.int .i64 e')
      clear N5 hT0 hn5 k5
      generalize ((V.setCell ⟨g5, 0, none⟩ (.int .i64 s')).setCell ⟨g5, 1, none⟩ (.int .i64 q')).setCell ⟨g5, 2, none⟩ (.int .i64 e') = V at *
      refine hK.out _ _ ⟨L0, C0⟩ (fun _ => ?_)
      clear hK K
      try simp only [zA, zS, zZ, Act.put, zP, zQ, zR]
      refine Node.on 14 rfl (fun K hK => ?_)
      refine wp_st_fr N6 rfl rfl rfl rfl ?_
      have F := FV.put3 (f := f) N6 hp n6q
      have k6 := hL5 g6 n6
      replace L0 := L0.at_
      replace L0 : LVar (((V.setCell ⟨g6, 0, none⟩ (.int .u8 (f.1.toNat : Int))).setCell ⟨g6, 1, none⟩ (.int .u8 (f.2.1.toNat : Int))).setCell ⟨g6, 2, none⟩ (.slice A3 f.2.2.length c3)) ga s q e := ⟨frame_far3' L0 k6 _ _ _⟩
      replace C0 := slice_far C0 (hC5 g6 n6) (.int .u8 (f.1.toNat : Int)) (.int .u8 (f.2.1.toNat : Int)) (.slice A3 f.2.2.length c3)
      replace N5' : LVar (((V.setCell ⟨g6, 0, none⟩ (.int .u8 (f.1.toNat : Int))).setCell ⟨g6, 1, none⟩ (.int .u8 (f.2.1.toNat : Int))).setCell ⟨g6, 2, none⟩ (.slice A3 f.2.2.length c3)) g5 s' q' e' := ⟨frame_far3' N5'.at_ (Ne.symm n56) _ _ _⟩
      replace Bb := ((Bb.setCell (p := ⟨g6, 0, none⟩) n6 (.int .u8 (f.1.toNat : Int))).setCell (p := ⟨g6, 1, none⟩) n6 (.int .u8 (f.2.1.toNat : Int))).setCell (p := ⟨g6, 2, none⟩) n6 (.slice A3 f.2.2.length c3)
      clear N6 hp n6q k6
      generalize ((V.setCell ⟨g6, 0, none⟩ (.int .u8 (f.1.toNat : Int))).setCell ⟨g6, 1, none⟩ (.int .u8 (f.2.1.toNat : Int))).setCell ⟨g6, 2, none⟩ (.slice A3 f.2.2.length c3) = V at *
      refine hK.out _ _ ⟨L0, C0⟩ (fun _ => ?_)
      clear hK K
      try simp only [zA, zS, zZ, Act.put, zP, zQ, zR]
      refine Node.tk 15 ?_ rfl ?_ ?_
      rotate_left
      · intro w hSw; (try dsimp only at hSw); go_simp; try with_reducible rfl
      simp only [zA, zS, zZ, Act.put, zP, zQ, zR]
      refine wpAnyH_done (by kernel_rfl) ?_ _
      exact ⟨g5, g6, ⟨rfl, rfl, by simp⟩, N5', F, n5, n6, Bb⟩
  · skip
    have N5 := LVar.new V 0 0 0
    have b := below_new V (.cells #[.int .i64 0, .int .i64 0, .int .i64 0] 31)
    refine Node.wp_new 31 (.agg #[.int .i64 0, .int .i64 0, .int .i64 0]) #[.int .i64 0, .int .i64 0, .int .i64 0] (by kernel_rfl) rfl (by rfl) ?_
    have n5 := Bb.size
    replace Bb := below_step Bb b
    replace L0 := L0.later b
    replace C0 := C0.later b
    replace hT0 := hT0.below b
    try replace SY := SY.later b
    try replace hp := hp.later b
    try (have n56 := lt_of_at N6; replace N6 := below_at b N6 n56)
    clear b
    generalize V.heap.size = g5 at *
    generalize V.alloc (.cells #[.int .i64 0, .int .i64 0, .int .i64 0] 31) = V at *
    try replace n56 := Nat.ne_of_lt n56
    refine hK.out _ _ ⟨L0, C0⟩ (fun _ => ?_)
    clear hK K
    try simp only [zA, zS, zZ, Act.put, zP, zQ, zR]
    refine wpAnyH_ready (rs := [6, 12]) (by kernel_rfl) (by simp) ?_
    refine AllReadyH.cons rfl (fun K hK => ?_) (AllReadyH.cons rfl (fun K hK => ?_) AllReadyH.nil)
    · skip
      refine Node.wp_fn 11 [.tmp 120, .tmp 121, .tmp 125] _ [lkv (s, q, e), .int .u8 kd, .slice Ay y.length cy] (by rfl) (by rfl) (enters Tryd.func11 (by kernel_rfl) rfl) (Hear_v (s, q, e) kd (.slice Ay y.length cy) y V _ HR.out hT0 SY LY0.out) ?_
      rintro e' V' ⟨A3, c3, rfl, b, hp, hq⟩
      refine ⟨_, rfl, ?_⟩
      try replace n6q := fun q hb => Ne.symm (Nat.ne_of_lt (Nat.lt_of_lt_of_le (lt_of_at N6) (hq q hb)))
      replace Bb := below_step Bb b
      replace L0 := L0.later b
      replace C0 := C0.later b
      replace hT0 := hT0.below b
      try replace N5 := N5.later b
      try replace N6 := below_at b N6 (lt_of_at N6)
      clear b hq SY
      generalize V' = V at *
      refine hK.out _ _ ⟨L0, C0⟩ (fun _ => ?_)
      clear hK K
      try simp only [zA, zS, zZ, Act.put, zP, zQ, zR]
      refine Node.tk 7 ?_ rfl ?_ ?_
      rotate_left
      · intro w hSw; (try dsimp only at hSw); go_simp; try with_reducible rfl
      simp only [zA, zS, zZ, Act.put, zP, zQ, zR]
      refine Node.tk 8 ?_ rfl ?_ ?_
      rotate_left
      · intro w hSw; (try dsimp only at hSw); go_simp; try with_reducible rfl
      simp only [zA, zS, zZ, Act.put, zP, zQ, zR]
      refine Node.tk 9 ?_ rfl ?_ ?_
      rotate_left
      · intro w hSw; (try dsimp only at hSw); go_simp; try with_reducible rfl
      simp only [zA, zS, zZ, Act.put, zP, zQ, zR]
      refine Node.tk 10 ?_ rfl ?_ ?_
      rotate_left
      · intro w hSw; (try dsimp only at hSw); go_simp; try with_reducible rfl
      simp only [zA, zS, zZ, Act.put, zP, zQ, zR]
      refine Node.on 12 rfl (fun K hK => ?_)
      have N6 := new_at (w := V) rfl (.cells #[.int .u8 0, .int .u8 0, .slice none 0 0] 41)
      have b := below_new V (.cells #[.int .u8 0, .int .u8 0, .slice none 0 0] 41)
      refine Node.wp_new 41 (.agg #[.int .u8 0, .int .u8 0, .slice none 0 0]) #[.int .u8 0, .int .u8 0, .slice none 0 0] (by kernel_rfl) rfl (by rfl) ?_
      have n6 := Bb.size
      replace Bb := below_step Bb b
      replace L0 := L0.later b
      replace C0 := C0.later b
      replace hT0 := hT0.below b
      try replace SY := SY.later b
      have n6q : True := trivial
      try (replace n6q := fun q hb => Nat.ne_of_lt (vblock_lt hp (q := q) hb); replace hp := hp.later b)
      try (have n56 := lt_of_at N5.at_; replace N5 := N5.later b)
      clear b
      generalize V.heap.size = g6 at *
      generalize V.alloc (.cells #[.int .u8 0, .int .u8 0, .slice none 0 0] 41) = V at *
      try replace n56 := Ne.symm (Nat.ne_of_lt n56)
      refine hK.out _ _ ⟨L0, C0⟩ (fun _ => ?_)
      clear hK K
      try simp only [zA, zS, zZ, Act.put, zP, zQ, zR]
      refine Node.on 13 rfl (fun K hK => ?_)
      refine wp_st_lk N5 rfl rfl rfl rfl ?_
      have hn5 := lt_of_at N5.at_
      have k5 := hL5 g5 n5
      replace L0 := L0.far3 (g' := g5) k5 s' q' e'
      replace N6 := frame_far3 N6 (g' := g5) n56 s' q' e'
      replace C0 := slice_far C0 (hC5 g5 n5) (.int .i64 s') (.int .i64 q') (.int .i64 e')
      have N5' := N5.set3 s' q' e'
      replace Bb := ((Bb.setCell (p := ⟨g5, 0, none⟩) n5 (.int .i64 s')).setCell (p := ⟨g5, 1, none⟩) n5 (.int .i64 q')).setCell (p := ⟨g5, 2, none⟩) n5 (.int .i64 e')
      replace hp := bytes_far hp N5 (.int .i64 s') (.int .i64 q') (.int .i64 e')
      clear N5 hT0 hn5 k5
      generalize ((V.setCell ⟨g5, 0, none⟩ (.int .i64 s')).setCell ⟨g5, 1, none⟩ (.int .i64 q')).setCell ⟨g5, 2, none⟩ (.int .i64 e') = V at *
      refine hK.out _ _ ⟨L0, C0⟩ (fun _ => ?_)
      clear hK K
      try simp only [zA, zS, zZ, Act.put, zP, zQ, zR]
      refine Node.on 14 rfl (fun K hK => ?_)
      refine wp_st_fr N6 rfl rfl rfl rfl ?_
      have F := FV.put3 (f := f) N6 hp n6q
      have k6 := hL5 g6 n6
      replace L0 := L0.at_
      replace L0 : LVar (((V.setCell ⟨g6, 0, none⟩ (.int .u8 (f.1.toNat : Int))).setCell ⟨g6, 1, none⟩ (.int .u8 (f.2.1.toNat : Int))).setCell ⟨g6, 2, none⟩ (.slice A3 f.2.2.length c3)) ga s q e := ⟨frame_far3' L0 k6 _ _ _⟩
      replace C0 := slice_far C0 (hC5 g6 n6) (.int .u8 (f.1.toNat : Int)) (.int .u8 (f.2.1.toNat : Int)) (.slice A3 f.2.2.length c3)
      replace N5' : LVar (((V.setCell ⟨g6, 0, none⟩ (.int .u8 (f.1.toNat : Int))).setCell ⟨g6, 1, none⟩ (.int .u8 (f.2.1.toNat : Int))).setCell ⟨g6, 2, none⟩ (.slice A3 f.2.2.length c3)) g5 s' q' e' := ⟨frame_far3' N5'.at_ (Ne.symm n56) _ _ _⟩
      replace Bb := ((Bb.setCell (p := ⟨g6, 0, none⟩) n6 (.int .u8 (f.1.toNat : Int))).setCell (p := ⟨g6, 1, none⟩) n6 (.int .u8 (f.2.1.toNat : Int))).setCell (p := ⟨g6, 2, none⟩) n6 (.slice A3 f.2.2.length c3)
      clear N6 hp n6q k6
      generalize ((V.setCell ⟨g6, 0, none⟩ (.int .u8 (f.1.toNat : Int))).setCell ⟨g6, 1, none⟩ (.int .u8 (f.2.1.toNat : Int))).setCell ⟨g6, 2, none⟩ (.slice A3 f.2.2.length c3) = V at *
      refine hK.out _ _ ⟨L0, C0⟩ (fun _ => ?_)
      clear hK K
      try simp only [zA, zS, zZ, Act.put, zP, zQ, zR]
      refine Node.tk 15 ?_ rfl ?_ ?_
      rotate_left
      · intro w hSw; (try dsimp only at hSw); go_simp; try with_reducible rfl
      simp only [zA, zS, zZ, Act.put, zP, zQ, zR]
      refine wpAnyH_done (by kernel_rfl) ?_ _
      exact ⟨g5, g6, ⟨rfl, rfl, by simp⟩, N5', F, n5, n6, Bb⟩
    · skip
      have N6 := new_at (w := V) rfl (.cells #[.int .u8 0, .int .u8 0, .slice none 0 0] 41)
      have b := below_new V (.cells #[.int .u8 0, .int .u8 0, .slice none 0 0] 41)
      refine Node.wp_new 41 (.agg #[.int .u8 0, .int .u8 0, .slice none 0 0]) #[.int .u8 0, .int .u8 0, .slice none 0 0] (by kernel_rfl) rfl (by rfl) ?_
      have n6 := Bb.size
      replace Bb := below_step Bb b
      replace L0 := L0.later b
      replace C0 := C0.later b
      replace hT0 := hT0.below b
      try replace SY := SY.later b
      have n6q : True := trivial
      try (replace n6q := fun q hb => Nat.ne_of_lt (vblock_lt hp (q := q) hb); replace hp := hp.later b)
      try (have n56 := lt_of_at N5.at_; replace N5 := N5.later b)
      clear b
      generalize V.heap.size = g6 at *
      generalize V.alloc (.cells #[.int .u8 0, .int .u8 0, .slice none 0 0] 41) = V at *
      try replace n56 := Ne.symm (Nat.ne_of_lt n56)
      refine hK.out _ _ ⟨L0, C0⟩ (fun _ => ?_)
      clear hK K
      try simp only [zA, zS, zZ, Act.put, zP, zQ, zR]
      refine Node.on 6 rfl (fun K hK => ?_)
      refine Node.wp_fn 11 [.tmp 120, .tmp 121, .tmp 125] _ [lkv (s, q, e), .int .u8 kd, .slice Ay y.length cy] (by rfl) (by rfl) (enters Tryd.func11 (by kernel_rfl) rfl) (Hear_v (s, q, e) kd (.slice Ay y.length cy) y V _ HR.out hT0 SY LY0.out) ?_
      rintro e' V' ⟨A3, c3, rfl, b, hp, hq⟩
      refine ⟨_, rfl, ?_⟩
      try replace n6q := fun q hb => Ne.symm (Nat.ne_of_lt (Nat.lt_of_lt_of_le (lt_of_at N6) (hq q hb)))
      replace Bb := below_step Bb b
      replace L0 := L0.later b
      replace C0 := C0.later b
      replace hT0 := hT0.below b
      try replace N5 := N5.later b
      try replace N6 := below_at b N6 (lt_of_at N6)
      clear b hq SY
      generalize V' = V at *
      refine hK.out _ _ ⟨L0, C0⟩ (fun _ => ?_)
      clear hK K
      try simp only [zA, zS, zZ, Act.put, zP, zQ, zR]
      refine Node.tk 7 ?_ rfl ?_ ?_
      rotate_left
      · intro w hSw; (try dsimp only at hSw); go_simp; try with_reducible rfl
      simp only [zA, zS, zZ, Act.put, zP, zQ, zR]
      refine Node.tk 8 ?_ rfl ?_ ?_
      rotate_left
      · intro w hSw; (try dsimp only at hSw); go_simp; try with_reducible rfl
      simp only [zA, zS, zZ, Act.put, zP, zQ, zR]
      refine Node.tk 9 ?_ rfl ?_ ?_
      rotate_left
      · intro w hSw; (try dsimp only at hSw); go_simp; try with_reducible rfl
      simp only [zA, zS, zZ, Act.put, zP, zQ, zR]
      refine Node.tk 10 ?_ rfl ?_ ?_
      rotate_left
      · intro w hSw; (try dsimp only at hSw); go_simp; try with_reducible rfl
      simp only [zA, zS, zZ, Act.put, zP, zQ, zR]
      refine Node.on 13 rfl (fun K hK => ?_)
      refine wp_st_lk N5 rfl rfl rfl rfl ?_
      have hn5 := lt_of_at N5.at_
      have k5 := hL5 g5 n5
      replace L0 := L0.far3 (g' := g5) k5 s' q' e'
      replace N6 := frame_far3 N6 (g' := g5) n56 s' q' e'
      replace C0 := slice_far C0 (hC5 g5 n5) (.int .i64 s') (.int .i64 q') (.int .i64 e')
      have N5' := N5.set3 s' q' e'
      replace Bb := ((Bb.setCell (p := ⟨g5, 0, none⟩) n5 (.int .i64 s')).setCell (p := ⟨g5, 1, none⟩) n5 (.int .i64 q')).setCell (p := ⟨g5, 2, none⟩) n5 (.int .i64 e')
      replace hp := bytes_far hp N5 (.int .i64 s') (.int .i64 q') (.int .i64 e')
      clear N5 hT0 hn5 k5
      generalize ((V.setCell ⟨g5, 0, none⟩ (.int .i64 s')).setCell ⟨g5, 1, none⟩ (.int .i64 q')).setCell ⟨g5, 2, none⟩ (.int .i64 e') = V at *
      refine hK.out _ _ ⟨L0, C0⟩ (fun _ => ?_)
      clear hK K
      try simp only [zA, zS, zZ, Act.put, zP, zQ, zR]
      refine Node.on 14 rfl (fun K hK => ?_)
      refine wp_st_fr N6 rfl rfl rfl rfl ?_
      have F := FV.put3 (f := f) N6 hp n6q
      have k6 := hL5 g6 n6
      replace L0 := L0.at_
      replace L0 : LVar (((V.setCell ⟨g6, 0, none⟩ (.int .u8 (f.1.toNat : Int))).setCell ⟨g6, 1, none⟩ (.int .u8 (f.2.1.toNat : Int))).setCell ⟨g6, 2, none⟩ (.slice A3 f.2.2.length c3)) ga s q e := ⟨frame_far3' L0 k6 _ _ _⟩
      replace C0 := slice_far C0 (hC5 g6 n6) (.int .u8 (f.1.toNat : Int)) (.int .u8 (f.2.1.toNat : Int)) (.slice A3 f.2.2.length c3)
      replace N5' : LVar (((V.setCell ⟨g6, 0, none⟩ (.int .u8 (f.1.toNat : Int))).setCell ⟨g6, 1, none⟩ (.int .u8 (f.2.1.toNat : Int))).setCell ⟨g6, 2, none⟩ (.slice A3 f.2.2.length c3)) g5 s' q' e' := ⟨frame_far3' N5'.at_ (Ne.symm n56) _ _ _⟩
      replace Bb := ((Bb.setCell (p := ⟨g6, 0, none⟩) n6 (.int .u8 (f.1.toNat : Int))).setCell (p := ⟨g6, 1, none⟩) n6 (.int .u8 (f.2.1.toNat : Int))).setCell (p := ⟨g6, 2, none⟩) n6 (.slice A3 f.2.2.length c3)
      clear N6 hp n6q k6
      generalize ((V.setCell ⟨g6, 0, none⟩ (.int .u8 (f.1.toNat : Int))).setCell ⟨g6, 1, none⟩ (.int .u8 (f.2.1.toNat : Int))).setCell ⟨g6, 2, none⟩ (.slice A3 f.2.2.length c3) = V at *
      refine hK.out _ _ ⟨L0, C0⟩ (fun _ => ?_)
      clear hK K
      try simp only [zA, zS, zZ, Act.put, zP, zQ, zR]
      refine Node.tk 15 ?_ rfl ?_ ?_
      rotate_left
      · intro w hSw; (try dsimp only at hSw); go_simp; try with_reducible rfl
      simp only [zA, zS, zZ, Act.put, zP, zQ, zR]
      refine wpAnyH_done (by kernel_rfl) ?_ _
      exact ⟨g5, g6, ⟨rfl, rfl, by simp⟩, N5', F, n5, n6, Bb⟩
  · skip
    have N6 := new_at (w := V) rfl (.cells #[.int .u8 0, .int .u8 0, .slice none 0 0] 41)
    have b := below_new V (.cells #[.int .u8 0, .int .u8 0, .slice none 0 0] 41)
    refine Node.wp_new 41 (.agg #[.int .u8 0, .int .u8 0, .slice none 0 0]) #[.int .u8 0, .int .u8 0, .slice none 0 0] (by kernel_rfl) rfl (by rfl) ?_
    have n6 := Bb.size
    replace Bb := below_step Bb b
    replace L0 := L0.later b
    replace C0 := C0.later b
    replace hT0 := hT0.below b
    try replace SY := SY.later b
    have n6q : True := trivial
    try (replace n6q := fun q hb => Nat.ne_of_lt (vblock_lt hp (q := q) hb); replace hp := hp.later b)
    try (have n56 := lt_of_at N5.at_; replace N5 := N5.later b)
    clear b
    generalize V.heap.size = g6 at *
    generalize V.alloc (.cells #[.int .u8 0, .int .u8 0, .slice none 0 0] 41) = V at *
    try replace n56 := Ne.symm (Nat.ne_of_lt n56)
    refine hK.out _ _ ⟨L0, C0⟩ (fun _ => ?_)
    clear hK K
    try simp only [zA, zS, zZ, Act.put, zP, zQ, zR]
    refine wpAnyH_ready (rs := [6, 11]) (by kernel_rfl) (by simp) ?_
    refine AllReadyH.cons rfl (fun K hK => ?_) (AllReadyH.cons rfl (fun K hK => ?_) AllReadyH.nil)
    · skip
      refine Node.wp_fn 11 [.tmp 120, .tmp 121, .tmp 125] _ [lkv (s, q, e), .int .u8 kd, .slice Ay y.length cy] (by rfl) (by rfl) (enters Tryd.func11 (by kernel_rfl) rfl) (Hear_v (s, q, e) kd (.slice Ay y.length cy) y V _ HR.out hT0 SY LY0.out) ?_
      rintro e' V' ⟨A3, c3, rfl, b, hp, hq⟩
      refine ⟨_, rfl, ?_⟩
      try replace n6q := fun q hb => Ne.symm (Nat.ne_of_lt (Nat.lt_of_lt_of_le (lt_of_at N6) (hq q hb)))
      replace Bb := below_step Bb b
      replace L0 := L0.later b
      replace C0 := C0.later b
      replace hT0 := hT0.below b
      try replace N5 := N5.later b
      try replace N6 := below_at b N6 (lt_of_at N6)
      clear b hq SY
      generalize V' = V at *
      refine hK.out _ _ ⟨L0, C0⟩ (fun _ => ?_)
      clear hK K
      try simp only [zA, zS, zZ, Act.put, zP, zQ, zR]
      refine Node.tk 7 ?_ rfl ?_ ?_
      rotate_left
      · intro w hSw; (try dsimp only at hSw); go_simp; try with_reducible rfl
      simp only [zA, zS, zZ, Act.put, zP, zQ, zR]
      refine Node.tk 8 ?_ rfl ?_ ?_
      rotate_left
      · intro w hSw; (try dsimp only at hSw); go_simp; try with_reducible rfl
      simp only [zA, zS, zZ, Act.put, zP, zQ, zR]
      refine Node.tk 9 ?_ rfl ?_ ?_
      rotate_left
      · intro w hSw; (try dsimp only at hSw); go_simp; try with_reducible rfl
      simp only [zA, zS, zZ, Act.put, zP, zQ, zR]
      refine Node.tk 10 ?_ rfl ?_ ?_
      rotate_left
      · intro w hSw; (try dsimp only at hSw); go_simp; try with_reducible rfl
      simp only [zA, zS, zZ, Act.put, zP, zQ, zR]
      refine Node.on 11 rfl (fun K hK => ?_)
      have N5 := LVar.new V 0 0 0
      have b := below_new V (.cells #[.int .i64 0, .int .i64 0, .int .i64 0] 31)
      refine Node.wp_new 31 (.agg #[.int .i64 0, .int .i64 0, .int .i64 0]) #[.int .i64 0, .int .i64 0, .int .i64 0] (by kernel_rfl) rfl (by rfl) ?_
      have n5 := Bb.size
      replace Bb := below_step Bb b
      replace L0 := L0.later b
      replace C0 := C0.later b
      replace hT0 := hT0.below b
      try replace SY := SY.later b
      try replace hp := hp.later b
      try (have n56 := lt_of_at N6; replace N6 := below_at b N6 n56)
      clear b
      generalize V.heap.size = g5 at *
      generalize V.alloc (.cells #[.int .i64 0, .int .i64 0, .int .i64 0] 31) = V at *
      try replace n56 := Nat.ne_of_lt n56
      refine hK.out _ _ ⟨L0, C0⟩ (fun _ => ?_)
      clear hK K
      try simp only [zA, zS, zZ, Act.put, zP, zQ, zR]
      refine Node.on 13 rfl (fun K hK => ?_)
      refine wp_st_lk N5 rfl rfl rfl rfl ?_
      have hn5 := lt_of_at N5.at_
      have k5 := hL5 g5 n5
      replace L0 := L0.far3 (g' := g5) k5 s' q' e'
      replace N6 := frame_far3 N6 (g' := g5) n56 s' q' e'
      replace C0 := slice_far C0 (hC5 g5 n5) (.int .i64 s') (.int .i64 q') (.int .i64 e')
      have N5' := N5.set3 s' q' e'
      replace Bb := ((Bb.setCell (p := ⟨g5, 0, none⟩) n5 (.int .i64 s')).setCell (p := ⟨g5, 1, none⟩) n5 (.int .i64 q')).setCell (p := ⟨g5, 2, none⟩) n5 (.int .i64 e')
      replace hp := bytes_far hp N5 (.int .i64 s') (.int .i64 q') (.int .i64 e')
      clear N5 hT0 hn5 k5
      generalize ((V.setCell ⟨g5, 0, none⟩ (.int .i64 s')).setCell ⟨g5, 1, none⟩ (.int .i64 q')).setCell ⟨g5, 2, none⟩ (.int .i64 e') = V at *
      refine hK.out _ _ ⟨L0, C0⟩ (fun _ => ?_)
      clear hK K
      try simp only [zA, zS, zZ, Act.put, zP, zQ, zR]
      refine Node.on 14 rfl (fun K hK => ?_)
      refine wp_st_fr N6 rfl rfl rfl rfl ?_
      have F := FV.put3 (f := f) N6 hp n6q
      have k6 := hL5 g6 n6
      replace L0 := L0.at_
      replace L0 : LVar (((V.setCell ⟨g6, 0, none⟩ (.int .u8 (f.1.toNat : Int))).setCell ⟨g6, 1, none⟩ (.int .u8 (f.2.1.toNat : Int))).setCell ⟨g6, 2, none⟩ (.slice A3 f.2.2.length c3)) ga s q e := ⟨frame_far3' L0 k6 _ _ _⟩
      replace C0 := slice_far C0 (hC5 g6 n6) (.int .u8 (f.1.toNat : Int)) (.int .u8 (f.2.1.toNat : Int)) (.slice A3 f.2.2.length c3)
      replace N5' : LVar (((V.setCell ⟨g6, 0, none⟩ (.int .u8 (f.1.toNat : Int))).setCell ⟨g6, 1, none⟩ (.int .u8 (f.2.1.toNat : Int))).setCell ⟨g6, 2, none⟩ (.slice A3 f.2.2.length c3)) g5 s' q' e' := ⟨frame_far3' N5'.at_ (Ne.symm n56) _ _ _⟩
      replace Bb := ((Bb.setCell (p := ⟨g6, 0, none⟩) n6 (.int .u8 (f.1.toNat : Int))).setCell (p := ⟨g6, 1, none⟩) n6 (.int .u8 (f.2.1.toNat : Int))).setCell (p := ⟨g6, 2, none⟩) n6 (.slice A3 f.2.2.length c3)
      clear N6 hp n6q k6
      generalize ((V.setCell ⟨g6, 0, none⟩ (.int .u8 (f.1.toNat : Int))).setCell ⟨g6, 1, none⟩ (.int .u8 (f.2.1.toNat : Int))).setCell ⟨g6, 2, none⟩ (.slice A3 f.2.2.length c3) = V at *
      refine hK.out _ _ ⟨L0, C0⟩ (fun _ => ?_)
      clear hK K
      try simp only [zA, zS, zZ, Act.put, zP, zQ, zR]
      refine Node.tk 15 ?_ rfl ?_ ?_
      rotate_left
      · intro w hSw; (try dsimp only at hSw); go_simp; try with_reducible rfl
      simp only [zA, zS, zZ, Act.put, zP, zQ, zR]
      refine wpAnyH_done (by kernel_rfl) ?_ _
      exact ⟨g5, g6, ⟨rfl, rfl, by simp⟩, N5', F, n5, n6, Bb⟩
    · skip
      have N5 := LVar.new V 0 0 0
      have b := below_new V (.cells #[.int .i64 0, .int .i64 0, .int .i64 0] 31)
      refine Node.wp_new 31 (.agg #[.int .i64 0, .int .i64 0, .int .i64 0]) #[.int .i64 0, .int .i64 0, .int .i64 0] (by kernel_rfl) rfl (by rfl) ?_
      have n5 := Bb.size
      replace Bb := below_step Bb b
      replace L0 := L0.later b
      replace C0 := C0.later b
      replace hT0 := hT0.below b
      try replace SY := SY.later b
      try replace hp := hp.later b
      try (have n56 := lt_of_at N6; replace N6 := below_at b N6 n56)
      clear b
      generalize V.heap.size = g5 at *
      generalize V.alloc (.cells #[.int .i64 0, .int .i64 0, .int .i64 0] 31) = V at *
      try replace n56 := Nat.ne_of_lt n56
      refine hK.out _ _ ⟨L0, C0⟩ (fun _ => ?_)
      clear hK K
      try simp only [zA, zS, zZ, Act.put, zP, zQ, zR]
      refine Node.on 6 rfl (fun K hK => ?_)
      refine Node.wp_fn 11 [.tmp 120, .tmp 121, .tmp 125] _ [lkv (s, q, e), .int .u8 kd, .slice Ay y.length cy] (by rfl) (by rfl) (enters Tryd.func11 (by kernel_rfl) rfl) (Hear_v (s, q, e) kd (.slice Ay y.length cy) y V _ HR.out hT0 SY LY0.out) ?_
      rintro e' V' ⟨A3, c3, rfl, b, hp, hq⟩
      refine ⟨_, rfl, ?_⟩
      try replace n6q := fun q hb => Ne.symm (Nat.ne_of_lt (Nat.lt_of_lt_of_le (lt_of_at N6) (hq q hb)))
      replace Bb := below_step Bb b
      replace L0 := L0.later b
      replace C0 := C0.later b
      replace hT0 := hT0.below b
      try replace N5 := N5.later b
      try replace N6 := below_at b N6 (lt_of_at N6)
      clear b hq SY
      generalize V' = V at *
      refine hK.out _ _ ⟨L0, C0⟩ (fun _ => ?_)
      clear hK K
      try simp only [zA, zS, zZ, Act.put, zP, zQ, zR]
      refine Node.tk 7 ?_ rfl ?_ ?_
      rotate_left
      · intro w hSw; (try dsimp only at hSw); go_simp; try with_reducible rfl
      simp only [zA, zS, zZ, Act.put, zP, zQ, zR]
      refine Node.tk 8 ?_ rfl ?_ ?_
      rotate_left
      · intro w hSw; (try dsimp only at hSw); go_simp; try with_reducible rfl
      simp only [zA, zS, zZ, Act.put, zP, zQ, zR]
      refine Node.tk 9 ?_ rfl ?_ ?_
      rotate_left
      · intro w hSw; (try dsimp only at hSw); go_simp; try with_reducible rfl
      simp only [zA, zS, zZ, Act.put, zP, zQ, zR]
      refine Node.tk 10 ?_ rfl ?_ ?_
      rotate_left
      · intro w hSw; (try dsimp only at hSw); go_simp; try with_reducible rfl
      simp only [zA, zS, zZ, Act.put, zP, zQ, zR]
      refine Node.on 13 rfl (fun K hK => ?_)
      refine wp_st_lk N5 rfl rfl rfl rfl ?_
      have hn5 := lt_of_at N5.at_
      have k5 := hL5 g5 n5
      replace L0 := L0.far3 (g' := g5) k5 s' q' e'
      replace N6 := frame_far3 N6 (g' := g5) n56 s' q' e'
      replace C0 := slice_far C0 (hC5 g5 n5) (.int .i64 s') (.int .i64 q') (.int .i64 e')
      have N5' := N5.set3 s' q' e'
      replace Bb := ((Bb.setCell (p := ⟨g5, 0, none⟩) n5 (.int .i64 s')).setCell (p := ⟨g5, 1, none⟩) n5 (.int .i64 q')).setCell (p := ⟨g5, 2, none⟩) n5 (.int .i64 e')
      replace hp := bytes_far hp N5 (.int .i64 s') (.int .i64 q') (.int .i64 e')
      clear N5 hT0 hn5 k5
      generalize ((V.setCell ⟨g5, 0, none⟩ (.int .i64 s')).setCell ⟨g5, 1, none⟩ (.int .i64 q')).setCell ⟨g5, 2, none⟩ (.int .i64 e') = V at *
      refine hK.out _ _ ⟨L0, C0⟩ (fun _ => ?_)
      clear hK K
      try simp only [zA, zS, zZ, Act.put, zP, zQ, zR]
      refine Node.on 14 rfl (fun K hK => ?_)
      refine wp_st_fr N6 rfl rfl rfl rfl ?_
      have F := FV.put3 (f := f) N6 hp n6q
      have k6 := hL5 g6 n6
      replace L0 := L0.at_
      replace L0 : LVar (((V.setCell ⟨g6, 0, none⟩ (.int .u8 (f.1.toNat : Int))).setCell ⟨g6, 1, none⟩ (.int .u8 (f.2.1.toNat : Int))).setCell ⟨g6, 2, none⟩ (.slice A3 f.2.2.length c3)) ga s q e := ⟨frame_far3' L0 k6 _ _ _⟩
      replace C0 := slice_far C0 (hC5 g6 n6) (.int .u8 (f.1.toNat : Int)) (.int .u8 (f.2.1.toNat : Int)) (.slice A3 f.2.2.length c3)
      replace N5' : LVar (((V.setCell ⟨g6, 0, none⟩ (.int .u8 (f.1.toNat : Int))).setCell ⟨g6, 1, none⟩ (.int .u8 (f.2.1.toNat : Int))).setCell ⟨g6, 2, none⟩ (.slice A3 f.2.2.length c3)) g5 s' q' e' := ⟨frame_far3' N5'.at_ (Ne.symm n56) _ _ _⟩
      replace Bb := ((Bb.setCell (p := ⟨g6, 0, none⟩) n6 (.int .u8 (f.1.toNat : Int))).setCell (p := ⟨g6, 1, none⟩) n6 (.int .u8 (f.2.1.toNat : Int))).setCell (p := ⟨g6, 2, none⟩) n6 (.slice A3 f.2.2.length c3)
      clear N6 hp n6q k6
      generalize ((V.setCell ⟨g6, 0, none⟩ (.int .u8 (f.1.toNat : Int))).setCell ⟨g6, 1, none⟩ (.int .u8 (f.2.1.toNat : Int))).setCell ⟨g6, 2, none⟩ (.slice A3 f.2.2.length c3) = V at *
      refine hK.out _ _ ⟨L0, C0⟩ (fun _ => ?_)
      clear hK K
      try simp only [zA, zS, zZ, Act.put, zP, zQ, zR]
      refine Node.tk 15 ?_ rfl ?_ ?_
      rotate_left
      · intro w hSw; (try dsimp only at hSw); go_simp; try with_reducible rfl
      simp only [zA, zS, zZ, Act.put, zP, zQ, zR]
      refine wpAnyH_done (by kernel_rfl) ?_ _
      exact ⟨g5, g6, ⟨rfl, rfl, by simp⟩, N5', F, n5, n6, Bb⟩

/-- What was just accepted is refused. -/
theorem hear_again {kd : Int} {y : List (BitVec 8)} {x : Lst} (h : rightL x.1 x.2.1 x.2.2 = true) (he : (hearV kd y x).2.1 = 0) : ∃ z, hearV kd y (hearV kd y x).1 = (z, 290, noF) := by
  obtain ⟨h1, h2, _, h4⟩ := hear_yes h he
  have hr := hear_right (kd := kd) (y := y) h
  rw [h4] at hr ⊢
  have hn : newer ((takeV y).2.1.toNat : Int) ((takeV y).2.1.toNat : Int) = false := by unfold newer; simp
  refine ⟨((((takeV y).2.1.toNat : Int), 0, onV x.2.2 1 65535)), ?_⟩
  simp only at hr ⊢
  unfold hearV
  simp only
  rw [if_neg (by rw [hr]; decide), if_neg (by simp [h1]), if_neg (by simp [h2]), if_pos ⟨by omega, hn⟩]
end Go.Proofs.YtlanlkpamnoekaaDoor
namespace Go.Proofs.YtlanlkpamnoekaaDoor.Lk
open Go Go.Conc Go.RowKit Rf Mem Bv Crc Str
set_option maxRecDepth 100000
section
variable {T : Frame → List Frame → World → Prop} {b : Frame} {fs : List Frame} {k : List Item}
/-- The loop, alone. -/
theorem loopO_wins (Af : Option Addr) (cf n : Nat) (kd : Int) (g3 : Nat) (w1 : World) (us : List Value) (xs : List (List (BitVec 8))) (hn : us.length = n) (hn60 : n ≤ 60) (hle : ∀ y ∈ xs, y.length ≤ 200) (hT1 : Tops w1) (hs1 : SliceAt w1 1 (.slice Af n cf) n us) (hE1 : ElsW w1 us xs) (h3 : w1.heap.size ≤ g3)
    (hk : ∀ a w, Sl a 134 [(1, .int .u8 kd), (2, .slice Af n cf), (3, .pointer (some ⟨g3, 0, none⟩)), (6, .bool false)] → Below w1.heap.size w1 w → Wins Tryd.prog T (b.at a k) fs w) :
    ∀ (d i : Nat) (a : Act) (w : World) (z : Lst), i + d = n → Sl a 134 [(1, .int .u8 kd), (2, .slice Af n cf), (3, .pointer (some ⟨g3, 0, none⟩)), (6, .bool false), (7, .int .i64 (i : Nat))] → rightL z.1 z.2.1 z.2.2 = true → LVar w g3 z.1 z.2.1 z.2.2 → Below w1.heap.size w1 w → Wins Tryd.prog T (b.at a (.code loopO :: .inLoop loopO :: .inBlock 0 :: k)) fs w := by
  intro d
  induction d with
  | zero =>
    intro i a w z hi hS hz hL hB
    obtain rfl : i = n := by omega
    rw [loopO_eq]
    refine Wins.seq (Wins.seq (Wins.wp (lo4 a Af cf i kd g3 i _ rfl hS w) fun a1 W1 ⟨t1, e1⟩ => ?_))
    subst e1
    have e28 : a1.tmps[28]? = some (.bool (decide ((i : Int) < (i : Int)))) := t1.get (by simp)
    refine Wins.cond false (by simp [Act.eval, e28]) (Lk.Wins.exit (by rfl) ?_)
    exact hk a1 W1 (t1.sub (by simp)) hB
  | succ d ih =>
    intro i a w z hi hS hz hL hB
    have hlt : i < n := by omega
    rw [loopO_eq]
    refine Wins.seq (Wins.seq (Wins.wp (lo4 a Af cf n kd g3 i _ rfl hS w) fun a1 W1 ⟨t1, e1⟩ => ?_))
    subst e1
    have e28 : a1.tmps[28]? = some (.bool (decide ((i : Int) < (n : Int)))) := t1.get (by simp)
    refine Wins.cond true (by simp [Act.eval, e28]; omega) (Wins.skip (Wins.seq (Wins.block ?_)))
    rw [← loopO_eq, cO_eq]
    have hxn : xs.length = n := by rw [← hE1.len]; exact hn
    obtain ⟨y, hy⟩ : ∃ y, xs[i]? = some y := ⟨_, List.getElem?_eq_getElem (by omega)⟩
    obtain ⟨Ay, cy, hu, sy⟩ := hE1.at_ i y hy
    have hly : y.length ≤ 200 := hle y (List.mem_of_getElem? hy)
    obtain ⟨bA, oA, cf', e1, _⟩ := hs1.pos (by omega)
    obtain ⟨rfl, _, rfl⟩ := Value.slice.inj e1
    obtain ⟨⟨⟨s', q', e'⟩, er, f⟩, hr⟩ : ∃ r : Lst × Int × Frm, r = hearV kd y z := ⟨_, rfl⟩
    have hrr : (hearV kd y z).2.1 = er := by rw [← hr]
    have hr1 : (hearV kd y z).1 = (s', q', e') := by rw [← hr]
    have hr2 : (hearV kd y z).2.2 = f := by rw [← hr]
    have hright : rightL s' q' e' = true := by have := hear_right (kd := kd) (y := y) hz; rw [hr1] at this; exact this
    refine Wins.seq (Wins.wp (lo6 a1 bA oA cf n kd g3 i z.1 z.2.1 z.2.2 er s' q' e' f y us Ay cy hr hlt hu (by omega) (t1.sub (by simp)) W1 (hT1.below hB) hL (hs1.later hB) (sy.later hB)) fun a2 W2 ⟨ga, gb, t2, la, fb, na, nb, b2⟩ => ?_)
    have B2 := hB.trans (b2.mono hB.size)
    have L2 := hL.later b2
    refine Wins.seq (Wins.seq (Wins.wp (lo7 a2 (some ⟨bA, oA, none⟩) cf n kd g3 ga gb i er s' q' e' hright t2 W2 (hT1.below B2) la) fun a3 W3 ⟨t3, b3⟩ => ?_))
    have B3 := B2.trans (b3.mono B2.size)
    have e44 : a3.tmps[44]? = some (.bool false) := t3.get (by simp)
    refine Wins.cond false (by simp [Act.eval, e44]) (Wins.skip ?_)
    refine Wins.seq (Wins.seq (Wins.wp (lo9 a3 (some ⟨bA, oA, none⟩) cf n kd g3 ga gb i er _ rfl (t3.sub (by simp)) W3) fun a4 W4 ⟨t4, e4⟩ => ?_))
    subst e4
    have e46 : a4.tmps[46]? = some (.bool (er != 0)) := t4.get (by simp)
    have L3 := L2.later b3
    have la3 := la.later b3
    have fb3 := fb.later b3
    have hzb := right_e hz
    by_cases h0 : er = 0
    · have ht : (er != 0) = false := by rw [h0]; rfl
      rw [ht] at e46
      refine Wins.cond false (by simp [Act.eval, e46]) (Wins.skip ?_)
      rw [c15_eq]
      obtain ⟨tk1, tk2, tk3, tk4⟩ := hear_yes hz (by rw [hrr]; exact h0)
      have hsq := hr1
      rw [tk4] at hsq
      simp only [Prod.mk.injEq] at hsq
      obtain ⟨rfl, rfl, rfl⟩ := hsq
      have hff := hr2
      rw [tk4] at hff
      simp only at hff
      subst hff
      subst tk2
      refine Wins.seq (Wins.wp (lo15 a4 bA oA cf n ((takeV y).1.toNat : Int) g3 ga gb i er ((takeV y).1, (takeV y).2.1, (takeV y).2.2.1) y us Ay cy (by rw [← tk1]) hlt hu hly (t4.sub (by simp)) W4 (hs1.later B3) (sy.later B3)) fun a5 W5 ⟨g12, t5, f12, b5⟩ => ?_)
      have B5 := B3.trans (b5.mono B3.size)
      refine Wins.seq (Wins.seq (Wins.wp (lo16 a5 (some ⟨bA, oA, none⟩) cf n g3 ga gb g12 i er z.1 z.2.1 z.2.2 ((takeV y).1, (takeV y).2.1, (takeV y).2.2.1) ⟨hzb.2.2.2.2.1, hzb.2.2.2.2.2⟩ tk3 t5 W5 (L3.later b5) (la3.later b5) (fb3.later b5) f12) fun a6 W6 ⟨t6, b6⟩ => ?_))
      have e118 : a6.tmps[118]? = some (.bool false) := t6.get (by simp)
      refine Wins.cond false (by simp [Act.eval, e118]) (Wins.skip ?_)
      have B6 := B5.trans (b6.mono B5.size)
      have la6 := (la3.later b5).later b6
      obtain ⟨⟨s2, q2, e2⟩, hag⟩ := hear_again hz (by rw [hrr]; exact h0)
      rw [hr1] at hag
      refine Wins.seq (Wins.wp (lo18 a6 bA oA cf n ((takeV y).1.toNat : Int) g3 ga gb g12 i er _ _ _ 290 s2 q2 e2 noF y us Ay cy hag.symm hlt hu (by omega) (t6.sub (by simp)) W6 (hT1.below B6) la6 (hs1.later B6) (sy.later B6)) fun a7 W7 ⟨g14, g15, t7, _, _, _, _, b7⟩ => ?_)
      have B7 := B6.trans (b7.mono B6.size)
      refine Wins.seq (Wins.seq (Wins.wp (lo19 a7 (some ⟨bA, oA, none⟩) cf n ((takeV y).1.toNat : Int) g3 ga gb g12 g14 g15 i er t7 W7) fun a8 W8 ⟨t8, e8⟩ => ?_))
      subst e8
      have e131 : a8.tmps[131]? = some (.bool false) := t8.get (by simp)
      refine Wins.cond false (by simp [Act.eval, e131]) (Wins.skip ?_)
      refine Wins.wp (lo21 a8 (some ⟨bA, oA, none⟩) cf n ((takeV y).1.toNat : Int) g3 g12 ga gb i er z.1 z.2.1 z.2.2 _ _ _ w1.heap.size h3 w1 (t8.sub (by simp)) W8 B7 (((L3.later b5).later b6).later b7) (la6.later b7)) fun a9 W9 ⟨t9, l9, b9⟩ => ?_
      refine Wins.inBlock (Wins.wp (lo5 a9 (some ⟨bA, oA, none⟩) cf n ((takeV y).1.toNat : Int) g3 i (by omega) t9 W9) fun a10 W10 ⟨t10, e10⟩ => ?_)
      subst e10
      exact Wins.inLoop (ih (i + 1) a10 W10 (_, _, _) (by omega) t10 hright l9 b9)
    · have ht : (er != 0) = true := by simp [h0]
      rw [ht] at e46
      refine Wins.cond true (by simp [Act.eval, e46]) ?_
      rw [c10_eq]
      obtain ⟨hno, hnf⟩ := hear_no hz (by rw [hrr]; exact h0)
      rw [hr1] at hno
      rw [hr2] at hnf
      subst hnf
      rw [onV_one ⟨hzb.1, hzb.2.1⟩] at hno
      simp only [Prod.mk.injEq] at hno
      obtain ⟨rfl, rfl, he'⟩ := hno
      refine Wins.seq (Wins.wp (lo10 a4 (some ⟨bA, oA, none⟩) cf n kd g3 ga gb i er z.1 z.2.1 z.2.2 (t4.sub (by simp)) W4 L3) fun a5 W5 ⟨g11, t5, l11, n11, b5⟩ => ?_)
      have B5 := B3.trans (b5.mono B3.size)
      refine Wins.seq (Wins.wp (lo11 a5 (some ⟨bA, oA, none⟩) cf n kd g3 ga gb g11 i er z.1 z.2.1 z.2.2 e' ⟨hzb.1, hzb.2.1⟩ he' W4.heap.size n11 W4 t5 W5 b5 (L3.later b5) l11) fun a6 W6 ⟨t6, l6, b6⟩ => ?_)
      have B6 := B3.trans (b6.mono B3.size)
      refine Wins.seq (Wins.seq (Wins.wp (lo12 a6 (some ⟨bA, oA, none⟩) cf n kd g3 ga gb g11 i er z.1 z.2.1 e' t6 W6 (la3.later b6) l6 (fb3.later b6)) fun a7 W7 ⟨t7, b7⟩ => ?_))
      have B7 := B6.trans (b7.mono B6.size)
      have e61 : a7.tmps[61]? = some (.bool false) := t7.get (by simp)
      refine Wins.cond false (by simp [Act.eval, e61]) (Wins.skip ?_)
      refine Wins.seq (Wins.wp (lo14 a7 (some ⟨bA, oA, none⟩) cf n kd g3 g11 ga gb i er z.1 z.2.1 z.2.2 z.1 z.2.1 e' w1.heap.size h3 w1 t7 W7 B7 ((L3.later b6).later b7) ((la3.later b6).later b7)) fun a8 W8 ⟨t8, l8, b8⟩ => ?_)
      refine Lk.Wins.exit (by rfl) (Wins.wp (lo5 a8 (some ⟨bA, oA, none⟩) cf n kd g3 i (by omega) t8 W8) fun a9 W9 ⟨t9, e9⟩ => ?_)
      subst e9
      exact Wins.inLoop (ih (i + 1) a9 W9 (z.1, z.2.1, e') (by omega) t9 hright l8 b8)
end

theorem enterO (s q e : Int) (kd : Int) (Af : Option Addr) (cf n : Nat) : Frame.enter Tryd.prog 4 #[lk s q e, .int .u8 kd, .slice Af n cf] .normal = (base 4).at ⟨#[lk s q e, .int .u8 kd, .slice Af n cf] ++ Array.replicate 131 undef, []⟩ [.code bodyO] := by
  rw [enter_at (c := bodyO) _ Tryd.func4 rfl, Tryd.ntmps4]
  rfl
/-- LinkOnce comes to wakes, alone. -/
theorem once_wins (s q e : Int) (kd : Int) (Af : Option Addr) (cf n : Nat) (us : List Value) (xs : List (List (BitVec 8))) (hn : us.length = n) (G : World) (hT : Tops G) (hs : SliceAt G 1 (.slice Af n cf) n us) (hE : ElsW G us xs) :
    Wins Tryd.prog (AtWakes 4 6 G) (Frame.enter Tryd.prog 4 #[lk s q e, .int .u8 kd, .slice Af n cf] .normal) [] G := by
  rw [enterO, bodyO_eq]
  refine Wins.seq (Wins.wp (lo0 _ Af cf n kd s q e ⟨rfl, by simp, by simp⟩ G) fun a0 W0 ⟨g3, t0, l0, n0, b0⟩ => ?_)
  have hT0 := hT.below b0
  refine Wins.seq ?_
  rw [rgO1_eq]
  refine Wins.seq (Wins.wp (lo1 a0 Af cf n kd g3 s q e us xs hn t0 W0 (hs.later b0) (hE.later b0) l0) fun a1 W1 ⟨t, t1, ht, b1⟩ => ?_)
  have B1 := below_step b0 b1
  have hT1 := hT.below B1
  have e23 : a1.tmps[23]? = some (.bool t) := t1.get (by simp)
  refine Wins.cond t (by simp [Act.eval, e23]) ?_
  cases t with
  | true =>
    refine Wins.seq (Wins.region ?_)
    rw [sizeO2]
    obtain ⟨o, ho, hg, hop⟩ : ∃ o, opsO2[0]? = some o ∧ o.guard = none ∧ o.op = .call { callee := .value (.func 10), args := #[], argTypes := #[] } := ⟨_, rfl, rfl, rfl⟩
    refine wins_wakes ho (wanted_none hg) hop (AtWakes.mk ?_ hT1 B1)
    obtain ⟨o2, ho2, hop2, hd2, hg2⟩ : ∃ o, opsO2[1]? = some o ∧ o.op = .assign (.tmp 24) ∧ o.dst = some 6 ∧ o.guard = none := ⟨_, rfl, rfl, rfl, rfl⟩
    exact cont_two rfl ho2 hop2 hd2 hg2 t1.defers (by rw [t1.size]; omega) (by rw [t1.size]; omega)
  | false =>
    obtain ⟨hn60, hle, hright⟩ := ht rfl
    refine Wins.skip (Wins.seq ?_)
    rw [rgO2_eq]
    refine Wins.seq (Wins.wp (lo3 a1 Af cf n kd g3 (t1.sub (by simp)) W1) fun a2 W2 ⟨t2, e2⟩ => ?_)
    subst e2
    refine Wins.block (Wins.loop ?_)
    refine loopO_wins Af cf n kd g3 G us xs hn hn60 hle hT hs hE n0 ?_ n 0 a2 W2 (s, q, e) (by omega) (t2.sub (by simp)) hright (l0.later b1) B1
    intro a3 W3 t3 B3
    refine Wins.seq ?_
    rw [rgO3_eq]
    refine Wins.region ?_
    rw [sizeO22]
    obtain ⟨o, ho, hg, hop⟩ : ∃ o, opsO22[0]? = some o ∧ o.guard = none ∧ o.op = .call { callee := .value (.func 10), args := #[], argTypes := #[] } := ⟨_, rfl, rfl, rfl⟩
    refine wins_wakes ho (wanted_none hg) hop (AtWakes.mk ?_ (hT.below B3) B3)
    obtain ⟨o2, ho2, hop2, hd2, hg2⟩ : ∃ o, opsO22[1]? = some o ∧ o.op = .assign (.tmp 133) ∧ o.dst = some 6 ∧ o.guard = none := ⟨_, rfl, rfl, rfl, rfl⟩
    exact cont_two rfl ho2 hop2 hd2 hg2 t3.defers (by rw [t3.size]; omega) (by rw [t3.size]; omega)

/-- ████ LinkOnce in company. ████ -/
theorem once_runs (s q e : Int) (kd : Int) (Af : Option Addr) (cf n : Nat) (us : List Value) (xs : List (List (BitVec 8))) (hn : us.length = n) (A : World) (hT : Tops A) (hs : SliceAt A 1 (.slice Af n cf) n us) (hE : ElsW A us xs) (m : Machine) (t : Trace) (h : St (QL Tryd.prog) (Frame.enter Tryd.prog 4 #[lk s q e, .int .u8 kd, .slice Af n cf] .normal) [] A m t) :
    Run Tryd.prog m t (To (QL Tryd.prog) fun f' cs' A' => cs' = [] ∧ DoneF 4 6 f' ∧ Below A.heap.size A A') := by
  refine wakes_run (NF.enter (fit (fun _ => False)).nice (by decide) _) (fun τ d => ?_) h
  have su : Sees A (re (scrub (Zset (fun _ => False) A) A) τ d) := ⟨(Sees.down A).size, (Sees.down A).cell, (Sees.down A).block⟩
  exact (once_wins s q e kd Af cf n us xs hn _ (su.tops hT) (su.sl hs) (hE.see su)).mono fun _ _ _ h => h.blind
end Go.Proofs.YtlanlkpamnoekaaDoor.Lk
namespace Go.Proofs.YtlanlkpamnoekaaDoor
open Go.RowKit Rf Mem Go.ChangeAt
theorem tops_of_laid {W : World} (h : laidMetH Tryd.prog [("lockbar/tick.tops", Rows.laid_lockbar_tick_tops)] W) : Tops W := by
  have hg : Tryd.prog.globalNamed "lockbar/tick.tops" = some 0 := by kernel_rfl
  have t : Lib.TabIs Tryd.prog W "lockbar/tick.tops" .i64 [1073741824, 65535] := Lib.tabIs_of_head (rest := []) hg (t := 116) (by kernel_rfl) Tryd.underlying116 Tryd.underlying3 (by kernel_rfl) (by kernel_rfl) h
  have c0 := t.cell hg 0 (by decide)
  refine ⟨c0, t.cell hg 1 (by decide), ?_⟩
  unfold World.cell? at c0
  cases ho : W.heap[0]? with
  | none => simp [ho] at c0
  | some o => exact (Array.getElem?_eq_some_iff.1 ho).1
theorem byte_of {n : Int} (h : (Lit.int .u8 n).wf = true) : ∃ b : BitVec 8, n = (b.toNat : Int) := by
  have := bounds_u8 h
  exact ⟨BitVec.ofNat 8 n.toNat, by rw [BitVec.toNat_ofNat, Nat.mod_eq_of_lt (by omega)]; omega⟩
end Go.Proofs.YtlanlkpamnoekaaDoor
