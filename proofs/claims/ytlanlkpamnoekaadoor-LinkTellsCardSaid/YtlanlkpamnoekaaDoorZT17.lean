/- Link, in company. Nothing that was there is turned. -/
import Derived.Test.YtlanlkpamnoekaaDoorZT16
import Derived.Test.YtlanlkpamnoekaaDoorZT15
import Derived.Test.YtlanlkpamnoekaaDoorZT13
import Derived.Test.YtlanlkpamnoekaaDoorZT09
import Derived.Lib.LaidTab
import Derived.OpenShut
set_option linter.unusedSimpArgs false
set_option linter.unusedVariables false
namespace Go.Proofs.YtlanlkpamnoekaaDoor
open List renaming getElem_toArray → zA, getElem_cons_succ → zS, getElem_cons_zero → zZ, setIfInBounds_toArray → zP, set_cons_zero → zQ, set_cons_succ → zR
open Go Go.RowKit Rf Mem Bv Crc Str Lk Bits
set_option maxRecDepth 100000
attribute [local go_sem ↓] run_max2 run_min2
/-- What is held in the last region. -/
structure WT (w : World) (g6 g7 g10 g20 g22 g24 g26 : Nat) (y : Nat → Value) (tl s q e os oq oe : Int) (a b c d pa pb pc pd : U32) : Prop where
  y6 : LY w g6 y tl
  l7 : LVar w g7 s q e
  i10 : IVar w g10 a b c d
  l20 : LVar w g20 os oq oe
  l22 : LVar w g22 os oq oe
  i24 : IVar w g24 pa pb pc pd
  i26 : IVar w g26 pa pb pc pd
  t : Tops w
theorem WT.later {w W : World} {g6 g7 g10 g20 g22 g24 g26 : Nat} {y : Nat → Value} {tl s q e os oq oe : Int} {a b c d pa pb pc pd : U32} (h : WT w g6 g7 g10 g20 g22 g24 g26 y tl s q e os oq oe a b c d pa pb pc pd) (bb : Below w.heap.size w W) : WT W g6 g7 g10 g20 g22 g24 g26 y tl s q e os oq oe a b c d pa pb pc pd := ⟨h.y6.later bb, h.l7.later bb, h.i10.later bb, h.l20.later bb, h.l22.later bb, h.i24.later bb, h.i26.later bb, h.t.below bb⟩
def lst61 (n : Nat) : Array Bool := ((List.range 61).map fun i => decide (i < n)).toArray
set_option maxHeartbeats 8000000 in
theorem t14_6 (q0 : Act) (Af : Option Addr) (cf n : Nat) (kd : Int) (Ay : Option Addr) (cy m : Nat) (g6 g7 g10 : Nat) (Ar : Option Addr) (cr mr g20 : Nat) (As : Option Addr) (cs g22 g24 g26 : Nat) (er : Int) (y : Nat → Value) (tl s q e os oq oe : Int) (a b c d pa pb pc pd : U32) (w0 : World) (hS : Sl q0 166 [(2, .int .u8 kd), (3, .slice Af n cf), (5, .slice Ay m cy), (6, .pointer (some ⟨g6, 0, none⟩)), (7, .pointer (some ⟨g7, 0, none⟩)), (10, .pointer (some ⟨g10, 0, none⟩)), (12, .bool false), (20, .pointer (some ⟨g20, 0, none⟩)), (21, .slice Ar mr cr), (22, .pointer (some ⟨g22, 0, none⟩)), (23, .slice As mr cs), (24, .pointer (some ⟨g24, 0, none⟩)), (25, .int .i64 er), (26, .pointer (some ⟨g26, 0, none⟩)), (27, .int .i64 er), (153, .bool true)]) (listed : Array Bool) (hl : listed = lst61 48) (V : World) (Bb : Below w0.heap.size w0 V) (H : WT V g6 g7 g10 g20 g22 g24 g26 y tl s q e os oq oe a b c d pa pb pc pd) : wpAnyH Tryd.prog .any (swap opsT14 58) (nrm fun a' w' => Sl a' 166 [(163, .bool true)] ∧ Below w0.heap.size w0 w') (fun w' => WT w' g6 g7 g10 g20 g22 g24 g26 y tl s q e os oq oe a b c d pa pb pc pd) 13 listed q0 V := by
  subst hl
  obtain ⟨j, rfl, hj⟩ := hS.lit166
  have h2 : j 2 = .int .u8 kd := hj (2, _) (by simp)
  have h3 : j 3 = .slice Af n cf := hj (3, _) (by simp)
  have h5 : j 5 = .slice Ay m cy := hj (5, _) (by simp)
  have h6 : j 6 = .pointer (some ⟨g6, 0, none⟩) := hj (6, _) (by simp)
  have h7 : j 7 = .pointer (some ⟨g7, 0, none⟩) := hj (7, _) (by simp)
  have h10 : j 10 = .pointer (some ⟨g10, 0, none⟩) := hj (10, _) (by simp)
  have h12 : j 12 = .bool false := hj (12, _) (by simp)
  have h20 : j 20 = .pointer (some ⟨g20, 0, none⟩) := hj (20, _) (by simp)
  have h21 : j 21 = .slice Ar mr cr := hj (21, _) (by simp)
  have h22 : j 22 = .pointer (some ⟨g22, 0, none⟩) := hj (22, _) (by simp)
  have h23 : j 23 = .slice As mr cs := hj (23, _) (by simp)
  have h24 : j 24 = .pointer (some ⟨g24, 0, none⟩) := hj (24, _) (by simp)
  have h25 : j 25 = .int .i64 er := hj (25, _) (by simp)
  have h26 : j 26 = .pointer (some ⟨g26, 0, none⟩) := hj (26, _) (by simp)
  have h27 : j 27 = .int .i64 er := hj (27, _) (by simp)
  have h153 : j 153 = .bool true := hj (153, _) (by simp)
  clear hj hS
  unfold opsT14 rgT bodyT
  simp only [Tryd.f3, Option.getD_some, nthSeq, cfst, csnd, cyes, copsOf, lit166, List.cons_append, List.nil_append, h2, h3, h5, h6, h7, h10, h12, h20, h21, h22, h23, h24, h25, h26, h27, h153]
  simp only [swap, List.take_succ_cons, List.take_zero, List.drop_succ_cons, List.drop_zero, List.map_cons, List.map_nil, hush, List.cons_append, List.nil_append]
  have hHeld := H
  refine Node.tk 48 (inv pa pb pc pd) rfl (fun _ hSw => run_inv hSw.i24 rfl rfl) ?_
  simp only [zA, zS, zZ, Act.put, zP, zQ, zR]
  refine Node.tk 49 (inv pa pb pc pd) rfl (fun _ hSw => run_inv hSw.i26 rfl rfl) ?_
  simp only [zA, zS, zZ, Act.put, zP, zQ, zR]
  refine Node.tk 50 ?_ rfl ?_ ?_
  rotate_left
  · intro w hSw; (try dsimp only at hSw); go_simp; try with_reducible rfl
  simp only [zA, zS, zZ, Act.put, zP, zQ, zR]
  refine Node.tk 51 ?_ rfl ?_ ?_
  rotate_left
  · intro w hSw; (try dsimp only at hSw); go_simp; try with_reducible rfl
  simp only [zA, zS, zZ, Act.put, zP, zQ, zR]
  refine Node.tk 52 ?_ rfl ?_ ?_
  rotate_left
  · intro w hSw; (try dsimp only at hSw); go_simp; try with_reducible rfl
  simp only [zA, zS, zZ, Act.put, zP, zQ, zR]
  refine Node.tk 53 ?_ rfl ?_ ?_
  rotate_left
  · intro w hSw; (try dsimp only at hSw); go_simp; try with_reducible rfl
  simp only [zA, zS, zZ, Act.put, zP, zQ, zR]
  refine Node.tk 54 ?_ rfl ?_ ?_
  rotate_left
  · intro w hSw; (try dsimp only at hSw); go_simp; try with_reducible rfl
  simp only [zA, zS, zZ, Act.put, zP, zQ, zR]
  refine Node.tk 55 ?_ rfl ?_ ?_
  rotate_left
  · intro w hSw; (try dsimp only at hSw); go_simp; try with_reducible rfl
  simp only [zA, zS, zZ, Act.put, zP, zQ, zR]
  refine Node.tk 56 ?_ rfl ?_ ?_
  rotate_left
  · intro w hSw; (try dsimp only at hSw); go_simp; try with_reducible rfl
  simp only [zA, zS, zZ, Act.put, zP, zQ, zR]
  refine Node.tk 57 ?_ rfl ?_ ?_
  rotate_left
  · intro w hSw; (try dsimp only at hSw); go_simp; try with_reducible rfl
  simp only [zA, zS, zZ, Act.put, zP, zQ, zR]
  refine Node.tk 58 ?_ rfl ?_ ?_
  rotate_left
  · intro w hSw; (try dsimp only at hSw); go_simp; try with_reducible rfl
  simp only [zA, zS, zZ, Act.put, zP, zQ, zR]
  refine Node.tk 59 ?_ rfl ?_ ?_
  rotate_left
  · intro w hSw; (try dsimp only at hSw); go_simp; try with_reducible rfl
  simp only [zA, zS, zZ, Act.put, zP, zQ, zR]
  refine Node.tk 60 ?_ rfl ?_ ?_
  rotate_left
  · intro w hSw; (try dsimp only at hSw); go_simp; try with_reducible rfl
  simp only [zA, zS, zZ, Act.put, zP, zQ, zR]
  refine wpAnyH_done (by kernel_rfl) ?_ _
  exact ⟨⟨rfl, rfl, by simp⟩, Bb⟩
set_option maxHeartbeats 8000000 in
theorem t14_5 (q0 : Act) (Af : Option Addr) (cf n : Nat) (kd : Int) (Ay : Option Addr) (cy m : Nat) (g6 g7 g10 : Nat) (Ar : Option Addr) (cr mr g20 : Nat) (As : Option Addr) (cs g22 g24 g26 : Nat) (er : Int) (y : Nat → Value) (tl s q e os oq oe : Int) (a b c d pa pb pc pd : U32) (w0 : World) (hS : Sl q0 166 [(2, .int .u8 kd), (3, .slice Af n cf), (5, .slice Ay m cy), (6, .pointer (some ⟨g6, 0, none⟩)), (7, .pointer (some ⟨g7, 0, none⟩)), (10, .pointer (some ⟨g10, 0, none⟩)), (12, .bool false), (20, .pointer (some ⟨g20, 0, none⟩)), (21, .slice Ar mr cr), (22, .pointer (some ⟨g22, 0, none⟩)), (23, .slice As mr cs), (24, .pointer (some ⟨g24, 0, none⟩)), (25, .int .i64 er), (26, .pointer (some ⟨g26, 0, none⟩)), (27, .int .i64 er), (144, .bool true)]) (listed : Array Bool) (hl : listed = lst61 39) (V : World) (Bb : Below w0.heap.size w0 V) (H : WT V g6 g7 g10 g20 g22 g24 g26 y tl s q e os oq oe a b c d pa pb pc pd) : wpAnyH Tryd.prog .any (swap opsT14 58) (nrm fun a' w' => Sl a' 166 [(163, .bool true)] ∧ Below w0.heap.size w0 w') (fun w' => WT w' g6 g7 g10 g20 g22 g24 g26 y tl s q e os oq oe a b c d pa pb pc pd) 22 listed q0 V := by
  subst hl
  obtain ⟨j, rfl, hj⟩ := hS.lit166
  have h2 : j 2 = .int .u8 kd := hj (2, _) (by simp)
  have h3 : j 3 = .slice Af n cf := hj (3, _) (by simp)
  have h5 : j 5 = .slice Ay m cy := hj (5, _) (by simp)
  have h6 : j 6 = .pointer (some ⟨g6, 0, none⟩) := hj (6, _) (by simp)
  have h7 : j 7 = .pointer (some ⟨g7, 0, none⟩) := hj (7, _) (by simp)
  have h10 : j 10 = .pointer (some ⟨g10, 0, none⟩) := hj (10, _) (by simp)
  have h12 : j 12 = .bool false := hj (12, _) (by simp)
  have h20 : j 20 = .pointer (some ⟨g20, 0, none⟩) := hj (20, _) (by simp)
  have h21 : j 21 = .slice Ar mr cr := hj (21, _) (by simp)
  have h22 : j 22 = .pointer (some ⟨g22, 0, none⟩) := hj (22, _) (by simp)
  have h23 : j 23 = .slice As mr cs := hj (23, _) (by simp)
  have h24 : j 24 = .pointer (some ⟨g24, 0, none⟩) := hj (24, _) (by simp)
  have h25 : j 25 = .int .i64 er := hj (25, _) (by simp)
  have h26 : j 26 = .pointer (some ⟨g26, 0, none⟩) := hj (26, _) (by simp)
  have h27 : j 27 = .int .i64 er := hj (27, _) (by simp)
  have h144 : j 144 = .bool true := hj (144, _) (by simp)
  clear hj hS
  unfold opsT14 rgT bodyT
  simp only [Tryd.f3, Option.getD_some, nthSeq, cfst, csnd, cyes, copsOf, lit166, List.cons_append, List.nil_append, h2, h3, h5, h6, h7, h10, h12, h20, h21, h22, h23, h24, h25, h26, h27, h144]
  simp only [swap, List.take_succ_cons, List.take_zero, List.drop_succ_cons, List.drop_zero, List.map_cons, List.map_nil, hush, List.cons_append, List.nil_append]
  have hHeld := H
  refine Node.tk 39 (inv a b c d) rfl (fun _ hSw => run_inv hSw.i10 rfl rfl) ?_
  simp only [zA, zS, zZ, Act.put, zP, zQ, zR]
  refine Node.tk 42 (inv a b c d) rfl (fun _ hSw => run_inv hSw.i10 rfl rfl) ?_
  simp only [zA, zS, zZ, Act.put, zP, zQ, zR]
  refine Node.on 40 rfl (fun K hK => ?_)
  refine Node.wp_fn 27 [.tmp 145] _ [inv a b c d] (by rfl) (by rfl) (enters Tryd.func27 (by kernel_rfl) rfl) (PutIn_c a b c d V) ?_
  rintro e' V' ⟨bb, A1, k1, X1, rfl, s1, h1H⟩
  refine ⟨_, rfl, ?_⟩
  replace H := H.later bb
  replace Bb := below_step Bb bb
  try replace s2 := s2.later bb
  try (obtain rfl := holds_unique h1H h2H)
  clear bb
  generalize V' = V at *
  refine hK.out _ _ H (fun hHeld => ?_)
  clear hK K
  try simp only [zA, zS, zZ, Act.put, zP, zQ, zR]
  refine wpAnyH_ready (rs := [41, 43]) (by kernel_rfl) (by simp) ?_
  refine AllReadyH.cons rfl (fun K hK => ?_) (AllReadyH.cons rfl (fun K hK => ?_) AllReadyH.nil)
  · skip
    refine Node.wp_val _ (run_cv s1 rfl rfl) ?_
    refine hK.out _ _ H (fun hHeld => ?_)
    clear hK K
    try simp only [zA, zS, zZ, Act.put, zP, zQ, zR]
    refine Node.on 43 rfl (fun K hK => ?_)
    refine Node.wp_fn 28 [.tmp 148] _ [inv a b c d] (by rfl) (by rfl) (enters Tryd.func28 (by kernel_rfl) rfl) (r29PutIn_c a b c d V) ?_
    rintro e' V' ⟨bb, A2, k2, X2, rfl, s2, h2H⟩
    refine ⟨_, rfl, ?_⟩
    replace H := H.later bb
    replace Bb := below_step Bb bb
    try replace s1 := s1.later bb
    try (obtain rfl := holds_unique h1H h2H)
    clear bb
    generalize V' = V at *
    refine hK.out _ _ H (fun hHeld => ?_)
    clear hK K
    try simp only [zA, zS, zZ, Act.put, zP, zQ, zR]
    refine Node.on 44 rfl (fun K hK => ?_)
    refine Node.wp_val _ (run_cv s2 rfl rfl) ?_
    refine hK.out _ _ H (fun hHeld => ?_)
    clear hK K
    try simp only [zA, zS, zZ, Act.put, zP, zQ, zR]
    refine Node.tk 45 ?_ rfl ?_ ?_
    rotate_left
    · intro w hSw; (try dsimp only at hSw); go_simp; try with_reducible rfl
    simp only [zA, zS, zZ, Act.put, zP, zQ, zR]
    refine Node.tk 46 ?_ rfl ?_ ?_
    rotate_left
    · intro w hSw; (try dsimp only at hSw); go_simp; try with_reducible rfl
    simp only [zA, zS, zZ, Act.put, zP, zQ, zR]
    refine Node.tk 47 ?_ rfl ?_ ?_
    rotate_left
    · intro w hSw; (try dsimp only at hSw); go_simp; try with_reducible rfl
    simp only [zA, zS, zZ, Act.put, zP, zQ, zR]
    refine t14_6 _ Af cf n kd Ay cy m g6 g7 g10 Ar cr mr g20 As cs g22 g24 g26 er y tl s q e os oq oe a b c d pa pb pc pd w0 ⟨rfl, rfl, by simp⟩ _ (by kernel_rfl) V Bb H
  · skip
    refine Node.wp_fn 28 [.tmp 148] _ [inv a b c d] (by rfl) (by rfl) (enters Tryd.func28 (by kernel_rfl) rfl) (r29PutIn_c a b c d V) ?_
    rintro e' V' ⟨bb, A2, k2, X2, rfl, s2, h2H⟩
    refine ⟨_, rfl, ?_⟩
    replace H := H.later bb
    replace Bb := below_step Bb bb
    try replace s1 := s1.later bb
    try (obtain rfl := holds_unique h1H h2H)
    clear bb
    generalize V' = V at *
    refine hK.out _ _ H (fun hHeld => ?_)
    clear hK K
    try simp only [zA, zS, zZ, Act.put, zP, zQ, zR]
    refine wpAnyH_ready (rs := [41, 44]) (by kernel_rfl) (by simp) ?_
    refine AllReadyH.cons rfl (fun K hK => ?_) (AllReadyH.cons rfl (fun K hK => ?_) AllReadyH.nil)
    · skip
      refine Node.wp_val _ (run_cv s1 rfl rfl) ?_
      refine hK.out _ _ H (fun hHeld => ?_)
      clear hK K
      try simp only [zA, zS, zZ, Act.put, zP, zQ, zR]
      refine Node.on 44 rfl (fun K hK => ?_)
      refine Node.wp_val _ (run_cv s2 rfl rfl) ?_
      refine hK.out _ _ H (fun hHeld => ?_)
      clear hK K
      try simp only [zA, zS, zZ, Act.put, zP, zQ, zR]
      refine Node.tk 45 ?_ rfl ?_ ?_
      rotate_left
      · intro w hSw; (try dsimp only at hSw); go_simp; try with_reducible rfl
      simp only [zA, zS, zZ, Act.put, zP, zQ, zR]
      refine Node.tk 46 ?_ rfl ?_ ?_
      rotate_left
      · intro w hSw; (try dsimp only at hSw); go_simp; try with_reducible rfl
      simp only [zA, zS, zZ, Act.put, zP, zQ, zR]
      refine Node.tk 47 ?_ rfl ?_ ?_
      rotate_left
      · intro w hSw; (try dsimp only at hSw); go_simp; try with_reducible rfl
      simp only [zA, zS, zZ, Act.put, zP, zQ, zR]
      refine t14_6 _ Af cf n kd Ay cy m g6 g7 g10 Ar cr mr g20 As cs g22 g24 g26 er y tl s q e os oq oe a b c d pa pb pc pd w0 ⟨rfl, rfl, by simp⟩ _ (by kernel_rfl) V Bb H
    · skip
      refine Node.wp_val _ (run_cv s2 rfl rfl) ?_
      refine hK.out _ _ H (fun hHeld => ?_)
      clear hK K
      try simp only [zA, zS, zZ, Act.put, zP, zQ, zR]
      refine Node.on 41 rfl (fun K hK => ?_)
      refine Node.wp_val _ (run_cv s1 rfl rfl) ?_
      refine hK.out _ _ H (fun hHeld => ?_)
      clear hK K
      try simp only [zA, zS, zZ, Act.put, zP, zQ, zR]
      refine Node.tk 45 ?_ rfl ?_ ?_
      rotate_left
      · intro w hSw; (try dsimp only at hSw); go_simp; try with_reducible rfl
      simp only [zA, zS, zZ, Act.put, zP, zQ, zR]
      refine Node.tk 46 ?_ rfl ?_ ?_
      rotate_left
      · intro w hSw; (try dsimp only at hSw); go_simp; try with_reducible rfl
      simp only [zA, zS, zZ, Act.put, zP, zQ, zR]
      refine Node.tk 47 ?_ rfl ?_ ?_
      rotate_left
      · intro w hSw; (try dsimp only at hSw); go_simp; try with_reducible rfl
      simp only [zA, zS, zZ, Act.put, zP, zQ, zR]
      refine t14_6 _ Af cf n kd Ay cy m g6 g7 g10 Ar cr mr g20 As cs g22 g24 g26 er y tl s q e os oq oe a b c d pa pb pc pd w0 ⟨rfl, rfl, by simp⟩ _ (by kernel_rfl) V Bb H
set_option maxHeartbeats 8000000 in
theorem t14_4 (q0 : Act) (Af : Option Addr) (cf n : Nat) (kd : Int) (Ay : Option Addr) (cy m : Nat) (g6 g7 g10 : Nat) (Ar : Option Addr) (cr mr g20 : Nat) (As : Option Addr) (cs g22 g24 g26 : Nat) (er : Int) (y : Nat → Value) (tl s q e os oq oe : Int) (a b c d pa pb pc pd : U32) (w0 : World) (hS : Sl q0 166 [(2, .int .u8 kd), (3, .slice Af n cf), (5, .slice Ay m cy), (6, .pointer (some ⟨g6, 0, none⟩)), (7, .pointer (some ⟨g7, 0, none⟩)), (10, .pointer (some ⟨g10, 0, none⟩)), (12, .bool false), (20, .pointer (some ⟨g20, 0, none⟩)), (21, .slice Ar mr cr), (22, .pointer (some ⟨g22, 0, none⟩)), (23, .slice As mr cs), (24, .pointer (some ⟨g24, 0, none⟩)), (25, .int .i64 er), (26, .pointer (some ⟨g26, 0, none⟩)), (27, .int .i64 er), (135, .bool true)]) (listed : Array Bool) (hl : listed = lst61 30) (V : World) (Bb : Below w0.heap.size w0 V) (H : WT V g6 g7 g10 g20 g22 g24 g26 y tl s q e os oq oe a b c d pa pb pc pd) : wpAnyH Tryd.prog .any (swap opsT14 58) (nrm fun a' w' => Sl a' 166 [(163, .bool true)] ∧ Below w0.heap.size w0 w') (fun w' => WT w' g6 g7 g10 g20 g22 g24 g26 y tl s q e os oq oe a b c d pa pb pc pd) 31 listed q0 V := by
  subst hl
  obtain ⟨x', hx⟩ : ∃ x', x' = tickV tl (s, q, e) := ⟨_, rfl⟩
  have HX := Lib.hid hx
  clear hx
  obtain ⟨j, rfl, hj⟩ := hS.lit166
  have h2 : j 2 = .int .u8 kd := hj (2, _) (by simp)
  have h3 : j 3 = .slice Af n cf := hj (3, _) (by simp)
  have h5 : j 5 = .slice Ay m cy := hj (5, _) (by simp)
  have h6 : j 6 = .pointer (some ⟨g6, 0, none⟩) := hj (6, _) (by simp)
  have h7 : j 7 = .pointer (some ⟨g7, 0, none⟩) := hj (7, _) (by simp)
  have h10 : j 10 = .pointer (some ⟨g10, 0, none⟩) := hj (10, _) (by simp)
  have h12 : j 12 = .bool false := hj (12, _) (by simp)
  have h20 : j 20 = .pointer (some ⟨g20, 0, none⟩) := hj (20, _) (by simp)
  have h21 : j 21 = .slice Ar mr cr := hj (21, _) (by simp)
  have h22 : j 22 = .pointer (some ⟨g22, 0, none⟩) := hj (22, _) (by simp)
  have h23 : j 23 = .slice As mr cs := hj (23, _) (by simp)
  have h24 : j 24 = .pointer (some ⟨g24, 0, none⟩) := hj (24, _) (by simp)
  have h25 : j 25 = .int .i64 er := hj (25, _) (by simp)
  have h26 : j 26 = .pointer (some ⟨g26, 0, none⟩) := hj (26, _) (by simp)
  have h27 : j 27 = .int .i64 er := hj (27, _) (by simp)
  have h135 : j 135 = .bool true := hj (135, _) (by simp)
  clear hj hS
  unfold opsT14 rgT bodyT
  simp only [Tryd.f3, Option.getD_some, nthSeq, cfst, csnd, cyes, copsOf, lit166, List.cons_append, List.nil_append, h2, h3, h5, h6, h7, h10, h12, h20, h21, h22, h23, h24, h25, h26, h27, h135]
  simp only [swap, List.take_succ_cons, List.take_zero, List.drop_succ_cons, List.drop_zero, List.map_cons, List.map_nil, hush, List.cons_append, List.nil_append]
  have hHeld := H
  refine Node.tk 30 (ly y tl) rfl (fun _ hSw => run_ly hSw.y6 rfl rfl) ?_
  simp only [zA, zS, zZ, Act.put, zP, zQ, zR]
  refine Node.tk 31 (lk s q e) rfl (fun _ hSw => run_ld hSw.l7 rfl rfl) ?_
  simp only [zA, zS, zZ, Act.put, zP, zQ, zR]
  refine Node.tk 33 (ly y tl) rfl (fun _ hSw => run_ly hSw.y6 rfl rfl) ?_
  simp only [zA, zS, zZ, Act.put, zP, zQ, zR]
  refine Node.tk 34 (lk s q e) rfl (fun _ hSw => run_ld hSw.l7 rfl rfl) ?_
  simp only [zA, zS, zZ, Act.put, zP, zQ, zR]
  refine Node.on 32 rfl (fun K hK => ?_)
  refine Node.wp_fn 25 [.tmp 136, .tmp 137] _ [ly y tl, lkv (s, q, e)] (by rfl) (by rfl) (enters Tryd.func25 (by kernel_rfl) rfl) (Tick_c y tl (s, q, e) x' HX.out V H.t) ?_
  rintro e' V' ⟨rfl, bb⟩
  refine ⟨_, rfl, ?_⟩
  replace H := H.later bb
  replace Bb := below_step Bb bb
  clear bb
  generalize V' = V at *
  refine hK.out _ _ H (fun hHeld => ?_)
  clear hK K
  try simp only [zA, zS, zZ, Act.put, zP, zQ, zR]
  refine Node.on 35 rfl (fun K hK => ?_)
  refine Node.wp_fn 26 [.tmp 139, .tmp 140] _ [ly y tl, lkv (s, q, e)] (by rfl) (by rfl) (enters Tryd.func26 (by kernel_rfl) rfl) (r29Tick_c y tl (s, q, e) x' HX.out V) ?_
  rintro e' V' ⟨rfl, bb⟩
  refine ⟨_, rfl, ?_⟩
  replace H := H.later bb
  replace Bb := below_step Bb bb
  clear bb
  generalize V' = V at *
  refine hK.out _ _ H (fun hHeld => ?_)
  clear hK K
  try simp only [zA, zS, zZ, Act.put, zP, zQ, zR]
  refine Node.tk 36 ?_ rfl ?_ ?_
  rotate_left
  · intro w hSw; (try dsimp only at hSw); go_simp; try with_reducible rfl
  simp only [zA, zS, zZ, Act.put, zP, zQ, zR]
  refine Node.tk 37 ?_ rfl ?_ ?_
  rotate_left
  · intro w hSw; (try dsimp only at hSw); go_simp; try with_reducible rfl
  simp only [zA, zS, zZ, Act.put, zP, zQ, zR]
  refine Node.tk 38 ?_ rfl ?_ ?_
  rotate_left
  · intro w hSw; (try dsimp only at hSw); go_simp; try with_reducible rfl
  simp only [zA, zS, zZ, Act.put, zP, zQ, zR]
  refine t14_5 _ Af cf n kd Ay cy m g6 g7 g10 Ar cr mr g20 As cs g22 g24 g26 er y tl s q e os oq oe a b c d pa pb pc pd w0 ⟨rfl, rfl, by simp⟩ _ (by kernel_rfl) V Bb H
set_option maxHeartbeats 8000000 in
theorem t14_3 (q0 : Act) (Af : Option Addr) (cf n : Nat) (kd : Int) (Ay : Option Addr) (cy m : Nat) (g6 g7 g10 : Nat) (Ar : Option Addr) (cr mr g20 : Nat) (As : Option Addr) (cs g22 g24 g26 : Nat) (er : Int) (y : Nat → Value) (tl s q e os oq oe : Int) (a b c d pa pb pc pd : U32) (w0 : World) (hS : Sl q0 166 [(2, .int .u8 kd), (3, .slice Af n cf), (5, .slice Ay m cy), (6, .pointer (some ⟨g6, 0, none⟩)), (7, .pointer (some ⟨g7, 0, none⟩)), (10, .pointer (some ⟨g10, 0, none⟩)), (12, .bool false), (20, .pointer (some ⟨g20, 0, none⟩)), (21, .slice Ar mr cr), (22, .pointer (some ⟨g22, 0, none⟩)), (23, .slice As mr cs), (24, .pointer (some ⟨g24, 0, none⟩)), (25, .int .i64 er), (26, .pointer (some ⟨g26, 0, none⟩)), (27, .int .i64 er), (126, .bool true)]) (listed : Array Bool) (hl : listed = lst61 21) (V : World) (Bb : Below w0.heap.size w0 V) (H : WT V g6 g7 g10 g20 g22 g24 g26 y tl s q e os oq oe a b c d pa pb pc pd) : wpAnyH Tryd.prog .any (swap opsT14 58) (nrm fun a' w' => Sl a' 166 [(163, .bool true)] ∧ Below w0.heap.size w0 w') (fun w' => WT w' g6 g7 g10 g20 g22 g24 g26 y tl s q e os oq oe a b c d pa pb pc pd) 40 listed q0 V := by
  subst hl
  obtain ⟨r, hx⟩ : ∃ r, r = decide (tl < q) := ⟨_, rfl⟩
  have HX := Lib.hid hx
  clear hx
  obtain ⟨j, rfl, hj⟩ := hS.lit166
  have h2 : j 2 = .int .u8 kd := hj (2, _) (by simp)
  have h3 : j 3 = .slice Af n cf := hj (3, _) (by simp)
  have h5 : j 5 = .slice Ay m cy := hj (5, _) (by simp)
  have h6 : j 6 = .pointer (some ⟨g6, 0, none⟩) := hj (6, _) (by simp)
  have h7 : j 7 = .pointer (some ⟨g7, 0, none⟩) := hj (7, _) (by simp)
  have h10 : j 10 = .pointer (some ⟨g10, 0, none⟩) := hj (10, _) (by simp)
  have h12 : j 12 = .bool false := hj (12, _) (by simp)
  have h20 : j 20 = .pointer (some ⟨g20, 0, none⟩) := hj (20, _) (by simp)
  have h21 : j 21 = .slice Ar mr cr := hj (21, _) (by simp)
  have h22 : j 22 = .pointer (some ⟨g22, 0, none⟩) := hj (22, _) (by simp)
  have h23 : j 23 = .slice As mr cs := hj (23, _) (by simp)
  have h24 : j 24 = .pointer (some ⟨g24, 0, none⟩) := hj (24, _) (by simp)
  have h25 : j 25 = .int .i64 er := hj (25, _) (by simp)
  have h26 : j 26 = .pointer (some ⟨g26, 0, none⟩) := hj (26, _) (by simp)
  have h27 : j 27 = .int .i64 er := hj (27, _) (by simp)
  have h126 : j 126 = .bool true := hj (126, _) (by simp)
  clear hj hS
  unfold opsT14 rgT bodyT
  simp only [Tryd.f3, Option.getD_some, nthSeq, cfst, csnd, cyes, copsOf, lit166, List.cons_append, List.nil_append, h2, h3, h5, h6, h7, h10, h12, h20, h21, h22, h23, h24, h25, h26, h27, h126]
  simp only [swap, List.take_succ_cons, List.take_zero, List.drop_succ_cons, List.drop_zero, List.map_cons, List.map_nil, hush, List.cons_append, List.nil_append]
  have hHeld := H
  refine Node.tk 21 (ly y tl) rfl (fun _ hSw => run_ly hSw.y6 rfl rfl) ?_
  simp only [zA, zS, zZ, Act.put, zP, zQ, zR]
  refine Node.tk 22 (lk s q e) rfl (fun _ hSw => run_ld hSw.l7 rfl rfl) ?_
  simp only [zA, zS, zZ, Act.put, zP, zQ, zR]
  refine Node.tk 24 (ly y tl) rfl (fun _ hSw => run_ly hSw.y6 rfl rfl) ?_
  simp only [zA, zS, zZ, Act.put, zP, zQ, zR]
  refine Node.tk 25 (lk s q e) rfl (fun _ hSw => run_ld hSw.l7 rfl rfl) ?_
  simp only [zA, zS, zZ, Act.put, zP, zQ, zR]
  refine Node.on 23 rfl (fun K hK => ?_)
  refine Node.wp_fn 23 [.tmp 127, .tmp 128] _ [ly y tl, lk s q e] (by rfl) (by rfl) (enters Tryd.func23 (by kernel_rfl) rfl) (Dead_c y tl s q e r HX.out V) ?_
  rintro e' V' ⟨rfl, bb⟩
  refine ⟨_, rfl, ?_⟩
  replace H := H.later bb
  replace Bb := below_step Bb bb
  clear bb
  generalize V' = V at *
  refine hK.out _ _ H (fun hHeld => ?_)
  clear hK K
  try simp only [zA, zS, zZ, Act.put, zP, zQ, zR]
  refine Node.on 26 rfl (fun K hK => ?_)
  refine Node.wp_fn 24 [.tmp 130, .tmp 131] _ [ly y tl, lk s q e] (by rfl) (by rfl) (enters Tryd.func24 (by kernel_rfl) rfl) (r29Dead_c y tl s q e r HX.out V) ?_
  rintro e' V' ⟨rfl, bb⟩
  refine ⟨_, rfl, ?_⟩
  replace H := H.later bb
  replace Bb := below_step Bb bb
  clear bb
  generalize V' = V at *
  refine hK.out _ _ H (fun hHeld => ?_)
  clear hK K
  try simp only [zA, zS, zZ, Act.put, zP, zQ, zR]
  refine Node.tk 27 ?_ rfl ?_ ?_
  rotate_left
  · intro w hSw; (try dsimp only at hSw); go_simp; try with_reducible rfl
  simp only [zA, zS, zZ, Act.put, zP, zQ, zR]
  refine Node.tk 28 ?_ rfl ?_ ?_
  rotate_left
  · intro w hSw; (try dsimp only at hSw); go_simp; try with_reducible rfl
  simp only [zA, zS, zZ, Act.put, zP, zQ, zR]
  refine Node.tk 29 ?_ rfl ?_ ?_
  rotate_left
  · intro w hSw; (try dsimp only at hSw); go_simp; try with_reducible rfl
  simp only [zA, zS, zZ, Act.put, zP, zQ, zR]
  refine t14_4 _ Af cf n kd Ay cy m g6 g7 g10 Ar cr mr g20 As cs g22 g24 g26 er y tl s q e os oq oe a b c d pa pb pc pd w0 ⟨rfl, rfl, by simp⟩ _ (by kernel_rfl) V Bb H
set_option maxHeartbeats 8000000 in
theorem t14_2 (q0 : Act) (Af : Option Addr) (cf n : Nat) (kd : Int) (Ay : Option Addr) (cy m : Nat) (g6 g7 g10 : Nat) (Ar : Option Addr) (cr mr g20 : Nat) (As : Option Addr) (cs g22 g24 g26 : Nat) (er : Int) (y : Nat → Value) (tl s q e os oq oe : Int) (a b c d pa pb pc pd : U32) (w0 : World) (hS : Sl q0 166 [(2, .int .u8 kd), (3, .slice Af n cf), (5, .slice Ay m cy), (6, .pointer (some ⟨g6, 0, none⟩)), (7, .pointer (some ⟨g7, 0, none⟩)), (10, .pointer (some ⟨g10, 0, none⟩)), (12, .bool false), (20, .pointer (some ⟨g20, 0, none⟩)), (21, .slice Ar mr cr), (22, .pointer (some ⟨g22, 0, none⟩)), (23, .slice As mr cs), (24, .pointer (some ⟨g24, 0, none⟩)), (25, .int .i64 er), (26, .pointer (some ⟨g26, 0, none⟩)), (27, .int .i64 er), (119, .bool true)]) (listed : Array Bool) (hl : listed = lst61 14) (V : World) (Bb : Below w0.heap.size w0 V) (H : WT V g6 g7 g10 g20 g22 g24 g26 y tl s q e os oq oe a b c d pa pb pc pd) : wpAnyH Tryd.prog .any (swap opsT14 58) (nrm fun a' w' => Sl a' 166 [(163, .bool true)] ∧ Below w0.heap.size w0 w') (fun w' => WT w' g6 g7 g10 g20 g22 g24 g26 y tl s q e os oq oe a b c d pa pb pc pd) 47 listed q0 V := by
  subst hl
  obtain ⟨r, hx⟩ : ∃ r, r = rightL s q e := ⟨_, rfl⟩
  have HX := Lib.hid hx
  clear hx
  obtain ⟨j, rfl, hj⟩ := hS.lit166
  have h2 : j 2 = .int .u8 kd := hj (2, _) (by simp)
  have h3 : j 3 = .slice Af n cf := hj (3, _) (by simp)
  have h5 : j 5 = .slice Ay m cy := hj (5, _) (by simp)
  have h6 : j 6 = .pointer (some ⟨g6, 0, none⟩) := hj (6, _) (by simp)
  have h7 : j 7 = .pointer (some ⟨g7, 0, none⟩) := hj (7, _) (by simp)
  have h10 : j 10 = .pointer (some ⟨g10, 0, none⟩) := hj (10, _) (by simp)
  have h12 : j 12 = .bool false := hj (12, _) (by simp)
  have h20 : j 20 = .pointer (some ⟨g20, 0, none⟩) := hj (20, _) (by simp)
  have h21 : j 21 = .slice Ar mr cr := hj (21, _) (by simp)
  have h22 : j 22 = .pointer (some ⟨g22, 0, none⟩) := hj (22, _) (by simp)
  have h23 : j 23 = .slice As mr cs := hj (23, _) (by simp)
  have h24 : j 24 = .pointer (some ⟨g24, 0, none⟩) := hj (24, _) (by simp)
  have h25 : j 25 = .int .i64 er := hj (25, _) (by simp)
  have h26 : j 26 = .pointer (some ⟨g26, 0, none⟩) := hj (26, _) (by simp)
  have h27 : j 27 = .int .i64 er := hj (27, _) (by simp)
  have h119 : j 119 = .bool true := hj (119, _) (by simp)
  clear hj hS
  unfold opsT14 rgT bodyT
  simp only [Tryd.f3, Option.getD_some, nthSeq, cfst, csnd, cyes, copsOf, lit166, List.cons_append, List.nil_append, h2, h3, h5, h6, h7, h10, h12, h20, h21, h22, h23, h24, h25, h26, h27, h119]
  simp only [swap, List.take_succ_cons, List.take_zero, List.drop_succ_cons, List.drop_zero, List.map_cons, List.map_nil, hush, List.cons_append, List.nil_append]
  have hHeld := H
  refine Node.tk 14 (lk s q e) rfl (fun _ hSw => run_ld hSw.l7 rfl rfl) ?_
  simp only [zA, zS, zZ, Act.put, zP, zQ, zR]
  refine Node.tk 16 (lk s q e) rfl (fun _ hSw => run_ld hSw.l7 rfl rfl) ?_
  simp only [zA, zS, zZ, Act.put, zP, zQ, zR]
  refine Node.on 15 rfl (fun K hK => ?_)
  refine Node.wp_fn 21 [.tmp 120] _ [lk s q e] (by rfl) (by rfl) (enters Tryd.func21 (by kernel_rfl) rfl) (link_Right_c s q e V r HX.out H.t) ?_
  rintro e' V' ⟨rfl, bb⟩
  refine ⟨_, rfl, ?_⟩
  replace H := H.later bb
  replace Bb := below_step Bb bb
  clear bb
  generalize V' = V at *
  refine hK.out _ _ H (fun hHeld => ?_)
  clear hK K
  try simp only [zA, zS, zZ, Act.put, zP, zQ, zR]
  refine Node.on 17 rfl (fun K hK => ?_)
  refine Node.wp_fn 22 [.tmp 122] _ [lk s q e] (by rfl) (by rfl) (enters Tryd.func22 (by kernel_rfl) rfl) (r29Right_c s q e r HX.out V) ?_
  rintro e' V' ⟨rfl, bb⟩
  refine ⟨_, rfl, ?_⟩
  replace H := H.later bb
  replace Bb := below_step Bb bb
  clear bb
  generalize V' = V at *
  refine hK.out _ _ H (fun hHeld => ?_)
  clear hK K
  try simp only [zA, zS, zZ, Act.put, zP, zQ, zR]
  refine Node.tk 18 ?_ rfl ?_ ?_
  rotate_left
  · intro w hSw; (try dsimp only at hSw); go_simp; try with_reducible rfl
  simp only [zA, zS, zZ, Act.put, zP, zQ, zR]
  refine Node.tk 19 ?_ rfl ?_ ?_
  rotate_left
  · intro w hSw; (try dsimp only at hSw); go_simp; try with_reducible rfl
  simp only [zA, zS, zZ, Act.put, zP, zQ, zR]
  refine Node.tk 20 ?_ rfl ?_ ?_
  rotate_left
  · intro w hSw; (try dsimp only at hSw); go_simp; try with_reducible rfl
  simp only [zA, zS, zZ, Act.put, zP, zQ, zR]
  refine t14_3 _ Af cf n kd Ay cy m g6 g7 g10 Ar cr mr g20 As cs g22 g24 g26 er y tl s q e os oq oe a b c d pa pb pc pd w0 ⟨rfl, rfl, by simp⟩ _ (by kernel_rfl) V Bb H
set_option maxHeartbeats 8000000 in
theorem t14_1 (q0 : Act) (Af : Option Addr) (cf n : Nat) (kd : Int) (Ay : Option Addr) (cy m : Nat) (g6 g7 g10 : Nat) (Ar : Option Addr) (cr mr g20 : Nat) (As : Option Addr) (cs g22 g24 g26 : Nat) (er : Int) (y : Nat → Value) (tl s q e os oq oe : Int) (a b c d pa pb pc pd : U32) (w0 : World) (hS : Sl q0 166 [(2, .int .u8 kd), (3, .slice Af n cf), (5, .slice Ay m cy), (6, .pointer (some ⟨g6, 0, none⟩)), (7, .pointer (some ⟨g7, 0, none⟩)), (10, .pointer (some ⟨g10, 0, none⟩)), (12, .bool false), (20, .pointer (some ⟨g20, 0, none⟩)), (21, .slice Ar mr cr), (22, .pointer (some ⟨g22, 0, none⟩)), (23, .slice As mr cs), (24, .pointer (some ⟨g24, 0, none⟩)), (25, .int .i64 er), (26, .pointer (some ⟨g26, 0, none⟩)), (27, .int .i64 er), (114, .bool true)]) (listed : Array Bool) (hl : listed = lst61 9) (V : World) (Bb : Below w0.heap.size w0 V) (H : WT V g6 g7 g10 g20 g22 g24 g26 y tl s q e os oq oe a b c d pa pb pc pd) : wpAnyH Tryd.prog .any (swap opsT14 58) (nrm fun a' w' => Sl a' 166 [(163, .bool true)] ∧ Below w0.heap.size w0 w') (fun w' => WT w' g6 g7 g10 g20 g22 g24 g26 y tl s q e os oq oe a b c d pa pb pc pd) 52 listed q0 V := by
  subst hl
  obtain ⟨j, rfl, hj⟩ := hS.lit166
  have h2 : j 2 = .int .u8 kd := hj (2, _) (by simp)
  have h3 : j 3 = .slice Af n cf := hj (3, _) (by simp)
  have h5 : j 5 = .slice Ay m cy := hj (5, _) (by simp)
  have h6 : j 6 = .pointer (some ⟨g6, 0, none⟩) := hj (6, _) (by simp)
  have h7 : j 7 = .pointer (some ⟨g7, 0, none⟩) := hj (7, _) (by simp)
  have h10 : j 10 = .pointer (some ⟨g10, 0, none⟩) := hj (10, _) (by simp)
  have h12 : j 12 = .bool false := hj (12, _) (by simp)
  have h20 : j 20 = .pointer (some ⟨g20, 0, none⟩) := hj (20, _) (by simp)
  have h21 : j 21 = .slice Ar mr cr := hj (21, _) (by simp)
  have h22 : j 22 = .pointer (some ⟨g22, 0, none⟩) := hj (22, _) (by simp)
  have h23 : j 23 = .slice As mr cs := hj (23, _) (by simp)
  have h24 : j 24 = .pointer (some ⟨g24, 0, none⟩) := hj (24, _) (by simp)
  have h25 : j 25 = .int .i64 er := hj (25, _) (by simp)
  have h26 : j 26 = .pointer (some ⟨g26, 0, none⟩) := hj (26, _) (by simp)
  have h27 : j 27 = .int .i64 er := hj (27, _) (by simp)
  have h114 : j 114 = .bool true := hj (114, _) (by simp)
  clear hj hS
  unfold opsT14 rgT bodyT
  simp only [Tryd.f3, Option.getD_some, nthSeq, cfst, csnd, cyes, copsOf, lit166, List.cons_append, List.nil_append, h2, h3, h5, h6, h7, h10, h12, h20, h21, h22, h23, h24, h25, h26, h27, h114]
  simp only [swap, List.take_succ_cons, List.take_zero, List.drop_succ_cons, List.drop_zero, List.map_cons, List.map_nil, hush, List.cons_append, List.nil_append]
  have hHeld := H

  refine Node.on 9 rfl (fun K hK => ?_)
  refine Node.wp_fn 19 [] _ [] (by rfl) (by rfl) (enters Tryd.func19 (by kernel_rfl) rfl) (New_c V) ?_
  rintro e' V' ⟨rfl, bb⟩
  refine ⟨_, rfl, ?_⟩
  replace H := H.later bb
  replace Bb := below_step Bb bb
  clear bb
  generalize V' = V at *
  refine hK.out _ _ H (fun hHeld => ?_)
  clear hK K
  try simp only [zA, zS, zZ, Act.put, zP, zQ, zR]
  refine Node.on 10 rfl (fun K hK => ?_)
  refine Node.wp_fn 20 [] _ [] (by rfl) (by rfl) (enters Tryd.func20 (by kernel_rfl) rfl) (r29New_c V) ?_
  rintro e' V' ⟨rfl, bb⟩
  refine ⟨_, rfl, ?_⟩
  replace H := H.later bb
  replace Bb := below_step Bb bb
  clear bb
  generalize V' = V at *
  refine hK.out _ _ H (fun hHeld => ?_)
  clear hK K
  try simp only [zA, zS, zZ, Act.put, zP, zQ, zR]
  refine Node.tk 11 ?_ rfl ?_ ?_
  rotate_left
  · intro w hSw; (try dsimp only at hSw); go_simp; try with_reducible rfl
  simp only [zA, zS, zZ, Act.put, zP, zQ, zR]
  refine Node.tk 12 ?_ rfl ?_ ?_
  rotate_left
  · intro w hSw; (try dsimp only at hSw); go_simp; try with_reducible rfl
  simp only [zA, zS, zZ, Act.put, zP, zQ, zR]
  refine Node.tk 13 ?_ rfl ?_ ?_
  rotate_left
  · intro w hSw; (try dsimp only at hSw); go_simp; try with_reducible rfl
  simp only [zA, zS, zZ, Act.put, zP, zQ, zR]
  refine t14_2 _ Af cf n kd Ay cy m g6 g7 g10 Ar cr mr g20 As cs g22 g24 g26 er y tl s q e os oq oe a b c d pa pb pc pd w0 ⟨rfl, rfl, by simp⟩ _ (by kernel_rfl) V Bb H
set_option maxHeartbeats 8000000 in
theorem t14_0 (q0 : Act) (Af : Option Addr) (cf n : Nat) (kd : Int) (Ay : Option Addr) (cy m : Nat) (g6 g7 g10 : Nat) (Ar : Option Addr) (cr mr g20 : Nat) (As : Option Addr) (cs g22 g24 g26 : Nat) (er : Int) (y : Nat → Value) (tl s q e os oq oe : Int) (a b c d pa pb pc pd : U32) (w0 : World) (fl : List Frm) (hfl : fl.length ≤ 100) (hS : Sl q0 166 [(2, .int .u8 kd), (3, .slice Af n cf), (5, .slice Ay m cy), (6, .pointer (some ⟨g6, 0, none⟩)), (7, .pointer (some ⟨g7, 0, none⟩)), (10, .pointer (some ⟨g10, 0, none⟩)), (12, .bool false), (20, .pointer (some ⟨g20, 0, none⟩)), (21, .slice Ar mr cr), (22, .pointer (some ⟨g22, 0, none⟩)), (23, .slice As mr cs), (24, .pointer (some ⟨g24, 0, none⟩)), (25, .int .i64 er), (26, .pointer (some ⟨g26, 0, none⟩)), (27, .int .i64 er)]) (listed : Array Bool) (hl : listed = lst61 0) (V : World) (Bb : Below w0.heap.size w0 V) (H : WT V g6 g7 g10 g20 g22 g24 g26 y tl s q e os oq oe a b c d pa pb pc pd) (hf1 : FrsAt V (.slice Ar mr cr) fl) (hf2 : FrsAt V (.slice As mr cs) fl) : wpAnyH Tryd.prog .any (swap opsT14 58) (nrm fun a' w' => Sl a' 166 [(163, .bool true)] ∧ Below w0.heap.size w0 w') (fun w' => WT w' g6 g7 g10 g20 g22 g24 g26 y tl s q e os oq oe a b c d pa pb pc pd) 61 listed q0 V := by
  subst hl
  obtain ⟨j, rfl, hj⟩ := hS.lit166
  have h2 : j 2 = .int .u8 kd := hj (2, _) (by simp)
  have h3 : j 3 = .slice Af n cf := hj (3, _) (by simp)
  have h5 : j 5 = .slice Ay m cy := hj (5, _) (by simp)
  have h6 : j 6 = .pointer (some ⟨g6, 0, none⟩) := hj (6, _) (by simp)
  have h7 : j 7 = .pointer (some ⟨g7, 0, none⟩) := hj (7, _) (by simp)
  have h10 : j 10 = .pointer (some ⟨g10, 0, none⟩) := hj (10, _) (by simp)
  have h12 : j 12 = .bool false := hj (12, _) (by simp)
  have h20 : j 20 = .pointer (some ⟨g20, 0, none⟩) := hj (20, _) (by simp)
  have h21 : j 21 = .slice Ar mr cr := hj (21, _) (by simp)
  have h22 : j 22 = .pointer (some ⟨g22, 0, none⟩) := hj (22, _) (by simp)
  have h23 : j 23 = .slice As mr cs := hj (23, _) (by simp)
  have h24 : j 24 = .pointer (some ⟨g24, 0, none⟩) := hj (24, _) (by simp)
  have h25 : j 25 = .int .i64 er := hj (25, _) (by simp)
  have h26 : j 26 = .pointer (some ⟨g26, 0, none⟩) := hj (26, _) (by simp)
  have h27 : j 27 = .int .i64 er := hj (27, _) (by simp)
  clear hj hS
  unfold opsT14 rgT bodyT
  simp only [Tryd.f3, Option.getD_some, nthSeq, cfst, csnd, cyes, copsOf, lit166, List.cons_append, List.nil_append, h2, h3, h5, h6, h7, h10, h12, h20, h21, h22, h23, h24, h25, h26, h27]
  simp only [swap, List.take_succ_cons, List.take_zero, List.drop_succ_cons, List.drop_zero, List.map_cons, List.map_nil, hush, List.cons_append, List.nil_append]
  have hHeld := H
  refine Node.tk 0 (lk os oq oe) rfl (fun _ hSw => run_ld hSw.l20 rfl rfl) ?_
  simp only [zA, zS, zZ, Act.put, zP, zQ, zR]
  refine Node.tk 1 (lk os oq oe) rfl (fun _ hSw => run_ld hSw.l22 rfl rfl) ?_
  simp only [zA, zS, zZ, Act.put, zP, zQ, zR]
  refine Node.tk 2 ?_ rfl ?_ ?_
  rotate_left
  · intro w hSw; (try dsimp only at hSw); go_simp; try with_reducible rfl
  simp only [zA, zS, zZ, Act.put, zP, zQ, zR]
  refine Node.tk 3 ?_ rfl ?_ ?_
  rotate_left
  · intro w hSw; (try dsimp only at hSw); go_simp; try with_reducible rfl
  simp only [zA, zS, zZ, Act.put, zP, zQ, zR]
  refine Node.tk 4 ?_ rfl ?_ ?_
  rotate_left
  · intro w hSw; (try dsimp only at hSw); go_simp; try with_reducible rfl
  simp only [zA, zS, zZ, Act.put, zP, zQ, zR]
  refine Node.tk 5 ?_ rfl ?_ ?_
  rotate_left
  · intro w hSw; (try dsimp only at hSw); go_simp; try with_reducible rfl
  simp only [zA, zS, zZ, Act.put, zP, zQ, zR]
  refine Node.on 6 rfl (fun K hK => ?_)
  refine Node.wp_fn 18 [.tmp 110, .tmp 111] _ [.slice Ar mr cr, .slice As mr cs] (by rfl) (by rfl) (enters Tryd.func18 (by kernel_rfl) rfl) (r29Frames_c (.slice Ar mr cr) (.slice As mr cs) fl V hf1 hf2 hfl) ?_
  rintro e' V' ⟨rfl, bb⟩
  refine ⟨_, rfl, ?_⟩
  replace H := H.later bb
  replace Bb := below_step Bb bb
  clear bb
  generalize V' = V at *
  refine hK.out _ _ H (fun hHeld => ?_)
  clear hK K
  try simp only [zA, zS, zZ, Act.put, zP, zQ, zR]
  refine Node.tk 7 ?_ rfl ?_ ?_
  rotate_left
  · intro w hSw; (try dsimp only at hSw); go_simp; try with_reducible rfl
  simp only [zA, zS, zZ, Act.put, zP, zQ, zR]
  refine Node.tk 8 ?_ rfl ?_ ?_
  rotate_left
  · intro w hSw; (try dsimp only at hSw); go_simp; try with_reducible rfl
  simp only [zA, zS, zZ, Act.put, zP, zQ, zR]
  refine t14_1 _ Af cf n kd Ay cy m g6 g7 g10 Ar cr mr g20 As cs g22 g24 g26 er y tl s q e os oq oe a b c d pa pb pc pd w0 ⟨rfl, rfl, by simp⟩ _ (by kernel_rfl) V Bb H
end Go.Proofs.YtlanlkpamnoekaaDoor
namespace Go.Proofs.YtlanlkpamnoekaaDoor
open Go Go.RowKit Rf Mem Bv Crc Str Lk
set_option maxRecDepth 100000
attribute [local go_sem ↓] run_max2 run_min2
theorem la6R (a : Act) (Af : Option Addr) (cf n : Nat) (kd : Int) (g3 g6 : Nat) (rv : Value) (ga gb i : Nat) (er : Int) (s q e : Int) (s' q' e' : Int) (f : Frm) (A : Option Addr) (c : Nat) (fs : List Frm) (R B : Nat) (w0 : World) (hB : B ≤ g3) (h36 : g3 ≠ g6) (hbg : gb ≠ g3) (hS : Sl a 39 [(1, .int .u8 kd), (2, .slice Af n cf), (3, .pointer (some ⟨g3, 0, none⟩)), (6, .pointer (some ⟨g6, 0, none⟩)), (8, rv), (9, .int .i64 (i : Nat)), (10, .pointer (some ⟨ga, 0, none⟩)), (11, .pointer (some ⟨gb, 0, none⟩)), (12, .int .i64 er)]) (w : World) (b0 : Below B w0 w) (hL : LVar w g3 s q e) (hA : LVar w ga s' q' e') (hM : LVar w g6 0 0 0) (hR : RowR R rv fs w) (hF : w.heap[gb]? = some (.cells #[.int .u8 (f.1.toNat : Int), .int .u8 (f.2.1.toNat : Int), .slice A f.2.2.length c] 41 (0, 0))) (hp : SliceAt w 1 (.slice A f.2.2.length c) f.2.2.length (u8s f.2.2)) : rR6.wp Tryd.prog (nrm fun a' w' => Sl a' 39 [(1, .int .u8 kd), (2, .slice Af n cf), (3, .pointer (some ⟨g3, 0, none⟩)), (6, .pointer (some ⟨g6, 0, none⟩)), (8, rv), (9, .int .i64 (i : Nat)), (10, .pointer (some ⟨ga, 0, none⟩)), (11, .pointer (some ⟨gb, 0, none⟩)), (12, .int .i64 er)] ∧ LVar w' g3 s' q' e' ∧ LVar w' g6 0 0 0 ∧ RowR R rv fs w' ∧ w'.heap[gb]? = some (.cells #[.int .u8 (f.1.toNat : Int), .int .u8 (f.2.1.toNat : Int), .slice A f.2.2.length c] 41 (0, 0)) ∧ SliceAt w' 1 (.slice A f.2.2.length c) f.2.2.length (u8s f.2.2) ∧ Below B w0 w') a w := by
  obtain ⟨j, rfl, hj⟩ := hS.lit39
  have h1 : j 1 = .int .u8 kd := hj (1, _) (by simp)
  have h2 : j 2 = .slice Af n cf := hj (2, _) (by simp)
  have h3 : j 3 = .pointer (some ⟨g3, 0, none⟩) := hj (3, _) (by simp)
  have h6 : j 6 = .pointer (some ⟨g6, 0, none⟩) := hj (6, _) (by simp)
  have h8 : j 8 = rv := hj (8, _) (by simp)
  have h9 : j 9 = .int .i64 (i : Nat) := hj (9, _) (by simp)
  have h10 : j 10 = .pointer (some ⟨ga, 0, none⟩) := hj (10, _) (by simp)
  have h11 : j 11 = .pointer (some ⟨gb, 0, none⟩) := hj (11, _) (by simp)
  have h12 : j 12 = .int .i64 er := hj (12, _) (by simp)
  clear hj hS
  unfold rR6 cR loopR rgR bodyR
  simp only [Tryd.f15, Option.getD_some, nthSeq, cfst, csnd, cyes, copsOf, lit39, List.cons_append, List.nil_append, h1, h2, h3, h6, h8, h9, h10, h11, h12]
  have x0 := hA.c0
  have x1 := hA.c1
  have x2 := hA.c2
  have y0 := hL.c0
  have y1 := hL.c1
  have y2 := hL.c2
  have e0 := free_at hL.at_ 0
  have e1 := free_at hL.at_ 1
  have e2 := free_at hL.at_ 2
  have hk3 := set3_off w g3 (.int .i64 s') (.int .i64 q') (.int .i64 e')
  have L2 := hL.set3 s' q' e'
  have M2 := hM.far3 (g' := g3) (Ne.symm h36) s' q' e'
  have F2 := (hk3 _ hbg).trans hF
  have P2 := hp.beside (w' := ((w.setCell ⟨g3, 0, none⟩ (.int .i64 s')).setCell ⟨g3, 1, none⟩ (.int .i64 q')).setCell ⟨g3, 2, none⟩ (.int .i64 e')) hL (by simp) hk3
  have B2 := ((b0.setCell (p := ⟨g3, 0, none⟩) hB (.int .i64 s')).setCell (p := ⟨g3, 1, none⟩) hB (.int .i64 q')).setCell (p := ⟨g3, 2, none⟩) hB (.int .i64 e')
  have R2 : RowR R rv fs (((w.setCell ⟨g3, 0, none⟩ (.int .i64 s')).setCell ⟨g3, 1, none⟩ (.int .i64 q')).setCell ⟨g3, 2, none⟩ (.int .i64 e')) := by
    obtain ⟨xs, ho, hf⟩ := hR
    exact ⟨xs, own_later ho (fun g hg => hk3 g (fun e => hL.not_own ho (e ▸ hg))), hf.beside hL (by simp) hk3⟩
  have HL := Lib.hid L2
  have HM := Lib.hid M2
  have HF := Lib.hid F2
  have HP := Lib.hid P2
  have HB := Lib.hid B2
  have HR := Lib.hid R2
  clear hL hA hM hF hp b0 hR L2 M2 F2 P2 B2 R2 hk3
  go_wp2
  exact ⟨⟨rfl, rfl, by simp⟩, HL.out, HM.out, HR.out, HF.out, HP.out, HB.out⟩
set_option maxHeartbeats 2000000 in
theorem la8R (a : Act) (Af : Option Addr) (cf n : Nat) (kd : Int) (g3 g6 : Nat) (rv : Value) (ga gb i : Nat) (er : Int) (s q e : Int) (f : Frm) (A : Option Addr) (c : Nat) (fs : List Frm) (R B : Nat) (w0 w : World) (hBR : B ≤ R) (hRw : R ≤ w.heap.size) (hlen : fs.length ≤ 100) (hS : Sl a 39 [(1, .int .u8 kd), (2, .slice Af n cf), (3, .pointer (some ⟨g3, 0, none⟩)), (6, .pointer (some ⟨g6, 0, none⟩)), (8, rv), (9, .int .i64 (i : Nat)), (10, .pointer (some ⟨ga, 0, none⟩)), (11, .pointer (some ⟨gb, 0, none⟩)), (12, .int .i64 er)]) (b0 : Below B w0 w) (hL : LVar w g3 s q e) (hM : LVar w g6 0 0 0) (hR : RowR R rv fs w) (hF : w.heap[gb]? = some (.cells #[.int .u8 (f.1.toNat : Int), .int .u8 (f.2.1.toNat : Int), .slice A f.2.2.length c] 41 (0, 0))) (hp : SliceAt w 1 (.slice A f.2.2.length c) f.2.2.length (u8s f.2.2)) (hq : ∀ q, VB (.slice A f.2.2.length c) f.2.2.length q → rv.ownBlock ≠ some q) : rR8.wp Tryd.prog (nrm fun a' w' => ∃ rv', Sl a' 39 [(1, .int .u8 kd), (2, .slice Af n cf), (3, .pointer (some ⟨g3, 0, none⟩)), (6, .pointer (some ⟨g6, 0, none⟩)), (8, rv'), (9, .int .i64 (i : Nat))] ∧ LVar w' g3 s q e ∧ LVar w' g6 0 0 0 ∧ RowR R rv' (fs ++ [f]) w' ∧ Below B w0 w' ∧ w.heap.size ≤ w'.heap.size) a w := by
  obtain ⟨i0, hi, hz0, hz1, hz2⟩ := info_parts info_frm
  obtain ⟨xs, ho, hf⟩ := hR
  have n0 := cell_at hF 0
  have n1 := cell_at hF 1
  have n2 := cell_at hF 2
  generalize hm : (f.1.toNat : Int) = k0 at *
  generalize hm2 : (f.2.1.toNat : Int) = k1 at *
  have bN := below_new w (.cells #[.int .u8 k0, .int .u8 k1, .slice A f.2.2.length c] 41)
  have hown := own_later ho (fun g hg => bN.block g (own_base ho hg).2)
  have hfN := hf.later bN
  have hsN := hp.later bN
  have hsr : SliceAt (w.alloc (.cells #[.int .u8 k0, .int .u8 k1, .slice A f.2.2.length c] 41)) 3 (.slice (some ⟨w.heap.size, 0, none⟩) 1 1) 1 [.int .u8 k0, .int .u8 k1, .slice A f.2.2.length c] := ⟨_, _, rfl, Nat.le_refl _, by simp [maxLen], rfl, .inr ⟨_, _, rfl, by simp, fun i u hu => by rw [Nat.zero_add, cell_at (new_at rfl _)]; simpa using hu⟩⟩
  have VN := hL.later bN
  have QN := hM.later bN
  have hsz := b0.size
  have hal : (w.alloc (.cells #[.int .u8 k0, .int .u8 k1, .slice A f.2.2.length c] 41)).heap.size = w.heap.size + 1 := by simp
  have BN := b0.trans (bN.mono (by omega))
  have HG := Lib.hid hm
  have HG2 := Lib.hid hm2
  have HQN := Lib.hid hq
  have hbg : ∀ g, rv.ownBlock = some g → B ≤ g := fun g hg => by have := (own_base ho hg).1; omega
  have HBG := Lib.hid hbg
  clear hm hm2 hq hf hp hF b0 hL hM hbg ho
  obtain ⟨j, rfl, hj⟩ := hS.lit39
  have h1 : j 1 = .int .u8 kd := hj (1, _) (by simp)
  have h2 : j 2 = .slice Af n cf := hj (2, _) (by simp)
  have h3 : j 3 = .pointer (some ⟨g3, 0, none⟩) := hj (3, _) (by simp)
  have h6 : j 6 = .pointer (some ⟨g6, 0, none⟩) := hj (6, _) (by simp)
  have h8 : j 8 = rv := hj (8, _) (by simp)
  have h9 : j 9 = .int .i64 (i : Nat) := hj (9, _) (by simp)
  have h10 : j 10 = .pointer (some ⟨ga, 0, none⟩) := hj (10, _) (by simp)
  have h11 : j 11 = .pointer (some ⟨gb, 0, none⟩) := hj (11, _) (by simp)
  have h12 : j 12 = .int .i64 er := hj (12, _) (by simp)
  clear hj hS
  unfold rR8 cR loopR rgR bodyR
  simp only [Tryd.f15, Option.getD_some, nthSeq, cfst, csnd, cyes, copsOf, lit39, List.cons_append, List.nil_append, h1, h2, h3, h6, h8, h9, h10, h11, h12]
  go_wp2_with (at_builtin; refine wpList_append_src (by rfl) (.tmp 33) (.tmp 35) _ (by rfl) R 41 i0 _ 3 32 Tryd.underlying46 hi hz0 hz1 hz2 rfl (by omega) rv fs.length xs (by rfl) hown (.slice (some ⟨w.heap.size, 0, none⟩) 1 1) 1 [.int .u8 k0, .int .u8 k1, .slice A f.2.2.length c] (by rfl) hsr (by simp [Value.oneCell']) (by simp only [maxLen]; omega) (by omega) (by simp; omega) ?_; intro v1 w2 ho1 hg1 hw1)
  refine ⟨v1, ⟨rfl, rfl, by simp⟩, ⟨(hg1.block _ (lt_of_at VN.at_) (fun e => VN.not_own hown e.symm)).trans VN.at_⟩, ⟨(hg1.block _ (lt_of_at QN.at_) (fun e => QN.not_own hown e.symm)).trans QN.at_⟩, ⟨xs ++ [.int .u8 k0, .int .u8 k1, .slice A f.2.2.length c], by simpa using ho1, ?_⟩, below_own BN hg1 (by rw [hal]; omega) HBG.out, by have := hg1.size; omega⟩
  have := (hfN.snoc hsN HQN.out).grow hg1 hw1
  rw [HG.out, HG2.out] at this
  exact this
theorem la9R (a : Act) (Af : Option Addr) (cf n : Nat) (kd : Int) (g3 g6 : Nat) (rv : Value) (i : Nat) (s q e : Int) (fs : List Frm) (R B : Nat) (w0 : World) (hB : B ≤ g6) (hS : Sl a 39 [(1, .int .u8 kd), (2, .slice Af n cf), (3, .pointer (some ⟨g3, 0, none⟩)), (6, .pointer (some ⟨g6, 0, none⟩)), (8, rv), (9, .int .i64 (i : Nat))]) (w : World) (b0 : Below B w0 w) (hL : LVar w g3 s q e) (hM : LVar w g6 0 0 0) (hR : RowR R rv fs w) : (rgR 3).wp Tryd.prog (nrm fun a' w' => Sl a' 39 [(6, .pointer (some ⟨g6, 0, none⟩)), (7, rv)] ∧ LVar w' g6 s q e ∧ FrsAt w' rv fs ∧ Below B w0 w') a w := by
  obtain ⟨j, rfl, hj⟩ := hS.lit39
  have h1 : j 1 = .int .u8 kd := hj (1, _) (by simp)
  have h2 : j 2 = .slice Af n cf := hj (2, _) (by simp)
  have h3 : j 3 = .pointer (some ⟨g3, 0, none⟩) := hj (3, _) (by simp)
  have h6 : j 6 = .pointer (some ⟨g6, 0, none⟩) := hj (6, _) (by simp)
  have h8 : j 8 = rv := hj (8, _) (by simp)
  have h9 : j 9 = .int .i64 (i : Nat) := hj (9, _) (by simp)
  clear hj hS
  unfold rgR bodyR
  simp only [Tryd.f15, Option.getD_some, nthSeq, cfst, csnd, cyes, copsOf, lit39, List.cons_append, List.nil_append, h1, h2, h3, h6, h8, h9]
  have x0 := hL.c0
  have x1 := hL.c1
  have x2 := hL.c2
  have y0 := hM.c0
  have y1 := hM.c1
  have y2 := hM.c2
  have e0 := free_at hM.at_ 0
  have e1 := free_at hM.at_ 1
  have e2 := free_at hM.at_ 2
  have hk3 := set3_off w g6 (.int .i64 s) (.int .i64 q) (.int .i64 e)
  have M2 := hM.set3 s q e
  have B2 := ((b0.setCell (p := ⟨g6, 0, none⟩) hB (.int .i64 s)).setCell (p := ⟨g6, 1, none⟩) hB (.int .i64 q)).setCell (p := ⟨g6, 2, none⟩) hB (.int .i64 e)
  have R2 : FrsAt (((w.setCell ⟨g6, 0, none⟩ (.int .i64 s)).setCell ⟨g6, 1, none⟩ (.int .i64 q)).setCell ⟨g6, 2, none⟩ (.int .i64 e)) rv fs := by
    obtain ⟨xs, ho, hf⟩ := hR
    exact ⟨xs, sliceAt_of_own (own_later ho (fun g hg => hk3 g (fun e => hM.not_own ho (e ▸ hg)))), (hf.beside hM (by simp) hk3).any⟩
  have HM := Lib.hid M2
  have HB := Lib.hid B2
  have HR := Lib.hid R2
  clear hL hM b0 hR M2 B2 R2 hk3
  go_wp2
  exact ⟨⟨rfl, rfl, by simp⟩, HM.out, HR.out, HB.out⟩
end Go.Proofs.YtlanlkpamnoekaaDoor
namespace Go.Proofs.YtlanlkpamnoekaaDoor.Lk
open Go Go.Conc Go.RowKit Rf Mem Bv Crc Str
set_option maxRecDepth 100000
section
variable {T : Frame → List Frame → World → Prop} {b : Frame} {fs : List Frame} {k : List Item}
theorem loopR_wins (Af : Option Addr) (cf n : Nat) (kd : Int) (g3 g6 : Nat) (w1 w2 : World) (us : List Value) (xs : List (List (BitVec 8))) (hn : us.length = n) (hn60 : n ≤ 60) (hle : ∀ y ∈ xs, y.length ≤ 200) (hs1 : SliceAt w1 1 (.slice Af n cf) n us) (hE1 : ElsW w1 us xs) (h3 : w1.heap.size ≤ g3) (h6 : w1.heap.size ≤ g6) (h36 : g3 ≠ g6) (h12 : w1.heap.size ≤ w2.heap.size) (h32 : g3 < w2.heap.size) (x : Lst)
    (hk : ∀ a w rv, Sl a 39 [(1, .int .u8 kd), (2, .slice Af n cf), (3, .pointer (some ⟨g3, 0, none⟩)), (6, .pointer (some ⟨g6, 0, none⟩)), (8, rv), (9, .int .i64 (n : Nat))] → LVar w g3 (allV kd (x, []) xs).1.1 (allV kd (x, []) xs).1.2.1 (allV kd (x, []) xs).1.2.2 → LVar w g6 0 0 0 → RowR w2.heap.size rv (allV kd (x, []) xs).2 w → Below w1.heap.size w1 w → Wins Tryd.prog T (b.at a k) fs w) :
    ∀ (d i : Nat) (a : Act) (w : World) (z : Lst × List Frm) (rv : Value), i + d = n → Sl a 39 [(1, .int .u8 kd), (2, .slice Af n cf), (3, .pointer (some ⟨g3, 0, none⟩)), (6, .pointer (some ⟨g6, 0, none⟩)), (8, rv), (9, .int .i64 (i : Nat))] → z = allV kd (x, []) (xs.take i) → z.2.length ≤ i → LVar w g3 z.1.1 z.1.2.1 z.1.2.2 → LVar w g6 0 0 0 → RowR w2.heap.size rv z.2 w → Below w1.heap.size w1 w → w2.heap.size ≤ w.heap.size → Wins Tryd.prog T (b.at a (.code loopR :: .inLoop loopR :: .inBlock 0 :: k)) fs w := by
  have hxn : xs.length = n := by rw [← hE1.len]; exact hn
  intro d
  induction d with
  | zero =>
    intro i a w z rv hi hS hz hzl hL hM hR hB hw2
    obtain rfl : i = n := by omega
    rw [loopR_eq]
    refine Wins.seq (Wins.seq (Wins.wp (la3R a Af cf i kd g3 g6 rv i _ rfl hS w) fun a1 W1 ⟨t1, e1⟩ => ?_))
    subst e1
    have e16 : a1.tmps[16]? = some (.bool (decide ((i : Int) < (i : Int)))) := t1.get (by simp)
    refine Wins.cond false (by simp [Act.eval, e16]) (Lk.Wins.exit (by rfl) ?_)
    have hzn : z = allV kd (x, []) xs := by rw [hz, List.take_of_length_le (by omega)]
    rw [← hzn] at hk
    exact hk a1 W1 rv (t1.sub (by simp)) hL hM hR hB
  | succ d ih =>
    intro i a w z rv hi hS hz hzl hL hM hR hB hw2
    have hlt : i < n := by omega
    rw [loopR_eq]
    refine Wins.seq (Wins.seq (Wins.wp (la3R a Af cf n kd g3 g6 rv i _ rfl hS w) fun a1 W1 ⟨t1, e1⟩ => ?_))
    subst e1
    have e16 : a1.tmps[16]? = some (.bool (decide ((i : Int) < (n : Int)))) := t1.get (by simp)
    refine Wins.cond true (by simp [Act.eval, e16]; omega) (Wins.skip (Wins.seq (Wins.block ?_)))
    rw [← loopR_eq, cR_eq]
    obtain ⟨y, hy⟩ : ∃ y, xs[i]? = some y := ⟨_, List.getElem?_eq_getElem (by omega)⟩
    obtain ⟨Ay, cy, hu, sy⟩ := hE1.at_ i y hy
    have hly : y.length ≤ 200 := hle y (List.mem_of_getElem? hy)
    obtain ⟨bA, oA, cf', e1, _⟩ := hs1.pos (by omega)
    obtain ⟨rfl, _, rfl⟩ := Value.slice.inj e1
    obtain ⟨⟨⟨s', q', e'⟩, er, f⟩, hr⟩ : ∃ r : Lst × Int × Frm, r = hearV kd y z.1 := ⟨_, rfl⟩
    have hsnoc : allV kd (x, []) (xs.take (i + 1)) = ((s', q', e'), if er = 0 then z.2 ++ [f] else z.2) := by
      rw [allV_snoc hy, ← hz]
      unfold stepV
      rw [← hr]
    refine Wins.seq (Wins.wp (la5R a1 bA oA cf n kd g3 g6 rv i z.1.1 z.1.2.1 z.1.2.2 er s' q' e' f y us Ay cy hr hlt hu (by omega) (t1.sub (by simp)) W1 hL (hs1.later hB) (sy.later hB)) fun a2 W2 ⟨ga, gb, t2, la, ⟨A9, c9, fb, pb, qb⟩, na, nb, b2⟩ => ?_)
    have B2 := hB.trans (b2.mono hB.size)
    have n3 : g3 < W1.heap.size := lt_of_at hL.at_
    refine Wins.seq (Wins.wp (la6R a2 (some ⟨bA, oA, none⟩) cf n kd g3 g6 rv ga gb i er z.1.1 z.1.2.1 z.1.2.2 s' q' e' f A9 c9 z.2 w2.heap.size w1.heap.size w1 h3 h36 (by omega) t2 W2 B2 (hL.later b2) la (hM.later b2) (hR.later b2) fb pb) fun a3 W3 ⟨t3, l3, m3, r3, f3, p3, b3⟩ => ?_)
    refine Wins.seq (Wins.wp (la7R a3 (some ⟨bA, oA, none⟩) cf n kd g3 g6 rv ga gb i er _ rfl t3 W3) fun a4 W4 ⟨t4, e4⟩ => ?_)
    subst e4
    have e32 : a4.tmps[32]? = some (.bool (er == 0)) := t4.get (by simp)
    have hw4 : w2.heap.size ≤ W4.heap.size := by
      obtain ⟨xs', ho, _⟩ := r3
      have := f3
      have h5 := lt_of_at f3
      omega
    by_cases h0 : er = 0
    · have he : (er == 0) = true := by simp [h0]
      rw [he] at e32
      rw [if_pos h0] at hsnoc
      refine Wins.cond true (by simp [Act.eval, e32]) ?_
      refine Wins.wp (la8R a4 (some ⟨bA, oA, none⟩) cf n kd g3 g6 rv ga gb i er s' q' e' f A9 c9 z.2 w2.heap.size w1.heap.size w1 W4 h12 hw4 (by omega) (t4.sub (by simp)) b3 l3 m3 r3 f3 p3 (fun q hq e => by
        obtain ⟨xs', ho, _⟩ := hR
        have h7 := (own_base ho e).2
        have h8 := qb q hq
        omega)) fun a5 W5 ⟨rv', t5, l5, m5, r5, b5, z5⟩ => ?_
      refine Wins.inBlock (Wins.wp (la4R a5 (some ⟨bA, oA, none⟩) cf n kd g3 g6 rv' i (by omega) t5 W5) fun a6 W6 ⟨t6, e6⟩ => ?_)
      subst e6
      refine Wins.inLoop (ih (i + 1) a6 W6 ((s', q', e'), z.2 ++ [f]) rv' (by omega) t6 hsnoc.symm (by simp; omega) l5 m5 r5 b5 (Nat.le_trans hw4 z5))
    · have he : (er == 0) = false := by simp [h0]
      rw [he] at e32
      rw [if_neg h0] at hsnoc
      refine Wins.cond false (by simp [Act.eval, e32]) (Wins.skip (Wins.inBlock (Wins.wp (la4R a4 (some ⟨bA, oA, none⟩) cf n kd g3 g6 rv i (by omega) (t4.sub (by simp)) W4) fun a6 W6 ⟨t6, e6⟩ => ?_)))
      subst e6
      exact Wins.inLoop (ih (i + 1) a6 W6 ((s', q', e'), z.2) rv (by omega) t6 hsnoc.symm (by simp only; omega) l3 m3 r3 b3 hw4)
end
theorem enterR (s q e : Int) (kd : Int) (Af : Option Addr) (cf n : Nat) : Frame.enter Tryd.prog 15 #[lk s q e, .int .u8 kd, .slice Af n cf] .normal = (base 15).at ⟨#[lk s q e, .int .u8 kd, .slice Af n cf] ++ Array.replicate 36 undef, []⟩ [.code bodyR] := by
  rw [enter_at (c := bodyR) _ Tryd.func15 rfl, Tryd.ntmps15]
  rfl
/-- ████ The document's All, from its call to its return, alone. ████ -/
theorem r29All_wins {T : Frame → List Frame → World → Prop} {c : Frame} {fs : List Frame} (s q e : Int) (kd : Int) (Af : Option Addr) (cf n : Nat) (us : List Value) (xs : List (List (BitVec 8))) (hn : us.length = n) (hn60 : n ≤ 60) (hle : ∀ y ∈ xs, y.length ≤ 200) (G : World) (hs : SliceAt G 1 (.slice Af n cf) n us) (hE : ElsW G us xs)
    (hk : ∀ rv W, FrsAt W rv (allV kd ((s, q, e), []) xs).2 → Below G.heap.size G W → Wins Tryd.prog T (c.finish (.tuple #[lkv (allV kd ((s, q, e), []) xs).1, rv])) fs W) : Wins Tryd.prog T (Frame.enter Tryd.prog 15 #[lk s q e, .int .u8 kd, .slice Af n cf] .normal) (c :: fs) G := by
  rw [enterR, bodyR_eq]
  refine Wins.seq (Wins.wp (la0R _ Af cf n kd s q e ⟨rfl, by simp, by simp⟩ G) fun a0 W0 ⟨g3, g6, t0, l0, m0, n3, n6, n36, b0⟩ => ?_)
  refine Wins.seq (Wins.wp (la1R a0 Af cf n kd g3 g6 t0 W0) fun a1 W1 ⟨t1, e1⟩ => ?_)
  subst e1
  refine Wins.seq ?_
  rw [rgR2_eq]
  refine Wins.seq (Wins.wp (la2R a1 Af cf n kd g3 g6 t1 W1) fun a2 W2 ⟨t2, e2⟩ => ?_)
  subst e2
  refine Wins.block (Wins.loop ?_)
  refine loopR_wins Af cf n kd g3 g6 G W2 us xs hn hn60 hle hs hE n3 n6 n36 b0.size (lt_of_at l0.at_) (s, q, e) ?_ n 0 a2 W2 ((s, q, e), []) (.slice none 0 0) (by omega) (t2.sub (by simp)) (by simp [allV]) (by simp) l0 m0 ⟨[], own_nil _ _ _ _, rfl⟩ b0 (Nat.le_refl _)
  intro a3 W3 rv t3 l3 m3 r3 b3
  refine Wins.seq (Wins.wp (la9R a3 Af cf n kd g3 g6 rv n _ _ _ _ W2.heap.size G.heap.size G n6 t3 W3 b3 l3 m3 r3) fun a4 W4 ⟨t4, m4, r4, b4⟩ => ?_)
  refine Wins.ret (Wins.leave (v := .tuple #[lkv (allV kd ((s, q, e), []) xs).1, rv]) ?_ (hk rv W4 r4 b4))
  refine ⟨rfl, t4.defers, rfl, _, Tryd.func15, ?_⟩
  have h1 : a4.tmps[6]?.getD undef = .pointer (some ⟨g6, 0, none⟩) := by rw [t4.get (i := 6) (v := .pointer (some ⟨g6, 0, none⟩)) (by simp)]; rfl
  have h2 : a4.tmps[7]?.getD undef = rv := by rw [t4.get (i := 7) (v := rv) (by simp)]; rfl
  simp [results, Tryd.f15, Frame.at, h1, h2, asAddr, load_lk m4.at_]
end Go.Proofs.YtlanlkpamnoekaaDoor.Lk
namespace Go.Proofs.YtlanlkpamnoekaaDoor.Lk
open Go Go.Conc Go.RowKit Rf Mem Bv Crc Str
set_option maxRecDepth 100000

/-- A law stands where it calls All. -/
def AtAll (x : Lst) (kd : Int) (lv : Value) (J : Frame → World → Prop) (G0 : World) (f : Frame) (fs : List Frame) (W : World) : Prop := ∃ fr, fs = [fr] ∧ f = Frame.enter Tryd.prog 14 #[lkv x, .int .u8 kd, lv] .normal ∧ J fr W ∧ Under G0.heap.size G0 W
structure Keeps (J : Frame → World → Prop) : Prop where
  see : ∀ fr W W', J fr W → Sees W W' → J fr W'
  later : ∀ fr W W', J fr W → Below W.heap.size W W' → J fr W'
section
variable {x : Lst} {kd : Int} {lv : Value} {J : Frame → World → Prop}
theorem aim_either (F : FuncId) (r : Nat) (G0 : World) (hJ : Keeps J) : Aim (fun f fs W => AtWakes F r G0 f fs W ∨ AtAll x kd lv J G0 f fs W) := by
  refine ⟨fun f fs W τ d h => ?_, fun f fs w h ch hm => ?_⟩
  · rcases h with h | ⟨fr, h1, h2, h3, h4⟩
    · exact .inl ((aim_wakes F r G0).re _ _ _ τ d h)
    · exact .inr ⟨fr, h1, h2, hJ.see _ _ _ h3 (Sees.heap rfl), h4.re τ d⟩
  · rcases h with h | ⟨fr, h1, h2, h3, h4⟩
    · exact (aim_wakes F r G0).calm _ _ _ h ch hm
    · rw [h2] at hm
      simp [Frame.enter] at hm
theorem AtAll.blind {G : World} {τ : Tape} {d : Nat} {f : Frame} {fs : List Frame} {W : World} (h : AtAll x kd lv J (re G τ d) f fs W) : AtAll x kd lv J G f fs W := by
  obtain ⟨fr, h1, h2, h3, h5⟩ := h
  exact ⟨fr, h1, h2, h3, ⟨h5.os, h5.output, h5.size, h5.block⟩⟩
theorem sees_re (A : World) (τ : Tape) (d : Nat) : Sees A (re (scrub (Zset (fun _ => False) A) A) τ d) := ⟨(Sees.down A).size, (Sees.down A).cell, (Sees.down A).block⟩

/-- ████ To All, behind it to wakes, to the end. ████ -/
theorem all_then {F : FuncId} {r : Nat} {f : Frame} {A : World} {m : Machine} {t : Trace} {vs : List Value} {xs : List (List (BitVec 8))} (hJ : Keeps J) (hJa : ∀ fr W, J fr W → Tops W ∧ SliceAt W 1 lv vs.length vs ∧ Els W vs xs ∧ vs.length ≤ 100000) (hf : NF Tryd.prog f)
    (hw : ∀ W, Sees A W → Wins Tryd.prog (fun f fs W' => AtWakes F r W f fs W' ∨ AtAll x kd lv J W f fs W') f [] W)
    (hrest : ∀ fr W rv, J fr W → FrsAt W rv (allV kd (x, []) xs).2 → Wins Tryd.prog (AtWakes F r W) (fr.finish (.tuple #[lkv (allV kd (x, []) xs).1, rv])) [] W)
    (h : St (QL Tryd.prog) f [] A m t) : Run Tryd.prog m t (To (QL Tryd.prog) fun f' cs' A' => cs' = [] ∧ DoneF F r f' ∧ Below A.heap.size A A') := by
  refine (lone_run0 (bad := 14) (cs := []) (fun Z => fit Z) (aim_either (x := x) (kd := kd) (lv := lv) F r (scrub (Zset (fun _ => False) A) A) hJ) (fs := []) ⟨by simp, .inl hf⟩ (fun τ d => (hw _ (sees_re A τ d)).mono fun _ _ _ h => h.imp AtWakes.blind AtAll.blind) (by simpa using h)).bind ?_
  rintro m1 t1 ⟨f1, cs1, A1, ⟨fs1, G1, rfl, hT, hgood, hR, hsz, ht, hV⟩, hSt⟩
  have su := Sees.up hR
  rcases hT with ⟨fr, rfl, rfl, hC, hT, hU⟩ | ⟨fr, rfl, rfl, hj, hU⟩
  · have b1 : Below A.heap.size A A1 := by
      rw [scrub_size] at hU
      exact hU.lift hR ht (V := fun _ => False) (fun i hi _ => hV i hi) fun _ h => h.elim
    refine (done_run (hgood.1 _ (List.mem_singleton.2 rfl)) hC (su.tops hT) (by simpa using hSt)).mono ?_
    rintro m2 t2 ⟨f2, cs2, A2, ⟨rfl, hD, b2⟩, hSt2⟩
    exact ⟨_, _, A2, ⟨rfl, hD, b1.trans (b2.mono b1.size)⟩, hSt2⟩
  · have b1 : Below A.heap.size A A1 := by
      rw [scrub_size] at hU
      exact hU.lift hR ht (V := fun _ => False) (fun i hi _ => hV i hi) fun _ h => h.elim
    have hfr := hgood.1 _ (List.mem_singleton.2 rfl)
    have hj1 := hJ.see _ _ _ hj su
    obtain ⟨hT, hs, hE, hn⟩ := hJa _ _ hj1
    refine (all_comp (cs := []) x kd lv vs xs hfr hT hs hE hn (by simpa using hSt)).bind ?_
    rintro m2 t2 ⟨f2, cs2, A2, ⟨rfl, rv, rfl, hF, b2⟩, hSt2⟩
    have B2 : Below A.heap.size A A2 := b1.trans (b2.mono b1.size)
    refine (wakes_run (F := F) (r := r) (hfr.finish _) (fun τ d => ?_) hSt2).mono ?_
    · have s2 := sees_re A2 τ d
      exact (hrest fr _ rv (hJ.see _ _ _ (hJ.later _ _ _ hj1 b2) s2) (FrsAt.see hF s2.size s2.cell)).mono fun _ _ _ h => h.blind
    · rintro m3 t3 ⟨f3, cs3, A3, ⟨rfl, hD, b3⟩, hSt3⟩
      exact ⟨_, _, A3, ⟨rfl, hD, B2.trans (b3.mono B2.size)⟩, hSt3⟩
end
end Go.Proofs.YtlanlkpamnoekaaDoor.Lk
namespace Go.Proofs.YtlanlkpamnoekaaDoor.Lk
open Go Go.Conc Go.RowKit Rf Mem Bv Crc Str Bits
set_option maxRecDepth 100000
section
variable {T : Frame → List Frame → World → Prop} {bb : Frame} {fs : List Frame} {k : List Item}
theorem loopT_wins (Af : Option Addr) (cf n : Nat) (kd : Int) (Ay : Option Addr) (cy m : Nat) (g6 g7 g10 : Nat) (s q e : Int) (w1 : World) (us : List Value) (xs : List (List (BitVec 8))) (hn : us.length = n) (hn60 : n ≤ 60) (hle : ∀ y ∈ xs, y.length ≤ 200) (hT1 : Tops w1) (hs1 : SliceAt w1 1 (.slice Af n cf) n us) (hE1 : ElsW w1 us xs) (hL : LVar w1 g7 s q e)
    (hk : ∀ a w, Sl a 166 [(2, .int .u8 kd), (3, .slice Af n cf), (5, .slice Ay m cy), (6, .pointer (some ⟨g6, 0, none⟩)), (7, .pointer (some ⟨g7, 0, none⟩)), (10, .pointer (some ⟨g10, 0, none⟩)), (12, .bool false)] → Below w1.heap.size w1 w → Wins Tryd.prog T (bb.at a k) fs w) :
    ∀ (d i : Nat) (a : Act) (w : World), i + d = n → Sl a 166 [(2, .int .u8 kd), (3, .slice Af n cf), (5, .slice Ay m cy), (6, .pointer (some ⟨g6, 0, none⟩)), (7, .pointer (some ⟨g7, 0, none⟩)), (10, .pointer (some ⟨g10, 0, none⟩)), (12, .bool false), (13, .int .i64 (i : Nat))] → Below w1.heap.size w1 w → Wins Tryd.prog T (bb.at a (.code loopT :: .inLoop loopT :: .inBlock 0 :: k)) fs w := by
  have hxn : xs.length = n := by rw [← hE1.len]; exact hn
  intro d
  induction d with
  | zero =>
    intro i a w hi hS hB
    obtain rfl : i = n := by omega
    rw [loopT_eq]
    refine Wins.seq (Wins.seq (Wins.wp (lt4 a Af cf i kd Ay cy m g6 g7 g10 i _ rfl hS w) fun a1 W1 ⟨t1, e1⟩ => ?_))
    subst e1
    have e43 : a1.tmps[43]? = some (.bool (decide ((i : Int) < (i : Int)))) := t1.get (by simp)
    refine Wins.cond false (by simp [Act.eval, e43]) (Lk.Wins.exit (by rfl) ?_)
    exact hk a1 W1 (t1.sub (by simp)) hB
  | succ d ih =>
    intro i a w hi hS hB
    have hlt : i < n := by omega
    rw [loopT_eq]
    refine Wins.seq (Wins.seq (Wins.wp (lt4 a Af cf n kd Ay cy m g6 g7 g10 i _ rfl hS w) fun a1 W1 ⟨t1, e1⟩ => ?_))
    subst e1
    have e43 : a1.tmps[43]? = some (.bool (decide ((i : Int) < (n : Int)))) := t1.get (by simp)
    refine Wins.cond true (by simp [Act.eval, e43]; omega) (Wins.skip (Wins.seq (Wins.block ?_)))
    rw [← loopT_eq, cT_eq]
    obtain ⟨z, hz⟩ : ∃ z, xs[i]? = some z := ⟨_, List.getElem?_eq_getElem (by omega)⟩
    obtain ⟨Az, cz, hu, sz⟩ := hE1.at_ i z hz
    have hlz : z.length ≤ 200 := hle z (List.mem_of_getElem? hz)
    obtain ⟨bA, oA, cf', e1, _⟩ := hs1.pos (by omega)
    obtain ⟨rfl, _, rfl⟩ := Value.slice.inj e1
    obtain ⟨⟨⟨s', q', e'⟩, er, f⟩, hr⟩ : ∃ r : Lst × Int × Frm, r = hearV kd z (s, q, e) := ⟨_, rfl⟩
    refine Wins.seq (Wins.wp (lt6 a1 bA oA cf n kd Ay cy m g6 g7 g10 i s q e er s' q' e' f z us Az cz hr hlt hu (by omega) (t1.sub (by simp)) W1 (hT1.below hB) (hL.later hB) (hs1.later hB) (sz.later hB)) fun a2 W2 ⟨gc, gd, t2, lc, fd, _, _, b2⟩ => ?_)
    have B2 := below_step hB b2
    refine Wins.seq (Wins.wp (lt7 a2 bA oA cf n kd Ay cy m g6 g7 g10 gc gd er i s q e er s' q' e' f z us Az cz hr hlt hu (by omega) t2 W2 (hL.later B2) (hs1.later B2) (sz.later B2)) fun a3 W3 ⟨ge, gf, t3, le, ff, _, _, b3⟩ => ?_)
    have B3 := below_step B2 b3
    refine Wins.seq (Wins.wp (lt8 a3 (some ⟨bA, oA, none⟩) cf n kd Ay cy m g6 g7 g10 gc gd ge gf i er s' q' e' f (t3.sub (by simp)) W3 (lc.later b3) le (fd.later b3) ff) fun a4 W4 ⟨t4, b4⟩ => ?_)
    have B4 := below_step B3 b4
    have e81 : a4.tmps[81]? = some (.bool false) := t4.get (by simp)
    refine Wins.cond false (by simp [Act.eval, e81]) (Wins.skip (Wins.inBlock (Wins.wp (lt5 a4 (some ⟨bA, oA, none⟩) cf n kd Ay cy m g6 g7 g10 i (by omega) (t4.sub (by simp)) W4) fun a5 W5 ⟨t5, e5⟩ => ?_)))
    subst e5
    exact Wins.inLoop (ih (i + 1) a5 W5 (by omega) t5 B4)
end
noncomputable def restT : Code := .seq (rgT 4) (.seq (rgT 5) (.seq (rgT 6) (.seq (rgT 7) .ret)))
/-- What is held where LinkTells calls All. -/
def JT (y : Nat → Value) (tl s q e kd : Int) (Af : Option Addr) (cf n : Nat) (a b c d : U32) (Ay : Option Addr) (cy m : Nat) (us : List Value) (xs : List (List (BitVec 8))) (Y : List (BitVec 8)) (fr : Frame) (W : World) : Prop := ∃ (q0 : Act) (g6 g7 g10 : Nat), fr = (base 3).at q0 (.inRegion opsT10 [3, 4, 5, 6, 7, 8, 9] :: [.code restT]) ∧ Sl q0 166 [(2, .int .u8 kd), (3, .slice Af n cf), (5, .slice Ay m cy), (6, .pointer (some ⟨g6, 0, none⟩)), (7, .pointer (some ⟨g7, 0, none⟩)), (10, .pointer (some ⟨g10, 0, none⟩)), (12, .bool false)] ∧ LY W g6 y tl ∧ LVar W g7 s q e ∧ IVar W g10 a b c d ∧ Tops W ∧ SliceAt W 1 (.slice Af n cf) n us ∧ ElsW W us xs ∧ SliceAt W 1 (.slice Ay m cy) m (u8s Y) ∧ n ≤ 60 ∧ (∀ z ∈ xs, z.length ≤ 200) ∧ m ≤ 200
theorem keeps_T (y : Nat → Value) (tl s q e kd : Int) (Af : Option Addr) (cf n : Nat) (a b c d : U32) (Ay : Option Addr) (cy m : Nat) (us : List Value) (xs : List (List (BitVec 8))) (Y : List (BitVec 8)) : Keeps (JT y tl s q e kd Af cf n a b c d Ay cy m us xs Y) :=
  ⟨fun fr W W' ⟨q0, g6, g7, g10, h1, h2, h3, h4, h5, h6, h7, h8, h9, h10⟩ su => ⟨q0, g6, g7, g10, h1, h2, su.ly h3, su.lv h4, su.iv h5, su.tops h6, su.sl h7, h8.see su, su.sl h9, h10⟩,
   fun fr W W' ⟨q0, g6, g7, g10, h1, h2, h3, h4, h5, h6, h7, h8, h9, h10⟩ bw => ⟨q0, g6, g7, g10, h1, h2, h3.later bw, h4.later bw, h5.later bw, h6.below bw, h7.later bw, h8.later bw, h9.later bw, h10⟩⟩
theorem enterT (y : Nat → Value) (tl s q e kd : Int) (Af : Option Addr) (cf n : Nat) (a b c d : U32) (Ay : Option Addr) (cy m : Nat) : Frame.enter Tryd.prog 3 #[ly y tl, lk s q e, .int .u8 kd, .slice Af n cf, inv a b c d, .slice Ay m cy] .normal = (base 3).at ⟨#[ly y tl, lk s q e, .int .u8 kd, .slice Af n cf, inv a b c d, .slice Ay m cy] ++ Array.replicate 160 undef, []⟩ [.code bodyT] := by
  rw [enter_at (c := bodyT) _ Tryd.func3 rfl, Tryd.ntmps3]
  rfl
/-- LinkTells comes to wakes, or to All, alone. -/
theorem tells_wins (y : Nat → Value) (tl s q e kd : Int) (Af : Option Addr) (cf n : Nat) (a b c d : U32) (Ay : Option Addr) (cy m : Nat) (us : List Value) (xs : List (List (BitVec 8))) (Y : List (BitVec 8)) (hn : us.length = n) (G : World) (hT : Tops G) (hQ : LayQ G y) (hs : SliceAt G 1 (.slice Af n cf) n us) (hE : ElsW G us xs) (hp : SliceAt G 1 (.slice Ay m cy) m (u8s Y)) :
    Wins Tryd.prog (fun f fs W' => AtWakes 3 12 G f fs W' ∨ AtAll (s, q, e) kd (.slice Af n cf) (JT y tl s q e kd Af cf n a b c d Ay cy m us xs Y) G f fs W') (Frame.enter Tryd.prog 3 #[ly y tl, lk s q e, .int .u8 kd, .slice Af n cf, inv a b c d, .slice Ay m cy] .normal) [] G := by
  rw [enterT, bodyT_eq]
  refine Wins.seq (Wins.wp (lt0 _ Af cf n kd Ay cy m y tl s q e a b c d ⟨rfl, by simp, by simp⟩ G) fun a0 W0 ⟨g6, g7, g10, t0, y0, l0, i0, b0⟩ => ?_)
  refine Wins.seq ?_
  rw [rgT1_eq]
  refine Wins.seq (Wins.wp (lt1 a0 Af cf n kd Ay cy m g6 g7 g10 y tl us xs hn t0 W0 (hQ.later b0) y0 (hs.later b0) (hE.later b0)) fun a1 W1 ⟨t, t1, ht, b1⟩ => ?_)
  have B1 := below_step b0 b1
  have hT1 := hT.below B1
  have e38 : a1.tmps[38]? = some (.bool t) := t1.get (by simp)
  refine Wins.cond t (by simp [Act.eval, e38]) ?_
  cases t with
  | true =>
    refine Wins.seq (Wins.region ?_)
    rw [sizeT2]
    obtain ⟨o, ho, hg, hop⟩ : ∃ o, opsT2[0]? = some o ∧ o.guard = none ∧ o.op = .call { callee := .value (.func 10), args := #[], argTypes := #[] } := ⟨_, rfl, rfl, rfl⟩
    refine wins_wakes ho (wanted_none hg) hop (.inl (AtWakes.mk ?_ hT1 B1))
    obtain ⟨o2, ho2, hop2, hd2, hg2⟩ : ∃ o, opsT2[1]? = some o ∧ o.op = .assign (.tmp 39) ∧ o.dst = some 12 ∧ o.guard = none := ⟨_, rfl, rfl, rfl, rfl⟩
    exact cont_two rfl ho2 hop2 hd2 hg2 t1.defers (by rw [t1.size]; omega) (by rw [t1.size]; omega)
  | false =>
    obtain ⟨hn60, hle, hm⟩ := ht rfl
    refine Wins.skip (Wins.seq ?_)
    rw [rgT2_eq]
    refine Wins.seq (Wins.wp (lt3 a1 Af cf n kd Ay cy m g6 g7 g10 (t1.sub (by simp)) W1) fun a2 W2 ⟨t2, e2⟩ => ?_)
    subst e2
    refine Wins.block (Wins.loop ?_)
    refine loopT_wins Af cf n kd Ay cy m g6 g7 g10 s q e W2 us xs hn hn60 hle hT1 (hs.later B1) (hE.later B1) (l0.later b1) ?_ n 0 a2 W2 (by omega) (t2.sub (by simp)) (Below.refl _ _)
    intro a3 W3 t3 b3
    have B3 := below_step B1 b3
    refine Wins.seq ?_
    rw [rgT3_eq]
    refine Wins.region (Wins.ops [0, 1, 2] [3, 4, 5, 6, 7, 8, 9] sizeT10 (lt10a a3 Af cf n kd Ay cy m g6 g7 g10 s q e t3 W3 ((l0.later b1).later b3)) fun a4 W4 ⟨t4, e4⟩ => ?_)
    subst e4
    obtain ⟨o, ho, hg, hop⟩ : ∃ o, opsT10[3]? = some o ∧ o.guard = none ∧ o.op = .call { callee := .value (.func 14), args := #[.tmp 83, .tmp 84, .tmp 85], argTypes := #[31, 5, 32] } := ⟨_, rfl, rfl, rfl⟩
    have e83 : a4.tmps[83]? = some (lk s q e) := t4.get (by simp)
    have e84 : a4.tmps[84]? = some (.int .u8 kd) := t4.get (by simp)
    have e85 : a4.tmps[85]? = some (.slice Af n cf) := t4.get (by simp)
    have hcall : ∀ args w, (callFunc 14 args).run Tryd.prog w = .ok (.enter 14 args) w := enters Tryd.func14 (by kernel_rfl) rfl
    refine Wins.call ho (by rw [Region.wanted, hg]) (g := 14) (args := #[lkv (s, q, e), .int .u8 kd, .slice Af n cf]) (w' := W4) ?_ ?_
    · unfold execOp
      simp [hop, resolve, invoke, Act.eval, Deferred.ofValue, e83, e84, e85, hcall]
    · exact Wins.stop (.inr ⟨_, rfl, rfl, ⟨a4, g6, g7, g10, rfl, t4.sub (by simp), (y0.later b1).later b3, (l0.later b1).later b3, (i0.later b1).later b3, hT.below B3, hs.later B3, hE.later B3, hp.later B3, hn60, hle, hm⟩, .of B3⟩)
end Go.Proofs.YtlanlkpamnoekaaDoor.Lk
namespace Go.Proofs.YtlanlkpamnoekaaDoor.Lk
open Go Go.Conc Go.RowKit Rf Mem Bv Crc Str Bits
set_option maxRecDepth 100000
theorem opsT14_from (k n : Nat) : ∀ j, j < ((opsT14.toList.drop k).take n).length → ((opsT14.toList.drop k).take n)[j]? = opsT14[k + j]? := by
  intro j hj
  simp only [List.length_take] at hj
  rw [List.getElem?_take, if_pos (by omega), List.getElem?_drop]
  simp
theorem lt14b (q0 : Act) (hS : Sl q0 166 [(163, .bool true), (164, .bool true)]) (w : World) : wpOps Tryd.prog opsT14 (nrm fun a' w' => a'.defers = [] ∧ a'.tmps[12]? = some (.bool true) ∧ w' = w) [59, 60] q0 w := by
  have h4 := fun Q => wpOps_some (P := Tryd.prog) (Q := Q) ((opsT14.toList.drop 59).take 2) 59 (opsT14_from 59 2)
  have h5 : ((opsT14.toList.drop 59).take 2).length = 2 := by kernel_rfl
  rw [h5] at h4
  show wpOps _ _ _ (List.range' 59 2) _ _
  rw [h4]
  clear h4 h5
  obtain ⟨j, rfl, hj⟩ := hS.lit166
  have h163 : j 163 = .bool true := hj (163, _) (by simp)
  have h164 : j 164 = .bool true := hj (164, _) (by simp)
  clear hj hS
  unfold opsT14 rgT bodyT
  simp only [Tryd.f3, Option.getD_some, nthSeq, cfst, csnd, cyes, copsOf, lit166, List.cons_append, List.nil_append, h163, h164]
  simp only [List.drop_succ_cons, List.drop_zero, List.take_succ_cons, List.take_zero]
  go_wp2
  exact ⟨rfl, rfl, rfl⟩
theorem tells_rest (y : Nat → Value) (tl s q e kd : Int) (Af : Option Addr) (cf n : Nat) (a b c d : U32) (Ay : Option Addr) (cy m : Nat) (us : List Value) (xs : List (List (BitVec 8))) (Y : List (BitVec 8)) (hn : us.length = n) (hY : Y.length = m) (fr : Frame) (W : World) (rv : Value) (hj : JT y tl s q e kd Af cf n a b c d Ay cy m us xs Y fr W) (hF : FrsAt W rv (allV kd ((s, q, e), []) xs).2) :
    Wins Tryd.prog (AtWakes 3 12 W) (fr.finish (.tuple #[lkv (allV kd ((s, q, e), []) xs).1, rv])) [] W := by
  obtain ⟨q0, g6, g7, g10, rfl, hS, hy, hl, hi, hT, hs, hE, hp, hn60, hle, hm⟩ := hj
  obtain ⟨⟨os, oq, oe⟩, hx⟩ : ∃ z, z = (allV kd ((s, q, e), []) xs).1 := ⟨_, rfl⟩
  obtain ⟨fl, hfl⟩ : ∃ fl, fl = (allV kd ((s, q, e), []) xs).2 := ⟨_, rfl⟩
  have hfn : fl.length ≤ 100 := by
    have hlen : ∀ (l : List (List (BitVec 8))) (st : Lst × List Frm), (allV kd st l).2.length ≤ st.2.length + l.length := by
      intro l
      induction l with
      | nil => intro st; simp [allV]
      | cons z l ih =>
        intro st
        have h1 := ih (stepV kd st z)
        have h2 : (stepV kd st z).2.length ≤ st.2.length + 1 := by unfold stepV; split <;> simp
        have h3 : allV kd st (z :: l) = allV kd (stepV kd st z) l := rfl
        rw [h3, List.length_cons]
        omega
    have h4 := hlen xs ((s, q, e), [])
    have h5 := hE.len
    rw [hfl]
    simp only [List.length_nil] at h4
    omega
  rw [← hx]
  rw [← hfl] at hF
  obtain ⟨Ar, cr, rfl⟩ : ∃ Ar cr, rv = .slice Ar fl.length cr := by
    obtain ⟨cs, hsl, _⟩ := hF
    obtain ⟨Ar, cr, h, _⟩ := hsl.form
    exact ⟨Ar, cr, h⟩
  have hd : (opsT10[3]?.bind (·.dst)) = some 86 := rfl
  rw [Frame.finish_at, hd]
  have hS2 := hS.put 86 (.tuple #[lk os oq oe, .slice Ar fl.length cr]) (by omega) (by simp)
  refine Wins.ops [4, 5, 6, 7, 8, 9] [] rfl (lt10b _ Af cf n kd Ay cy m g6 g7 g10 Ar cr fl.length os oq oe (hS2.sub (by simp)) W) fun a1 W1 ⟨g20, t1, l20, b1⟩ => ?_
  refine Wins.regionEnd ?_
  unfold restT
  refine Wins.seq ?_
  rw [rgT4_eq]
  refine Wins.region (Wins.ops [0, 1, 2] [3, 4, 5, 6, 7, 8, 9] sizeT11 (lt11a a1 Af cf n kd Ay cy m g6 g7 g10 Ar cr fl.length g20 s q e t1 W1 (hl.later b1)) fun a2 W2 ⟨t2, e2⟩ => ?_)
  subst e2
  obtain ⟨o, ho, hg, hop⟩ : ∃ o, opsT11[3]? = some o ∧ o.guard = none ∧ o.op = .call { callee := .value (.func 15), args := #[.tmp 90, .tmp 91, .tmp 92], argTypes := #[31, 5, 32] } := ⟨_, rfl, rfl, rfl⟩
  have e90 : a2.tmps[90]? = some (lk s q e) := t2.get (by simp)
  have e91 : a2.tmps[91]? = some (.int .u8 kd) := t2.get (by simp)
  have e92 : a2.tmps[92]? = some (.slice Af n cf) := t2.get (by simp)
  have hcall : ∀ args w, (callFunc 15 args).run Tryd.prog w = .ok (.enter 15 args) w := enters Tryd.func15 (by kernel_rfl) rfl
  refine Wins.call ho (by rw [Region.wanted, hg]) (g := 15) (args := #[lk s q e, .int .u8 kd, .slice Af n cf]) (w' := W2) ?_ ?_
  · unfold execOp
    simp [hop, resolve, invoke, Act.eval, Deferred.ofValue, e90, e91, e92, hcall]
  refine r29All_wins s q e kd Af cf n us xs hn hn60 hle W2 (hs.later b1) (hE.later b1) fun rw' W3 hF3 b3 => ?_
  rw [← hx]
  rw [← hfl] at hF3
  obtain ⟨As, cs, rfl⟩ : ∃ As cs, rw' = .slice As fl.length cs := by
    obtain ⟨zs, hsl, _⟩ := hF3
    obtain ⟨As, cs, h, _⟩ := hsl.form
    exact ⟨As, cs, h⟩
  have B3 := below_step b1 b3
  have hd3 : (opsT11[3]?.bind (·.dst)) = some 93 := rfl
  rw [Frame.finish_at, hd3]
  have hS3 := t2.put 93 (.tuple #[lk os oq oe, .slice As fl.length cs]) (by omega) (by simp)
  refine Wins.ops [4, 5, 6, 7, 8, 9] [] rfl (lt11b _ Af cf n kd Ay cy m g6 g7 g10 Ar cr fl.length g20 As cs os oq oe (hS3.sub (by simp)) W3) fun a4 W4 ⟨g22, t4, l22, b4⟩ => ?_
  have B4 := below_step B3 b4
  refine Wins.regionEnd ?_
  obtain ⟨⟨pa, pb, pc, pd, er⟩, hr⟩ : ∃ z, takeInV Y = z := ⟨_, rfl⟩
  refine Wins.seq (Wins.wp (lt12 a4 Af cf n kd Ay cy m g6 g7 g10 Ar cr fl.length g20 As cs g22 pa pb pc pd Y hY hm er hr t4 W4 (hp.later B4)) fun a5 W5 ⟨g24, t5, i24, b5⟩ => ?_)
  have B5 := below_step B4 b5
  refine Wins.seq (Wins.wp (lt13 a5 Af cf n kd Ay cy m g6 g7 g10 Ar cr fl.length g20 As cs g22 g24 pa pb pc pd Y hY hm er hr t5 W5 (hp.later B5)) fun a6 W6 ⟨g26, t6, i26, b6⟩ => ?_)
  have B6 := below_step B5 b6
  refine Wins.seq ?_
  rw [rgT7_eq]
  obtain ⟨H, hg14⟩ := shape_of shapeT14
  have hf : 61 = opsT14.size := by kernel_rfl
  have hLs : lst61 0 = Array.replicate opsT14.size false := by rw [← hf]; kernel_rfl
  have bd : Below W6.heap.size W6 { W6 with drawn := W6.drawn + 1 } := (Below.refl _ W6).drew
  have HW : WT { W6 with drawn := W6.drawn + 1 } g6 g7 g10 g20 g22 g24 g26 y tl s q e os oq oe a b c d pa pb pc pd := WT.later ⟨hy.later B6, hl.later B6, hi.later B6, (((l20.later b3).later b4).later b5).later b6, (l22.later b5).later b6, i24.later b6, i26, hT.below B6⟩ bd
  have F1 : FrsAt { W6 with drawn := W6.drawn + 1 } (.slice Ar fl.length cr) fl := FrsAt.later (FrsAt.later hF B6) bd
  have F2 : FrsAt { W6 with drawn := W6.drawn + 1 } (.slice As fl.length cs) fl := FrsAt.later (FrsAt.later (FrsAt.later (FrsAt.later hF3 b4) b5) b6) bd
  refine Wins.drawn H hg14 (by kernel_rfl) hf hLs (t14_0 a6 Af cf n kd Ay cy m g6 g7 g10 Ar cr fl.length g20 As cs g22 g24 g26 er y tl s q e os oq oe a b c d pa pb pc pd W fl hfn (t6.sub (by simp)) _ rfl _ (below_step B6 bd) HW F1 F2) fun a7 W7 ⟨t7, B7⟩ => ?_
  have hl2 : List.range' 58 (opsT14.size - 58) = [58, 59, 60] := by kernel_rfl
  rw [hl2]
  obtain ⟨o, ho, hgd, hop⟩ : ∃ o, opsT14[58]? = some o ∧ o.guard = some (57, true) ∧ o.op = .call { callee := .value (.func 10), args := #[], argTypes := #[] } := ⟨_, rfl, rfl, rfl⟩
  refine wins_wakes ho (wanted_some (d := 163) hgd rfl (t7.get (by simp))) hop (AtWakes.mk ?_ (hT.below B7) B7)
  exact cont_of (d := 164) rfl fun w => lt14b _ ((t7.put 164 (.bool true) (by omega) (by simp)).sub (by simp)) w
/-- ████ LinkTells in company. ████ -/
theorem tells_runs (y : Nat → Value) (tl s q e kd : Int) (Af : Option Addr) (cf n : Nat) (a b c d : U32) (Ay : Option Addr) (cy m : Nat) (us : List Value) (xs : List (List (BitVec 8))) (Y : List (BitVec 8)) (hn : us.length = n) (hY : Y.length = m) (A : World) (hT : Tops A) (hQ : LayQ A y) (hs : SliceAt A 1 (.slice Af n cf) n us) (hE : ElsW A us xs) (hp : SliceAt A 1 (.slice Ay m cy) m (u8s Y)) (mm : Machine) (t : Trace) (h : St (QL Tryd.prog) (Frame.enter Tryd.prog 3 #[ly y tl, lk s q e, .int .u8 kd, .slice Af n cf, inv a b c d, .slice Ay m cy] .normal) [] A mm t) :
    Run Tryd.prog mm t (To (QL Tryd.prog) fun f' cs' A' => cs' = [] ∧ DoneF 3 12 f' ∧ Below A.heap.size A A') :=
  all_then (keeps_T y tl s q e kd Af cf n a b c d Ay cy m us xs Y) (fun fr W ⟨_, _, _, _, _, _, _, _, _, h6, h7, h8, _, h10, h11, _⟩ => ⟨h6, by rw [hn]; exact h7, h8.els h11, by omega⟩) (NF.enter (fit (fun _ => False)).nice (by decide) _)
    (fun W su => tells_wins y tl s q e kd Af cf n a b c d Ay cy m us xs Y hn W (su.tops hT) (hQ.see su) (su.sl hs) (hE.see su) (su.sl hp)) (fun fr W rv hj hF => tells_rest y tl s q e kd Af cf n a b c d Ay cy m us xs Y hn hY fr W rv hj hF) h
end Go.Proofs.YtlanlkpamnoekaaDoor.Lk
namespace Go.Proofs.YtlanlkpamnoekaaDoor
open Go.RowKit Rf Mem Go.ChangeAt
theorem tops_of_laid {W : World} (h : laidMetH Tryd.prog [("lockbar/tick.tops", Rows.laid_lockbar_tick_tops)] W) : Tops W := by
  have hg : Tryd.prog.globalNamed "lockbar/tick.tops" = some 0 := by kernel_rfl
  have t : Lib.TabIs Tryd.prog W "lockbar/tick.tops" .i64 [1073741824, 65535] := Lib.tabIs_of_head (rest := []) hg (t := 116) (by kernel_rfl) Tryd.underlying116 Tryd.underlying3 (by kernel_rfl) (by kernel_rfl) h
  have c0 := t.cell hg 0 (by decide)
  refine ⟨c0, t.cell hg 1 (by decide), ?_⟩
  unfold World.cell? at c0
  cases ho : W.heap[0]? with
  | none => simp [ho] at c0
  | some o => exact (Array.getElem?_eq_some_iff.1 ho).1
end Go.Proofs.YtlanlkpamnoekaaDoor
