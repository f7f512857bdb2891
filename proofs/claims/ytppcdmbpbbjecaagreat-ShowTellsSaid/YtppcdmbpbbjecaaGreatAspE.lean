/- Routes: contracts of holds, Needs, and the document's Needs. Nothing that was there is turned. -/
import Derived.Test.YtppcdmbpbbjecaaGreatAspD
namespace Go.Proofs.YtppcdmbpbbjecaaGreat
open List renaming getElem_toArray → zA, getElem_cons_succ → zS, getElem_cons_zero → zZ, setIfInBounds_toArray → zP, set_cons_zero → zQ, set_cons_succ → zR
open Go.RowKit Rf Mem Bv AM
attribute [local go_sem ↓] run_max2 run_min2
theorem lt_at {W : World} {g : Nat} {o : Obj} (h : W.heap[g]? = some o) : g < W.heap.size := (Array.getElem?_eq_some_iff.1 h).1
theorem below_set {n g : Nat} {a w : World} (h : Below n a w) (hg : n ≤ g) (i : Nat) (u : Value) : Below n a (w.setCell ⟨g, i, none⟩ u) := h.setCell hg u
set_option maxHeartbeats 1000000 in
set_option maxRecDepth 100000 in
theorem holds_c (cs : List Value) (q : HeldM) (w : World) (h : HeldAt w cs q) :
    Calls Tryz.prog 120 #[.agg cs.toArray] w fun e w' => Below w.heap.size w w' ∧ ∃ ga gb gh, e = .returned (.func (.func 128) #[] #[.pointer (some ⟨ga, 0, none⟩), .pointer (some ⟨gb, 0, none⟩), .pointer (some ⟨gh, 0, none⟩)]) ∧ Holds w' ga gb gh (max q.gone 0) q.steps.length q.opn := by
  have b0 := below_new w (.cells cs.toArray 75)
  have G := new_at (w := w) rfl (.cells cs.toArray 75)
  obtain ⟨v3, e3, t3⟩ := h.st
  obtain ⟨A3, c3, rfl⟩ := t3.form
  have y7 := cell_list G h.gone
  have y3 := cell_list G e3
  have y20 := cell_list G h.opn
  clear t3 e3
  go_enter Tryz.func120, Tryz.ntmps120
  go_upto_region 1 with (fail)
  generalize w.alloc (.cells cs.toArray 75) = W0 at *
  refine wp_region_held_drew (S := (fun w' => w'.cell? ⟨w.heap.size, 7, none⟩ = some (.int .i64 q.gone) ∧ w'.cell? ⟨w.heap.size, 3, none⟩ = some (.slice A3 q.steps.length c3) ∧ w'.cell? ⟨w.heap.size, 20, none⟩ = some (.bool q.opn))) (by kernel_rfl) ?_ (fun hHeld => ?_)
  · exact ⟨y7, y3, y20⟩
  have B : Below W0.heap.size W0 W0.drew := (Below.refl _ W0).drew
  refine Node.tk 0 ?_ rfl ?_ ?_
  rotate_left
  · intro w hSw; (try dsimp only at hSw); go_simp; try with_reducible rfl
  simp only [zA, zS, zZ, Act.put, zP, zQ, zR]
  refine Node.tk 1 ?_ rfl ?_ ?_
  rotate_left
  · intro w hSw; (try dsimp only at hSw); go_simp; try with_reducible rfl
  simp only [zA, zS, zZ, Act.put, zP, zQ, zR]
  refine Node.tk 2 ?_ rfl ?_ ?_
  rotate_left
  · intro w hSw; (try dsimp only at hSw); go_simp; try with_reducible rfl
  simp only [zA, zS, zZ, Act.put, zP, zQ, zR]
  refine Node.tk 3 ?_ rfl ?_ ?_
  rotate_left
  · intro w hSw; (try dsimp only at hSw); go_simp; try with_reducible rfl
  simp only [zA, zS, zZ, Act.put, zP, zQ, zR]
  refine Node.tk 4 ?_ rfl ?_ ?_
  rotate_left
  · intro w hSw; (try dsimp only at hSw); go_simp; try with_reducible rfl
  simp only [zA, zS, zZ, Act.put, zP, zQ, zR]
  refine Node.tk 5 ?_ rfl ?_ ?_
  rotate_left
  · intro w hSw; (try dsimp only at hSw); go_simp; try with_reducible rfl
  simp only [zA, zS, zZ, Act.put, zP, zQ, zR]
  refine Node.tk 6 ?_ rfl ?_ ?_
  rotate_left
  · intro w hSw; (try dsimp only at hSw); go_simp; try with_reducible rfl
  simp only [zA, zS, zZ, Act.put, zP, zQ, zR]
  clear hHeld
  generalize W0.drew = V at *
  refine wpAnyH_ready (rs := [7, 8]) (by kernel_rfl) (by simp) ?_
  refine AllReadyH.cons rfl (fun K hK => ?_) (AllReadyH.cons rfl (fun K hK => ?_) AllReadyH.nil)
  · skip
    have GA := new_at (w := V) rfl (.cells #[.int .i64 0] 3)
    have bF := below_new V (.cells #[.int .i64 0] 3)
    have la := B.size
    try have hne := Nat.ne_of_lt (lt_at GB)
    refine Node.wp_new 3 (.int .i64 0) #[.int .i64 0] (by kernel_rfl) rfl (by rfl) ?_
    replace B := below_step B bF
    try replace GB := var_later GB bF
    clear bF
    generalize V.heap.size = ga at *
    generalize V.alloc (.cells #[.int .i64 0] 3) = V at *
    refine hK.out _ _ ⟨cell_later y7 B, cell_later y3 B, cell_later y20 B⟩ (fun _ => ?_)
    clear hK K
    try simp only [zA, zS, zZ, Act.put, zP, zQ, zR]
    refine Node.on 8 rfl (fun K hK => ?_)
    have GB := new_at (w := V) rfl (.cells #[.int .i64 0] 3)
    have bF := below_new V (.cells #[.int .i64 0] 3)
    have lb := B.size
    try have hne := Nat.ne_of_gt (lt_at GA)
    refine Node.wp_new 3 (.int .i64 0) #[.int .i64 0] (by kernel_rfl) rfl (by rfl) ?_
    replace B := below_step B bF
    try replace GA := var_later GA bF
    clear bF
    generalize V.heap.size = gb at *
    generalize V.alloc (.cells #[.int .i64 0] 3) = V at *
    refine hK.out _ _ ⟨cell_later y7 B, cell_later y3 B, cell_later y20 B⟩ (fun _ => ?_)
    clear hK K
    try simp only [zA, zS, zZ, Act.put, zP, zQ, zR]
    refine Node.on 9 rfl (fun K hK => ?_)
    have f1 := cell_at GA 0
    have f2 := free_at GA 0
    go_simp
    clear f1 f2
    replace GA := set_at GA 0 (.int .i64 (max q.gone 0))
    replace B := below_set B la 0 (.int .i64 (max q.gone 0))
    replace GB := set_far GB (p := ⟨ga, 0, none⟩) hne (.int .i64 (max q.gone 0))
    generalize V.setCell ⟨ga, 0, none⟩ (.int .i64 (max q.gone 0)) = V at *
    refine hK.out _ _ ⟨cell_later y7 B, cell_later y3 B, cell_later y20 B⟩ (fun _ => ?_)
    clear hK K
    try simp only [zA, zS, zZ, Act.put, zP, zQ, zR]
    refine Node.on 10 rfl (fun K hK => ?_)
    have f1 := cell_at GB 0
    have f2 := free_at GB 0
    go_simp
    clear f1 f2
    replace GB := set_at GB 0 (.int .i64 q.steps.length)
    replace B := below_set B lb 0 (.int .i64 q.steps.length)
    replace GA := set_far GA (p := ⟨gb, 0, none⟩) (Ne.symm hne) (.int .i64 q.steps.length)
    generalize V.setCell ⟨gb, 0, none⟩ (.int .i64 q.steps.length) = V at *
    refine hK.out _ _ ⟨cell_later y7 B, cell_later y3 B, cell_later y20 B⟩ (fun _ => ?_)
    clear hK K
    try simp only [zA, zS, zZ, Act.put, zP, zQ, zR]
    refine wpAnyH_done (by kernel_rfl) ?_ _
    go_wp2
    go_ret
    exact ⟨below_step b0 B, _, _, _, rfl, ⟨(cell_at GA 0).trans rfl, (cell_at GB 0).trans rfl, cell_later y20 B⟩⟩
  · skip
    have GB := new_at (w := V) rfl (.cells #[.int .i64 0] 3)
    have bF := below_new V (.cells #[.int .i64 0] 3)
    have lb := B.size
    try have hne := Nat.ne_of_gt (lt_at GA)
    refine Node.wp_new 3 (.int .i64 0) #[.int .i64 0] (by kernel_rfl) rfl (by rfl) ?_
    replace B := below_step B bF
    try replace GA := var_later GA bF
    clear bF
    generalize V.heap.size = gb at *
    generalize V.alloc (.cells #[.int .i64 0] 3) = V at *
    refine hK.out _ _ ⟨cell_later y7 B, cell_later y3 B, cell_later y20 B⟩ (fun _ => ?_)
    clear hK K
    try simp only [zA, zS, zZ, Act.put, zP, zQ, zR]
    refine Node.on 7 rfl (fun K hK => ?_)
    have GA := new_at (w := V) rfl (.cells #[.int .i64 0] 3)
    have bF := below_new V (.cells #[.int .i64 0] 3)
    have la := B.size
    try have hne := Nat.ne_of_lt (lt_at GB)
    refine Node.wp_new 3 (.int .i64 0) #[.int .i64 0] (by kernel_rfl) rfl (by rfl) ?_
    replace B := below_step B bF
    try replace GB := var_later GB bF
    clear bF
    generalize V.heap.size = ga at *
    generalize V.alloc (.cells #[.int .i64 0] 3) = V at *
    refine hK.out _ _ ⟨cell_later y7 B, cell_later y3 B, cell_later y20 B⟩ (fun _ => ?_)
    clear hK K
    try simp only [zA, zS, zZ, Act.put, zP, zQ, zR]
    refine Node.on 9 rfl (fun K hK => ?_)
    have f1 := cell_at GA 0
    have f2 := free_at GA 0
    go_simp
    clear f1 f2
    replace GA := set_at GA 0 (.int .i64 (max q.gone 0))
    replace B := below_set B la 0 (.int .i64 (max q.gone 0))
    replace GB := set_far GB (p := ⟨ga, 0, none⟩) hne (.int .i64 (max q.gone 0))
    generalize V.setCell ⟨ga, 0, none⟩ (.int .i64 (max q.gone 0)) = V at *
    refine hK.out _ _ ⟨cell_later y7 B, cell_later y3 B, cell_later y20 B⟩ (fun _ => ?_)
    clear hK K
    try simp only [zA, zS, zZ, Act.put, zP, zQ, zR]
    refine Node.on 10 rfl (fun K hK => ?_)
    have f1 := cell_at GB 0
    have f2 := free_at GB 0
    go_simp
    clear f1 f2
    replace GB := set_at GB 0 (.int .i64 q.steps.length)
    replace B := below_set B lb 0 (.int .i64 q.steps.length)
    replace GA := set_far GA (p := ⟨gb, 0, none⟩) (Ne.symm hne) (.int .i64 q.steps.length)
    generalize V.setCell ⟨gb, 0, none⟩ (.int .i64 q.steps.length) = V at *
    refine hK.out _ _ ⟨cell_later y7 B, cell_later y3 B, cell_later y20 B⟩ (fun _ => ?_)
    clear hK K
    try simp only [zA, zS, zZ, Act.put, zP, zQ, zR]
    refine wpAnyH_done (by kernel_rfl) ?_ _
    go_wp2
    go_ret
    exact ⟨below_step b0 B, _, _, _, rfl, ⟨(cell_at GA 0).trans rfl, (cell_at GB 0).trans rfl, cell_later y20 B⟩⟩
end Go.Proofs.YtppcdmbpbbjecaaGreat
