/- Images: the contract of clear and of its closure. Nothing that was there is turned. (This text is printed by wip/imgb.py.) -/
import Derived.Test.YtlcahkkpbikccaaDoorImgA
import Derived.Deep.MidRow
namespace Go.Proofs.YtlcahkkpbikccaaDoor
open Go.RowKit Rf Mem
attribute [local go_sem ↓] run_max2 run_min2
theorem ne_type {W : World} {a b : Nat} {x y : Array Value} {t u : TypeId} {f f' : Nat × Nat} (h1 : W.heap[a]? = some (.cells x t f)) (h2 : W.heap[b]? = some (.cells y u f')) (h : t ≠ u) : a ≠ b := by
  rintro rfl; rw [h1] at h2; simp at h2; exact h h2.2.1
theorem range_of {W : World} {g : Nat} {cs : List Value} {t : TypeId} {f : Nat × Nat} (h : W.heap[g]? = some (.cells cs.toArray t f)) : W.rangeAt g 0 cs := fun j v hv => by rw [Nat.zero_add]; exact cell_list h hv
theorem load_lay {W : World} {g : Nat} {L : List Value} {f : Nat × Nat} (h : W.heap[g]? = some (.cells L.toArray 29 f)) (hl : L.length = 11) : (Instr.loadAt 29 (.pointer (some ⟨g, 0, none⟩))).run Tryd.prog W = .ok (.agg L.toArray) W :=
  run_loadAt_mid W g 0 _ L _ (range_of h) Tryd.underlying29 rfl (by rw [hl]; kernel_rfl)
theorem load_img {W : World} {g : Nat} {M : List Value} {f : Nat × Nat} (h : W.heap[g]? = some (.cells M.toArray 39 f)) (hl : M.length = 29) : (Instr.loadAt 39 (.pointer (some ⟨g, 0, none⟩))).run Tryd.prog W = .ok (.agg M.toArray) W :=
  run_loadAt_mid W g 0 _ M _ (range_of h) Tryd.underlying39 rfl (by rw [hl]; kernel_rfl)
theorem Stale_g (L M : List Value) (age st : Int) (s : Bool) (w : World) (hs : s = decide (st < age)) (hL : L[6]? = some (.int .i64 st)) (hM : M[0]? = some (.int .i64 age)) :
    Calls Tryd.prog 14 #[.agg L.toArray, .agg M.toArray] w fun e w' => e = .returned (.bool s) ∧ Below w.heap.size w w' := by subst hs; exact Stale_c L M age st w hL hM
theorem ld {W : World} {gl gm : Nat} {L M : List Value} {x : BitVec 32} (h1 : W.heap[gl]? = some (.cells L.toArray 29 (0, 0))) (h2 : W.heap[gm]? = some (.cells M.toArray 39 (0, 0))) (hl : L.length = 11) (hm : M.length = 29) (hx : M[25]? = some (.int .u32 x.toNat)) :
    W.rangeAt gl 0 L ∧ W.rangeAt gm 0 M ∧ W.cell? ⟨gm, 25, none⟩ = some (.int .u32 x.toNat) :=
  ⟨range_of h1, range_of h2, cell_list h2 hx⟩
/-- the closure's blocks: whether the image is stale, and the word's function -/
structure Clo (W : World) (g7 g8 gb : Nat) (s : Bool) (x : BitVec 32) : Prop where
  a7 : W.heap[g7]? = some (.cells #[.bool s] 4 (0, 0))
  a8 : W.heap[g8]? = some (.cells #[.func (.func 30) #[] #[.pointer (some ⟨gb, 0, none⟩)]] 58 (0, 0))
  b6 : W.heap[gb]? = some (.cells #[.int .u32 x.toNat] 35 (0, 0))
theorem Clo.later {W W' : World} {g7 g8 gb : Nat} {s : Bool} {x : BitVec 32} (h : Clo W g7 g8 gb s x) (hb : Below W.heap.size W W') : Clo W' g7 g8 gb s x :=
  ⟨below_at hb h.a7 (Array.getElem?_eq_some_iff.1 h.a7).1, below_at hb h.a8 (Array.getElem?_eq_some_iff.1 h.a8).1, below_at hb h.b6 (Array.getElem?_eq_some_iff.1 h.b6).1⟩
theorem store_one {P : Program} {W : World} {g : Nat} {y v : Value} {t : TypeId} (h : W.heap[g]? = some (.cells #[y] t (0, 0))) (h1 : v.oneCell' = true) : (store ⟨g, 0, none⟩ v).run P W = .ok () (W.setCell ⟨g, 0, none⟩ v) := by
  rw [run_store P W _ v _ h1]
  have c := cell_at h 0
  have f := free_at h 0
  simp at c
  simp [c, f]
theorem clo_stores {w W : World} {gl gm g7 g8 gb : Nat} {L M : List Value} {s : Bool} {x : BitVec 32} {y : Value} (BB : Below w.heap.size w W)
    (GL : W.heap[gl]? = some (.cells L.toArray 29 (0, 0))) (GM : W.heap[gm]? = some (.cells M.toArray 39 (0, 0))) (A7 : W.heap[g7]? = some (.cells #[.bool false] 4 (0, 0))) (A8 : W.heap[g8]? = some (.cells #[y] 58 (0, 0)))
    (B6 : W.heap[gb]? = some (.cells #[.int .u32 x.toNat] 35 (0, 0))) (L7 : w.heap.size ≤ g7) (L8 : w.heap.size ≤ g8) :
    (W.setCell ⟨g7, 0, none⟩ (.bool s)).heap[gl]? = some (.cells L.toArray 29 (0, 0)) ∧ (W.setCell ⟨g7, 0, none⟩ (.bool s)).heap[gm]? = some (.cells M.toArray 39 (0, 0)) ∧ ((W.setCell ⟨g7, 0, none⟩ (.bool s)).setCell ⟨g8, 0, none⟩ (.func (.func 30) #[] #[.pointer (some ⟨gb, 0, none⟩)])).heap[gl]? = some (.cells L.toArray 29 (0, 0)) ∧ ((W.setCell ⟨g7, 0, none⟩ (.bool s)).setCell ⟨g8, 0, none⟩ (.func (.func 30) #[] #[.pointer (some ⟨gb, 0, none⟩)])).heap[gm]? = some (.cells M.toArray 39 (0, 0)) ∧ Clo ((W.setCell ⟨g7, 0, none⟩ (.bool s)).setCell ⟨g8, 0, none⟩ (.func (.func 30) #[] #[.pointer (some ⟨gb, 0, none⟩)])) g7 g8 gb s x ∧ Below w.heap.size w ((W.setCell ⟨g7, 0, none⟩ (.bool s)).setCell ⟨g8, 0, none⟩ (.func (.func 30) #[] #[.pointer (some ⟨gb, 0, none⟩)])) ∧ (W.setCell ⟨g7, 0, none⟩ (.bool s)).heap[g8]? = some (.cells #[y] 58 (0, 0)) := by
  have n1 := ne_type GL A7 (by decide)
  have n2 := ne_type GM A7 (by decide)
  have n3 := ne_type GL A8 (by decide)
  have n4 := ne_type GM A8 (by decide)
  have n5 := ne_type A7 A8 (by decide)
  have n6 := ne_type B6 A7 (by decide)
  have n7 := ne_type B6 A8 (by decide)
  refine ⟨set_far GL n1 _, set_far GM n2 _, set_far (set_far GL n1 _) n3 _, set_far (set_far GM n2 _) n4 _, ⟨set_far (set_at A7 0 _) n5 _, set_at (set_far A8 n5.symm _) 0 _, set_far (set_far B6 n6 _) n7 _⟩, (BB.setCell L7 _).setCell L8 _, set_far A8 n5.symm _⟩
set_option maxHeartbeats 4000000 in
set_option maxRecDepth 100000 in
theorem clear_c (L M : List Value) (age st : Int) (x : BitVec 32) (s : Bool) (w : World) (hs : s = decide (st < age)) (hL : L[6]? = some (.int .i64 st)) (hM : M[0]? = some (.int .i64 age)) (hMx : M[25]? = some (.int .u32 x.toNat)) (hLl : L.length = 11) (hMl : M.length = 29) :
    Calls Tryd.prog 21 #[.agg L.toArray, .agg M.toArray] w fun e w' => Below w.heap.size w w' ∧ ∃ g7 g8 gb, e = .returned (.func (.func 28) #[] #[.pointer (some ⟨g7, 0, none⟩), .pointer (some ⟨g8, 0, none⟩)]) ∧ Clo w' g7 g8 gb s x := by
  have HS := Lib.hid hs
  have b0 := below_new w (.cells L.toArray 29)
  have b1 := below_new (w.alloc (.cells L.toArray 29)) (.cells M.toArray 39)
  have BB := below_step b0 b1
  have GL := old_at (new_at (w := w) rfl (.cells L.toArray 29)) (.cells M.toArray 39)
  have GM := new_at (w := w.alloc (.cells L.toArray 29)) (n := w.heap.size + 1) (by simp) (.cells M.toArray 39)
  clear hs b0 b1
  go_enter Tryd.func21, Tryd.ntmps21
  go_wp2_with fail
  generalize (w.alloc (.cells L.toArray 29)).alloc (.cells M.toArray 39) = W0 at *
  have szL : (Tryd.prog.info? 29).map (·.size) = some L.length := by rw [hLl]; kernel_rfl
  have szM : (Tryd.prog.info? 39).map (·.size) = some M.length := by rw [hMl]; kernel_rfl
  refine wp_region_held_drew (S := (fun w' => w'.rangeAt w.heap.size 0 L ∧ w'.rangeAt (w.heap.size + 1) 0 M ∧ w'.cell? ⟨w.heap.size + 1, 25, none⟩ = some (.int .u32 x.toNat))) (by kernel_rfl) ?_ (fun hHeld => ?_)
  · exact ld (W := W0.drew) GL GM hLl hMl hMx
  refine wpAnyH_take (i := 0) (v := .agg (L : List Value).toArray) rfl (by kernel_rfl) (by kernel_rfl) (by kernel_rfl) (fun _ _ _ h => h) (yieldsIf_load_mid rfl 29 (.tmp 2) rfl (w.heap.size) 0 rfl L _ (fun w' h => h.1) (by first | exact Tryd.underlying29) rfl (by first | assumption | (simp only [*]; kernel_rfl))) (by assumption) ?_
  simp only [List.getElem_toArray, List.getElem_cons_succ, List.getElem_cons_zero, Act.put, List.setIfInBounds_toArray, List.set_cons_zero, List.set_cons_succ]
  refine wpAnyH_take (i := 1) (v := .agg (M : List Value).toArray) rfl (by kernel_rfl) (by kernel_rfl) (by kernel_rfl) (fun _ _ _ h => h) (yieldsIf_load_mid rfl 39 (.tmp 3) rfl (w.heap.size + 1) 0 rfl M _ (fun w' h => h.2.1) (by first | exact Tryd.underlying39) rfl (by first | assumption | (simp only [*]; kernel_rfl))) (by assumption) ?_
  simp only [List.getElem_toArray, List.getElem_cons_succ, List.getElem_cons_zero, Act.put, List.setIfInBounds_toArray, List.set_cons_zero, List.set_cons_succ]
  refine wpAnyH_take (i := 3) (v := ?_) rfl (by kernel_rfl) (by kernel_rfl) (by kernel_rfl) (fun _ _ _ h => h) (Or.inl ⟨by rfl, ?_⟩) (by assumption) ?_
  rotate_left
  · intro w hSw
    try dsimp only at hSw
    go_simp
    try with_reducible rfl
  simp only [List.getElem_toArray, List.getElem_cons_succ, List.getElem_cons_zero, Act.put, List.setIfInBounds_toArray, List.set_cons_zero, List.set_cons_succ]
  refine wpAnyH_take (i := 4) (v := ?_) rfl (by kernel_rfl) (by kernel_rfl) (by kernel_rfl) (fun _ _ _ h => h) (Or.inl ⟨by rfl, ?_⟩) (by assumption) ?_
  rotate_left
  · intro w hSw
    try dsimp only at hSw
    go_simp
    try with_reducible rfl
  simp only [List.getElem_toArray, List.getElem_cons_succ, List.getElem_cons_zero, Act.put, List.setIfInBounds_toArray, List.set_cons_zero, List.set_cons_succ]
  refine wpAnyH_take (i := 5) (v := ?_) rfl (by kernel_rfl) (by kernel_rfl) (by kernel_rfl) (fun _ _ _ h => h) (Or.inl ⟨by rfl, ?_⟩) (by assumption) ?_
  rotate_left
  · intro w hSw
    try dsimp only at hSw
    go_simp
    try with_reducible rfl
  simp only [List.getElem_toArray, List.getElem_cons_succ, List.getElem_cons_zero, Act.put, List.setIfInBounds_toArray, List.set_cons_zero, List.set_cons_succ]
  replace GL : W0.drew.heap[w.heap.size]? = some (.cells L.toArray 29 (0, 0)) := GL
  replace GM : W0.drew.heap[w.heap.size + 1]? = some (.cells M.toArray 39 (0, 0)) := GM
  replace BB := BB.drew
  clear hHeld
  have hHeld := ld GL GM hLl hMl hMx
  generalize W0.drew = W1 at *
  refine wpAnyH_ready (rs := [2, 7, 8]) (by kernel_rfl) (by simp) ?_
  refine AllReadyH.cons rfl ?_ (AllReadyH.cons rfl ?_ (AllReadyH.cons rfl ?_ AllReadyH.nil))
  · intro K hK
    go_simp
    refine (Stale_g L M age st s _ HS.out hL hM).mono ?_
    rintro e W2 ⟨rfl, bb⟩
    replace GL := below_at bb GL (Array.getElem?_eq_some_iff.1 GL).1
    replace GM := below_at bb GM (Array.getElem?_eq_some_iff.1 GM).1
    replace BB := below_step BB bb
    clear bb
    refine hK.out _ _ (ld GL GM hLl hMl hMx) (fun _ => ?_)
    clear hK K
    try simp only [List.getElem_toArray, List.getElem_cons_succ, List.getElem_cons_zero, Act.put, List.setIfInBounds_toArray, List.set_cons_zero, List.set_cons_succ]
    refine wpAnyH_ready (rs := [6, 7, 8]) (by kernel_rfl) (by simp) ?_
    refine AllReadyH.cons rfl ?_ (AllReadyH.cons rfl ?_ (AllReadyH.cons rfl ?_ AllReadyH.nil))
    · intro K hK
      go_simp
      refine (bit_c x _).mono ?_
      rintro e W' ⟨rfl, rfl⟩
      have B6 := new_at (w := W2) rfl (.cells #[.int .u32 x.toNat] 35)
      replace GL := old_at GL (.cells #[.int .u32 x.toNat] 35)
      replace GM := old_at GM (.cells #[.int .u32 x.toNat] 35)
      replace BB := below_step BB (below_new W2 (.cells #[.int .u32 x.toNat] 35))
      generalize W2.alloc (.cells #[.int .u32 x.toNat] 35) = W3 at *
      refine hK.out _ _ (ld GL GM hLl hMl hMx) (fun _ => ?_)
      clear hK K
      try simp only [List.getElem_toArray, List.getElem_cons_succ, List.getElem_cons_zero, Act.put, List.setIfInBounds_toArray, List.set_cons_zero, List.set_cons_succ]
      refine wpAnyH_ready (rs := [7, 8]) (by kernel_rfl) (by simp) ?_
      refine AllReadyH.cons rfl ?_ (AllReadyH.cons rfl ?_ AllReadyH.nil)
      · intro K hK
        go_simp
        have A7 := new_at (w := W3) rfl (.cells #[.bool false] 4)
        have L7 : w.heap.size ≤ W3.heap.size := BB.size
        replace GL := old_at GL (.cells #[.bool false] 4)
        replace GM := old_at GM (.cells #[.bool false] 4)
        replace B6 := old_at B6 (.cells #[.bool false] 4)
        replace BB := below_step BB (below_new W3 (.cells #[.bool false] 4))
        generalize W3.alloc (.cells #[.bool false] 4) = W4 at *
        refine hK.out _ _ (ld GL GM hLl hMl hMx) (fun _ => ?_)
        clear hK K
        try simp only [List.getElem_toArray, List.getElem_cons_succ, List.getElem_cons_zero, Act.put, List.setIfInBounds_toArray, List.set_cons_zero, List.set_cons_succ]
        refine wpAnyH_ready (rs := [8]) (by kernel_rfl) (by simp) ?_
        refine AllReadyH.cons rfl ?_ AllReadyH.nil
        · intro K hK
          go_simp
          have A8 := new_at (w := W4) rfl (.cells #[Value.nilFunc] 58)
          have L8 : w.heap.size ≤ W4.heap.size := BB.size
          replace GL := old_at GL (.cells #[Value.nilFunc] 58)
          replace GM := old_at GM (.cells #[Value.nilFunc] 58)
          replace B6 := old_at B6 (.cells #[Value.nilFunc] 58)
          replace A7 := old_at A7 (.cells #[Value.nilFunc] 58)
          replace BB := below_step BB (below_new W4 (.cells #[Value.nilFunc] 58))
          generalize W4.alloc (.cells #[Value.nilFunc] 58) = W5 at *
          refine hK.out _ _ (ld GL GM hLl hMl hMx) (fun _ => ?_)
          clear hK K
          try simp only [List.getElem_toArray, List.getElem_cons_succ, List.getElem_cons_zero, Act.put, List.setIfInBounds_toArray, List.set_cons_zero, List.set_cons_succ]
          have d7 := cell_at A7 0
          have f7 := free_at A7 0
          refine wpAnyH_ready (rs := [9]) (by kernel_rfl) (by simp) ?_
          refine AllReadyH.cons rfl (fun K hK => ?_) AllReadyH.nil
          go_simp
          have F := clo_stores (s := s) BB GL GM A7 A8 B6 L7 L8
          have d8 := cell_at F.2.2.2.2.2.2 0
          have f8 := free_at F.2.2.2.2.2.2 0
          refine hK.out _ _ (ld F.1 F.2.1 hLl hMl hMx) (fun _ => ?_)
          clear hK K d7 f7
          try simp only [List.getElem_toArray, List.getElem_cons_succ, List.getElem_cons_zero, Act.put, List.setIfInBounds_toArray, List.set_cons_zero, List.set_cons_succ]
          generalize W5.setCell ⟨W3.heap.size, 0, none⟩ (.bool s) = W6 at *
          have hst := store_one (P := Tryd.prog) F.2.2.2.2.2.2 (v := .func (.func 30) #[] #[.pointer (some ⟨W2.heap.size, 0, none⟩)]) rfl
          refine wpAnyH_ready (rs := [10]) (by kernel_rfl) (by simp) ?_
          refine AllReadyH.cons rfl (fun K hK => ?_) AllReadyH.nil
          go_simp
          refine hK.out _ _ (ld F.2.2.1 F.2.2.2.1 hLl hMl hMx) (fun _ => ?_)
          clear hK K
          try simp only [List.getElem_toArray, List.getElem_cons_succ, List.getElem_cons_zero, Act.put, List.setIfInBounds_toArray, List.set_cons_zero, List.set_cons_succ]
          refine wpAnyH_done (by kernel_rfl) ?_ _
          have hC := F.2.2.2.2
          clear F hst d8 f8 A7 A8 B6 GL GM BB L7 L8
          go_wp2
          go_ret
          exact ⟨hC.2.1, _, _, _, rfl, hC.1⟩
      · intro K hK
        go_simp
        have A8 := new_at (w := W3) rfl (.cells #[Value.nilFunc] 58)
        have L8 : w.heap.size ≤ W3.heap.size := BB.size
        replace GL := old_at GL (.cells #[Value.nilFunc] 58)
        replace GM := old_at GM (.cells #[Value.nilFunc] 58)
        replace B6 := old_at B6 (.cells #[Value.nilFunc] 58)
        replace BB := below_step BB (below_new W3 (.cells #[Value.nilFunc] 58))
        generalize W3.alloc (.cells #[Value.nilFunc] 58) = W4 at *
        refine hK.out _ _ (ld GL GM hLl hMl hMx) (fun _ => ?_)
        clear hK K
        try simp only [List.getElem_toArray, List.getElem_cons_succ, List.getElem_cons_zero, Act.put, List.setIfInBounds_toArray, List.set_cons_zero, List.set_cons_succ]
        refine wpAnyH_ready (rs := [7]) (by kernel_rfl) (by simp) ?_
        refine AllReadyH.cons rfl ?_ AllReadyH.nil
        · intro K hK
          go_simp
          have A7 := new_at (w := W4) rfl (.cells #[.bool false] 4)
          have L7 : w.heap.size ≤ W4.heap.size := BB.size
          replace GL := old_at GL (.cells #[.bool false] 4)
          replace GM := old_at GM (.cells #[.bool false] 4)
          replace B6 := old_at B6 (.cells #[.bool false] 4)
          replace A8 := old_at A8 (.cells #[.bool false] 4)
          replace BB := below_step BB (below_new W4 (.cells #[.bool false] 4))
          generalize W4.alloc (.cells #[.bool false] 4) = W5 at *
          refine hK.out _ _ (ld GL GM hLl hMl hMx) (fun _ => ?_)
          clear hK K
          try simp only [List.getElem_toArray, List.getElem_cons_succ, List.getElem_cons_zero, Act.put, List.setIfInBounds_toArray, List.set_cons_zero, List.set_cons_succ]
          have d7 := cell_at A7 0
          have f7 := free_at A7 0
          refine wpAnyH_ready (rs := [9]) (by kernel_rfl) (by simp) ?_
          refine AllReadyH.cons rfl (fun K hK => ?_) AllReadyH.nil
          go_simp
          have F := clo_stores (s := s) BB GL GM A7 A8 B6 L7 L8
          have d8 := cell_at F.2.2.2.2.2.2 0
          have f8 := free_at F.2.2.2.2.2.2 0
          refine hK.out _ _ (ld F.1 F.2.1 hLl hMl hMx) (fun _ => ?_)
          clear hK K d7 f7
          try simp only [List.getElem_toArray, List.getElem_cons_succ, List.getElem_cons_zero, Act.put, List.setIfInBounds_toArray, List.set_cons_zero, List.set_cons_succ]
          generalize W5.setCell ⟨W4.heap.size, 0, none⟩ (.bool s) = W6 at *
          have hst := store_one (P := Tryd.prog) F.2.2.2.2.2.2 (v := .func (.func 30) #[] #[.pointer (some ⟨W2.heap.size, 0, none⟩)]) rfl
          refine wpAnyH_ready (rs := [10]) (by kernel_rfl) (by simp) ?_
          refine AllReadyH.cons rfl (fun K hK => ?_) AllReadyH.nil
          go_simp
          refine hK.out _ _ (ld F.2.2.1 F.2.2.2.1 hLl hMl hMx) (fun _ => ?_)
          clear hK K
          try simp only [List.getElem_toArray, List.getElem_cons_succ, List.getElem_cons_zero, Act.put, List.setIfInBounds_toArray, List.set_cons_zero, List.set_cons_succ]
          refine wpAnyH_done (by kernel_rfl) ?_ _
          have hC := F.2.2.2.2
          clear F hst d8 f8 A7 A8 B6 GL GM BB L7 L8
          go_wp2
          go_ret
          exact ⟨hC.2.1, _, _, _, rfl, hC.1⟩
    · intro K hK
      go_simp
      have A7 := new_at (w := W2) rfl (.cells #[.bool false] 4)
      have L7 : w.heap.size ≤ W2.heap.size := BB.size
      replace GL := old_at GL (.cells #[.bool false] 4)
      replace GM := old_at GM (.cells #[.bool false] 4)
      replace BB := below_step BB (below_new W2 (.cells #[.bool false] 4))
      generalize W2.alloc (.cells #[.bool false] 4) = W3 at *
      refine hK.out _ _ (ld GL GM hLl hMl hMx) (fun _ => ?_)
      clear hK K
      try simp only [List.getElem_toArray, List.getElem_cons_succ, List.getElem_cons_zero, Act.put, List.setIfInBounds_toArray, List.set_cons_zero, List.set_cons_succ]
      refine wpAnyH_ready (rs := [6, 8]) (by kernel_rfl) (by simp) ?_
      refine AllReadyH.cons rfl ?_ (AllReadyH.cons rfl ?_ AllReadyH.nil)
      · intro K hK
        go_simp
        refine (bit_c x _).mono ?_
        rintro e W' ⟨rfl, rfl⟩
        have B6 := new_at (w := W3) rfl (.cells #[.int .u32 x.toNat] 35)
        replace GL := old_at GL (.cells #[.int .u32 x.toNat] 35)
        replace GM := old_at GM (.cells #[.int .u32 x.toNat] 35)
        replace A7 := old_at A7 (.cells #[.int .u32 x.toNat] 35)
        replace BB := below_step BB (below_new W3 (.cells #[.int .u32 x.toNat] 35))
        generalize W3.alloc (.cells #[.int .u32 x.toNat] 35) = W4 at *
        refine hK.out _ _ (ld GL GM hLl hMl hMx) (fun _ => ?_)
        clear hK K
        try simp only [List.getElem_toArray, List.getElem_cons_succ, List.getElem_cons_zero, Act.put, List.setIfInBounds_toArray, List.set_cons_zero, List.set_cons_succ]
        refine wpAnyH_ready (rs := [8]) (by kernel_rfl) (by simp) ?_
        refine AllReadyH.cons rfl ?_ AllReadyH.nil
        · intro K hK
          go_simp
          have A8 := new_at (w := W4) rfl (.cells #[Value.nilFunc] 58)
          have L8 : w.heap.size ≤ W4.heap.size := BB.size
          replace GL := old_at GL (.cells #[Value.nilFunc] 58)
          replace GM := old_at GM (.cells #[Value.nilFunc] 58)
          replace A7 := old_at A7 (.cells #[Value.nilFunc] 58)
          replace B6 := old_at B6 (.cells #[Value.nilFunc] 58)
          replace BB := below_step BB (below_new W4 (.cells #[Value.nilFunc] 58))
          generalize W4.alloc (.cells #[Value.nilFunc] 58) = W5 at *
          refine hK.out _ _ (ld GL GM hLl hMl hMx) (fun _ => ?_)
          clear hK K
          try simp only [List.getElem_toArray, List.getElem_cons_succ, List.getElem_cons_zero, Act.put, List.setIfInBounds_toArray, List.set_cons_zero, List.set_cons_succ]
          have d7 := cell_at A7 0
          have f7 := free_at A7 0
          refine wpAnyH_ready (rs := [9]) (by kernel_rfl) (by simp) ?_
          refine AllReadyH.cons rfl (fun K hK => ?_) AllReadyH.nil
          go_simp
          have F := clo_stores (s := s) BB GL GM A7 A8 B6 L7 L8
          have d8 := cell_at F.2.2.2.2.2.2 0
          have f8 := free_at F.2.2.2.2.2.2 0
          refine hK.out _ _ (ld F.1 F.2.1 hLl hMl hMx) (fun _ => ?_)
          clear hK K d7 f7
          try simp only [List.getElem_toArray, List.getElem_cons_succ, List.getElem_cons_zero, Act.put, List.setIfInBounds_toArray, List.set_cons_zero, List.set_cons_succ]
          generalize W5.setCell ⟨W2.heap.size, 0, none⟩ (.bool s) = W6 at *
          have hst := store_one (P := Tryd.prog) F.2.2.2.2.2.2 (v := .func (.func 30) #[] #[.pointer (some ⟨W3.heap.size, 0, none⟩)]) rfl
          refine wpAnyH_ready (rs := [10]) (by kernel_rfl) (by simp) ?_
          refine AllReadyH.cons rfl (fun K hK => ?_) AllReadyH.nil
          go_simp
          refine hK.out _ _ (ld F.2.2.1 F.2.2.2.1 hLl hMl hMx) (fun _ => ?_)
          clear hK K
          try simp only [List.getElem_toArray, List.getElem_cons_succ, List.getElem_cons_zero, Act.put, List.setIfInBounds_toArray, List.set_cons_zero, List.set_cons_succ]
          refine wpAnyH_done (by kernel_rfl) ?_ _
          have hC := F.2.2.2.2
          clear F hst d8 f8 A7 A8 B6 GL GM BB L7 L8
          go_wp2
          go_ret
          exact ⟨hC.2.1, _, _, _, rfl, hC.1⟩
      · intro K hK
        go_simp
        have A8 := new_at (w := W3) rfl (.cells #[Value.nilFunc] 58)
        have L8 : w.heap.size ≤ W3.heap.size := BB.size
        replace GL := old_at GL (.cells #[Value.nilFunc] 58)
        replace GM := old_at GM (.cells #[Value.nilFunc] 58)
        replace A7 := old_at A7 (.cells #[Value.nilFunc] 58)
        replace BB := below_step BB (below_new W3 (.cells #[Value.nilFunc] 58))
        generalize W3.alloc (.cells #[Value.nilFunc] 58) = W4 at *
        refine hK.out _ _ (ld GL GM hLl hMl hMx) (fun _ => ?_)
        clear hK K
        try simp only [List.getElem_toArray, List.getElem_cons_succ, List.getElem_cons_zero, Act.put, List.setIfInBounds_toArray, List.set_cons_zero, List.set_cons_succ]
        refine wpAnyH_ready (rs := [6]) (by kernel_rfl) (by simp) ?_
        refine AllReadyH.cons rfl ?_ AllReadyH.nil
        · intro K hK
          go_simp
          refine (bit_c x _).mono ?_
          rintro e W' ⟨rfl, rfl⟩
          have B6 := new_at (w := W4) rfl (.cells #[.int .u32 x.toNat] 35)
          replace GL := old_at GL (.cells #[.int .u32 x.toNat] 35)
          replace GM := old_at GM (.cells #[.int .u32 x.toNat] 35)
          replace A7 := old_at A7 (.cells #[.int .u32 x.toNat] 35)
          replace A8 := old_at A8 (.cells #[.int .u32 x.toNat] 35)
          replace BB := below_step BB (below_new W4 (.cells #[.int .u32 x.toNat] 35))
          generalize W4.alloc (.cells #[.int .u32 x.toNat] 35) = W5 at *
          refine hK.out _ _ (ld GL GM hLl hMl hMx) (fun _ => ?_)
          clear hK K
          try simp only [List.getElem_toArray, List.getElem_cons_succ, List.getElem_cons_zero, Act.put, List.setIfInBounds_toArray, List.set_cons_zero, List.set_cons_succ]
          have d7 := cell_at A7 0
          have f7 := free_at A7 0
          refine wpAnyH_ready (rs := [9]) (by kernel_rfl) (by simp) ?_
          refine AllReadyH.cons rfl (fun K hK => ?_) AllReadyH.nil
          go_simp
          have F := clo_stores (s := s) BB GL GM A7 A8 B6 L7 L8
          have d8 := cell_at F.2.2.2.2.2.2 0
          have f8 := free_at F.2.2.2.2.2.2 0
          refine hK.out _ _ (ld F.1 F.2.1 hLl hMl hMx) (fun _ => ?_)
          clear hK K d7 f7
          try simp only [List.getElem_toArray, List.getElem_cons_succ, List.getElem_cons_zero, Act.put, List.setIfInBounds_toArray, List.set_cons_zero, List.set_cons_succ]
          generalize W5.setCell ⟨W2.heap.size, 0, none⟩ (.bool s) = W6 at *
          have hst := store_one (P := Tryd.prog) F.2.2.2.2.2.2 (v := .func (.func 30) #[] #[.pointer (some ⟨W4.heap.size, 0, none⟩)]) rfl
          refine wpAnyH_ready (rs := [10]) (by kernel_rfl) (by simp) ?_
          refine AllReadyH.cons rfl (fun K hK => ?_) AllReadyH.nil
          go_simp
          refine hK.out _ _ (ld F.2.2.1 F.2.2.2.1 hLl hMl hMx) (fun _ => ?_)
          clear hK K
          try simp only [List.getElem_toArray, List.getElem_cons_succ, List.getElem_cons_zero, Act.put, List.setIfInBounds_toArray, List.set_cons_zero, List.set_cons_succ]
          refine wpAnyH_done (by kernel_rfl) ?_ _
          have hC := F.2.2.2.2
          clear F hst d8 f8 A7 A8 B6 GL GM BB L7 L8
          go_wp2
          go_ret
          exact ⟨hC.2.1, _, _, _, rfl, hC.1⟩
    · intro K hK
      go_simp
      have A8 := new_at (w := W2) rfl (.cells #[Value.nilFunc] 58)
      have L8 : w.heap.size ≤ W2.heap.size := BB.size
      replace GL := old_at GL (.cells #[Value.nilFunc] 58)
      replace GM := old_at GM (.cells #[Value.nilFunc] 58)
      replace BB := below_step BB (below_new W2 (.cells #[Value.nilFunc] 58))
      generalize W2.alloc (.cells #[Value.nilFunc] 58) = W3 at *
      refine hK.out _ _ (ld GL GM hLl hMl hMx) (fun _ => ?_)
      clear hK K
      try simp only [List.getElem_toArray, List.getElem_cons_succ, List.getElem_cons_zero, Act.put, List.setIfInBounds_toArray, List.set_cons_zero, List.set_cons_succ]
      refine wpAnyH_ready (rs := [6, 7]) (by kernel_rfl) (by simp) ?_
      refine AllReadyH.cons rfl ?_ (AllReadyH.cons rfl ?_ AllReadyH.nil)
      · intro K hK
        go_simp
        refine (bit_c x _).mono ?_
        rintro e W' ⟨rfl, rfl⟩
        have B6 := new_at (w := W3) rfl (.cells #[.int .u32 x.toNat] 35)
        replace GL := old_at GL (.cells #[.int .u32 x.toNat] 35)
        replace GM := old_at GM (.cells #[.int .u32 x.toNat] 35)
        replace A8 := old_at A8 (.cells #[.int .u32 x.toNat] 35)
        replace BB := below_step BB (below_new W3 (.cells #[.int .u32 x.toNat] 35))
        generalize W3.alloc (.cells #[.int .u32 x.toNat] 35) = W4 at *
        refine hK.out _ _ (ld GL GM hLl hMl hMx) (fun _ => ?_)
        clear hK K
        try simp only [List.getElem_toArray, List.getElem_cons_succ, List.getElem_cons_zero, Act.put, List.setIfInBounds_toArray, List.set_cons_zero, List.set_cons_succ]
        refine wpAnyH_ready (rs := [7]) (by kernel_rfl) (by simp) ?_
        refine AllReadyH.cons rfl ?_ AllReadyH.nil
        · intro K hK
          go_simp
          have A7 := new_at (w := W4) rfl (.cells #[.bool false] 4)
          have L7 : w.heap.size ≤ W4.heap.size := BB.size
          replace GL := old_at GL (.cells #[.bool false] 4)
          replace GM := old_at GM (.cells #[.bool false] 4)
          replace A8 := old_at A8 (.cells #[.bool false] 4)
          replace B6 := old_at B6 (.cells #[.bool false] 4)
          replace BB := below_step BB (below_new W4 (.cells #[.bool false] 4))
          generalize W4.alloc (.cells #[.bool false] 4) = W5 at *
          refine hK.out _ _ (ld GL GM hLl hMl hMx) (fun _ => ?_)
          clear hK K
          try simp only [List.getElem_toArray, List.getElem_cons_succ, List.getElem_cons_zero, Act.put, List.setIfInBounds_toArray, List.set_cons_zero, List.set_cons_succ]
          have d7 := cell_at A7 0
          have f7 := free_at A7 0
          refine wpAnyH_ready (rs := [9]) (by kernel_rfl) (by simp) ?_
          refine AllReadyH.cons rfl (fun K hK => ?_) AllReadyH.nil
          go_simp
          have F := clo_stores (s := s) BB GL GM A7 A8 B6 L7 L8
          have d8 := cell_at F.2.2.2.2.2.2 0
          have f8 := free_at F.2.2.2.2.2.2 0
          refine hK.out _ _ (ld F.1 F.2.1 hLl hMl hMx) (fun _ => ?_)
          clear hK K d7 f7
          try simp only [List.getElem_toArray, List.getElem_cons_succ, List.getElem_cons_zero, Act.put, List.setIfInBounds_toArray, List.set_cons_zero, List.set_cons_succ]
          generalize W5.setCell ⟨W4.heap.size, 0, none⟩ (.bool s) = W6 at *
          have hst := store_one (P := Tryd.prog) F.2.2.2.2.2.2 (v := .func (.func 30) #[] #[.pointer (some ⟨W3.heap.size, 0, none⟩)]) rfl
          refine wpAnyH_ready (rs := [10]) (by kernel_rfl) (by simp) ?_
          refine AllReadyH.cons rfl (fun K hK => ?_) AllReadyH.nil
          go_simp
          refine hK.out _ _ (ld F.2.2.1 F.2.2.2.1 hLl hMl hMx) (fun _ => ?_)
          clear hK K
          try simp only [List.getElem_toArray, List.getElem_cons_succ, List.getElem_cons_zero, Act.put, List.setIfInBounds_toArray, List.set_cons_zero, List.set_cons_succ]
          refine wpAnyH_done (by kernel_rfl) ?_ _
          have hC := F.2.2.2.2
          clear F hst d8 f8 A7 A8 B6 GL GM BB L7 L8
          go_wp2
          go_ret
          exact ⟨hC.2.1, _, _, _, rfl, hC.1⟩
      · intro K hK
        go_simp
        have A7 := new_at (w := W3) rfl (.cells #[.bool false] 4)
        have L7 : w.heap.size ≤ W3.heap.size := BB.size
        replace GL := old_at GL (.cells #[.bool false] 4)
        replace GM := old_at GM (.cells #[.bool false] 4)
        replace A8 := old_at A8 (.cells #[.bool false] 4)
        replace BB := below_step BB (below_new W3 (.cells #[.bool false] 4))
        generalize W3.alloc (.cells #[.bool false] 4) = W4 at *
        refine hK.out _ _ (ld GL GM hLl hMl hMx) (fun _ => ?_)
        clear hK K
        try simp only [List.getElem_toArray, List.getElem_cons_succ, List.getElem_cons_zero, Act.put, List.setIfInBounds_toArray, List.set_cons_zero, List.set_cons_succ]
        refine wpAnyH_ready (rs := [6]) (by kernel_rfl) (by simp) ?_
        refine AllReadyH.cons rfl ?_ AllReadyH.nil
        · intro K hK
          go_simp
          refine (bit_c x _).mono ?_
          rintro e W' ⟨rfl, rfl⟩
          have B6 := new_at (w := W4) rfl (.cells #[.int .u32 x.toNat] 35)
          replace GL := old_at GL (.cells #[.int .u32 x.toNat] 35)
          replace GM := old_at GM (.cells #[.int .u32 x.toNat] 35)
          replace A8 := old_at A8 (.cells #[.int .u32 x.toNat] 35)
          replace A7 := old_at A7 (.cells #[.int .u32 x.toNat] 35)
          replace BB := below_step BB (below_new W4 (.cells #[.int .u32 x.toNat] 35))
          generalize W4.alloc (.cells #[.int .u32 x.toNat] 35) = W5 at *
          refine hK.out _ _ (ld GL GM hLl hMl hMx) (fun _ => ?_)
          clear hK K
          try simp only [List.getElem_toArray, List.getElem_cons_succ, List.getElem_cons_zero, Act.put, List.setIfInBounds_toArray, List.set_cons_zero, List.set_cons_succ]
          have d7 := cell_at A7 0
          have f7 := free_at A7 0
          refine wpAnyH_ready (rs := [9]) (by kernel_rfl) (by simp) ?_
          refine AllReadyH.cons rfl (fun K hK => ?_) AllReadyH.nil
          go_simp
          have F := clo_stores (s := s) BB GL GM A7 A8 B6 L7 L8
          have d8 := cell_at F.2.2.2.2.2.2 0
          have f8 := free_at F.2.2.2.2.2.2 0
          refine hK.out _ _ (ld F.1 F.2.1 hLl hMl hMx) (fun _ => ?_)
          clear hK K d7 f7
          try simp only [List.getElem_toArray, List.getElem_cons_succ, List.getElem_cons_zero, Act.put, List.setIfInBounds_toArray, List.set_cons_zero, List.set_cons_succ]
          generalize W5.setCell ⟨W3.heap.size, 0, none⟩ (.bool s) = W6 at *
          have hst := store_one (P := Tryd.prog) F.2.2.2.2.2.2 (v := .func (.func 30) #[] #[.pointer (some ⟨W4.heap.size, 0, none⟩)]) rfl
          refine wpAnyH_ready (rs := [10]) (by kernel_rfl) (by simp) ?_
          refine AllReadyH.cons rfl (fun K hK => ?_) AllReadyH.nil
          go_simp
          refine hK.out _ _ (ld F.2.2.1 F.2.2.2.1 hLl hMl hMx) (fun _ => ?_)
          clear hK K
          try simp only [List.getElem_toArray, List.getElem_cons_succ, List.getElem_cons_zero, Act.put, List.setIfInBounds_toArray, List.set_cons_zero, List.set_cons_succ]
          refine wpAnyH_done (by kernel_rfl) ?_ _
          have hC := F.2.2.2.2
          clear F hst d8 f8 A7 A8 B6 GL GM BB L7 L8
          go_wp2
          go_ret
          exact ⟨hC.2.1, _, _, _, rfl, hC.1⟩
  · intro K hK
    go_simp
    have A7 := new_at (w := W1) rfl (.cells #[.bool false] 4)
    have L7 : w.heap.size ≤ W1.heap.size := BB.size
    replace GL := old_at GL (.cells #[.bool false] 4)
    replace GM := old_at GM (.cells #[.bool false] 4)
    replace BB := below_step BB (below_new W1 (.cells #[.bool false] 4))
    generalize W1.alloc (.cells #[.bool false] 4) = W2 at *
    refine hK.out _ _ (ld GL GM hLl hMl hMx) (fun _ => ?_)
    clear hK K
    try simp only [List.getElem_toArray, List.getElem_cons_succ, List.getElem_cons_zero, Act.put, List.setIfInBounds_toArray, List.set_cons_zero, List.set_cons_succ]
    refine wpAnyH_ready (rs := [2, 8]) (by kernel_rfl) (by simp) ?_
    refine AllReadyH.cons rfl ?_ (AllReadyH.cons rfl ?_ AllReadyH.nil)
    · intro K hK
      go_simp
      refine (Stale_g L M age st s _ HS.out hL hM).mono ?_
      rintro e W3 ⟨rfl, bb⟩
      replace GL := below_at bb GL (Array.getElem?_eq_some_iff.1 GL).1
      replace GM := below_at bb GM (Array.getElem?_eq_some_iff.1 GM).1
      replace A7 := below_at bb A7 (Array.getElem?_eq_some_iff.1 A7).1
      replace BB := below_step BB bb
      clear bb
      refine hK.out _ _ (ld GL GM hLl hMl hMx) (fun _ => ?_)
      clear hK K
      try simp only [List.getElem_toArray, List.getElem_cons_succ, List.getElem_cons_zero, Act.put, List.setIfInBounds_toArray, List.set_cons_zero, List.set_cons_succ]
      refine wpAnyH_ready (rs := [6, 8]) (by kernel_rfl) (by simp) ?_
      refine AllReadyH.cons rfl ?_ (AllReadyH.cons rfl ?_ AllReadyH.nil)
      · intro K hK
        go_simp
        refine (bit_c x _).mono ?_
        rintro e W' ⟨rfl, rfl⟩
        have B6 := new_at (w := W3) rfl (.cells #[.int .u32 x.toNat] 35)
        replace GL := old_at GL (.cells #[.int .u32 x.toNat] 35)
        replace GM := old_at GM (.cells #[.int .u32 x.toNat] 35)
        replace A7 := old_at A7 (.cells #[.int .u32 x.toNat] 35)
        replace BB := below_step BB (below_new W3 (.cells #[.int .u32 x.toNat] 35))
        generalize W3.alloc (.cells #[.int .u32 x.toNat] 35) = W4 at *
        refine hK.out _ _ (ld GL GM hLl hMl hMx) (fun _ => ?_)
        clear hK K
        try simp only [List.getElem_toArray, List.getElem_cons_succ, List.getElem_cons_zero, Act.put, List.setIfInBounds_toArray, List.set_cons_zero, List.set_cons_succ]
        refine wpAnyH_ready (rs := [8]) (by kernel_rfl) (by simp) ?_
        refine AllReadyH.cons rfl ?_ AllReadyH.nil
        · intro K hK
          go_simp
          have A8 := new_at (w := W4) rfl (.cells #[Value.nilFunc] 58)
          have L8 : w.heap.size ≤ W4.heap.size := BB.size
          replace GL := old_at GL (.cells #[Value.nilFunc] 58)
          replace GM := old_at GM (.cells #[Value.nilFunc] 58)
          replace A7 := old_at A7 (.cells #[Value.nilFunc] 58)
          replace B6 := old_at B6 (.cells #[Value.nilFunc] 58)
          replace BB := below_step BB (below_new W4 (.cells #[Value.nilFunc] 58))
          generalize W4.alloc (.cells #[Value.nilFunc] 58) = W5 at *
          refine hK.out _ _ (ld GL GM hLl hMl hMx) (fun _ => ?_)
          clear hK K
          try simp only [List.getElem_toArray, List.getElem_cons_succ, List.getElem_cons_zero, Act.put, List.setIfInBounds_toArray, List.set_cons_zero, List.set_cons_succ]
          have d7 := cell_at A7 0
          have f7 := free_at A7 0
          refine wpAnyH_ready (rs := [9]) (by kernel_rfl) (by simp) ?_
          refine AllReadyH.cons rfl (fun K hK => ?_) AllReadyH.nil
          go_simp
          have F := clo_stores (s := s) BB GL GM A7 A8 B6 L7 L8
          have d8 := cell_at F.2.2.2.2.2.2 0
          have f8 := free_at F.2.2.2.2.2.2 0
          refine hK.out _ _ (ld F.1 F.2.1 hLl hMl hMx) (fun _ => ?_)
          clear hK K d7 f7
          try simp only [List.getElem_toArray, List.getElem_cons_succ, List.getElem_cons_zero, Act.put, List.setIfInBounds_toArray, List.set_cons_zero, List.set_cons_succ]
          generalize W5.setCell ⟨W1.heap.size, 0, none⟩ (.bool s) = W6 at *
          have hst := store_one (P := Tryd.prog) F.2.2.2.2.2.2 (v := .func (.func 30) #[] #[.pointer (some ⟨W3.heap.size, 0, none⟩)]) rfl
          refine wpAnyH_ready (rs := [10]) (by kernel_rfl) (by simp) ?_
          refine AllReadyH.cons rfl (fun K hK => ?_) AllReadyH.nil
          go_simp
          refine hK.out _ _ (ld F.2.2.1 F.2.2.2.1 hLl hMl hMx) (fun _ => ?_)
          clear hK K
          try simp only [List.getElem_toArray, List.getElem_cons_succ, List.getElem_cons_zero, Act.put, List.setIfInBounds_toArray, List.set_cons_zero, List.set_cons_succ]
          refine wpAnyH_done (by kernel_rfl) ?_ _
          have hC := F.2.2.2.2
          clear F hst d8 f8 A7 A8 B6 GL GM BB L7 L8
          go_wp2
          go_ret
          exact ⟨hC.2.1, _, _, _, rfl, hC.1⟩
      · intro K hK
        go_simp
        have A8 := new_at (w := W3) rfl (.cells #[Value.nilFunc] 58)
        have L8 : w.heap.size ≤ W3.heap.size := BB.size
        replace GL := old_at GL (.cells #[Value.nilFunc] 58)
        replace GM := old_at GM (.cells #[Value.nilFunc] 58)
        replace A7 := old_at A7 (.cells #[Value.nilFunc] 58)
        replace BB := below_step BB (below_new W3 (.cells #[Value.nilFunc] 58))
        generalize W3.alloc (.cells #[Value.nilFunc] 58) = W4 at *
        refine hK.out _ _ (ld GL GM hLl hMl hMx) (fun _ => ?_)
        clear hK K
        try simp only [List.getElem_toArray, List.getElem_cons_succ, List.getElem_cons_zero, Act.put, List.setIfInBounds_toArray, List.set_cons_zero, List.set_cons_succ]
        refine wpAnyH_ready (rs := [6]) (by kernel_rfl) (by simp) ?_
        refine AllReadyH.cons rfl ?_ AllReadyH.nil
        · intro K hK
          go_simp
          refine (bit_c x _).mono ?_
          rintro e W' ⟨rfl, rfl⟩
          have B6 := new_at (w := W4) rfl (.cells #[.int .u32 x.toNat] 35)
          replace GL := old_at GL (.cells #[.int .u32 x.toNat] 35)
          replace GM := old_at GM (.cells #[.int .u32 x.toNat] 35)
          replace A7 := old_at A7 (.cells #[.int .u32 x.toNat] 35)
          replace A8 := old_at A8 (.cells #[.int .u32 x.toNat] 35)
          replace BB := below_step BB (below_new W4 (.cells #[.int .u32 x.toNat] 35))
          generalize W4.alloc (.cells #[.int .u32 x.toNat] 35) = W5 at *
          refine hK.out _ _ (ld GL GM hLl hMl hMx) (fun _ => ?_)
          clear hK K
          try simp only [List.getElem_toArray, List.getElem_cons_succ, List.getElem_cons_zero, Act.put, List.setIfInBounds_toArray, List.set_cons_zero, List.set_cons_succ]
          have d7 := cell_at A7 0
          have f7 := free_at A7 0
          refine wpAnyH_ready (rs := [9]) (by kernel_rfl) (by simp) ?_
          refine AllReadyH.cons rfl (fun K hK => ?_) AllReadyH.nil
          go_simp
          have F := clo_stores (s := s) BB GL GM A7 A8 B6 L7 L8
          have d8 := cell_at F.2.2.2.2.2.2 0
          have f8 := free_at F.2.2.2.2.2.2 0
          refine hK.out _ _ (ld F.1 F.2.1 hLl hMl hMx) (fun _ => ?_)
          clear hK K d7 f7
          try simp only [List.getElem_toArray, List.getElem_cons_succ, List.getElem_cons_zero, Act.put, List.setIfInBounds_toArray, List.set_cons_zero, List.set_cons_succ]
          generalize W5.setCell ⟨W1.heap.size, 0, none⟩ (.bool s) = W6 at *
          have hst := store_one (P := Tryd.prog) F.2.2.2.2.2.2 (v := .func (.func 30) #[] #[.pointer (some ⟨W4.heap.size, 0, none⟩)]) rfl
          refine wpAnyH_ready (rs := [10]) (by kernel_rfl) (by simp) ?_
          refine AllReadyH.cons rfl (fun K hK => ?_) AllReadyH.nil
          go_simp
          refine hK.out _ _ (ld F.2.2.1 F.2.2.2.1 hLl hMl hMx) (fun _ => ?_)
          clear hK K
          try simp only [List.getElem_toArray, List.getElem_cons_succ, List.getElem_cons_zero, Act.put, List.setIfInBounds_toArray, List.set_cons_zero, List.set_cons_succ]
          refine wpAnyH_done (by kernel_rfl) ?_ _
          have hC := F.2.2.2.2
          clear F hst d8 f8 A7 A8 B6 GL GM BB L7 L8
          go_wp2
          go_ret
          exact ⟨hC.2.1, _, _, _, rfl, hC.1⟩
    · intro K hK
      go_simp
      have A8 := new_at (w := W2) rfl (.cells #[Value.nilFunc] 58)
      have L8 : w.heap.size ≤ W2.heap.size := BB.size
      replace GL := old_at GL (.cells #[Value.nilFunc] 58)
      replace GM := old_at GM (.cells #[Value.nilFunc] 58)
      replace A7 := old_at A7 (.cells #[Value.nilFunc] 58)
      replace BB := below_step BB (below_new W2 (.cells #[Value.nilFunc] 58))
      generalize W2.alloc (.cells #[Value.nilFunc] 58) = W3 at *
      refine hK.out _ _ (ld GL GM hLl hMl hMx) (fun _ => ?_)
      clear hK K
      try simp only [List.getElem_toArray, List.getElem_cons_succ, List.getElem_cons_zero, Act.put, List.setIfInBounds_toArray, List.set_cons_zero, List.set_cons_succ]
      refine wpAnyH_ready (rs := [2]) (by kernel_rfl) (by simp) ?_
      refine AllReadyH.cons rfl ?_ AllReadyH.nil
      · intro K hK
        go_simp
        refine (Stale_g L M age st s _ HS.out hL hM).mono ?_
        rintro e W4 ⟨rfl, bb⟩
        replace GL := below_at bb GL (Array.getElem?_eq_some_iff.1 GL).1
        replace GM := below_at bb GM (Array.getElem?_eq_some_iff.1 GM).1
        replace A7 := below_at bb A7 (Array.getElem?_eq_some_iff.1 A7).1
        replace A8 := below_at bb A8 (Array.getElem?_eq_some_iff.1 A8).1
        replace BB := below_step BB bb
        clear bb
        refine hK.out _ _ (ld GL GM hLl hMl hMx) (fun _ => ?_)
        clear hK K
        try simp only [List.getElem_toArray, List.getElem_cons_succ, List.getElem_cons_zero, Act.put, List.setIfInBounds_toArray, List.set_cons_zero, List.set_cons_succ]
        refine wpAnyH_ready (rs := [6]) (by kernel_rfl) (by simp) ?_
        refine AllReadyH.cons rfl ?_ AllReadyH.nil
        · intro K hK
          go_simp
          refine (bit_c x _).mono ?_
          rintro e W' ⟨rfl, rfl⟩
          have B6 := new_at (w := W4) rfl (.cells #[.int .u32 x.toNat] 35)
          replace GL := old_at GL (.cells #[.int .u32 x.toNat] 35)
          replace GM := old_at GM (.cells #[.int .u32 x.toNat] 35)
          replace A7 := old_at A7 (.cells #[.int .u32 x.toNat] 35)
          replace A8 := old_at A8 (.cells #[.int .u32 x.toNat] 35)
          replace BB := below_step BB (below_new W4 (.cells #[.int .u32 x.toNat] 35))
          generalize W4.alloc (.cells #[.int .u32 x.toNat] 35) = W5 at *
          refine hK.out _ _ (ld GL GM hLl hMl hMx) (fun _ => ?_)
          clear hK K
          try simp only [List.getElem_toArray, List.getElem_cons_succ, List.getElem_cons_zero, Act.put, List.setIfInBounds_toArray, List.set_cons_zero, List.set_cons_succ]
          have d7 := cell_at A7 0
          have f7 := free_at A7 0
          refine wpAnyH_ready (rs := [9]) (by kernel_rfl) (by simp) ?_
          refine AllReadyH.cons rfl (fun K hK => ?_) AllReadyH.nil
          go_simp
          have F := clo_stores (s := s) BB GL GM A7 A8 B6 L7 L8
          have d8 := cell_at F.2.2.2.2.2.2 0
          have f8 := free_at F.2.2.2.2.2.2 0
          refine hK.out _ _ (ld F.1 F.2.1 hLl hMl hMx) (fun _ => ?_)
          clear hK K d7 f7
          try simp only [List.getElem_toArray, List.getElem_cons_succ, List.getElem_cons_zero, Act.put, List.setIfInBounds_toArray, List.set_cons_zero, List.set_cons_succ]
          generalize W5.setCell ⟨W1.heap.size, 0, none⟩ (.bool s) = W6 at *
          have hst := store_one (P := Tryd.prog) F.2.2.2.2.2.2 (v := .func (.func 30) #[] #[.pointer (some ⟨W4.heap.size, 0, none⟩)]) rfl
          refine wpAnyH_ready (rs := [10]) (by kernel_rfl) (by simp) ?_
          refine AllReadyH.cons rfl (fun K hK => ?_) AllReadyH.nil
          go_simp
          refine hK.out _ _ (ld F.2.2.1 F.2.2.2.1 hLl hMl hMx) (fun _ => ?_)
          clear hK K
          try simp only [List.getElem_toArray, List.getElem_cons_succ, List.getElem_cons_zero, Act.put, List.setIfInBounds_toArray, List.set_cons_zero, List.set_cons_succ]
          refine wpAnyH_done (by kernel_rfl) ?_ _
          have hC := F.2.2.2.2
          clear F hst d8 f8 A7 A8 B6 GL GM BB L7 L8
          go_wp2
          go_ret
          exact ⟨hC.2.1, _, _, _, rfl, hC.1⟩
  · intro K hK
    go_simp
    have A8 := new_at (w := W1) rfl (.cells #[Value.nilFunc] 58)
    have L8 : w.heap.size ≤ W1.heap.size := BB.size
    replace GL := old_at GL (.cells #[Value.nilFunc] 58)
    replace GM := old_at GM (.cells #[Value.nilFunc] 58)
    replace BB := below_step BB (below_new W1 (.cells #[Value.nilFunc] 58))
    generalize W1.alloc (.cells #[Value.nilFunc] 58) = W2 at *
    refine hK.out _ _ (ld GL GM hLl hMl hMx) (fun _ => ?_)
    clear hK K
    try simp only [List.getElem_toArray, List.getElem_cons_succ, List.getElem_cons_zero, Act.put, List.setIfInBounds_toArray, List.set_cons_zero, List.set_cons_succ]
    refine wpAnyH_ready (rs := [2, 7]) (by kernel_rfl) (by simp) ?_
    refine AllReadyH.cons rfl ?_ (AllReadyH.cons rfl ?_ AllReadyH.nil)
    · intro K hK
      go_simp
      refine (Stale_g L M age st s _ HS.out hL hM).mono ?_
      rintro e W3 ⟨rfl, bb⟩
      replace GL := below_at bb GL (Array.getElem?_eq_some_iff.1 GL).1
      replace GM := below_at bb GM (Array.getElem?_eq_some_iff.1 GM).1
      replace A8 := below_at bb A8 (Array.getElem?_eq_some_iff.1 A8).1
      replace BB := below_step BB bb
      clear bb
      refine hK.out _ _ (ld GL GM hLl hMl hMx) (fun _ => ?_)
      clear hK K
      try simp only [List.getElem_toArray, List.getElem_cons_succ, List.getElem_cons_zero, Act.put, List.setIfInBounds_toArray, List.set_cons_zero, List.set_cons_succ]
      refine wpAnyH_ready (rs := [6, 7]) (by kernel_rfl) (by simp) ?_
      refine AllReadyH.cons rfl ?_ (AllReadyH.cons rfl ?_ AllReadyH.nil)
      · intro K hK
        go_simp
        refine (bit_c x _).mono ?_
        rintro e W' ⟨rfl, rfl⟩
        have B6 := new_at (w := W3) rfl (.cells #[.int .u32 x.toNat] 35)
        replace GL := old_at GL (.cells #[.int .u32 x.toNat] 35)
        replace GM := old_at GM (.cells #[.int .u32 x.toNat] 35)
        replace A8 := old_at A8 (.cells #[.int .u32 x.toNat] 35)
        replace BB := below_step BB (below_new W3 (.cells #[.int .u32 x.toNat] 35))
        generalize W3.alloc (.cells #[.int .u32 x.toNat] 35) = W4 at *
        refine hK.out _ _ (ld GL GM hLl hMl hMx) (fun _ => ?_)
        clear hK K
        try simp only [List.getElem_toArray, List.getElem_cons_succ, List.getElem_cons_zero, Act.put, List.setIfInBounds_toArray, List.set_cons_zero, List.set_cons_succ]
        refine wpAnyH_ready (rs := [7]) (by kernel_rfl) (by simp) ?_
        refine AllReadyH.cons rfl ?_ AllReadyH.nil
        · intro K hK
          go_simp
          have A7 := new_at (w := W4) rfl (.cells #[.bool false] 4)
          have L7 : w.heap.size ≤ W4.heap.size := BB.size
          replace GL := old_at GL (.cells #[.bool false] 4)
          replace GM := old_at GM (.cells #[.bool false] 4)
          replace A8 := old_at A8 (.cells #[.bool false] 4)
          replace B6 := old_at B6 (.cells #[.bool false] 4)
          replace BB := below_step BB (below_new W4 (.cells #[.bool false] 4))
          generalize W4.alloc (.cells #[.bool false] 4) = W5 at *
          refine hK.out _ _ (ld GL GM hLl hMl hMx) (fun _ => ?_)
          clear hK K
          try simp only [List.getElem_toArray, List.getElem_cons_succ, List.getElem_cons_zero, Act.put, List.setIfInBounds_toArray, List.set_cons_zero, List.set_cons_succ]
          have d7 := cell_at A7 0
          have f7 := free_at A7 0
          refine wpAnyH_ready (rs := [9]) (by kernel_rfl) (by simp) ?_
          refine AllReadyH.cons rfl (fun K hK => ?_) AllReadyH.nil
          go_simp
          have F := clo_stores (s := s) BB GL GM A7 A8 B6 L7 L8
          have d8 := cell_at F.2.2.2.2.2.2 0
          have f8 := free_at F.2.2.2.2.2.2 0
          refine hK.out _ _ (ld F.1 F.2.1 hLl hMl hMx) (fun _ => ?_)
          clear hK K d7 f7
          try simp only [List.getElem_toArray, List.getElem_cons_succ, List.getElem_cons_zero, Act.put, List.setIfInBounds_toArray, List.set_cons_zero, List.set_cons_succ]
          generalize W5.setCell ⟨W4.heap.size, 0, none⟩ (.bool s) = W6 at *
          have hst := store_one (P := Tryd.prog) F.2.2.2.2.2.2 (v := .func (.func 30) #[] #[.pointer (some ⟨W3.heap.size, 0, none⟩)]) rfl
          refine wpAnyH_ready (rs := [10]) (by kernel_rfl) (by simp) ?_
          refine AllReadyH.cons rfl (fun K hK => ?_) AllReadyH.nil
          go_simp
          refine hK.out _ _ (ld F.2.2.1 F.2.2.2.1 hLl hMl hMx) (fun _ => ?_)
          clear hK K
          try simp only [List.getElem_toArray, List.getElem_cons_succ, List.getElem_cons_zero, Act.put, List.setIfInBounds_toArray, List.set_cons_zero, List.set_cons_succ]
          refine wpAnyH_done (by kernel_rfl) ?_ _
          have hC := F.2.2.2.2
          clear F hst d8 f8 A7 A8 B6 GL GM BB L7 L8
          go_wp2
          go_ret
          exact ⟨hC.2.1, _, _, _, rfl, hC.1⟩
      · intro K hK
        go_simp
        have A7 := new_at (w := W3) rfl (.cells #[.bool false] 4)
        have L7 : w.heap.size ≤ W3.heap.size := BB.size
        replace GL := old_at GL (.cells #[.bool false] 4)
        replace GM := old_at GM (.cells #[.bool false] 4)
        replace A8 := old_at A8 (.cells #[.bool false] 4)
        replace BB := below_step BB (below_new W3 (.cells #[.bool false] 4))
        generalize W3.alloc (.cells #[.bool false] 4) = W4 at *
        refine hK.out _ _ (ld GL GM hLl hMl hMx) (fun _ => ?_)
        clear hK K
        try simp only [List.getElem_toArray, List.getElem_cons_succ, List.getElem_cons_zero, Act.put, List.setIfInBounds_toArray, List.set_cons_zero, List.set_cons_succ]
        refine wpAnyH_ready (rs := [6]) (by kernel_rfl) (by simp) ?_
        refine AllReadyH.cons rfl ?_ AllReadyH.nil
        · intro K hK
          go_simp
          refine (bit_c x _).mono ?_
          rintro e W' ⟨rfl, rfl⟩
          have B6 := new_at (w := W4) rfl (.cells #[.int .u32 x.toNat] 35)
          replace GL := old_at GL (.cells #[.int .u32 x.toNat] 35)
          replace GM := old_at GM (.cells #[.int .u32 x.toNat] 35)
          replace A8 := old_at A8 (.cells #[.int .u32 x.toNat] 35)
          replace A7 := old_at A7 (.cells #[.int .u32 x.toNat] 35)
          replace BB := below_step BB (below_new W4 (.cells #[.int .u32 x.toNat] 35))
          generalize W4.alloc (.cells #[.int .u32 x.toNat] 35) = W5 at *
          refine hK.out _ _ (ld GL GM hLl hMl hMx) (fun _ => ?_)
          clear hK K
          try simp only [List.getElem_toArray, List.getElem_cons_succ, List.getElem_cons_zero, Act.put, List.setIfInBounds_toArray, List.set_cons_zero, List.set_cons_succ]
          have d7 := cell_at A7 0
          have f7 := free_at A7 0
          refine wpAnyH_ready (rs := [9]) (by kernel_rfl) (by simp) ?_
          refine AllReadyH.cons rfl (fun K hK => ?_) AllReadyH.nil
          go_simp
          have F := clo_stores (s := s) BB GL GM A7 A8 B6 L7 L8
          have d8 := cell_at F.2.2.2.2.2.2 0
          have f8 := free_at F.2.2.2.2.2.2 0
          refine hK.out _ _ (ld F.1 F.2.1 hLl hMl hMx) (fun _ => ?_)
          clear hK K d7 f7
          try simp only [List.getElem_toArray, List.getElem_cons_succ, List.getElem_cons_zero, Act.put, List.setIfInBounds_toArray, List.set_cons_zero, List.set_cons_succ]
          generalize W5.setCell ⟨W3.heap.size, 0, none⟩ (.bool s) = W6 at *
          have hst := store_one (P := Tryd.prog) F.2.2.2.2.2.2 (v := .func (.func 30) #[] #[.pointer (some ⟨W4.heap.size, 0, none⟩)]) rfl
          refine wpAnyH_ready (rs := [10]) (by kernel_rfl) (by simp) ?_
          refine AllReadyH.cons rfl (fun K hK => ?_) AllReadyH.nil
          go_simp
          refine hK.out _ _ (ld F.2.2.1 F.2.2.2.1 hLl hMl hMx) (fun _ => ?_)
          clear hK K
          try simp only [List.getElem_toArray, List.getElem_cons_succ, List.getElem_cons_zero, Act.put, List.setIfInBounds_toArray, List.set_cons_zero, List.set_cons_succ]
          refine wpAnyH_done (by kernel_rfl) ?_ _
          have hC := F.2.2.2.2
          clear F hst d8 f8 A7 A8 B6 GL GM BB L7 L8
          go_wp2
          go_ret
          exact ⟨hC.2.1, _, _, _, rfl, hC.1⟩
    · intro K hK
      go_simp
      have A7 := new_at (w := W2) rfl (.cells #[.bool false] 4)
      have L7 : w.heap.size ≤ W2.heap.size := BB.size
      replace GL := old_at GL (.cells #[.bool false] 4)
      replace GM := old_at GM (.cells #[.bool false] 4)
      replace A8 := old_at A8 (.cells #[.bool false] 4)
      replace BB := below_step BB (below_new W2 (.cells #[.bool false] 4))
      generalize W2.alloc (.cells #[.bool false] 4) = W3 at *
      refine hK.out _ _ (ld GL GM hLl hMl hMx) (fun _ => ?_)
      clear hK K
      try simp only [List.getElem_toArray, List.getElem_cons_succ, List.getElem_cons_zero, Act.put, List.setIfInBounds_toArray, List.set_cons_zero, List.set_cons_succ]
      refine wpAnyH_ready (rs := [2]) (by kernel_rfl) (by simp) ?_
      refine AllReadyH.cons rfl ?_ AllReadyH.nil
      · intro K hK
        go_simp
        refine (Stale_g L M age st s _ HS.out hL hM).mono ?_
        rintro e W4 ⟨rfl, bb⟩
        replace GL := below_at bb GL (Array.getElem?_eq_some_iff.1 GL).1
        replace GM := below_at bb GM (Array.getElem?_eq_some_iff.1 GM).1
        replace A8 := below_at bb A8 (Array.getElem?_eq_some_iff.1 A8).1
        replace A7 := below_at bb A7 (Array.getElem?_eq_some_iff.1 A7).1
        replace BB := below_step BB bb
        clear bb
        refine hK.out _ _ (ld GL GM hLl hMl hMx) (fun _ => ?_)
        clear hK K
        try simp only [List.getElem_toArray, List.getElem_cons_succ, List.getElem_cons_zero, Act.put, List.setIfInBounds_toArray, List.set_cons_zero, List.set_cons_succ]
        refine wpAnyH_ready (rs := [6]) (by kernel_rfl) (by simp) ?_
        refine AllReadyH.cons rfl ?_ AllReadyH.nil
        · intro K hK
          go_simp
          refine (bit_c x _).mono ?_
          rintro e W' ⟨rfl, rfl⟩
          have B6 := new_at (w := W4) rfl (.cells #[.int .u32 x.toNat] 35)
          replace GL := old_at GL (.cells #[.int .u32 x.toNat] 35)
          replace GM := old_at GM (.cells #[.int .u32 x.toNat] 35)
          replace A8 := old_at A8 (.cells #[.int .u32 x.toNat] 35)
          replace A7 := old_at A7 (.cells #[.int .u32 x.toNat] 35)
          replace BB := below_step BB (below_new W4 (.cells #[.int .u32 x.toNat] 35))
          generalize W4.alloc (.cells #[.int .u32 x.toNat] 35) = W5 at *
          refine hK.out _ _ (ld GL GM hLl hMl hMx) (fun _ => ?_)
          clear hK K
          try simp only [List.getElem_toArray, List.getElem_cons_succ, List.getElem_cons_zero, Act.put, List.setIfInBounds_toArray, List.set_cons_zero, List.set_cons_succ]
          have d7 := cell_at A7 0
          have f7 := free_at A7 0
          refine wpAnyH_ready (rs := [9]) (by kernel_rfl) (by simp) ?_
          refine AllReadyH.cons rfl (fun K hK => ?_) AllReadyH.nil
          go_simp
          have F := clo_stores (s := s) BB GL GM A7 A8 B6 L7 L8
          have d8 := cell_at F.2.2.2.2.2.2 0
          have f8 := free_at F.2.2.2.2.2.2 0
          refine hK.out _ _ (ld F.1 F.2.1 hLl hMl hMx) (fun _ => ?_)
          clear hK K d7 f7
          try simp only [List.getElem_toArray, List.getElem_cons_succ, List.getElem_cons_zero, Act.put, List.setIfInBounds_toArray, List.set_cons_zero, List.set_cons_succ]
          generalize W5.setCell ⟨W2.heap.size, 0, none⟩ (.bool s) = W6 at *
          have hst := store_one (P := Tryd.prog) F.2.2.2.2.2.2 (v := .func (.func 30) #[] #[.pointer (some ⟨W4.heap.size, 0, none⟩)]) rfl
          refine wpAnyH_ready (rs := [10]) (by kernel_rfl) (by simp) ?_
          refine AllReadyH.cons rfl (fun K hK => ?_) AllReadyH.nil
          go_simp
          refine hK.out _ _ (ld F.2.2.1 F.2.2.2.1 hLl hMl hMx) (fun _ => ?_)
          clear hK K
          try simp only [List.getElem_toArray, List.getElem_cons_succ, List.getElem_cons_zero, Act.put, List.setIfInBounds_toArray, List.set_cons_zero, List.set_cons_succ]
          refine wpAnyH_done (by kernel_rfl) ?_ _
          have hC := F.2.2.2.2
          clear F hst d8 f8 A7 A8 B6 GL GM BB L7 L8
          go_wp2
          go_ret
          exact ⟨hC.2.1, _, _, _, rfl, hC.1⟩
set_option maxHeartbeats 1000000 in
theorem clear1_c (g7 g8 gb : Nat) (s : Bool) (x : BitVec 32) (n : Int) (w : World) (hC : Clo w g7 g8 gb s x) :
    Calls Tryd.prog 28 #[.int .i64 n, .pointer (some ⟨g7, 0, none⟩), .pointer (some ⟨g8, 0, none⟩)] w fun e w' => e = .returned (.bool (!s && !bitV x n)) ∧ Below w.heap.size w w' := by
  have d7 := cell_at hC.a7 0
  have d8 := cell_at hC.a8 0
  have d6 := cell_at hC.b6 0
  cases s
  · go_enter Tryd.func28, Tryd.ntmps28
    go_wp2_with fail
    refine (bit1_c gb x n _ d6).mono ?_
    rintro e w1 ⟨rfl, b1⟩
    go_wp2
    go_ret
    exact ⟨rfl, b1⟩
  · go_enter Tryd.func28, Tryd.ntmps28
    go_wp2
    go_ret
    exact ⟨rfl, Below.refl _ _⟩
end Go.Proofs.YtlcahkkpbikccaaDoor
