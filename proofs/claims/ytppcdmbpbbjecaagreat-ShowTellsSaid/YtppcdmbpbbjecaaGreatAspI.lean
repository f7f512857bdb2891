/- Images: contracts of Stale, bit, clear, Lit, Occupied, At. Nothing that was there is turned. -/
import Derived.Test.YtppcdmbpbbjecaaGreatProg
import Derived.Test.YtppcdmbpbbjecaaGreatMem
import Derived.Test.YtppcdmbpbbjecaaGreatBv
import Derived.Test.YtppcdmbpbbjecaaGreatNode
import Derived.WalkSpells
import Derived.Outline
import Derived.BigQuiet
import Derived.BigFrameIn
import Derived.Deep.RegionHeld3
import Derived.Deep.MidRow
import Derived.StillTailTactics
namespace Go.Proofs.YtppcdmbpbbjecaaGreat
open List renaming getElem_toArray → zA, getElem_cons_succ → zS, getElem_cons_zero → zZ, setIfInBounds_toArray → zP, set_cons_zero → zQ, set_cons_succ → zR
open Go.RowKit Rf Mem
attribute [local go_sem ↓] run_max2 run_min2
theorem below_new (W : World) (o : Obj) : Below W.heap.size W (W.alloc o) := (Below.refl _ W).alloc (Nat.le_refl _) _
theorem below_drewN {n : Nat} {a w : World} (h : Below n a w) (m : Nat) : Below n a (w.drewN m) := ⟨h.os, h.tape, h.output, h.size, h.block⟩
theorem cell_list {w : World} {g : Nat} {t : TypeId} {cs : List Value} {f : Nat × Nat} (h : w.heap[g]? = some (.cells cs.toArray t f)) {i : Nat} {v : Value} (hv : cs[i]? = some v) : w.cell? ⟨g, i, none⟩ = some v := by
  rw [cell_at h]; simpa using hv
theorem Late_c (n t : Int) (w : World) : Calls Tryz.prog 104 #[.int .i64 n, .int .i64 t] w fun e w' => e = .returned (.bool (decide (t < n))) ∧ w = w' := by
  go_enter Tryz.func104, Tryz.ntmps104
  go_wp2
  go_ret
  exact ⟨rfl, rfl⟩
theorem Stale_c (L M : List Value) (age st : Int) (w : World) (hL : L[6]? = some (.int .i64 st)) (hM : M[0]? = some (.int .i64 age)) :
    Calls Tryz.prog 76 #[.agg L.toArray, .agg M.toArray] w fun e w' => e = .returned (.bool (decide (st < age))) ∧ Below w.heap.size w w' := by
  have b0 := below_new w (.cells L.toArray 29)
  have b1 := below_new (w.alloc (.cells L.toArray 29)) (.cells M.toArray 35)
  have x0 := cell_list (old_at (new_at (w := w) rfl (.cells L.toArray 29)) (.cells M.toArray 35)) hL
  have x1 := cell_list (new_at (w := w.alloc (.cells L.toArray 29)) (by simp; rfl) (.cells M.toArray 35)) hM
  go_enter Tryz.func76, Tryz.ntmps76
  go_wp2_with fail
  refine (Late_c age st _).mono ?_
  rintro e w' ⟨rfl, rfl⟩
  go_wp2
  go_ret
  exact ⟨rfl, below_step b0 b1⟩
theorem bit_c (x : BitVec 32) (w : World) : Calls Tryz.prog 77 #[.int .u32 x.toNat] w fun e W' => e = .returned (.func (.func 105) #[] #[.pointer (some ⟨w.heap.size, 0, none⟩)]) ∧ w.alloc (.cells #[.int .u32 x.toNat] 31) = W' := by
  obtain h | h : True ∨ True := .inl trivial
  all_goals
    go_enter Tryz.func77, Tryz.ntmps77
    go_wp2
    go_ret
    exact ⟨rfl, rfl⟩
/-- is bit n of the word set? -/
def bitV (x : BitVec 32) (n : Int) : Bool := decide (0 ≤ n) && (decide (n < 32) && x.getLsbD n.toNat)
theorem and_pow (x : BitVec 32) (k : Nat) (h : k < 32) : (Go.bits .and .u32 (x.toNat : Int) (2 ^ k % 4294967296) != 0) = x.getLsbD k := by
  have e : ((2 : Int) ^ k % 4294967296) = ((BitVec.twoPow 32 k).toNat : Int) := by
    have h1 : (2 : Nat) ^ k < 4294967296 := Nat.pow_lt_pow_right (by omega) h
    rw [BitVec.toNat_twoPow, Nat.mod_eq_of_lt h1]
    have : ((2 : Int) ^ k) = ((2 ^ k : Nat) : Int) := by push_cast; rfl
    rw [this]
    generalize 2 ^ k = t at *
    omega
  have e2 : bits .and .u32 (x.toNat : Int) ((BitVec.twoPow 32 k).toNat : Int) = ((x &&& BitVec.twoPow 32 k).toNat : Int) := Bv.bits_and .u32 rfl x _
  rw [e, e2]
  rcases hb : x.getLsbD k with _ | _
  · have h0 : x &&& BitVec.twoPow 32 k = 0#32 := by rw [BitVec.and_twoPow, hb]; rfl
    rw [h0]; rfl
  · have h0 : x &&& BitVec.twoPow 32 k = BitVec.twoPow 32 k := by rw [BitVec.and_twoPow, hb]; rfl
    have h1 : (2 : Nat) ^ k < 4294967296 := Nat.pow_lt_pow_right (by omega) h
    have h2 : 0 < 2 ^ k := Nat.two_pow_pos k
    rw [h0, BitVec.toNat_twoPow, Nat.mod_eq_of_lt h1]
    exact bne_iff_ne.2 (by generalize 2 ^ k = t at *; omega)
theorem bit1_c (g : Nat) (x : BitVec 32) (n : Int) (w : World) (hg : w.cell? ⟨g, 0, none⟩ = some (.int .u32 x.toNat)) :
    Calls Tryz.prog 105 #[.int .i64 n, .pointer (some ⟨g, 0, none⟩)] w fun e w' => e = .returned (.bool (bitV x n)) ∧ Below w.heap.size w w' := by
  by_cases h1 : 0 ≤ n
  · obtain ⟨k, rfl⟩ := Int.eq_ofNat_of_zero_le h1
    by_cases h2 : k < 32
    · have q1 : decide (0 ≤ (k : Int)) = true := decide_eq_true h1
      have q2 : decide ((k : Int) < 32) = true := decide_eq_true (by omega)
      have i2 : (k : Int) < 32 := by omega
      go_enter Tryz.func105, Tryz.ntmps105
      go_wp2_with fail
      go_quiet (fail)
      go_wp2
      go_ret
      refine ⟨?_, below_drewN (Below.refl _ _) _⟩
      have hv : bitV x k = x.getLsbD k := by unfold bitV; rw [q1, q2]; simp
      rw [hv, ← and_pow x k h2]
      rfl
    · have q1 : decide (0 ≤ (k : Int)) = true := decide_eq_true h1
      have q2 : decide ((k : Int) < 32) = false := decide_eq_false (by omega)
      have hv : bitV x k = false := by unfold bitV; rw [q2]; simp
      rw [hv]
      clear hv
      go_enter Tryz.func105, Tryz.ntmps105
      go_wp2_with fail
      go_quiet (fail)
      go_wp2
      go_ret
      exact ⟨rfl, below_drewN (Below.refl _ _) _⟩
  · have q1 : decide (0 ≤ n) = false := decide_eq_false h1
    have hv : bitV x n = false := by unfold bitV; rw [q1]; simp
    rw [hv]
    clear hv
    go_enter Tryz.func105, Tryz.ntmps105
    go_wp2_with fail
    go_quiet (fail)
    go_wp2
    go_ret
    exact ⟨rfl, below_drewN (Below.refl _ _) _⟩
end Go.Proofs.YtppcdmbpbbjecaaGreat
namespace Go.Proofs.YtppcdmbpbbjecaaGreat
open List renaming getElem_toArray → zA, getElem_cons_succ → zS, getElem_cons_zero → zZ, setIfInBounds_toArray → zP, set_cons_zero → zQ, set_cons_succ → zR
open Go.RowKit Rf Mem
attribute [local go_sem ↓] run_max2 run_min2
theorem ne_type {W : World} {a b : Nat} {x y : Array Value} {t u : TypeId} {f f' : Nat × Nat} (h1 : W.heap[a]? = some (.cells x t f)) (h2 : W.heap[b]? = some (.cells y u f')) (h : t ≠ u) : a ≠ b := by
  rintro rfl; rw [h1] at h2; simp at h2; exact h h2.2.1
theorem range_of {W : World} {g : Nat} {cs : List Value} {t : TypeId} {f : Nat × Nat} (h : W.heap[g]? = some (.cells cs.toArray t f)) : W.rangeAt g 0 cs := fun j v hv => by rw [Nat.zero_add]; exact cell_list h hv
theorem load_lay {W : World} {g : Nat} {L : List Value} {f : Nat × Nat} (h : W.heap[g]? = some (.cells L.toArray 29 f)) (hl : L.length = 11) : (Instr.loadAt 29 (.pointer (some ⟨g, 0, none⟩))).run Tryz.prog W = .ok (.agg L.toArray) W :=
  run_loadAt_mid W g 0 _ L _ (range_of h) Tryz.underlying29 rfl (by rw [hl]; kernel_rfl)
theorem load_img {W : World} {g : Nat} {M : List Value} {f : Nat × Nat} (h : W.heap[g]? = some (.cells M.toArray 35 f)) (hl : M.length = 29) : (Instr.loadAt 35 (.pointer (some ⟨g, 0, none⟩))).run Tryz.prog W = .ok (.agg M.toArray) W :=
  run_loadAt_mid W g 0 _ M _ (range_of h) Tryz.underlying35 rfl (by rw [hl]; kernel_rfl)
theorem Stale_g (L M : List Value) (age st : Int) (s : Bool) (w : World) (hs : s = decide (st < age)) (hL : L[6]? = some (.int .i64 st)) (hM : M[0]? = some (.int .i64 age)) :
    Calls Tryz.prog 76 #[.agg L.toArray, .agg M.toArray] w fun e w' => e = .returned (.bool s) ∧ Below w.heap.size w w' := by subst hs; exact Stale_c L M age st w hL hM
theorem ld {W : World} {gl gm : Nat} {L M : List Value} {x : BitVec 32} (h1 : W.heap[gl]? = some (.cells L.toArray 29 (0, 0))) (h2 : W.heap[gm]? = some (.cells M.toArray 35 (0, 0))) (hl : L.length = 11) (hm : M.length = 29) (hx : M[25]? = some (.int .u32 x.toNat)) :
    W.rangeAt gl 0 L ∧ W.rangeAt gm 0 M ∧ W.cell? ⟨gm, 25, none⟩ = some (.int .u32 x.toNat) :=
  ⟨range_of h1, range_of h2, cell_list h2 hx⟩
/-- the closure's blocks: whether the image is stale, and the word's function -/
structure Clo (W : World) (g7 g8 gb : Nat) (s : Bool) (x : BitVec 32) : Prop where
  a7 : W.heap[g7]? = some (.cells #[.bool s] 4 (0, 0))
  a8 : W.heap[g8]? = some (.cells #[.func (.func 105) #[] #[.pointer (some ⟨gb, 0, none⟩)]] 105 (0, 0))
  b6 : W.heap[gb]? = some (.cells #[.int .u32 x.toNat] 31 (0, 0))
theorem Clo.later {W W' : World} {g7 g8 gb : Nat} {s : Bool} {x : BitVec 32} (h : Clo W g7 g8 gb s x) (hb : Below W.heap.size W W') : Clo W' g7 g8 gb s x :=
  ⟨below_at hb h.a7 (Array.getElem?_eq_some_iff.1 h.a7).1, below_at hb h.a8 (Array.getElem?_eq_some_iff.1 h.a8).1, below_at hb h.b6 (Array.getElem?_eq_some_iff.1 h.b6).1⟩
theorem store_one {P : Program} {W : World} {g : Nat} {y v : Value} {t : TypeId} (h : W.heap[g]? = some (.cells #[y] t (0, 0))) (h1 : v.oneCell' = true) : (store ⟨g, 0, none⟩ v).run P W = .ok () (W.setCell ⟨g, 0, none⟩ v) := by
  rw [run_store P W _ v _ h1]
  have c := cell_at h 0
  have f := free_at h 0
  simp at c
  simp [c, f]
theorem clo_stores {w W : World} {gl gm g7 g8 gb : Nat} {L M : List Value} {s : Bool} {x : BitVec 32} {y : Value} (BB : Below w.heap.size w W)
    (GL : W.heap[gl]? = some (.cells L.toArray 29 (0, 0))) (GM : W.heap[gm]? = some (.cells M.toArray 35 (0, 0))) (A7 : W.heap[g7]? = some (.cells #[.bool false] 4 (0, 0))) (A8 : W.heap[g8]? = some (.cells #[y] 105 (0, 0)))
    (B6 : W.heap[gb]? = some (.cells #[.int .u32 x.toNat] 31 (0, 0))) (L7 : w.heap.size ≤ g7) (L8 : w.heap.size ≤ g8) :
    (W.setCell ⟨g7, 0, none⟩ (.bool s)).heap[gl]? = some (.cells L.toArray 29 (0, 0)) ∧ (W.setCell ⟨g7, 0, none⟩ (.bool s)).heap[gm]? = some (.cells M.toArray 35 (0, 0)) ∧ ((W.setCell ⟨g7, 0, none⟩ (.bool s)).setCell ⟨g8, 0, none⟩ (.func (.func 105) #[] #[.pointer (some ⟨gb, 0, none⟩)])).heap[gl]? = some (.cells L.toArray 29 (0, 0)) ∧ ((W.setCell ⟨g7, 0, none⟩ (.bool s)).setCell ⟨g8, 0, none⟩ (.func (.func 105) #[] #[.pointer (some ⟨gb, 0, none⟩)])).heap[gm]? = some (.cells M.toArray 35 (0, 0)) ∧ Clo ((W.setCell ⟨g7, 0, none⟩ (.bool s)).setCell ⟨g8, 0, none⟩ (.func (.func 105) #[] #[.pointer (some ⟨gb, 0, none⟩)])) g7 g8 gb s x ∧ Below w.heap.size w ((W.setCell ⟨g7, 0, none⟩ (.bool s)).setCell ⟨g8, 0, none⟩ (.func (.func 105) #[] #[.pointer (some ⟨gb, 0, none⟩)])) ∧ (W.setCell ⟨g7, 0, none⟩ (.bool s)).heap[g8]? = some (.cells #[y] 105 (0, 0)) := by
  have n1 := ne_type GL A7 (by decide)
  have n2 := ne_type GM A7 (by decide)
  have n3 := ne_type GL A8 (by decide)
  have n4 := ne_type GM A8 (by decide)
  have n5 := ne_type A7 A8 (by decide)
  have n6 := ne_type B6 A7 (by decide)
  have n7 := ne_type B6 A8 (by decide)
  refine ⟨set_far GL n1 _, set_far GM n2 _, set_far (set_far GL n1 _) n3 _, set_far (set_far GM n2 _) n4 _, ⟨set_far (set_at A7 0 _) n5 _, set_at (set_far A8 n5.symm _) 0 _, set_far (set_far B6 n6 _) n7 _⟩, (BB.setCell L7 _).setCell L8 _, set_far A8 n5.symm _⟩
set_option maxHeartbeats 4000000 in
set_option maxRecDepth 100000 in
theorem clear_c (L M : List Value) (age st : Int) (x : BitVec 32) (s : Bool) (w : World) (hs : s = decide (st < age)) (hL : L[6]? = some (.int .i64 st)) (hM : M[0]? = some (.int .i64 age)) (hMx : M[25]? = some (.int .u32 x.toNat)) (hLl : L.length = 11) (hMl : M.length = 29) :
    Calls Tryz.prog 74 #[.agg L.toArray, .agg M.toArray] w fun e w' => Below w.heap.size w w' ∧ ∃ g7 g8 gb, e = .returned (.func (.func 101) #[] #[.pointer (some ⟨g7, 0, none⟩), .pointer (some ⟨g8, 0, none⟩)]) ∧ Clo w' g7 g8 gb s x := by
  have HS := Lib.hid hs
  have b0 := below_new w (.cells L.toArray 29)
  have b1 := below_new (w.alloc (.cells L.toArray 29)) (.cells M.toArray 35)
  have BB := below_step b0 b1
  have GL := old_at (new_at (w := w) rfl (.cells L.toArray 29)) (.cells M.toArray 35)
  have GM := new_at (w := w.alloc (.cells L.toArray 29)) (n := w.heap.size + 1) (by simp) (.cells M.toArray 35)
  clear hs b0 b1
  go_enter Tryz.func74, Tryz.ntmps74
  go_wp2_with fail
  generalize (w.alloc (.cells L.toArray 29)).alloc (.cells M.toArray 35) = W0 at *
  have szL : (Tryz.prog.info? 29).map (·.size) = some L.length := by rw [hLl]; kernel_rfl
  have szM : (Tryz.prog.info? 35).map (·.size) = some M.length := by rw [hMl]; kernel_rfl
  refine wp_region_held_drew (S := (fun w' => w'.rangeAt w.heap.size 0 L ∧ w'.rangeAt (w.heap.size + 1) 0 M ∧ w'.cell? ⟨w.heap.size + 1, 25, none⟩ = some (.int .u32 x.toNat))) (by kernel_rfl) ?_ (fun hHeld => ?_)
  · exact ld (W := W0.drew) GL GM hLl hMl hMx
  refine wpAnyH_take (i := 0) (v := .agg (L : List Value).toArray) rfl (by kernel_rfl) (by kernel_rfl) (by kernel_rfl) (fun _ _ _ h => h) (yieldsIf_load_mid (by kernel_rfl) 29 (.tmp 2) (by kernel_rfl) (w.heap.size) 0 (by kernel_rfl) L _ (fun w' h => h.1) (by first | exact Tryz.underlying29) rfl (by first | assumption | (simp only [*]; kernel_rfl))) (by assumption) ?_
  try simp only [zA, zS, zZ, Act.put, zP, zQ, zR]
  refine wpAnyH_take (i := 1) (v := .agg (M : List Value).toArray) rfl (by kernel_rfl) (by kernel_rfl) (by kernel_rfl) (fun _ _ _ h => h) (yieldsIf_load_mid (by kernel_rfl) 35 (.tmp 3) (by kernel_rfl) (w.heap.size + 1) 0 (by kernel_rfl) M _ (fun w' h => h.2.1) (by first | exact Tryz.underlying35) rfl (by first | assumption | (simp only [*]; kernel_rfl))) (by assumption) ?_
  try simp only [zA, zS, zZ, Act.put, zP, zQ, zR]
  refine Node.tk 3 ?_ rfl ?_ ?_
  rotate_left
  · intro w hSw; (try dsimp only at hSw); go_simp; try with_reducible rfl
  simp only [zA, zS, zZ, Act.put, zP, zQ, zR]
  refine Node.tk 4 ?_ rfl ?_ ?_
  rotate_left
  · intro w hSw; (try dsimp only at hSw); go_simp; try with_reducible rfl
  simp only [zA, zS, zZ, Act.put, zP, zQ, zR]
  refine Node.tk 5 ?_ rfl ?_ ?_
  rotate_left
  · intro w hSw; (try dsimp only at hSw); go_simp; try with_reducible rfl
  simp only [zA, zS, zZ, Act.put, zP, zQ, zR]
  replace GL : W0.drew.heap[w.heap.size]? = some (.cells L.toArray 29 (0, 0)) := GL
  replace GM : W0.drew.heap[w.heap.size + 1]? = some (.cells M.toArray 35 (0, 0)) := GM
  replace BB := BB.drew
  clear hHeld
  have hHeld := ld GL GM hLl hMl hMx
  generalize W0.drew = W1 at *
  refine wpAnyH_ready (rs := [2, 7, 8]) (by kernel_rfl) (by simp) ?_
  refine AllReadyH.cons rfl ?_ (AllReadyH.cons rfl ?_ (AllReadyH.cons rfl ?_ AllReadyH.nil))
  · intro K hK
    go_simp
    refine (Stale_g L M age st s _ HS.out hL hM).mono ?_
    rintro e W2 ⟨rfl, bb⟩
    replace GL := below_at bb GL (Array.getElem?_eq_some_iff.1 GL).1
    replace GM := below_at bb GM (Array.getElem?_eq_some_iff.1 GM).1
    replace BB := below_step BB bb
    clear bb
    refine hK.out _ _ (ld GL GM hLl hMl hMx) (fun _ => ?_)
    clear hK K
    try simp only [zA, zS, zZ, Act.put, zP, zQ, zR]
    refine wpAnyH_ready (rs := [6, 7, 8]) (by kernel_rfl) (by simp) ?_
    refine AllReadyH.cons rfl ?_ (AllReadyH.cons rfl ?_ (AllReadyH.cons rfl ?_ AllReadyH.nil))
    · intro K hK
      go_simp
      refine (bit_c x _).mono ?_
      rintro e W' ⟨rfl, rfl⟩
      have B6 := new_at (w := W2) rfl (.cells #[.int .u32 x.toNat] 31)
      replace GL := old_at GL (.cells #[.int .u32 x.toNat] 31)
      replace GM := old_at GM (.cells #[.int .u32 x.toNat] 31)
      replace BB := below_step BB (below_new W2 (.cells #[.int .u32 x.toNat] 31))
      generalize W2.alloc (.cells #[.int .u32 x.toNat] 31) = W3 at *
      refine hK.out _ _ (ld GL GM hLl hMl hMx) (fun _ => ?_)
      clear hK K
      try simp only [zA, zS, zZ, Act.put, zP, zQ, zR]
      refine wpAnyH_ready (rs := [7, 8]) (by kernel_rfl) (by simp) ?_
      refine AllReadyH.cons rfl ?_ (AllReadyH.cons rfl ?_ AllReadyH.nil)
      · intro K hK
        go_simp
        have A7 := new_at (w := W3) rfl (.cells #[.bool false] 4)
        have L7 : w.heap.size ≤ W3.heap.size := BB.size
        replace GL := old_at GL (.cells #[.bool false] 4)
        replace GM := old_at GM (.cells #[.bool false] 4)
        replace B6 := old_at B6 (.cells #[.bool false] 4)
        replace BB := below_step BB (below_new W3 (.cells #[.bool false] 4))
        generalize W3.alloc (.cells #[.bool false] 4) = W4 at *
        refine hK.out _ _ (ld GL GM hLl hMl hMx) (fun _ => ?_)
        clear hK K
        try simp only [zA, zS, zZ, Act.put, zP, zQ, zR]
        refine wpAnyH_ready (rs := [8]) (by kernel_rfl) (by simp) ?_
        refine AllReadyH.cons rfl ?_ AllReadyH.nil
        · intro K hK
          go_simp
          have A8 := new_at (w := W4) rfl (.cells #[Value.nilFunc] 105)
          have L8 : w.heap.size ≤ W4.heap.size := BB.size
          replace GL := old_at GL (.cells #[Value.nilFunc] 105)
          replace GM := old_at GM (.cells #[Value.nilFunc] 105)
          replace B6 := old_at B6 (.cells #[Value.nilFunc] 105)
          replace A7 := old_at A7 (.cells #[Value.nilFunc] 105)
          replace BB := below_step BB (below_new W4 (.cells #[Value.nilFunc] 105))
          generalize W4.alloc (.cells #[Value.nilFunc] 105) = W5 at *
          refine hK.out _ _ (ld GL GM hLl hMl hMx) (fun _ => ?_)
          clear hK K
          try simp only [zA, zS, zZ, Act.put, zP, zQ, zR]
          have d7 := cell_at A7 0
          have f7 := free_at A7 0
          refine Node.on 9 rfl (fun K hK => ?_)
          go_simp
          have F := clo_stores (s := s) BB GL GM A7 A8 B6 L7 L8
          have d8 := cell_at F.2.2.2.2.2.2 0
          have f8 := free_at F.2.2.2.2.2.2 0
          refine hK.out _ _ (ld F.1 F.2.1 hLl hMl hMx) (fun _ => ?_)
          clear hK K d7 f7
          try simp only [zA, zS, zZ, Act.put, zP, zQ, zR]
          generalize W5.setCell ⟨W3.heap.size, 0, none⟩ (.bool s) = W6 at *
          have hst := store_one (P := Tryz.prog) F.2.2.2.2.2.2 (v := .func (.func 105) #[] #[.pointer (some ⟨W2.heap.size, 0, none⟩)]) rfl
          refine Node.on 10 rfl (fun K hK => ?_)
          go_simp
          refine hK.out _ _ (ld F.2.2.1 F.2.2.2.1 hLl hMl hMx) (fun _ => ?_)
          clear hK K
          try simp only [zA, zS, zZ, Act.put, zP, zQ, zR]
          refine wpAnyH_done (by kernel_rfl) ?_ _
          have hC := F.2.2.2.2
          clear F hst d8 f8 A7 A8 B6 GL GM BB L7 L8
          go_wp2
          go_ret
          exact ⟨hC.2.1, _, _, _, rfl, hC.1⟩
      · intro K hK
        go_simp
        have A8 := new_at (w := W3) rfl (.cells #[Value.nilFunc] 105)
        have L8 : w.heap.size ≤ W3.heap.size := BB.size
        replace GL := old_at GL (.cells #[Value.nilFunc] 105)
        replace GM := old_at GM (.cells #[Value.nilFunc] 105)
        replace B6 := old_at B6 (.cells #[Value.nilFunc] 105)
        replace BB := below_step BB (below_new W3 (.cells #[Value.nilFunc] 105))
        generalize W3.alloc (.cells #[Value.nilFunc] 105) = W4 at *
        refine hK.out _ _ (ld GL GM hLl hMl hMx) (fun _ => ?_)
        clear hK K
        try simp only [zA, zS, zZ, Act.put, zP, zQ, zR]
        refine wpAnyH_ready (rs := [7]) (by kernel_rfl) (by simp) ?_
        refine AllReadyH.cons rfl ?_ AllReadyH.nil
        · intro K hK
          go_simp
          have A7 := new_at (w := W4) rfl (.cells #[.bool false] 4)
          have L7 : w.heap.size ≤ W4.heap.size := BB.size
          replace GL := old_at GL (.cells #[.bool false] 4)
          replace GM := old_at GM (.cells #[.bool false] 4)
          replace B6 := old_at B6 (.cells #[.bool false] 4)
          replace A8 := old_at A8 (.cells #[.bool false] 4)
          replace BB := below_step BB (below_new W4 (.cells #[.bool false] 4))
          generalize W4.alloc (.cells #[.bool false] 4) = W5 at *
          refine hK.out _ _ (ld GL GM hLl hMl hMx) (fun _ => ?_)
          clear hK K
          try simp only [zA, zS, zZ, Act.put, zP, zQ, zR]
          have d7 := cell_at A7 0
          have f7 := free_at A7 0
          refine Node.on 9 rfl (fun K hK => ?_)
          go_simp
          have F := clo_stores (s := s) BB GL GM A7 A8 B6 L7 L8
          have d8 := cell_at F.2.2.2.2.2.2 0
          have f8 := free_at F.2.2.2.2.2.2 0
          refine hK.out _ _ (ld F.1 F.2.1 hLl hMl hMx) (fun _ => ?_)
          clear hK K d7 f7
          try simp only [zA, zS, zZ, Act.put, zP, zQ, zR]
          generalize W5.setCell ⟨W4.heap.size, 0, none⟩ (.bool s) = W6 at *
          have hst := store_one (P := Tryz.prog) F.2.2.2.2.2.2 (v := .func (.func 105) #[] #[.pointer (some ⟨W2.heap.size, 0, none⟩)]) rfl
          refine Node.on 10 rfl (fun K hK => ?_)
          go_simp
          refine hK.out _ _ (ld F.2.2.1 F.2.2.2.1 hLl hMl hMx) (fun _ => ?_)
          clear hK K
          try simp only [zA, zS, zZ, Act.put, zP, zQ, zR]
          refine wpAnyH_done (by kernel_rfl) ?_ _
          have hC := F.2.2.2.2
          clear F hst d8 f8 A7 A8 B6 GL GM BB L7 L8
          go_wp2
          go_ret
          exact ⟨hC.2.1, _, _, _, rfl, hC.1⟩
    · intro K hK
      go_simp
      have A7 := new_at (w := W2) rfl (.cells #[.bool false] 4)
      have L7 : w.heap.size ≤ W2.heap.size := BB.size
      replace GL := old_at GL (.cells #[.bool false] 4)
      replace GM := old_at GM (.cells #[.bool false] 4)
      replace BB := below_step BB (below_new W2 (.cells #[.bool false] 4))
      generalize W2.alloc (.cells #[.bool false] 4) = W3 at *
      refine hK.out _ _ (ld GL GM hLl hMl hMx) (fun _ => ?_)
      clear hK K
      try simp only [zA, zS, zZ, Act.put, zP, zQ, zR]
      refine wpAnyH_ready (rs := [6, 8]) (by kernel_rfl) (by simp) ?_
      refine AllReadyH.cons rfl ?_ (AllReadyH.cons rfl ?_ AllReadyH.nil)
      · intro K hK
        go_simp
        refine (bit_c x _).mono ?_
        rintro e W' ⟨rfl, rfl⟩
        have B6 := new_at (w := W3) rfl (.cells #[.int .u32 x.toNat] 31)
        replace GL := old_at GL (.cells #[.int .u32 x.toNat] 31)
        replace GM := old_at GM (.cells #[.int .u32 x.toNat] 31)
        replace A7 := old_at A7 (.cells #[.int .u32 x.toNat] 31)
        replace BB := below_step BB (below_new W3 (.cells #[.int .u32 x.toNat] 31))
        generalize W3.alloc (.cells #[.int .u32 x.toNat] 31) = W4 at *
        refine hK.out _ _ (ld GL GM hLl hMl hMx) (fun _ => ?_)
        clear hK K
        try simp only [zA, zS, zZ, Act.put, zP, zQ, zR]
        refine wpAnyH_ready (rs := [8]) (by kernel_rfl) (by simp) ?_
        refine AllReadyH.cons rfl ?_ AllReadyH.nil
        · intro K hK
          go_simp
          have A8 := new_at (w := W4) rfl (.cells #[Value.nilFunc] 105)
          have L8 : w.heap.size ≤ W4.heap.size := BB.size
          replace GL := old_at GL (.cells #[Value.nilFunc] 105)
          replace GM := old_at GM (.cells #[Value.nilFunc] 105)
          replace A7 := old_at A7 (.cells #[Value.nilFunc] 105)
          replace B6 := old_at B6 (.cells #[Value.nilFunc] 105)
          replace BB := below_step BB (below_new W4 (.cells #[Value.nilFunc] 105))
          generalize W4.alloc (.cells #[Value.nilFunc] 105) = W5 at *
          refine hK.out _ _ (ld GL GM hLl hMl hMx) (fun _ => ?_)
          clear hK K
          try simp only [zA, zS, zZ, Act.put, zP, zQ, zR]
          have d7 := cell_at A7 0
          have f7 := free_at A7 0
          refine Node.on 9 rfl (fun K hK => ?_)
          go_simp
          have F := clo_stores (s := s) BB GL GM A7 A8 B6 L7 L8
          have d8 := cell_at F.2.2.2.2.2.2 0
          have f8 := free_at F.2.2.2.2.2.2 0
          refine hK.out _ _ (ld F.1 F.2.1 hLl hMl hMx) (fun _ => ?_)
          clear hK K d7 f7
          try simp only [zA, zS, zZ, Act.put, zP, zQ, zR]
          generalize W5.setCell ⟨W2.heap.size, 0, none⟩ (.bool s) = W6 at *
          have hst := store_one (P := Tryz.prog) F.2.2.2.2.2.2 (v := .func (.func 105) #[] #[.pointer (some ⟨W3.heap.size, 0, none⟩)]) rfl
          refine Node.on 10 rfl (fun K hK => ?_)
          go_simp
          refine hK.out _ _ (ld F.2.2.1 F.2.2.2.1 hLl hMl hMx) (fun _ => ?_)
          clear hK K
          try simp only [zA, zS, zZ, Act.put, zP, zQ, zR]
          refine wpAnyH_done (by kernel_rfl) ?_ _
          have hC := F.2.2.2.2
          clear F hst d8 f8 A7 A8 B6 GL GM BB L7 L8
          go_wp2
          go_ret
          exact ⟨hC.2.1, _, _, _, rfl, hC.1⟩
      · intro K hK
        go_simp
        have A8 := new_at (w := W3) rfl (.cells #[Value.nilFunc] 105)
        have L8 : w.heap.size ≤ W3.heap.size := BB.size
        replace GL := old_at GL (.cells #[Value.nilFunc] 105)
        replace GM := old_at GM (.cells #[Value.nilFunc] 105)
        replace A7 := old_at A7 (.cells #[Value.nilFunc] 105)
        replace BB := below_step BB (below_new W3 (.cells #[Value.nilFunc] 105))
        generalize W3.alloc (.cells #[Value.nilFunc] 105) = W4 at *
        refine hK.out _ _ (ld GL GM hLl hMl hMx) (fun _ => ?_)
        clear hK K
        try simp only [zA, zS, zZ, Act.put, zP, zQ, zR]
        refine wpAnyH_ready (rs := [6]) (by kernel_rfl) (by simp) ?_
        refine AllReadyH.cons rfl ?_ AllReadyH.nil
        · intro K hK
          go_simp
          refine (bit_c x _).mono ?_
          rintro e W' ⟨rfl, rfl⟩
          have B6 := new_at (w := W4) rfl (.cells #[.int .u32 x.toNat] 31)
          replace GL := old_at GL (.cells #[.int .u32 x.toNat] 31)
          replace GM := old_at GM (.cells #[.int .u32 x.toNat] 31)
          replace A7 := old_at A7 (.cells #[.int .u32 x.toNat] 31)
          replace A8 := old_at A8 (.cells #[.int .u32 x.toNat] 31)
          replace BB := below_step BB (below_new W4 (.cells #[.int .u32 x.toNat] 31))
          generalize W4.alloc (.cells #[.int .u32 x.toNat] 31) = W5 at *
          refine hK.out _ _ (ld GL GM hLl hMl hMx) (fun _ => ?_)
          clear hK K
          try simp only [zA, zS, zZ, Act.put, zP, zQ, zR]
          have d7 := cell_at A7 0
          have f7 := free_at A7 0
          refine Node.on 9 rfl (fun K hK => ?_)
          go_simp
          have F := clo_stores (s := s) BB GL GM A7 A8 B6 L7 L8
          have d8 := cell_at F.2.2.2.2.2.2 0
          have f8 := free_at F.2.2.2.2.2.2 0
          refine hK.out _ _ (ld F.1 F.2.1 hLl hMl hMx) (fun _ => ?_)
          clear hK K d7 f7
          try simp only [zA, zS, zZ, Act.put, zP, zQ, zR]
          generalize W5.setCell ⟨W2.heap.size, 0, none⟩ (.bool s) = W6 at *
          have hst := store_one (P := Tryz.prog) F.2.2.2.2.2.2 (v := .func (.func 105) #[] #[.pointer (some ⟨W4.heap.size, 0, none⟩)]) rfl
          refine Node.on 10 rfl (fun K hK => ?_)
          go_simp
          refine hK.out _ _ (ld F.2.2.1 F.2.2.2.1 hLl hMl hMx) (fun _ => ?_)
          clear hK K
          try simp only [zA, zS, zZ, Act.put, zP, zQ, zR]
          refine wpAnyH_done (by kernel_rfl) ?_ _
          have hC := F.2.2.2.2
          clear F hst d8 f8 A7 A8 B6 GL GM BB L7 L8
          go_wp2
          go_ret
          exact ⟨hC.2.1, _, _, _, rfl, hC.1⟩
    · intro K hK
      go_simp
      have A8 := new_at (w := W2) rfl (.cells #[Value.nilFunc] 105)
      have L8 : w.heap.size ≤ W2.heap.size := BB.size
      replace GL := old_at GL (.cells #[Value.nilFunc] 105)
      replace GM := old_at GM (.cells #[Value.nilFunc] 105)
      replace BB := below_step BB (below_new W2 (.cells #[Value.nilFunc] 105))
      generalize W2.alloc (.cells #[Value.nilFunc] 105) = W3 at *
      refine hK.out _ _ (ld GL GM hLl hMl hMx) (fun _ => ?_)
      clear hK K
      try simp only [zA, zS, zZ, Act.put, zP, zQ, zR]
      refine wpAnyH_ready (rs := [6, 7]) (by kernel_rfl) (by simp) ?_
      refine AllReadyH.cons rfl ?_ (AllReadyH.cons rfl ?_ AllReadyH.nil)
      · intro K hK
        go_simp
        refine (bit_c x _).mono ?_
        rintro e W' ⟨rfl, rfl⟩
        have B6 := new_at (w := W3) rfl (.cells #[.int .u32 x.toNat] 31)
        replace GL := old_at GL (.cells #[.int .u32 x.toNat] 31)
        replace GM := old_at GM (.cells #[.int .u32 x.toNat] 31)
        replace A8 := old_at A8 (.cells #[.int .u32 x.toNat] 31)
        replace BB := below_step BB (below_new W3 (.cells #[.int .u32 x.toNat] 31))
        generalize W3.alloc (.cells #[.int .u32 x.toNat] 31) = W4 at *
        refine hK.out _ _ (ld GL GM hLl hMl hMx) (fun _ => ?_)
        clear hK K
        try simp only [zA, zS, zZ, Act.put, zP, zQ, zR]
        refine wpAnyH_ready (rs := [7]) (by kernel_rfl) (by simp) ?_
        refine AllReadyH.cons rfl ?_ AllReadyH.nil
        · intro K hK
          go_simp
          have A7 := new_at (w := W4) rfl (.cells #[.bool false] 4)
          have L7 : w.heap.size ≤ W4.heap.size := BB.size
          replace GL := old_at GL (.cells #[.bool false] 4)
          replace GM := old_at GM (.cells #[.bool false] 4)
          replace A8 := old_at A8 (.cells #[.bool false] 4)
          replace B6 := old_at B6 (.cells #[.bool false] 4)
          replace BB := below_step BB (below_new W4 (.cells #[.bool false] 4))
          generalize W4.alloc (.cells #[.bool false] 4) = W5 at *
          refine hK.out _ _ (ld GL GM hLl hMl hMx) (fun _ => ?_)
          clear hK K
          try simp only [zA, zS, zZ, Act.put, zP, zQ, zR]
          have d7 := cell_at A7 0
          have f7 := free_at A7 0
          refine Node.on 9 rfl (fun K hK => ?_)
          go_simp
          have F := clo_stores (s := s) BB GL GM A7 A8 B6 L7 L8
          have d8 := cell_at F.2.2.2.2.2.2 0
          have f8 := free_at F.2.2.2.2.2.2 0
          refine hK.out _ _ (ld F.1 F.2.1 hLl hMl hMx) (fun _ => ?_)
          clear hK K d7 f7
          try simp only [zA, zS, zZ, Act.put, zP, zQ, zR]
          generalize W5.setCell ⟨W4.heap.size, 0, none⟩ (.bool s) = W6 at *
          have hst := store_one (P := Tryz.prog) F.2.2.2.2.2.2 (v := .func (.func 105) #[] #[.pointer (some ⟨W3.heap.size, 0, none⟩)]) rfl
          refine Node.on 10 rfl (fun K hK => ?_)
          go_simp
          refine hK.out _ _ (ld F.2.2.1 F.2.2.2.1 hLl hMl hMx) (fun _ => ?_)
          clear hK K
          try simp only [zA, zS, zZ, Act.put, zP, zQ, zR]
          refine wpAnyH_done (by kernel_rfl) ?_ _
          have hC := F.2.2.2.2
          clear F hst d8 f8 A7 A8 B6 GL GM BB L7 L8
          go_wp2
          go_ret
          exact ⟨hC.2.1, _, _, _, rfl, hC.1⟩
      · intro K hK
        go_simp
        have A7 := new_at (w := W3) rfl (.cells #[.bool false] 4)
        have L7 : w.heap.size ≤ W3.heap.size := BB.size
        replace GL := old_at GL (.cells #[.bool false] 4)
        replace GM := old_at GM (.cells #[.bool false] 4)
        replace A8 := old_at A8 (.cells #[.bool false] 4)
        replace BB := below_step BB (below_new W3 (.cells #[.bool false] 4))
        generalize W3.alloc (.cells #[.bool false] 4) = W4 at *
        refine hK.out _ _ (ld GL GM hLl hMl hMx) (fun _ => ?_)
        clear hK K
        try simp only [zA, zS, zZ, Act.put, zP, zQ, zR]
        refine wpAnyH_ready (rs := [6]) (by kernel_rfl) (by simp) ?_
        refine AllReadyH.cons rfl ?_ AllReadyH.nil
        · intro K hK
          go_simp
          refine (bit_c x _).mono ?_
          rintro e W' ⟨rfl, rfl⟩
          have B6 := new_at (w := W4) rfl (.cells #[.int .u32 x.toNat] 31)
          replace GL := old_at GL (.cells #[.int .u32 x.toNat] 31)
          replace GM := old_at GM (.cells #[.int .u32 x.toNat] 31)
          replace A8 := old_at A8 (.cells #[.int .u32 x.toNat] 31)
          replace A7 := old_at A7 (.cells #[.int .u32 x.toNat] 31)
          replace BB := below_step BB (below_new W4 (.cells #[.int .u32 x.toNat] 31))
          generalize W4.alloc (.cells #[.int .u32 x.toNat] 31) = W5 at *
          refine hK.out _ _ (ld GL GM hLl hMl hMx) (fun _ => ?_)
          clear hK K
          try simp only [zA, zS, zZ, Act.put, zP, zQ, zR]
          have d7 := cell_at A7 0
          have f7 := free_at A7 0
          refine Node.on 9 rfl (fun K hK => ?_)
          go_simp
          have F := clo_stores (s := s) BB GL GM A7 A8 B6 L7 L8
          have d8 := cell_at F.2.2.2.2.2.2 0
          have f8 := free_at F.2.2.2.2.2.2 0
          refine hK.out _ _ (ld F.1 F.2.1 hLl hMl hMx) (fun _ => ?_)
          clear hK K d7 f7
          try simp only [zA, zS, zZ, Act.put, zP, zQ, zR]
          generalize W5.setCell ⟨W3.heap.size, 0, none⟩ (.bool s) = W6 at *
          have hst := store_one (P := Tryz.prog) F.2.2.2.2.2.2 (v := .func (.func 105) #[] #[.pointer (some ⟨W4.heap.size, 0, none⟩)]) rfl
          refine Node.on 10 rfl (fun K hK => ?_)
          go_simp
          refine hK.out _ _ (ld F.2.2.1 F.2.2.2.1 hLl hMl hMx) (fun _ => ?_)
          clear hK K
          try simp only [zA, zS, zZ, Act.put, zP, zQ, zR]
          refine wpAnyH_done (by kernel_rfl) ?_ _
          have hC := F.2.2.2.2
          clear F hst d8 f8 A7 A8 B6 GL GM BB L7 L8
          go_wp2
          go_ret
          exact ⟨hC.2.1, _, _, _, rfl, hC.1⟩
  · intro K hK
    go_simp
    have A7 := new_at (w := W1) rfl (.cells #[.bool false] 4)
    have L7 : w.heap.size ≤ W1.heap.size := BB.size
    replace GL := old_at GL (.cells #[.bool false] 4)
    replace GM := old_at GM (.cells #[.bool false] 4)
    replace BB := below_step BB (below_new W1 (.cells #[.bool false] 4))
    generalize W1.alloc (.cells #[.bool false] 4) = W2 at *
    refine hK.out _ _ (ld GL GM hLl hMl hMx) (fun _ => ?_)
    clear hK K
    try simp only [zA, zS, zZ, Act.put, zP, zQ, zR]
    refine wpAnyH_ready (rs := [2, 8]) (by kernel_rfl) (by simp) ?_
    refine AllReadyH.cons rfl ?_ (AllReadyH.cons rfl ?_ AllReadyH.nil)
    · intro K hK
      go_simp
      refine (Stale_g L M age st s _ HS.out hL hM).mono ?_
      rintro e W3 ⟨rfl, bb⟩
      replace GL := below_at bb GL (Array.getElem?_eq_some_iff.1 GL).1
      replace GM := below_at bb GM (Array.getElem?_eq_some_iff.1 GM).1
      replace A7 := below_at bb A7 (Array.getElem?_eq_some_iff.1 A7).1
      replace BB := below_step BB bb
      clear bb
      refine hK.out _ _ (ld GL GM hLl hMl hMx) (fun _ => ?_)
      clear hK K
      try simp only [zA, zS, zZ, Act.put, zP, zQ, zR]
      refine wpAnyH_ready (rs := [6, 8]) (by kernel_rfl) (by simp) ?_
      refine AllReadyH.cons rfl ?_ (AllReadyH.cons rfl ?_ AllReadyH.nil)
      · intro K hK
        go_simp
        refine (bit_c x _).mono ?_
        rintro e W' ⟨rfl, rfl⟩
        have B6 := new_at (w := W3) rfl (.cells #[.int .u32 x.toNat] 31)
        replace GL := old_at GL (.cells #[.int .u32 x.toNat] 31)
        replace GM := old_at GM (.cells #[.int .u32 x.toNat] 31)
        replace A7 := old_at A7 (.cells #[.int .u32 x.toNat] 31)
        replace BB := below_step BB (below_new W3 (.cells #[.int .u32 x.toNat] 31))
        generalize W3.alloc (.cells #[.int .u32 x.toNat] 31) = W4 at *
        refine hK.out _ _ (ld GL GM hLl hMl hMx) (fun _ => ?_)
        clear hK K
        try simp only [zA, zS, zZ, Act.put, zP, zQ, zR]
        refine wpAnyH_ready (rs := [8]) (by kernel_rfl) (by simp) ?_
        refine AllReadyH.cons rfl ?_ AllReadyH.nil
        · intro K hK
          go_simp
          have A8 := new_at (w := W4) rfl (.cells #[Value.nilFunc] 105)
          have L8 : w.heap.size ≤ W4.heap.size := BB.size
          replace GL := old_at GL (.cells #[Value.nilFunc] 105)
          replace GM := old_at GM (.cells #[Value.nilFunc] 105)
          replace A7 := old_at A7 (.cells #[Value.nilFunc] 105)
          replace B6 := old_at B6 (.cells #[Value.nilFunc] 105)
          replace BB := below_step BB (below_new W4 (.cells #[Value.nilFunc] 105))
          generalize W4.alloc (.cells #[Value.nilFunc] 105) = W5 at *
          refine hK.out _ _ (ld GL GM hLl hMl hMx) (fun _ => ?_)
          clear hK K
          try simp only [zA, zS, zZ, Act.put, zP, zQ, zR]
          have d7 := cell_at A7 0
          have f7 := free_at A7 0
          refine Node.on 9 rfl (fun K hK => ?_)
          go_simp
          have F := clo_stores (s := s) BB GL GM A7 A8 B6 L7 L8
          have d8 := cell_at F.2.2.2.2.2.2 0
          have f8 := free_at F.2.2.2.2.2.2 0
          refine hK.out _ _ (ld F.1 F.2.1 hLl hMl hMx) (fun _ => ?_)
          clear hK K d7 f7
          try simp only [zA, zS, zZ, Act.put, zP, zQ, zR]
          generalize W5.setCell ⟨W1.heap.size, 0, none⟩ (.bool s) = W6 at *
          have hst := store_one (P := Tryz.prog) F.2.2.2.2.2.2 (v := .func (.func 105) #[] #[.pointer (some ⟨W3.heap.size, 0, none⟩)]) rfl
          refine Node.on 10 rfl (fun K hK => ?_)
          go_simp
          refine hK.out _ _ (ld F.2.2.1 F.2.2.2.1 hLl hMl hMx) (fun _ => ?_)
          clear hK K
          try simp only [zA, zS, zZ, Act.put, zP, zQ, zR]
          refine wpAnyH_done (by kernel_rfl) ?_ _
          have hC := F.2.2.2.2
          clear F hst d8 f8 A7 A8 B6 GL GM BB L7 L8
          go_wp2
          go_ret
          exact ⟨hC.2.1, _, _, _, rfl, hC.1⟩
      · intro K hK
        go_simp
        have A8 := new_at (w := W3) rfl (.cells #[Value.nilFunc] 105)
        have L8 : w.heap.size ≤ W3.heap.size := BB.size
        replace GL := old_at GL (.cells #[Value.nilFunc] 105)
        replace GM := old_at GM (.cells #[Value.nilFunc] 105)
        replace A7 := old_at A7 (.cells #[Value.nilFunc] 105)
        replace BB := below_step BB (below_new W3 (.cells #[Value.nilFunc] 105))
        generalize W3.alloc (.cells #[Value.nilFunc] 105) = W4 at *
        refine hK.out _ _ (ld GL GM hLl hMl hMx) (fun _ => ?_)
        clear hK K
        try simp only [zA, zS, zZ, Act.put, zP, zQ, zR]
        refine wpAnyH_ready (rs := [6]) (by kernel_rfl) (by simp) ?_
        refine AllReadyH.cons rfl ?_ AllReadyH.nil
        · intro K hK
          go_simp
          refine (bit_c x _).mono ?_
          rintro e W' ⟨rfl, rfl⟩
          have B6 := new_at (w := W4) rfl (.cells #[.int .u32 x.toNat] 31)
          replace GL := old_at GL (.cells #[.int .u32 x.toNat] 31)
          replace GM := old_at GM (.cells #[.int .u32 x.toNat] 31)
          replace A7 := old_at A7 (.cells #[.int .u32 x.toNat] 31)
          replace A8 := old_at A8 (.cells #[.int .u32 x.toNat] 31)
          replace BB := below_step BB (below_new W4 (.cells #[.int .u32 x.toNat] 31))
          generalize W4.alloc (.cells #[.int .u32 x.toNat] 31) = W5 at *
          refine hK.out _ _ (ld GL GM hLl hMl hMx) (fun _ => ?_)
          clear hK K
          try simp only [zA, zS, zZ, Act.put, zP, zQ, zR]
          have d7 := cell_at A7 0
          have f7 := free_at A7 0
          refine Node.on 9 rfl (fun K hK => ?_)
          go_simp
          have F := clo_stores (s := s) BB GL GM A7 A8 B6 L7 L8
          have d8 := cell_at F.2.2.2.2.2.2 0
          have f8 := free_at F.2.2.2.2.2.2 0
          refine hK.out _ _ (ld F.1 F.2.1 hLl hMl hMx) (fun _ => ?_)
          clear hK K d7 f7
          try simp only [zA, zS, zZ, Act.put, zP, zQ, zR]
          generalize W5.setCell ⟨W1.heap.size, 0, none⟩ (.bool s) = W6 at *
          have hst := store_one (P := Tryz.prog) F.2.2.2.2.2.2 (v := .func (.func 105) #[] #[.pointer (some ⟨W4.heap.size, 0, none⟩)]) rfl
          refine Node.on 10 rfl (fun K hK => ?_)
          go_simp
          refine hK.out _ _ (ld F.2.2.1 F.2.2.2.1 hLl hMl hMx) (fun _ => ?_)
          clear hK K
          try simp only [zA, zS, zZ, Act.put, zP, zQ, zR]
          refine wpAnyH_done (by kernel_rfl) ?_ _
          have hC := F.2.2.2.2
          clear F hst d8 f8 A7 A8 B6 GL GM BB L7 L8
          go_wp2
          go_ret
          exact ⟨hC.2.1, _, _, _, rfl, hC.1⟩
    · intro K hK
      go_simp
      have A8 := new_at (w := W2) rfl (.cells #[Value.nilFunc] 105)
      have L8 : w.heap.size ≤ W2.heap.size := BB.size
      replace GL := old_at GL (.cells #[Value.nilFunc] 105)
      replace GM := old_at GM (.cells #[Value.nilFunc] 105)
      replace A7 := old_at A7 (.cells #[Value.nilFunc] 105)
      replace BB := below_step BB (below_new W2 (.cells #[Value.nilFunc] 105))
      generalize W2.alloc (.cells #[Value.nilFunc] 105) = W3 at *
      refine hK.out _ _ (ld GL GM hLl hMl hMx) (fun _ => ?_)
      clear hK K
      try simp only [zA, zS, zZ, Act.put, zP, zQ, zR]
      refine wpAnyH_ready (rs := [2]) (by kernel_rfl) (by simp) ?_
      refine AllReadyH.cons rfl ?_ AllReadyH.nil
      · intro K hK
        go_simp
        refine (Stale_g L M age st s _ HS.out hL hM).mono ?_
        rintro e W4 ⟨rfl, bb⟩
        replace GL := below_at bb GL (Array.getElem?_eq_some_iff.1 GL).1
        replace GM := below_at bb GM (Array.getElem?_eq_some_iff.1 GM).1
        replace A7 := below_at bb A7 (Array.getElem?_eq_some_iff.1 A7).1
        replace A8 := below_at bb A8 (Array.getElem?_eq_some_iff.1 A8).1
        replace BB := below_step BB bb
        clear bb
        refine hK.out _ _ (ld GL GM hLl hMl hMx) (fun _ => ?_)
        clear hK K
        try simp only [zA, zS, zZ, Act.put, zP, zQ, zR]
        refine wpAnyH_ready (rs := [6]) (by kernel_rfl) (by simp) ?_
        refine AllReadyH.cons rfl ?_ AllReadyH.nil
        · intro K hK
          go_simp
          refine (bit_c x _).mono ?_
          rintro e W' ⟨rfl, rfl⟩
          have B6 := new_at (w := W4) rfl (.cells #[.int .u32 x.toNat] 31)
          replace GL := old_at GL (.cells #[.int .u32 x.toNat] 31)
          replace GM := old_at GM (.cells #[.int .u32 x.toNat] 31)
          replace A7 := old_at A7 (.cells #[.int .u32 x.toNat] 31)
          replace A8 := old_at A8 (.cells #[.int .u32 x.toNat] 31)
          replace BB := below_step BB (below_new W4 (.cells #[.int .u32 x.toNat] 31))
          generalize W4.alloc (.cells #[.int .u32 x.toNat] 31) = W5 at *
          refine hK.out _ _ (ld GL GM hLl hMl hMx) (fun _ => ?_)
          clear hK K
          try simp only [zA, zS, zZ, Act.put, zP, zQ, zR]
          have d7 := cell_at A7 0
          have f7 := free_at A7 0
          refine Node.on 9 rfl (fun K hK => ?_)
          go_simp
          have F := clo_stores (s := s) BB GL GM A7 A8 B6 L7 L8
          have d8 := cell_at F.2.2.2.2.2.2 0
          have f8 := free_at F.2.2.2.2.2.2 0
          refine hK.out _ _ (ld F.1 F.2.1 hLl hMl hMx) (fun _ => ?_)
          clear hK K d7 f7
          try simp only [zA, zS, zZ, Act.put, zP, zQ, zR]
          generalize W5.setCell ⟨W1.heap.size, 0, none⟩ (.bool s) = W6 at *
          have hst := store_one (P := Tryz.prog) F.2.2.2.2.2.2 (v := .func (.func 105) #[] #[.pointer (some ⟨W4.heap.size, 0, none⟩)]) rfl
          refine Node.on 10 rfl (fun K hK => ?_)
          go_simp
          refine hK.out _ _ (ld F.2.2.1 F.2.2.2.1 hLl hMl hMx) (fun _ => ?_)
          clear hK K
          try simp only [zA, zS, zZ, Act.put, zP, zQ, zR]
          refine wpAnyH_done (by kernel_rfl) ?_ _
          have hC := F.2.2.2.2
          clear F hst d8 f8 A7 A8 B6 GL GM BB L7 L8
          go_wp2
          go_ret
          exact ⟨hC.2.1, _, _, _, rfl, hC.1⟩
  · intro K hK
    go_simp
    have A8 := new_at (w := W1) rfl (.cells #[Value.nilFunc] 105)
    have L8 : w.heap.size ≤ W1.heap.size := BB.size
    replace GL := old_at GL (.cells #[Value.nilFunc] 105)
    replace GM := old_at GM (.cells #[Value.nilFunc] 105)
    replace BB := below_step BB (below_new W1 (.cells #[Value.nilFunc] 105))
    generalize W1.alloc (.cells #[Value.nilFunc] 105) = W2 at *
    refine hK.out _ _ (ld GL GM hLl hMl hMx) (fun _ => ?_)
    clear hK K
    try simp only [zA, zS, zZ, Act.put, zP, zQ, zR]
    refine wpAnyH_ready (rs := [2, 7]) (by kernel_rfl) (by simp) ?_
    refine AllReadyH.cons rfl ?_ (AllReadyH.cons rfl ?_ AllReadyH.nil)
    · intro K hK
      go_simp
      refine (Stale_g L M age st s _ HS.out hL hM).mono ?_
      rintro e W3 ⟨rfl, bb⟩
      replace GL := below_at bb GL (Array.getElem?_eq_some_iff.1 GL).1
      replace GM := below_at bb GM (Array.getElem?_eq_some_iff.1 GM).1
      replace A8 := below_at bb A8 (Array.getElem?_eq_some_iff.1 A8).1
      replace BB := below_step BB bb
      clear bb
      refine hK.out _ _ (ld GL GM hLl hMl hMx) (fun _ => ?_)
      clear hK K
      try simp only [zA, zS, zZ, Act.put, zP, zQ, zR]
      refine wpAnyH_ready (rs := [6, 7]) (by kernel_rfl) (by simp) ?_
      refine AllReadyH.cons rfl ?_ (AllReadyH.cons rfl ?_ AllReadyH.nil)
      · intro K hK
        go_simp
        refine (bit_c x _).mono ?_
        rintro e W' ⟨rfl, rfl⟩
        have B6 := new_at (w := W3) rfl (.cells #[.int .u32 x.toNat] 31)
        replace GL := old_at GL (.cells #[.int .u32 x.toNat] 31)
        replace GM := old_at GM (.cells #[.int .u32 x.toNat] 31)
        replace A8 := old_at A8 (.cells #[.int .u32 x.toNat] 31)
        replace BB := below_step BB (below_new W3 (.cells #[.int .u32 x.toNat] 31))
        generalize W3.alloc (.cells #[.int .u32 x.toNat] 31) = W4 at *
        refine hK.out _ _ (ld GL GM hLl hMl hMx) (fun _ => ?_)
        clear hK K
        try simp only [zA, zS, zZ, Act.put, zP, zQ, zR]
        refine wpAnyH_ready (rs := [7]) (by kernel_rfl) (by simp) ?_
        refine AllReadyH.cons rfl ?_ AllReadyH.nil
        · intro K hK
          go_simp
          have A7 := new_at (w := W4) rfl (.cells #[.bool false] 4)
          have L7 : w.heap.size ≤ W4.heap.size := BB.size
          replace GL := old_at GL (.cells #[.bool false] 4)
          replace GM := old_at GM (.cells #[.bool false] 4)
          replace A8 := old_at A8 (.cells #[.bool false] 4)
          replace B6 := old_at B6 (.cells #[.bool false] 4)
          replace BB := below_step BB (below_new W4 (.cells #[.bool false] 4))
          generalize W4.alloc (.cells #[.bool false] 4) = W5 at *
          refine hK.out _ _ (ld GL GM hLl hMl hMx) (fun _ => ?_)
          clear hK K
          try simp only [zA, zS, zZ, Act.put, zP, zQ, zR]
          have d7 := cell_at A7 0
          have f7 := free_at A7 0
          refine Node.on 9 rfl (fun K hK => ?_)
          go_simp
          have F := clo_stores (s := s) BB GL GM A7 A8 B6 L7 L8
          have d8 := cell_at F.2.2.2.2.2.2 0
          have f8 := free_at F.2.2.2.2.2.2 0
          refine hK.out _ _ (ld F.1 F.2.1 hLl hMl hMx) (fun _ => ?_)
          clear hK K d7 f7
          try simp only [zA, zS, zZ, Act.put, zP, zQ, zR]
          generalize W5.setCell ⟨W4.heap.size, 0, none⟩ (.bool s) = W6 at *
          have hst := store_one (P := Tryz.prog) F.2.2.2.2.2.2 (v := .func (.func 105) #[] #[.pointer (some ⟨W3.heap.size, 0, none⟩)]) rfl
          refine Node.on 10 rfl (fun K hK => ?_)
          go_simp
          refine hK.out _ _ (ld F.2.2.1 F.2.2.2.1 hLl hMl hMx) (fun _ => ?_)
          clear hK K
          try simp only [zA, zS, zZ, Act.put, zP, zQ, zR]
          refine wpAnyH_done (by kernel_rfl) ?_ _
          have hC := F.2.2.2.2
          clear F hst d8 f8 A7 A8 B6 GL GM BB L7 L8
          go_wp2
          go_ret
          exact ⟨hC.2.1, _, _, _, rfl, hC.1⟩
      · intro K hK
        go_simp
        have A7 := new_at (w := W3) rfl (.cells #[.bool false] 4)
        have L7 : w.heap.size ≤ W3.heap.size := BB.size
        replace GL := old_at GL (.cells #[.bool false] 4)
        replace GM := old_at GM (.cells #[.bool false] 4)
        replace A8 := old_at A8 (.cells #[.bool false] 4)
        replace BB := below_step BB (below_new W3 (.cells #[.bool false] 4))
        generalize W3.alloc (.cells #[.bool false] 4) = W4 at *
        refine hK.out _ _ (ld GL GM hLl hMl hMx) (fun _ => ?_)
        clear hK K
        try simp only [zA, zS, zZ, Act.put, zP, zQ, zR]
        refine wpAnyH_ready (rs := [6]) (by kernel_rfl) (by simp) ?_
        refine AllReadyH.cons rfl ?_ AllReadyH.nil
        · intro K hK
          go_simp
          refine (bit_c x _).mono ?_
          rintro e W' ⟨rfl, rfl⟩
          have B6 := new_at (w := W4) rfl (.cells #[.int .u32 x.toNat] 31)
          replace GL := old_at GL (.cells #[.int .u32 x.toNat] 31)
          replace GM := old_at GM (.cells #[.int .u32 x.toNat] 31)
          replace A8 := old_at A8 (.cells #[.int .u32 x.toNat] 31)
          replace A7 := old_at A7 (.cells #[.int .u32 x.toNat] 31)
          replace BB := below_step BB (below_new W4 (.cells #[.int .u32 x.toNat] 31))
          generalize W4.alloc (.cells #[.int .u32 x.toNat] 31) = W5 at *
          refine hK.out _ _ (ld GL GM hLl hMl hMx) (fun _ => ?_)
          clear hK K
          try simp only [zA, zS, zZ, Act.put, zP, zQ, zR]
          have d7 := cell_at A7 0
          have f7 := free_at A7 0
          refine Node.on 9 rfl (fun K hK => ?_)
          go_simp
          have F := clo_stores (s := s) BB GL GM A7 A8 B6 L7 L8
          have d8 := cell_at F.2.2.2.2.2.2 0
          have f8 := free_at F.2.2.2.2.2.2 0
          refine hK.out _ _ (ld F.1 F.2.1 hLl hMl hMx) (fun _ => ?_)
          clear hK K d7 f7
          try simp only [zA, zS, zZ, Act.put, zP, zQ, zR]
          generalize W5.setCell ⟨W3.heap.size, 0, none⟩ (.bool s) = W6 at *
          have hst := store_one (P := Tryz.prog) F.2.2.2.2.2.2 (v := .func (.func 105) #[] #[.pointer (some ⟨W4.heap.size, 0, none⟩)]) rfl
          refine Node.on 10 rfl (fun K hK => ?_)
          go_simp
          refine hK.out _ _ (ld F.2.2.1 F.2.2.2.1 hLl hMl hMx) (fun _ => ?_)
          clear hK K
          try simp only [zA, zS, zZ, Act.put, zP, zQ, zR]
          refine wpAnyH_done (by kernel_rfl) ?_ _
          have hC := F.2.2.2.2
          clear F hst d8 f8 A7 A8 B6 GL GM BB L7 L8
          go_wp2
          go_ret
          exact ⟨hC.2.1, _, _, _, rfl, hC.1⟩
    · intro K hK
      go_simp
      have A7 := new_at (w := W2) rfl (.cells #[.bool false] 4)
      have L7 : w.heap.size ≤ W2.heap.size := BB.size
      replace GL := old_at GL (.cells #[.bool false] 4)
      replace GM := old_at GM (.cells #[.bool false] 4)
      replace A8 := old_at A8 (.cells #[.bool false] 4)
      replace BB := below_step BB (below_new W2 (.cells #[.bool false] 4))
      generalize W2.alloc (.cells #[.bool false] 4) = W3 at *
      refine hK.out _ _ (ld GL GM hLl hMl hMx) (fun _ => ?_)
      clear hK K
      try simp only [zA, zS, zZ, Act.put, zP, zQ, zR]
      refine wpAnyH_ready (rs := [2]) (by kernel_rfl) (by simp) ?_
      refine AllReadyH.cons rfl ?_ AllReadyH.nil
      · intro K hK
        go_simp
        refine (Stale_g L M age st s _ HS.out hL hM).mono ?_
        rintro e W4 ⟨rfl, bb⟩
        replace GL := below_at bb GL (Array.getElem?_eq_some_iff.1 GL).1
        replace GM := below_at bb GM (Array.getElem?_eq_some_iff.1 GM).1
        replace A8 := below_at bb A8 (Array.getElem?_eq_some_iff.1 A8).1
        replace A7 := below_at bb A7 (Array.getElem?_eq_some_iff.1 A7).1
        replace BB := below_step BB bb
        clear bb
        refine hK.out _ _ (ld GL GM hLl hMl hMx) (fun _ => ?_)
        clear hK K
        try simp only [zA, zS, zZ, Act.put, zP, zQ, zR]
        refine wpAnyH_ready (rs := [6]) (by kernel_rfl) (by simp) ?_
        refine AllReadyH.cons rfl ?_ AllReadyH.nil
        · intro K hK
          go_simp
          refine (bit_c x _).mono ?_
          rintro e W' ⟨rfl, rfl⟩
          have B6 := new_at (w := W4) rfl (.cells #[.int .u32 x.toNat] 31)
          replace GL := old_at GL (.cells #[.int .u32 x.toNat] 31)
          replace GM := old_at GM (.cells #[.int .u32 x.toNat] 31)
          replace A8 := old_at A8 (.cells #[.int .u32 x.toNat] 31)
          replace A7 := old_at A7 (.cells #[.int .u32 x.toNat] 31)
          replace BB := below_step BB (below_new W4 (.cells #[.int .u32 x.toNat] 31))
          generalize W4.alloc (.cells #[.int .u32 x.toNat] 31) = W5 at *
          refine hK.out _ _ (ld GL GM hLl hMl hMx) (fun _ => ?_)
          clear hK K
          try simp only [zA, zS, zZ, Act.put, zP, zQ, zR]
          have d7 := cell_at A7 0
          have f7 := free_at A7 0
          refine Node.on 9 rfl (fun K hK => ?_)
          go_simp
          have F := clo_stores (s := s) BB GL GM A7 A8 B6 L7 L8
          have d8 := cell_at F.2.2.2.2.2.2 0
          have f8 := free_at F.2.2.2.2.2.2 0
          refine hK.out _ _ (ld F.1 F.2.1 hLl hMl hMx) (fun _ => ?_)
          clear hK K d7 f7
          try simp only [zA, zS, zZ, Act.put, zP, zQ, zR]
          generalize W5.setCell ⟨W2.heap.size, 0, none⟩ (.bool s) = W6 at *
          have hst := store_one (P := Tryz.prog) F.2.2.2.2.2.2 (v := .func (.func 105) #[] #[.pointer (some ⟨W4.heap.size, 0, none⟩)]) rfl
          refine Node.on 10 rfl (fun K hK => ?_)
          go_simp
          refine hK.out _ _ (ld F.2.2.1 F.2.2.2.1 hLl hMl hMx) (fun _ => ?_)
          clear hK K
          try simp only [zA, zS, zZ, Act.put, zP, zQ, zR]
          refine wpAnyH_done (by kernel_rfl) ?_ _
          have hC := F.2.2.2.2
          clear F hst d8 f8 A7 A8 B6 GL GM BB L7 L8
          go_wp2
          go_ret
          exact ⟨hC.2.1, _, _, _, rfl, hC.1⟩
set_option maxHeartbeats 1000000 in
theorem clear1_c (g7 g8 gb : Nat) (s : Bool) (x : BitVec 32) (n : Int) (w : World) (hC : Clo w g7 g8 gb s x) :
    Calls Tryz.prog 101 #[.int .i64 n, .pointer (some ⟨g7, 0, none⟩), .pointer (some ⟨g8, 0, none⟩)] w fun e w' => e = .returned (.bool (!s && !bitV x n)) ∧ Below w.heap.size w w' := by
  have d7 := cell_at hC.a7 0
  have d8 := cell_at hC.a8 0
  have d6 := cell_at hC.b6 0
  cases s
  · go_enter Tryz.func101, Tryz.ntmps101
    go_wp2_with fail
    refine (bit1_c gb x n _ d6).mono ?_
    rintro e w1 ⟨rfl, b1⟩
    go_wp2
    go_ret
    exact ⟨rfl, b1⟩
  · go_enter Tryz.func101, Tryz.ntmps101
    go_wp2
    go_ret
    exact ⟨rfl, Below.refl _ _⟩
end Go.Proofs.YtppcdmbpbbjecaaGreat
namespace Go.Proofs.YtppcdmbpbbjecaaGreat
open List renaming getElem_toArray → zA, getElem_cons_succ → zS, getElem_cons_zero → zZ, setIfInBounds_toArray → zP, set_cons_zero → zQ, set_cons_succ → zR
open Go.RowKit Rf Mem
attribute [local go_sem ↓] run_max2 run_min2
/-- a whole variable is loaded, in a plain region, guarded or not -/
theorem wpList_load_g {P : Program} {w : World} {a : Act} {Q : Exit → Act → World → Prop} {ops : Array Oper} {rest : List Oper} {op : Oper} (hw : Region.wanted op (yielded ops a.tmps) = true) (ty : TypeId) (x : Operand) (ho : op.op = .load ty x)
    (b o : Nat) (hx : a.eval x = .pointer (some ⟨b, o, none⟩)) (cs : List Value) (d : TypeDesc) (hc : w.rangeAt b o cs)
    (hu : P.underlying ty = some d) (hd : d.isRow = true) (hi : (P.info? ty).map (·.size) = some cs.length)
    (h : wpList P ops Q rest (a.put op.dst (.agg cs.toArray)) w) : wpList P ops Q (op :: rest) a w :=
  wpList_step fun K hK => by rw [if_pos hw]; exact wp_load_mid ty x ho b o hx cs d hc hu hd hi (hK _ _ h)
/-- a layout's and an image's fields -/
structure LayF (L : List Value) (ns nsig : Nat) (clr st : Int) (A : Option Addr) (c : Nat) (A1 : Option Addr) (c1 : Nat) : Prop where
  len : L.length = 11
  sec : L[0]? = some (.slice A ns c)
  sig : L[1]? = some (.slice A1 nsig c1)
  clr : L[4]? = some (.int .i64 clr)
  st : L[6]? = some (.int .i64 st)
structure ImgF (M : List Value) (age : Int) (free : List Int) (occ nor rev lam : BitVec 32) : Prop where
  len : M.length = 29
  fl : free.length = 24
  age : M[0]? = some (.int .i64 age)
  free : ∀ (k : Nat) (z : Int), free[k]? = some z → M[1 + k]? = some (.int .i64 z)
  occ : M[25]? = some (.int .u32 occ.toNat)
  nor : M[26]? = some (.int .u32 nor.toNat)
  rev : M[27]? = some (.int .u32 rev.toNat)
  lam : M[28]? = some (.int .u32 lam.toNat)
theorem lay_size {L : List Value} (h : L.length = 11) : (Tryz.prog.info? 29).map (·.size) = some L.length := by rw [h]; kernel_rfl
theorem img_size {M : List Value} (h : M.length = 29) : (Tryz.prog.info? 35).map (·.size) = some M.length := by rw [h]; kernel_rfl
/-- two variables: a layout, an image -/
structure Two (w W : World) (L M : List Value) : Prop where
  l : W.heap[w.heap.size]? = some (.cells L.toArray 29 (0, 0))
  m : W.heap[w.heap.size + 1]? = some (.cells M.toArray 35 (0, 0))
  below : Below w.heap.size w W
theorem Two.new (w : World) (L M : List Value) : Two w ((w.alloc (.cells L.toArray 29)).alloc (.cells M.toArray 35)) L M :=
  ⟨old_at (new_at rfl _) _, new_at (by simp) _, below_step (below_new _ _) (below_new _ _)⟩
theorem Two.later {w W W' : World} {L M : List Value} (h : Two w W L M) (hb : Below W.heap.size W W') : Two w W' L M :=
  ⟨below_at hb h.l (Array.getElem?_eq_some_iff.1 h.l).1, below_at hb h.m (Array.getElem?_eq_some_iff.1 h.m).1, below_step h.below hb⟩
theorem Two.drew {w W : World} {L M : List Value} (h : Two w W L M) : Two w W.drew L M := ⟨h.l, h.m, h.below.drew⟩
theorem Two.rl {w W : World} {L M : List Value} (h : Two w W L M) : W.rangeAt w.heap.size 0 L := range_of h.l
theorem Two.rm {w W : World} {L M : List Value} (h : Two w W L M) : W.rangeAt (w.heap.size + 1) 0 M := range_of h.m
theorem Two.cl {w W : World} {L M : List Value} (h : Two w W L M) {i : Nat} {v : Value} (hv : L[i]? = some v) : W.cell? ⟨w.heap.size, i, none⟩ = some v := cell_list h.l hv
theorem Two.cm {w W : World} {L M : List Value} (h : Two w W L M) {i : Nat} {v : Value} (hv : M[i]? = some v) : W.cell? ⟨w.heap.size + 1, i, none⟩ = some v := cell_list h.m hv
/-- is it told occupied? -/
def toldV (ns : Nat) (occ : BitVec 32) (stale : Bool) (n : Int) : Bool := decide (n < min (ns : Int) 24) && (bitV occ n && !stale)
theorem bit_g (x : BitVec 32) (w : World) : Calls Tryz.prog 77 #[.int .u32 x.toNat] w fun e W' => Below w.heap.size w W' ∧ ∃ g, e = .returned (.func (.func 105) #[] #[.pointer (some ⟨g, 0, none⟩)]) ∧ W'.cell? ⟨g, 0, none⟩ = some (.int .u32 x.toNat) := by
  refine (bit_c x w).mono ?_
  rintro e W' ⟨rfl, rfl⟩
  exact ⟨below_new _ _, _, rfl, by rw [cell_at (new_at rfl _)]; rfl⟩
theorem bit1_g (g : Nat) (x : BitVec 32) (n : Int) (b : Bool) (w : World) (hb : b = bitV x n) (hg : w.cell? ⟨g, 0, none⟩ = some (.int .u32 x.toNat)) :
    Calls Tryz.prog 105 #[.int .i64 n, .pointer (some ⟨g, 0, none⟩)] w fun e w' => e = .returned (.bool b) ∧ Below w.heap.size w w' := by subst hb; exact bit1_c g x n w hg
end Go.Proofs.YtppcdmbpbbjecaaGreat
namespace Go.Proofs.YtppcdmbpbbjecaaGreat
open List renaming getElem_toArray → zA, getElem_cons_succ → zS, getElem_cons_zero → zZ, setIfInBounds_toArray → zP, set_cons_zero → zQ, set_cons_succ → zR
open Go.RowKit Rf Mem
attribute [local go_sem ↓] run_max2 run_min2
/-- does its lamp burn? -/
def litV (nsig : Nat) (lam : BitVec 32) (stale : Bool) (n : Int) : Bool := decide (n < (nsig : Int)) && (bitV lam n && !stale)
set_option maxHeartbeats 2000000 in
set_option maxRecDepth 100000 in
theorem Lit_c (L M : List Value) (ns nsig : Nat) (clr st age n : Int) (A A1 : Option Addr) (c c1 : Nat) (free : List Int) (occ nor rev lam : BitVec 32) (w : World) (hL : LayF L ns nsig clr st A c A1 c1) (hM : ImgF M age free occ nor rev lam) :
    Calls Tryz.prog 122 #[.agg L.toArray, .agg M.toArray, .int .i64 n] w fun e w' => e = .returned (.bool (litV nsig lam (decide (st < age)) n)) ∧ Below w.heap.size w w' := by
  have T := Two.new w L M
  have x0 := T.cl hL.sig
  have x1 := T.cm hM.lam
  have szL := lay_size hL.len
  have szM := img_size hM.len
  obtain ⟨s, hs⟩ : ∃ s, decide (st < age) = s := ⟨_, rfl⟩
  obtain ⟨b, hb⟩ : ∃ b, bitV lam n = b := ⟨_, rfl⟩
  have HS := Lib.hid hs.symm
  have HB := Lib.hid hb.symm
  unfold litV
  rw [hs, hb]
  clear hs hb
  rcases hq : decide (n < (nsig : Int)) with _ | _
  · go_enter Tryz.func122, Tryz.ntmps122
    go_wp2
    go_ret
    exact ⟨rfl, T.below⟩
  · go_enter Tryz.func122, Tryz.ntmps122
    go_wp2_with fail
    generalize (w.alloc (.cells L.toArray 29)).alloc (.cells M.toArray 35) = W0 at *
    refine (bit_g lam _).mono ?_
    rintro e W1 ⟨b1, g, rfl, hg⟩
    replace T := T.later b1
    clear x0 x1 b1
    go_wp2_with fail
    refine (bit1_g g lam n b _ HB.out hg).mono ?_
    rintro e W2 ⟨rfl, b2⟩
    replace T := T.later b2
    clear hg b2
    have RL := T.rl
    have RM := T.rm
    cases b
    · go_wp2
      go_ret
      exact ⟨rfl, T.below⟩
    · go_wp2_with (first
        | refine wpList_load_g (by rfl) 29 (.tmp 3) (by rfl) w.heap.size 0 (by rfl) L _ RL Tryz.underlying29 rfl szL ?_
        | refine wpList_load_g (by rfl) 35 (.tmp 4) (by rfl) (w.heap.size + 1) 0 (by rfl) M _ RM Tryz.underlying35 rfl szM ?_)
      refine (Stale_g L M age st s _ HS.out hL.st hM.age).mono ?_
      rintro e W3 ⟨rfl, b3⟩
      go_wp2
      go_ret
      exact ⟨rfl, (T.later b3).below⟩
/-- is a section occupied? -/
def occV (ns : Nat) (occ : BitVec 32) (stale : Bool) (free : List Int) (clr n : Int) : Bool :=
  decide (n < 0) || (decide (min (ns : Int) 24 ≤ n) || (!(!stale && !bitV occ n) || decide (free.getD n.toNat 0 < clr)))
theorem clear1_g (g7 g8 gb : Nat) (s b : Bool) (x : BitVec 32) (n : Int) (w : World) (hb : b = (!s && !bitV x n)) (hC : Clo w g7 g8 gb s x) :
    Calls Tryz.prog 101 #[.int .i64 n, .pointer (some ⟨g7, 0, none⟩), .pointer (some ⟨g8, 0, none⟩)] w fun e w' => e = .returned (.bool b) ∧ Below w.heap.size w w' := by subst hb; exact clear1_c g7 g8 gb s x n w hC
set_option maxHeartbeats 2000000 in
set_option maxRecDepth 100000 in
theorem Occupied_c (L M : List Value) (ns nsig : Nat) (clr st age n : Int) (A A1 : Option Addr) (c c1 : Nat) (free : List Int) (occ nor rev lam : BitVec 32) (w : World) (hL : LayF L ns nsig clr st A c A1 c1) (hM : ImgF M age free occ nor rev lam) :
    Calls Tryz.prog 36 #[.agg L.toArray, .agg M.toArray, .int .i64 n] w fun e w' => e = .returned (.bool (occV ns occ (decide (st < age)) free clr n)) ∧ Below w.heap.size w w' := by
  have T := Two.new w L M
  have x0 := T.cl hL.sec
  have szL := lay_size hL.len
  have szM := img_size hM.len
  unfold occV
  by_cases h1 : n < 0
  · have q1 : decide (n < 0) = true := decide_eq_true h1
    rw [q1, Bool.true_or]
    go_enter Tryz.func36, Tryz.ntmps36
    go_wp2
    go_ret
    exact ⟨rfl, T.below⟩
  have q1 : decide (n < 0) = false := decide_eq_false h1
  rw [q1, Bool.false_or]
  by_cases h2 : min (ns : Int) 24 ≤ n
  · have q2 : decide (min (ns : Int) 24 ≤ n) = true := decide_eq_true h2
    rw [q2, Bool.true_or]
    go_enter Tryz.func36, Tryz.ntmps36
    go_wp2
    go_ret
    exact ⟨rfl, T.below⟩
  have q2 : decide (min (ns : Int) 24 ≤ n) = false := decide_eq_false h2
  rw [q2, Bool.false_or]
  obtain ⟨k, rfl⟩ := Int.eq_ofNat_of_zero_le (by omega : 0 ≤ n)
  have hk : k < 24 := by omega
  obtain ⟨z, hz⟩ : ∃ z, free[k]? = some z := ⟨_, List.getElem?_eq_getElem (by rw [hM.fl]; exact hk)⟩
  have hgd : free.getD (k : Int).toNat 0 = z := by simp [List.getD, hz]
  rw [hgd]
  obtain ⟨b, hb⟩ : ∃ b, (!decide (st < age) && !bitV occ k) = b := ⟨_, rfl⟩
  rw [hb]
  have HB := Lib.hid hb.symm
  have hfz := hM.free k z hz
  have i1 : (k : Int) < 24 := by omega
  obtain ⟨t, ht⟩ : ∃ t, decide (z < clr) = t := ⟨_, rfl⟩
  have hcr := hL.clr
  have HT := Lib.hid ht
  clear hb hgd hz h1 h2 ht
  go_enter Tryz.func36, Tryz.ntmps36
  go_wp2_with fail
  generalize (w.alloc (.cells L.toArray 29)).alloc (.cells M.toArray 35) = W0 at *
  have TD := T.drew
  refine wp_region_held_drew (S := (fun w' => w'.rangeAt w.heap.size 0 L ∧ w'.rangeAt (w.heap.size + 1) 0 M ∧ w'.cell? ⟨w.heap.size, 4, none⟩ = some (.int .i64 clr) ∧ w'.cell? ⟨w.heap.size + 1, 1 + k, none⟩ = some (.int .i64 z))) (by kernel_rfl) ?_ (fun hHeld => ?_)
  · exact ⟨TD.rl, TD.rm, TD.cl hcr, TD.cm hfz⟩
  refine wpAnyH_take (i := 0) (v := .agg (L : List Value).toArray) rfl (by kernel_rfl) (by kernel_rfl) (by kernel_rfl) (fun _ _ _ h => h) (yieldsIf_load_mid (by kernel_rfl) 29 (.tmp 3) (by kernel_rfl) (w.heap.size) 0 (by kernel_rfl) L _ (fun w' h => h.1) (by first | exact Tryz.underlying29) rfl (by first | assumption | (simp only [*]; kernel_rfl))) (by assumption) ?_
  try simp only [zA, zS, zZ, Act.put, zP, zQ, zR]
  refine wpAnyH_take (i := 1) (v := .agg (M : List Value).toArray) rfl (by kernel_rfl) (by kernel_rfl) (by kernel_rfl) (fun _ _ _ h => h) (yieldsIf_load_mid (by kernel_rfl) 35 (.tmp 4) (by kernel_rfl) (w.heap.size + 1) 0 (by kernel_rfl) M _ (fun w' h => h.2.1) (by first | exact Tryz.underlying35) rfl (by first | assumption | (simp only [*]; kernel_rfl))) (by assumption) ?_
  try simp only [zA, zS, zZ, Act.put, zP, zQ, zR]
  refine Node.tk 3 ?_ rfl ?_ ?_
  rotate_left
  · intro w hSw; (try dsimp only at hSw); go_simp; try with_reducible rfl
  simp only [zA, zS, zZ, Act.put, zP, zQ, zR]
  refine Node.on 2 rfl (fun K hK => ?_)
  go_simp
  refine (clear_c L M age st occ _ _ rfl hL.st hM.age hM.occ hL.len hM.len).mono ?_
  rintro e W1 ⟨b1, g7, g8, gb, rfl, hC⟩
  refine hK.out _ _ ?_ (fun hHeld => ?_)
  · exact ⟨(TD.later b1).rl, (TD.later b1).rm, (TD.later b1).cl hcr, (TD.later b1).cm hfz⟩
  clear hK K
  replace TD := TD.later b1
  clear b1
  try simp only [zA, zS, zZ, Act.put, zP, zQ, zR]
  refine Node.on 4 rfl (fun K hK => ?_)
  go_simp
  refine (clear1_g g7 g8 gb _ b occ k _ HB.out hC).mono ?_
  rintro e W2 ⟨rfl, b2⟩
  refine hK.out _ _ ?_ (fun hHeld => ?_)
  · exact ⟨(TD.later b2).rl, (TD.later b2).rm, (TD.later b2).cl hcr, (TD.later b2).cm hfz⟩
  clear hK K
  replace TD := TD.later b2
  clear b2 hC
  try simp only [zA, zS, zZ, Act.put, zP, zQ, zR]
  cases b
  · refine Node.tk 5 ?_ rfl ?_ ?_
    rotate_left
    · intro w hSw; (try dsimp only at hSw); go_simp; try with_reducible rfl
    simp only [zA, zS, zZ, Act.put, zP, zQ, zR]
    refine Node.tk 6 ?_ rfl ?_ ?_
    rotate_left
    · intro w hSw; (try dsimp only at hSw); go_simp; try with_reducible rfl
    simp only [zA, zS, zZ, Act.put, zP, zQ, zR]
    refine Node.sk 7 rfl ?_
    refine Node.sk 8 rfl ?_
    refine Node.sk 9 rfl ?_
    refine Node.sk 10 rfl ?_
    refine Node.sk 11 rfl ?_
    refine Node.sk 12 rfl ?_
    refine Node.sk 13 rfl ?_
    refine Node.sk 14 rfl ?_
    simp only [zA, zS, zZ, Act.put, zP, zQ, zR]
    refine Node.tk 15 ?_ rfl ?_ ?_
    rotate_left
    · intro w hSw; (try dsimp only at hSw); go_simp; try with_reducible rfl
    simp only [zA, zS, zZ, Act.put, zP, zQ, zR]
    refine Node.tk 16 ?_ rfl ?_ ?_
    rotate_left
    · intro w hSw; (try dsimp only at hSw); go_simp; try with_reducible rfl
    simp only [zA, zS, zZ, Act.put, zP, zQ, zR]
    refine wpAnyH_done (by kernel_rfl) ?_ _
    go_wp2
    go_ret
    exact ⟨by rw [Bool.not_false, Bool.true_or]; rfl, TD.below⟩
  · refine Node.tk 5 ?_ rfl ?_ ?_
    rotate_left
    · intro w hSw; (try dsimp only at hSw); go_simp; try with_reducible rfl
    simp only [zA, zS, zZ, Act.put, zP, zQ, zR]
    refine Node.tk 6 ?_ rfl ?_ ?_
    rotate_left
    · intro w hSw; (try dsimp only at hSw); go_simp; try with_reducible rfl
    simp only [zA, zS, zZ, Act.put, zP, zQ, zR]
    refine Node.tk 7 ?_ rfl ?_ ?_
    rotate_left
    · intro w hSw; (try dsimp only at hSw); go_simp; try with_reducible rfl
    simp only [zA, zS, zZ, Act.put, zP, zQ, zR]
    refine Node.tk 8 ?_ rfl ?_ ?_
    rotate_left
    · intro w hSw; (try dsimp only at hSw); go_simp; try with_reducible rfl
    simp only [zA, zS, zZ, Act.put, zP, zQ, zR]
    refine Node.tk 9 ?_ rfl ?_ ?_
    rotate_left
    · intro w hSw; (try dsimp only at hSw); go_simp; try with_reducible rfl
    simp only [zA, zS, zZ, Act.put, zP, zQ, zR]
    refine Node.tk 10 ?_ rfl ?_ ?_
    rotate_left
    · intro w hSw; (try dsimp only at hSw); go_simp; try with_reducible rfl
    simp only [zA, zS, zZ, Act.put, zP, zQ, zR]
    refine Node.tk 11 ?_ rfl ?_ ?_
    rotate_left
    · intro w hSw; (try dsimp only at hSw); go_simp; try with_reducible rfl
    simp only [zA, zS, zZ, Act.put, zP, zQ, zR]
    refine Node.tk 12 ?_ rfl ?_ ?_
    rotate_left
    · intro w hSw; (try dsimp only at hSw); go_simp; try with_reducible rfl
    simp only [zA, zS, zZ, Act.put, zP, zQ, zR]
    refine Node.tk 13 ?_ rfl ?_ ?_
    rotate_left
    · intro w hSw; (try dsimp only at hSw); go_simp; try with_reducible rfl
    simp only [zA, zS, zZ, Act.put, zP, zQ, zR]
    refine Node.tk 14 ?_ rfl ?_ ?_
    rotate_left
    · intro w hSw; (try dsimp only at hSw); go_simp; try with_reducible rfl
    simp only [zA, zS, zZ, Act.put, zP, zQ, zR]
    refine Node.tk 15 ?_ rfl ?_ ?_
    rotate_left
    · intro w hSw; (try dsimp only at hSw); go_simp; try with_reducible rfl
    simp only [zA, zS, zZ, Act.put, zP, zQ, zR]
    refine Node.tk 16 ?_ rfl ?_ ?_
    rotate_left
    · intro w hSw; (try dsimp only at hSw); go_simp; try with_reducible rfl
    simp only [zA, zS, zZ, Act.put, zP, zQ, zR]
    refine wpAnyH_done (by kernel_rfl) ?_ _
    go_wp2
    go_ret
    exact ⟨by simp, TD.below⟩
end Go.Proofs.YtppcdmbpbbjecaaGreat
namespace Go.Proofs.YtppcdmbpbbjecaaGreat
open List renaming getElem_toArray → zA, getElem_cons_succ → zS, getElem_cons_zero → zZ, setIfInBounds_toArray → zP, set_cons_zero → zQ, set_cons_succ → zR
open Go.RowKit Rf Mem
attribute [local go_sem ↓] run_max2 run_min2
/-- a slice of sections reads; their kinds -/
def SecsAt (W : World) (v : Value) (kinds : List Int) : Prop :=
  ∃ A c, v = .slice A kinds.length c ∧ kinds.length ≤ c ∧ c ≤ maxLen ∧ (kinds.length = 0 ∨ ∃ b off, A = some ⟨b, off, none⟩ ∧ b < W.heap.size ∧ ∀ (k : Nat) (z : Int), kinds[k]? = some z → W.cell? ⟨b, off + k * 11, none⟩ = some (.int .u8 z))
theorem SecsAt.later {W W' : World} {v : Value} {kinds : List Int} (h : SecsAt W v kinds) (hb : Below W.heap.size W W') : SecsAt W' v kinds := by
  obtain ⟨A, c, rfl, h1, h2, h3⟩ := h
  refine ⟨A, c, rfl, h1, h2, h3.imp id ?_⟩
  rintro ⟨b, off, rfl, hlt, hc⟩
  exact ⟨b, off, rfl, Nat.lt_of_lt_of_le hlt hb.size, fun k z hk => (hb.cell (p := ⟨b, off + k * 11, none⟩) hlt).trans (hc k z hk)⟩
/-- where a point stands -/
def atV (kinds : List Int) (nor rev : BitVec 32) (stale : Bool) (p : Int) : Int :=
  if decide (p < 0) || (decide ((kinds.length : Int) ≤ p) || ((kinds.getD p.toNat 0 != 2) || stale)) then -1
  else if bitV nor p && !bitV rev p then 0 else if bitV rev p && !bitV nor p then 1 else -1
set_option maxHeartbeats 4000000 in
set_option maxRecDepth 100000 in
theorem At_c (L M : List Value) (kinds : List Int) (nsig : Nat) (clr st age n : Int) (A A1 : Option Addr) (c c1 : Nat) (free : List Int) (occ nor rev lam : BitVec 32) (w : World) (hL : LayF L kinds.length nsig clr st A c A1 c1) (hM : ImgF M age free occ nor rev lam) (hS : SecsAt w (.slice A kinds.length c) kinds) :
    Calls Tryz.prog 40 #[.agg L.toArray, .agg M.toArray, .int .i64 n] w fun e w' => e = .returned (.int .i64 (atV kinds nor rev (decide (st < age)) n)) ∧ Below w.heap.size w w' := by
  have T := Two.new w L M
  have x0 := T.cl hL.sec
  have szL := lay_size hL.len
  have szM := img_size hM.len
  unfold atV
  by_cases h1 : n < 0
  · have q1 : decide (n < 0) = true := decide_eq_true h1
    rw [q1, Bool.true_or, if_pos rfl]
    go_enter Tryz.func40, Tryz.ntmps40
    go_wp2
    go_ret
    exact ⟨rfl, T.below⟩
  have q1 : decide (n < 0) = false := decide_eq_false h1
  rw [q1, Bool.false_or]
  by_cases h2 : (kinds.length : Int) ≤ n
  · have q2 : decide ((kinds.length : Int) ≤ n) = true := decide_eq_true h2
    rw [q2, Bool.true_or, if_pos rfl]
    go_enter Tryz.func40, Tryz.ntmps40
    go_wp2
    go_ret
    exact ⟨rfl, T.below⟩
  have q2 : decide ((kinds.length : Int) ≤ n) = false := decide_eq_false h2
  rw [q2, Bool.false_or]
  obtain ⟨k, rfl⟩ := Int.eq_ofNat_of_zero_le (by omega : 0 ≤ n)
  have hkl : k < kinds.length := by omega
  obtain ⟨z, hz⟩ : ∃ z, kinds[k]? = some z := ⟨_, List.getElem?_eq_getElem hkl⟩
  have hgd : kinds.getD (k : Int).toNat 0 = z := by simp [List.getD, hz]
  rw [hgd]
  obtain ⟨A', c', hv, _, _, hcase⟩ := hS
  obtain ⟨rfl, _, rfl⟩ := Value.slice.inj hv
  obtain ⟨bs, os, rfl, hbs, hcs⟩ := hcase.resolve_left (by omega)
  have y0 := (T.below.cell (p := ⟨bs, os + k * 11, none⟩) hbs).trans (hcs k z hz)
  have i1 : (k : Int) < (kinds.length : Int) := by omega
  have q3 : decide (kinds.length ≤ k) = false := decide_eq_false (by omega)
  obtain ⟨s, hs⟩ : ∃ s, decide (st < age) = s := ⟨_, rfl⟩
  obtain ⟨p, hp⟩ : ∃ p, bitV nor k = p := ⟨_, rfl⟩
  obtain ⟨q, hq⟩ : ∃ q, bitV rev k = q := ⟨_, rfl⟩
  rw [hs, hp, hq]
  have HST := Lib.hid hs.symm
  have HP := Lib.hid hp.symm
  have HQ := Lib.hid hq.symm
  clear hv hcase hcs hgd hz h1 h2 hs hp hq hkl
  rcases hk2 : (z != 2) with _ | _
  · rw [Bool.false_or]
    obtain ⟨r, hr⟩ : ∃ r : Int, (if s then -1 else if p && !q then 0 else if q && !p then 1 else -1) = r := ⟨_, rfl⟩
    rw [hr]
    have HR := Lib.hid hr
    clear hr
    have RL := T.rl
    have RM := T.rm
    go_enter Tryz.func40, Tryz.ntmps40
    go_wp2_with (first
      | refine wpList_load_g (by rfl) 29 (.tmp 3) (by rfl) w.heap.size 0 (by rfl) L _ RL Tryz.underlying29 rfl szL ?_
      | refine wpList_load_g (by rfl) 35 (.tmp 4) (by rfl) (w.heap.size + 1) 0 (by rfl) M _ RM Tryz.underlying35 rfl szM ?_)
    generalize (w.alloc (.cells L.toArray 29)).alloc (.cells M.toArray 35) = W0 at *
    refine (Stale_g L M age st s _ HST.out hL.st hM.age).mono ?_
    rintro e W1 ⟨rfl, b1⟩
    replace T := T.later b1
    clear x0 y0 RL RM b1
    cases s
    · have TD := T.drew
      have hno := hM.nor
      have hre := hM.rev
      go_wp2_with fail
      refine wp_region_held_drew (S := (fun w' => w'.cell? ⟨w.heap.size + 1, 26, none⟩ = some (.int .u32 nor.toNat) ∧ w'.cell? ⟨w.heap.size + 1, 27, none⟩ = some (.int .u32 rev.toNat))) (by kernel_rfl) ?_ (fun hHeld => ?_)
      · exact ⟨TD.cm hno, TD.cm hre⟩
      refine Node.tk 0 ?_ rfl ?_ ?_
      rotate_left
      · intro w hSw; (try dsimp only at hSw); go_simp; try with_reducible rfl
      simp only [zA, zS, zZ, Act.put, zP, zQ, zR]
      refine Node.tk 1 ?_ rfl ?_ ?_
      rotate_left
      · intro w hSw; (try dsimp only at hSw); go_simp; try with_reducible rfl
      simp only [zA, zS, zZ, Act.put, zP, zQ, zR]
      refine Node.tk 2 ?_ rfl ?_ ?_
      rotate_left
      · intro w hSw; (try dsimp only at hSw); go_simp; try with_reducible rfl
      simp only [zA, zS, zZ, Act.put, zP, zQ, zR]
      refine Node.tk 4 ?_ rfl ?_ ?_
      rotate_left
      · intro w hSw; (try dsimp only at hSw); go_simp; try with_reducible rfl
      simp only [zA, zS, zZ, Act.put, zP, zQ, zR]
      refine Node.tk 6 ?_ rfl ?_ ?_
      rotate_left
      · intro w hSw; (try dsimp only at hSw); go_simp; try with_reducible rfl
      simp only [zA, zS, zZ, Act.put, zP, zQ, zR]
      refine Node.tk 7 ?_ rfl ?_ ?_
      rotate_left
      · intro w hSw; (try dsimp only at hSw); go_simp; try with_reducible rfl
      simp only [zA, zS, zZ, Act.put, zP, zQ, zR]
      refine Node.tk 8 ?_ rfl ?_ ?_
      rotate_left
      · intro w hSw; (try dsimp only at hSw); go_simp; try with_reducible rfl
      simp only [zA, zS, zZ, Act.put, zP, zQ, zR]
      refine Node.tk 10 ?_ rfl ?_ ?_
      rotate_left
      · intro w hSw; (try dsimp only at hSw); go_simp; try with_reducible rfl
      simp only [zA, zS, zZ, Act.put, zP, zQ, zR]
      refine Node.on 3 rfl (fun K hK => ?_)
      go_simp
      refine (bit_g nor _).mono ?_
      rintro e W2 ⟨b2, g2, rfl, hg2⟩
      refine hK.out _ _ ?_ (fun hHeld => ?_)
      · exact ⟨(TD.later b2).cm hno, (TD.later b2).cm hre⟩
      clear hK K
      replace TD := TD.later b2
      clear b2
      try simp only [zA, zS, zZ, Act.put, zP, zQ, zR]
      refine Node.on 5 rfl (fun K hK => ?_)
      go_simp
      refine (bit1_g g2 nor k p _ HP.out hg2).mono ?_
      rintro e W3 ⟨rfl, b3⟩
      refine hK.out _ _ ?_ (fun hHeld => ?_)
      · exact ⟨(TD.later b3).cm hno, (TD.later b3).cm hre⟩
      clear hK K
      replace TD := TD.later b3
      clear b3 hg2
      try simp only [zA, zS, zZ, Act.put, zP, zQ, zR]
      refine Node.on 9 rfl (fun K hK => ?_)
      go_simp
      refine (bit_g rev _).mono ?_
      rintro e W4 ⟨b4, g4, rfl, hg4⟩
      refine hK.out _ _ ?_ (fun hHeld => ?_)
      · exact ⟨(TD.later b4).cm hno, (TD.later b4).cm hre⟩
      clear hK K
      replace TD := TD.later b4
      clear b4
      try simp only [zA, zS, zZ, Act.put, zP, zQ, zR]
      refine Node.on 11 rfl (fun K hK => ?_)
      go_simp
      refine (bit1_g g4 rev k q _ HQ.out hg4).mono ?_
      rintro e W5 ⟨rfl, b5⟩
      refine hK.out _ _ ?_ (fun hHeld => ?_)
      · exact ⟨(TD.later b5).cm hno, (TD.later b5).cm hre⟩
      clear hK K
      replace TD := TD.later b5
      clear b5 hg4
      try simp only [zA, zS, zZ, Act.put, zP, zQ, zR]
      refine Node.tk 12 ?_ rfl ?_ ?_
      rotate_left
      · intro w hSw; (try dsimp only at hSw); go_simp; try with_reducible rfl
      simp only [zA, zS, zZ, Act.put, zP, zQ, zR]
      refine Node.tk 13 ?_ rfl ?_ ?_
      rotate_left
      · intro w hSw; (try dsimp only at hSw); go_simp; try with_reducible rfl
      simp only [zA, zS, zZ, Act.put, zP, zQ, zR]
      refine wpAnyH_done (by kernel_rfl) ?_ _
      cases p <;> cases q
      all_goals
        go_wp2
        go_ret
        exact ⟨by rw [← HR.out]; rfl, TD.below⟩
    · go_wp2
      go_ret
      exact ⟨by rw [← HR.out]; rfl, T.below⟩
  · rw [Bool.true_or, if_pos rfl]
    go_enter Tryz.func40, Tryz.ntmps40
    go_wp2
    go_ret
    exact ⟨rfl, T.below⟩
end Go.Proofs.YtppcdmbpbbjecaaGreat
