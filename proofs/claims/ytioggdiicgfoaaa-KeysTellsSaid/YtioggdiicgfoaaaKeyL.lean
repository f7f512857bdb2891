/- Keys: the contract of Take. Nothing that was there is turned. -/
import Derived.Test.YtioggdiicgfoaaaKeyK
namespace Go.Proofs.Ytioggdiicgfoaaa
open Go.RowKit Rf Mem KM Bits Bv
attribute [local go_sem ↓] run_max2 run_min2
def zBtn : Btn := ⟨0#32, 0#32, 0#32, false, false, List.replicate 24 0#8⟩
theorem zBtn_v : (btnV zBtn).toArray = zB := rfl
theorem zBtn_len : zBtn.keys.length = 24 := rfl
/-- what Take tells -/
def TakeR (pl : List (BitVec 8)) (ns ne nc : Nat) (r : Btn) (err : Int) : Prop :=
  (pl.length ≠ sizeK ns ne nc ∧ r = zBtn ∧ err = 41) ∨ (pl.length = sizeK ns ne nc ∧ ((Holds pl (payBits (rdB (bitsOf pl) ns ne nc) ns ne nc) ∧ r = rdB (bitsOf pl) ns ne nc ∧ err = 0) ∨ (¬ Holds pl (payBits (rdB (bitsOf pl) ns ne nc) ns ne nc) ∧ r = zBtn ∧ err = 41)))
theorem res_mid2 {T : TypeId} {d : TypeDesc} (hu : Try.prog.underlying T = some d) (hd : d.isRow = true) {fn : Func} {t u : Tmp} (hf : fn.results = #[.cell t T, .tmp u]) {tmps : Array Value} {W : World} {g : Nat} {M : List Value} {ty : TypeId} {f : Nat × Nat} (hi : (Try.prog.info? T).map (·.size) = some M.length)
    (hs : tmps.getD t undef = .pointer (some ⟨g, 0, none⟩)) (hg : W.heap[g]? = some (.cells M.toArray ty f)) : (results fn tmps).run Try.prog W = .ok (.tuple #[.agg M.toArray, tmps.getD u undef]) W := by
  have hs' : tmps[t]?.getD undef = .pointer (some ⟨g, 0, none⟩) := by simpa using hs
  have h := run_loadVar_mid (P := Try.prog) W g 0 T M _ (range_of hg) hu hd hi
  simp [results, hf, hs', asAddr, h]
theorem self_set {W : World} {g : Nat} {M : List Value} {t : TypeId} (h : W.heap[g]? = some (.cells M.toArray t (0, 0))) : (W.setCells g 0 M.toArray.toList).heap[g]? = some (.cells M.toArray t (0, 0)) := by
  rw [setCells_at _ _ h, setL_all (by simp)]
theorem btn_set0 (q : Btn) (z : BitVec 32) : (btnV q).toArray.setIfInBounds 0 (.int .u32 z.toNat) = (btnV { q with ent := z }).toArray := by simp [btnV]
theorem btn_set1 (q : Btn) (z : BitVec 32) : (btnV q).toArray.setIfInBounds 1 (.int .u32 z.toNat) = (btnV { q with exi := z }).toArray := by simp [btnV]
theorem btn_set2 (q : Btn) (z : BitVec 32) : (btnV q).toArray.setIfInBounds 2 (.int .u32 z.toNat) = (btnV { q with via := z }).toArray := by simp [btnV]
theorem btn_set3 (q : Btn) (z : Bool) : (btnV q).toArray.setIfInBounds 3 (.bool z) = (btnV { q with can := z }).toArray := by simp [btnV]
theorem btn_set4 (q : Btn) (z : Bool) : (btnV q).toArray.setIfInBounds 4 (.bool z) = (btnV { q with aut := z }).toArray := by simp [btnV]
theorem btn_setk (q : Btn) (k : Nat) (x : BitVec 8) : (btnV q).toArray.setIfInBounds (5 + k) (.int .u8 x.toNat) = (btnV { q with keys := q.keys.set k x }).toArray := by
  apply Array.ext'
  rw [Array.toList_setIfInBounds]
  simp only [List.toList_toArray, btnV]
  rw [List.set_append_right _ _ (by simp), List.map_set]
  simp
/-- the buttons that bits tell, the first j keys alone -/
def rdK (l : List Bool) (ns ne nc j : Nat) : Btn :=
  ⟨wordL l ns, wordL (l.drop ns) ne, wordL (l.drop (ns + ne)) nc, l.getD (ns + ne + nc) false, l.getD (ns + ne + nc + 1) false, (List.range 24).map fun i => if i < j then keyAt l (ns + ne + nc + 2 + 2 * i) else 0#8⟩
theorem rdK_done (l : List Bool) (ns ne nc : Nat) : rdK l ns ne nc nc = rdB l ns ne nc := rfl
theorem rdK_len (l : List Bool) (ns ne nc j : Nat) : (rdK l ns ne nc j).keys.length = 24 := by simp [rdK]
theorem rdK_zero (l : List Bool) (ns ne nc : Nat) : rdK l ns ne nc 0 = ⟨wordL l ns, wordL (l.drop ns) ne, wordL (l.drop (ns + ne)) nc, l.getD (ns + ne + nc) false, l.getD (ns + ne + nc + 1) false, List.replicate 24 0#8⟩ := rfl
theorem rdK_succ (l : List Bool) (ns ne nc j : Nat) (hj : j < 24) : { rdK l ns ne nc j with keys := (rdK l ns ne nc j).keys.set j (keyAt l (ns + ne + nc + 2 + 2 * j)) } = rdK l ns ne nc (j + 1) := by
  unfold rdK
  simp only [Btn.mk.injEq, true_and]
  apply List.ext_getElem?
  intro i
  rw [List.getElem?_set]
  by_cases hi : i < 24
  · by_cases e : j = i
    · subst e; simp [hi]
    · simp only [if_neg e, List.getElem?_map, List.getElem?_range hi, Option.map_some]
      congr 1
      by_cases h1 : i < j
      · rw [if_pos h1, if_pos (by omega)]
      · rw [if_neg h1, if_neg (by omega)]
  · simp [hi]
    intro h; omega
theorem row2_c (w : World) (g : Nat) (L : List Value) (v : Value) (pl : List (BitVec 8)) (l : List Bool) (ns ne nc : Nat) (q : Btn) (k n : Nat) (n' : Int) (z : BitVec 32) (k' : Nat) (W : World) (hn' : n' = ((n : Nat) : Int)) (hz : wordL (l.drop k) n = z) (hk' : k + n = k') (h : TkI w g L v pl l ns ne nc q k W) (hH : Holds pl l) (hl : l.length ≤ 1000000) (hw : n ≤ 32) (hk : k + n ≤ l.length) :
    Calls Try.prog 22 #[.int .i64 n', .pointer (some ⟨g + 1 + 1 + 1, 0, none⟩)] W fun e W' => e = .returned (.int .u32 z.toNat) ∧ TkI w g L v pl l ns ne nc q k' W' := by
  subst hz hk'
  exact row1_c w g L v pl l ns ne nc q k n n' W hn' h hH hl hw hk
theorem wpList_build0 {w : World} {ops : Array Oper} {rest : List Oper} {o : Oper} {a : Act} {Q : Exit → Act → World → Prop} (hgd : o.guard = none) (T : TypeId) (ho : o.op = .build T #[]) (cs : Value)
    (hr : (Instr.build T #[]).run Try.prog w = .ok cs w) (h : wpList Try.prog ops Q rest (a.put o.dst cs) w) : wpList Try.prog ops Q (o :: rest) a w := by
  refine wpList_plain hgd fun K hK => ?_
  unfold Oper.wp execOp
  simp [ho, hr]
  exact hK _ _ h
theorem build_zero (w : World) : (Instr.build 33 #[]).run Try.prog w = .ok (.agg (btnV zBtn).toArray) w := run_build w _ _ _ (by kernel_rfl)
theorem store_one {P : Program} {W : World} {g : Nat} {y v : Value} {t : TypeId} (h : W.heap[g]? = some (.cells #[y] t (0, 0))) (h1 : v.oneCell' = true) : (store ⟨g, 0, none⟩ v).run P W = .ok () (W.setCell ⟨g, 0, none⟩ v) := by
  rw [run_store P W _ v _ h1]
  have c := cell_at h 0
  have f := free_at h 0
  simp at c
  simp [c, f]
set_option maxHeartbeats 4000000 in
set_option maxRecDepth 100000 in
theorem Take_c (L : List Value) (nsec : Nat) (lens : List Nat) (nsig nfl : Nat) (A : Option Addr) (c : Nat) (B1 : Option Addr) (c1 : Nat) (B3 : Option Addr) (c3 : Nat) (ve : Value) (ns ne nc : Nat) (u : Value) (pl : List (BitVec 8)) (w : World) (hns : min nsig 12 = ns) (hne : min lens.length 12 = ne) (hnc : min nsec 24 = nc)
    (hL : LayN w L nsec lens nsig nfl A c B1 c1 B3 c3 ve) (hs : SliceAt w 1 u pl.length (u8s pl)) :
    Calls Try.prog 6 #[.agg L.toArray, u] w fun e w' => Below w.heap.size w w' ∧ ∃ r err, e = .returned (.tuple #[.agg (btnV r).toArray, .int .i64 err]) ∧ TakeR pl ns ne nc r err ∧ r.keys.length = 24 := by
  have szL := lay_size hL.len
  obtain ⟨W0, hW0⟩ : ∃ W0, (w.alloc (.cells L.toArray 29)).alloc (.cells zB 33) = W0 := ⟨_, rfl⟩
  have B0 : Below w.heap.size w W0 := by rw [← hW0]; exact below_step (kbelow_new _ _) (kbelow_new _ _)
  have VL : W0.heap[w.heap.size]? = some (.cells L.toArray 29 (0, 0)) := by rw [← hW0]; exact old_at (new_at rfl _) _
  have VB : W0.heap[w.heap.size + 1]? = some (.cells (btnV zBtn).toArray 33 (0, 0)) := by rw [← hW0, zBtn_v]; exact new_at (by simp) _
  have l1 : ns ≤ 12 := by omega
  have l2 : ne ≤ 12 := by omega
  have l3 : nc ≤ 24 := by omega
  have hL0 := hL.later B0
  have HNS := Lib.hid hns
  have HNE := Lib.hid hne
  have HNC := Lib.hid hnc
  have hs0 := hs.later B0
  obtain ⟨sz, hsz⟩ : ∃ sz : Int, sz = ((sizeK ns ne nc : Nat) : Int) := ⟨_, rfl⟩
  obtain ⟨Au, cu, rfl, _, _⟩ := hs.form
  obtain ⟨n, hn⟩ : ∃ n : Nat, n = pl.length := ⟨_, rfl⟩
  rw [← hn] at hs hs0 ⊢
  have hne0 : ((n : Int) != sz) = !decide (pl.length = sizeK ns ne nc) := by
    rw [hn, hsz, bne, Bool.eq_iff_iff]
    simp
    omega
  have HSZ := Lib.hid hsz
  have HN := Lib.hid hn
  have HL0 := Lib.hid hL0
  have HS0 := Lib.hid hs0
  have HLw := Lib.hid hL
  have HSw := Lib.hid hs
  clear hns hne hnc hL hL0 hsz hn hs hs0
  have RL := range_of VL
  by_cases hsize : pl.length = sizeK ns ne nc
  · rw [decide_eq_true hsize] at hne0
    have HSIZE := Lib.hid hsize
    clear hsize
    go_enter Try.func6, Try.ntmps6
    go_upto_region 1 with (fail)
    clear hW0
    go_wp2_with (first
      | refine wpList_load_g (by rfl) 29 (.tmp 2) (by rfl) w.heap.size 0 (by rfl) L _ RL Try.underlying29 rfl szL ?_
      | fail)
    refine (Size_c L nsec lens nsig nfl A c B1 c1 B3 c3 ve ns ne nc sz _ HNS.out HNE.out HNC.out HSZ.out HL0.out).mono ?_
    rintro e W1 ⟨rfl, b1⟩
    replace VL := var_later VL b1
    replace VB := var_later VB b1
    have BB1 := below_step B0 b1
    clear RL
    have RL := range_of VL
    go_wp2_with (first
      | refine wpList_load_g (by rfl) 29 (.tmp 2) (by rfl) w.heap.size 0 (by rfl) L _ RL Try.underlying29 rfl szL ?_
      | fail)
    refine (of_c L nsec lens nsig nfl A c B1 c1 B3 c3 ve ns ne nc _ HNS.out HNE.out HNC.out (HL0.out.later b1)).mono ?_
    rintro e W2 ⟨rfl, b2⟩
    replace VL := var_later VL b2
    replace VB := var_later VB b2
    replace BB1 := below_step BB1 b2
    clear RL
    have HS2 := Lib.hid ((HS0.out.later b1).later b2)
    clear b1 b2
    go_wp2_with fail
    refine (Of_c (.slice Au n cu) pl _ (by have := HS2.out; rwa [HN.out] at this ⊢) (by rw [HSIZE.out]; unfold sizeK; omega)).mono ?_
    rintro e W3 ⟨v3, rfl, o3, b3⟩
    have HB2 := Lib.hid (Array.getElem?_eq_some_iff.1 VB).1
    replace VL := var_later VL b3
    replace VB := var_later VB b3
    replace BB1 := below_step BB1 b3
    have HS3 := Lib.hid (HS2.out.later b3)
    have s2 := (Array.getElem?_eq_some_iff.1 VB).1
    have s3 : w.heap.size + 1 < W2.heap.size := HB2.out
    have hlow : ∀ j, v3.ownBlock = some j → j < W3.heap.size := fun j hj => (own_base o3 hj).2
    obtain ⟨A3, k3, rfl, _, _⟩ := (sliceAt_of_own o3).form
    rw [show (pl.length : Int) * 8 = (((bitsOf pl).length : Nat) : Int) from by rw [bitsOf_length]; omega]
    clear b3 HS2
    go_upto_region 4 with (fail)
    have VC := old_at (old_at (new_at (w := W3) rfl (.cells #[.int .i64 ns, .int .i64 ne, .int .i64 nc] 59)) (.cells #[.slice A3 pl.length k3, .int .i64 (((bitsOf pl).length : Nat) : Int)] 62)) (.cells #[.int .i64 0] 3)
    have VX : (((W3.alloc (.cells #[.int .i64 ns, .int .i64 ne, .int .i64 nc] 59)).alloc (.cells #[.slice A3 pl.length k3, .int .i64 (((bitsOf pl).length : Nat) : Int)] 62)).alloc (.cells #[.int .i64 0] 3)).heap[W3.heap.size + 1]? = some (.cells #[.slice A3 pl.length k3, .int .i64 (((bitsOf pl).length : Nat) : Int)] 62 (0, 0)) := old_at (new_at (by simp) _) _
    have VA : (((W3.alloc (.cells #[.int .i64 ns, .int .i64 ne, .int .i64 nc] 59)).alloc (.cells #[.slice A3 pl.length k3, .int .i64 (((bitsOf pl).length : Nat) : Int)] 62)).alloc (.cells #[.int .i64 0] 3)).heap[W3.heap.size + 1 + 1]? = some (.cells #[.int .i64 0] 3 (0, 0)) := new_at (by simp) _
    have sV : (((W3.alloc (.cells #[.int .i64 ns, .int .i64 ne, .int .i64 nc] 59)).alloc (.cells #[.slice A3 pl.length k3, .int .i64 (((bitsOf pl).length : Nat) : Int)] 62)).alloc (.cells #[.int .i64 0] 3)).heap.size = W3.heap.size + 1 + 1 + 1 := by simp
    have b4 : Below W3.heap.size W3 (((W3.alloc (.cells #[.int .i64 ns, .int .i64 ne, .int .i64 nc] 59)).alloc (.cells #[.slice A3 pl.length k3, .int .i64 (((bitsOf pl).length : Nat) : Int)] 62)).alloc (.cells #[.int .i64 0] 3)) := below_step (below_step (kbelow_new _ _) (kbelow_new _ _)) (kbelow_new _ _)
    generalize ((W3.alloc (.cells #[.int .i64 ns, .int .i64 ne, .int .i64 nc] 59)).alloc (.cells #[.slice A3 pl.length k3, .int .i64 (((bitsOf pl).length : Nat) : Int)] 62)).alloc (.cells #[.int .i64 0] 3) = V at *
    replace BB1 := below_step BB1 b4
    replace VL := var_later VL b4
    replace VB := var_later VB b4
    replace o3 := own_bel o3 b4
    have HS4 := Lib.hid (HS3.out.later b4)
    clear b4 HS3
    generalize W3.heap.size = g at *
    have hst := store_one (P := Try.prog) (new_at sV (.cells #[.nilFunc] 66)) (v := .func (.func 20) #[] #[.pointer (some ⟨g + 1, 0, none⟩), .pointer (some ⟨g + 1 + 1, 0, none⟩)]) rfl
    have T0 : TkI w g L (.slice A3 pl.length k3) pl (bitsOf pl) ns ne nc zBtn 0 (V.alloc (.cells #[.func (.func 20) #[] #[.pointer (some ⟨g + 1, 0, none⟩), .pointer (some ⟨g + 1 + 1, 0, none⟩)]] 66)) :=
      ⟨below_step BB1 (kbelow_new _ _), old_at VL _, old_at VB _, old_at VC _, old_at VX _, old_at VA _, new_at sV _, own_mono (own_bel o3 (kbelow_new _ _)) s3, hlow, s2⟩
    have HT0 := Lib.hid T0
    clear T0 VL VB VC VX VA BB1 o3
    go_upto_region 6 with (fail)
    clear hst
    have T0 := HT0.out
    clear HT0
    generalize V.alloc (.cells #[.func (.func 20) #[] #[.pointer (some ⟨g + 1, 0, none⟩), .pointer (some ⟨g + 1 + 1, 0, none⟩)]] 66) = V at *
    have HLN : Hid ((bitsOf pl).length ≤ 1000000 ∧ ns + ne + 3 * nc + 2 ≤ (bitsOf pl).length) := Lib.hid (by rw [bitsOf_length, HSIZE.out]; unfold sizeK; omega)
    have HHP : Hid (Holds pl (bitsOf pl)) := Lib.hid ⟨by rw [bitsOf_length]; omega, 0, by simp⟩
    obtain ⟨l, hl⟩ : ∃ l, l = bitsOf pl := ⟨_, rfl⟩
    rw [← hl] at T0 HLN HHP
    have HLL := Lib.hid hl
    have HL1 := Lib.hid l1
    have HL2 := Lib.hid l2
    have HL3 := Lib.hid l3
    clear hl l1 l2 l3
    refine wp_region_held_drew (S := (fun w' => w'.cell? ⟨g, 0, none⟩ = some (.int .i64 ns) ∧ w'.cell? ⟨g, 1, none⟩ = some (.int .i64 ne) ∧ w'.cell? ⟨g, 2, none⟩ = some (.int .i64 nc))) (by kernel_rfl) ?_ (fun hHeld => ?_)
    · exact cnt_at T0.c
    replace T0 := T0.later (Below.refl _ _).drew
    generalize V.drew = V at *
    refine wpAnyH_take (i := 0) (v := ?_) rfl (by kernel_rfl) (by kernel_rfl) (by kernel_rfl) (fun _ _ _ h => h) (Or.inl ⟨by rfl, ?_⟩) (by assumption) ?_
    rotate_left
    · intro w hSw
      try dsimp only at hSw
      go_simp
      try with_reducible rfl
    simp only [List.getElem_toArray, List.getElem_cons_succ, List.getElem_cons_zero, Act.put, List.setIfInBounds_toArray, List.set_cons_zero, List.set_cons_succ]
    refine wpAnyH_take (i := 1) (v := ?_) rfl (by kernel_rfl) (by kernel_rfl) (by kernel_rfl) (fun _ _ _ h => h) (Or.inl ⟨by rfl, ?_⟩) (by assumption) ?_
    rotate_left
    · intro w hSw
      try dsimp only at hSw
      go_simp
      try with_reducible rfl
    simp only [List.getElem_toArray, List.getElem_cons_succ, List.getElem_cons_zero, Act.put, List.setIfInBounds_toArray, List.set_cons_zero, List.set_cons_succ]
    refine wpAnyH_take (i := 2) (v := ?_) rfl (by kernel_rfl) (by kernel_rfl) (by kernel_rfl) (fun _ _ _ h => h) (Or.inl ⟨by rfl, ?_⟩) (by assumption) ?_
    rotate_left
    · intro w hSw
      try dsimp only at hSw
      go_simp
      try with_reducible rfl
    simp only [List.getElem_toArray, List.getElem_cons_succ, List.getElem_cons_zero, Act.put, List.setIfInBounds_toArray, List.set_cons_zero, List.set_cons_succ]
    refine wpAnyH_take (i := 4) (v := ?_) rfl (by kernel_rfl) (by kernel_rfl) (by kernel_rfl) (fun _ _ _ h => h) (Or.inl ⟨by rfl, ?_⟩) (by assumption) ?_
    rotate_left
    · intro w hSw
      try dsimp only at hSw
      go_simp
      try with_reducible rfl
    simp only [List.getElem_toArray, List.getElem_cons_succ, List.getElem_cons_zero, Act.put, List.setIfInBounds_toArray, List.set_cons_zero, List.set_cons_succ]
    refine wpAnyH_take (i := 5) (v := ?_) rfl (by kernel_rfl) (by kernel_rfl) (by kernel_rfl) (fun _ _ _ h => h) (Or.inl ⟨by rfl, ?_⟩) (by assumption) ?_
    rotate_left
    · intro w hSw
      try dsimp only at hSw
      go_simp
      try with_reducible rfl
    simp only [List.getElem_toArray, List.getElem_cons_succ, List.getElem_cons_zero, Act.put, List.setIfInBounds_toArray, List.set_cons_zero, List.set_cons_succ]
    refine wpAnyH_take (i := 6) (v := ?_) rfl (by kernel_rfl) (by kernel_rfl) (by kernel_rfl) (fun _ _ _ h => h) (Or.inl ⟨by rfl, ?_⟩) (by assumption) ?_
    rotate_left
    · intro w hSw
      try dsimp only at hSw
      go_simp
      try with_reducible rfl
    simp only [List.getElem_toArray, List.getElem_cons_succ, List.getElem_cons_zero, Act.put, List.setIfInBounds_toArray, List.set_cons_zero, List.set_cons_succ]
    refine wpAnyH_take (i := 8) (v := ?_) rfl (by kernel_rfl) (by kernel_rfl) (by kernel_rfl) (fun _ _ _ h => h) (Or.inl ⟨by rfl, ?_⟩) (by assumption) ?_
    rotate_left
    · intro w hSw
      try dsimp only at hSw
      go_simp
      try with_reducible rfl
    simp only [List.getElem_toArray, List.getElem_cons_succ, List.getElem_cons_zero, Act.put, List.setIfInBounds_toArray, List.set_cons_zero, List.set_cons_succ]
    refine wpAnyH_take (i := 9) (v := ?_) rfl (by kernel_rfl) (by kernel_rfl) (by kernel_rfl) (fun _ _ _ h => h) (Or.inl ⟨by rfl, ?_⟩) (by assumption) ?_
    rotate_left
    · intro w hSw
      try dsimp only at hSw
      go_simp
      try with_reducible rfl
    simp only [List.getElem_toArray, List.getElem_cons_succ, List.getElem_cons_zero, Act.put, List.setIfInBounds_toArray, List.set_cons_zero, List.set_cons_succ]
    refine wpAnyH_take (i := 10) (v := ?_) rfl (by kernel_rfl) (by kernel_rfl) (by kernel_rfl) (fun _ _ _ h => h) (Or.inl ⟨by rfl, ?_⟩) (by assumption) ?_
    rotate_left
    · intro w hSw
      try dsimp only at hSw
      go_simp
      try with_reducible rfl
    simp only [List.getElem_toArray, List.getElem_cons_succ, List.getElem_cons_zero, Act.put, List.setIfInBounds_toArray, List.set_cons_zero, List.set_cons_succ]
    clear hHeld
    refine wpAnyH_ready (rs := [3]) (by kernel_rfl) (by simp) ?_
    refine AllReadyH.cons rfl (fun K hK => ?_) AllReadyH.nil
    go_simp
    refine (row2_c w g L _ pl l ns ne nc _ 0 ns ns (wordL l ns) ns _ rfl rfl (by omega) T0 HHP.out HLN.out.1 (by have := HL1.out; omega) (by have := HLN.out.2; omega)).mono ?_
    rintro e V ⟨rfl, T0⟩
    refine hK.out _ _ (cnt_at T0.c) (fun _ => ?_)
    clear hK K
    try simp only [List.getElem_toArray, List.getElem_cons_succ, List.getElem_cons_zero, Act.put, List.setIfInBounds_toArray, List.set_cons_zero, List.set_cons_succ]
    have hHeld := cnt_at T0.c
    refine wpAnyH_take (i := 12) (v := ?_) rfl (by kernel_rfl) (by kernel_rfl) (by kernel_rfl) (fun _ _ _ h => h) (Or.inl ⟨by rfl, ?_⟩) (by assumption) ?_
    rotate_left
    · intro w hSw
      try dsimp only at hSw
      go_simp
      try with_reducible rfl
    simp only [List.getElem_toArray, List.getElem_cons_succ, List.getElem_cons_zero, Act.put, List.setIfInBounds_toArray, List.set_cons_zero, List.set_cons_succ]
    clear hHeld
    refine wpAnyH_ready (rs := [7]) (by kernel_rfl) (by simp) ?_
    refine AllReadyH.cons rfl (fun K hK => ?_) AllReadyH.nil
    go_simp
    refine (row2_c w g L _ pl l ns ne nc _ ns ne ne (wordL (l.drop ns) ne) (ns + ne) _ rfl rfl rfl T0 HHP.out HLN.out.1 (by have := HL2.out; omega) (by have := HLN.out.2; omega)).mono ?_
    rintro e V ⟨rfl, T0⟩
    refine hK.out _ _ (cnt_at T0.c) (fun _ => ?_)
    clear hK K
    try simp only [List.getElem_toArray, List.getElem_cons_succ, List.getElem_cons_zero, Act.put, List.setIfInBounds_toArray, List.set_cons_zero, List.set_cons_succ]
    refine wpAnyH_ready (rs := [11]) (by kernel_rfl) (by simp) ?_
    refine AllReadyH.cons rfl (fun K hK => ?_) AllReadyH.nil
    go_simp
    refine (row2_c w g L _ pl l ns ne nc _ (ns + ne) nc nc (wordL (l.drop (ns + ne)) nc) (ns + ne + nc) _ rfl rfl rfl T0 HHP.out HLN.out.1 (by have := HL3.out; omega) (by have := HLN.out.2; omega)).mono ?_
    rintro e V ⟨rfl, T0⟩
    refine hK.out _ _ (cnt_at T0.c) (fun _ => ?_)
    clear hK K
    try simp only [List.getElem_toArray, List.getElem_cons_succ, List.getElem_cons_zero, Act.put, List.setIfInBounds_toArray, List.set_cons_zero, List.set_cons_succ]
    refine wpAnyH_ready (rs := [13]) (by kernel_rfl) (by simp) ?_
    refine AllReadyH.cons rfl (fun K hK => ?_) AllReadyH.nil
    have x0 := cell_list T0.bb (i := 0) rfl
    have f0 := free_at T0.bb 0
    go_simp
    replace T0 := T0.setB (btn_set0 _ (wordL l ns))
    clear x0 f0
    generalize V.setCell _ _ = V at *
    refine hK.out _ _ (cnt_at T0.c) (fun _ => ?_)
    clear hK K
    try simp only [List.getElem_toArray, List.getElem_cons_succ, List.getElem_cons_zero, Act.put, List.setIfInBounds_toArray, List.set_cons_zero, List.set_cons_succ]
    have hHeld := cnt_at T0.c
    refine wpAnyH_take (i := 14) (v := ?_) rfl (by kernel_rfl) (by kernel_rfl) (by kernel_rfl) (fun _ _ _ h => h) (Or.inl ⟨by rfl, ?_⟩) (by assumption) ?_
    rotate_left
    · intro w hSw
      try dsimp only at hSw
      go_simp
      try with_reducible rfl
    simp only [List.getElem_toArray, List.getElem_cons_succ, List.getElem_cons_zero, Act.put, List.setIfInBounds_toArray, List.set_cons_zero, List.set_cons_succ]
    clear hHeld
    refine wpAnyH_ready (rs := [15]) (by kernel_rfl) (by simp) ?_
    refine AllReadyH.cons rfl (fun K hK => ?_) AllReadyH.nil
    have x0 := cell_list T0.bb (i := 1) rfl
    have f0 := free_at T0.bb 1
    go_simp
    replace T0 := T0.setB (btn_set1 _ (wordL (l.drop ns) ne))
    clear x0 f0
    generalize V.setCell _ _ = V at *
    refine hK.out _ _ (cnt_at T0.c) (fun _ => ?_)
    clear hK K
    try simp only [List.getElem_toArray, List.getElem_cons_succ, List.getElem_cons_zero, Act.put, List.setIfInBounds_toArray, List.set_cons_zero, List.set_cons_succ]
    have hHeld := cnt_at T0.c
    refine wpAnyH_take (i := 16) (v := ?_) rfl (by kernel_rfl) (by kernel_rfl) (by kernel_rfl) (fun _ _ _ h => h) (Or.inl ⟨by rfl, ?_⟩) (by assumption) ?_
    rotate_left
    · intro w hSw
      try dsimp only at hSw
      go_simp
      try with_reducible rfl
    simp only [List.getElem_toArray, List.getElem_cons_succ, List.getElem_cons_zero, Act.put, List.setIfInBounds_toArray, List.set_cons_zero, List.set_cons_succ]
    clear hHeld
    refine wpAnyH_ready (rs := [17]) (by kernel_rfl) (by simp) ?_
    refine AllReadyH.cons rfl (fun K hK => ?_) AllReadyH.nil
    have x0 := cell_list T0.bb (i := 2) rfl
    have f0 := free_at T0.bb 2
    go_simp
    replace T0 := T0.setB (btn_set2 _ (wordL (l.drop (ns + ne)) nc))
    clear x0 f0
    generalize V.setCell _ _ = V at *
    refine hK.out _ _ (cnt_at T0.c) (fun _ => ?_)
    clear hK K
    try simp only [List.getElem_toArray, List.getElem_cons_succ, List.getElem_cons_zero, Act.put, List.setIfInBounds_toArray, List.set_cons_zero, List.set_cons_succ]
    refine wpAnyH_done (by kernel_rfl) ?_ _
    go_upto_region 7 with (fail)
    refine wp_region_held_drew (S := (fun w' => w'.cell? ⟨g + 1 + 1 + 1, 0, none⟩ = some (.func (.func 20) #[] #[.pointer (some ⟨g + 1, 0, none⟩), .pointer (some ⟨g + 1 + 1, 0, none⟩)]))) (by kernel_rfl) ?_ (fun hHeld => ?_)
    · exact cell_list (cs := [_]) T0.nx rfl
    replace T0 := T0.later (Below.refl _ _).drew
    generalize V.drew = V at *
    refine wpAnyH_take (i := 0) (v := ?_) rfl (by kernel_rfl) (by kernel_rfl) (by kernel_rfl) (fun _ _ _ h => h) (Or.inl ⟨by rfl, ?_⟩) (by assumption) ?_
    rotate_left
    · intro w hSw
      try dsimp only at hSw
      go_simp
      try with_reducible rfl
    simp only [List.getElem_toArray, List.getElem_cons_succ, List.getElem_cons_zero, Act.put, List.setIfInBounds_toArray, List.set_cons_zero, List.set_cons_succ]
    refine wpAnyH_take (i := 3) (v := ?_) rfl (by kernel_rfl) (by kernel_rfl) (by kernel_rfl) (fun _ _ _ h => h) (Or.inl ⟨by rfl, ?_⟩) (by assumption) ?_
    rotate_left
    · intro w hSw
      try dsimp only at hSw
      go_simp
      try with_reducible rfl
    simp only [List.getElem_toArray, List.getElem_cons_succ, List.getElem_cons_zero, Act.put, List.setIfInBounds_toArray, List.set_cons_zero, List.set_cons_succ]
    clear hHeld
    obtain ⟨r1, hr1⟩ : ∃ r1 : Int, r1 = ((num ((l.drop (ns + ne + nc)).take 1) : Nat) : Int) := ⟨_, rfl⟩
    obtain ⟨r2, hr2⟩ : ∃ r2 : Int, r2 = ((num ((l.drop (ns + ne + nc + 1)).take 1) : Nat) : Int) := ⟨_, rfl⟩
    obtain ⟨d1, hd1⟩ : ∃ d1 : Bool, d1 = l.getD (ns + ne + nc) false := ⟨_, rfl⟩
    obtain ⟨d2, hd2⟩ : ∃ d2 : Bool, d2 = l.getD (ns + ne + nc + 1) false := ⟨_, rfl⟩
    have q1 : decide (0 < r1) = d1 := by rw [hr1, num_bit l _ (by have := HLN.out.2; omega), hd1]; cases l.getD (ns + ne + nc) false <;> simp
    have q2 : decide (0 < r2) = d2 := by rw [hr2, num_bit l _ (by have := HLN.out.2; omega), hd2]; cases l.getD (ns + ne + nc + 1) false <;> simp
    have HR1 := Lib.hid hr1
    have HR2 := Lib.hid hr2
    have HD1 := Lib.hid hd1
    have HD2 := Lib.hid hd2
    clear hr1 hr2 hd1 hd2
    refine wpAnyH_ready (rs := [1]) (by kernel_rfl) (by simp) ?_
    refine AllReadyH.cons rfl (fun K hK => ?_) AllReadyH.nil
    go_simp
    refine (next_c w g L _ pl l ns ne nc _ (ns + ne + nc) 1 1 r1 _ rfl HR1.out T0 HHP.out HLN.out.1 (by omega) (by have := HLN.out.2; omega)).mono ?_
    rintro e V ⟨rfl, T0⟩
    refine hK.out _ _ (cell_list (cs := [_]) T0.nx rfl) (fun _ => ?_)
    clear hK K
    try simp only [List.getElem_toArray, List.getElem_cons_succ, List.getElem_cons_zero, Act.put, List.setIfInBounds_toArray, List.set_cons_zero, List.set_cons_succ]
    have hHeld := cell_list (cs := [_]) T0.nx (i := 0) rfl
    refine wpAnyH_take (i := 2) (v := ?_) rfl (by kernel_rfl) (by kernel_rfl) (by kernel_rfl) (fun _ _ _ h => h) (Or.inl ⟨by rfl, ?_⟩) (by assumption) ?_
    rotate_left
    · intro w hSw
      try dsimp only at hSw
      go_simp
      try with_reducible rfl
    simp only [List.getElem_toArray, List.getElem_cons_succ, List.getElem_cons_zero, Act.put, List.setIfInBounds_toArray, List.set_cons_zero, List.set_cons_succ]
    refine wpAnyH_take (i := 6) (v := ?_) rfl (by kernel_rfl) (by kernel_rfl) (by kernel_rfl) (fun _ _ _ h => h) (Or.inl ⟨by rfl, ?_⟩) (by assumption) ?_
    rotate_left
    · intro w hSw
      try dsimp only at hSw
      go_simp
      try with_reducible rfl
    simp only [List.getElem_toArray, List.getElem_cons_succ, List.getElem_cons_zero, Act.put, List.setIfInBounds_toArray, List.set_cons_zero, List.set_cons_succ]
    clear hHeld
    refine wpAnyH_ready (rs := [4]) (by kernel_rfl) (by simp) ?_
    refine AllReadyH.cons rfl (fun K hK => ?_) AllReadyH.nil
    go_simp
    refine (next_c w g L _ pl l ns ne nc _ (ns + ne + nc + 1) 1 1 r2 _ rfl HR2.out T0 HHP.out HLN.out.1 (by omega) (by have := HLN.out.2; omega)).mono ?_
    rintro e V ⟨rfl, T0⟩
    refine hK.out _ _ (cell_list (cs := [_]) T0.nx rfl) (fun _ => ?_)
    clear hK K
    try simp only [List.getElem_toArray, List.getElem_cons_succ, List.getElem_cons_zero, Act.put, List.setIfInBounds_toArray, List.set_cons_zero, List.set_cons_succ]
    have hHeld := cell_list (cs := [_]) T0.nx (i := 0) rfl
    refine wpAnyH_take (i := 5) (v := ?_) rfl (by kernel_rfl) (by kernel_rfl) (by kernel_rfl) (fun _ _ _ h => h) (Or.inl ⟨by rfl, ?_⟩) (by assumption) ?_
    rotate_left
    · intro w hSw
      try dsimp only at hSw
      go_simp
      try with_reducible rfl
    simp only [List.getElem_toArray, List.getElem_cons_succ, List.getElem_cons_zero, Act.put, List.setIfInBounds_toArray, List.set_cons_zero, List.set_cons_succ]
    clear hHeld
    refine wpAnyH_ready (rs := [7]) (by kernel_rfl) (by simp) ?_
    refine AllReadyH.cons rfl (fun K hK => ?_) AllReadyH.nil
    have x0 := cell_list T0.bb (i := 3) rfl
    have f0 := free_at T0.bb 3
    go_simp
    replace T0 := T0.setB (btn_set3 _ d1)
    clear x0 f0
    generalize V.setCell _ _ = V at *
    refine hK.out _ _ (cell_list (cs := [_]) T0.nx rfl) (fun _ => ?_)
    clear hK K
    try simp only [List.getElem_toArray, List.getElem_cons_succ, List.getElem_cons_zero, Act.put, List.setIfInBounds_toArray, List.set_cons_zero, List.set_cons_succ]
    have hHeld := cell_list (cs := [_]) T0.nx (i := 0) rfl
    refine wpAnyH_take (i := 8) (v := ?_) rfl (by kernel_rfl) (by kernel_rfl) (by kernel_rfl) (fun _ _ _ h => h) (Or.inl ⟨by rfl, ?_⟩) (by assumption) ?_
    rotate_left
    · intro w hSw
      try dsimp only at hSw
      go_simp
      try with_reducible rfl
    simp only [List.getElem_toArray, List.getElem_cons_succ, List.getElem_cons_zero, Act.put, List.setIfInBounds_toArray, List.set_cons_zero, List.set_cons_succ]
    clear hHeld
    refine wpAnyH_ready (rs := [9]) (by kernel_rfl) (by simp) ?_
    refine AllReadyH.cons rfl (fun K hK => ?_) AllReadyH.nil
    have x0 := cell_list T0.bb (i := 4) rfl
    have f0 := free_at T0.bb 4
    go_simp
    replace T0 := T0.setB (btn_set4 _ d2)
    clear x0 f0
    generalize V.setCell _ _ = V at *
    refine hK.out _ _ (cell_list (cs := [_]) T0.nx rfl) (fun _ => ?_)
    clear hK K
    try simp only [List.getElem_toArray, List.getElem_cons_succ, List.getElem_cons_zero, Act.put, List.setIfInBounds_toArray, List.set_cons_zero, List.set_cons_succ]
    refine wpAnyH_done (by kernel_rfl) ?_ _
    have TK : TkI w g L (.slice A3 pl.length k3) pl l ns ne nc (rdK l ns ne nc 0) (ns + ne + nc + 2 + 2 * 0) V := by
      rw [rdK_zero, ← HD1.out, ← HD2.out]; exact T0
    clear T0
    have hc := (cnt_at TK.c).2.2
    go_wp2_with fail
    go_loopw [49] (fun i wr => ∃ j : Nat, j ≤ nc ∧ i = .int .i64 j ∧ TkI w g L (.slice A3 pl.length k3) pl l ns ne nc (rdK l ns ne nc j) (ns + ne + nc + 2 + 2 * j) wr) (fun i _ => nc - (intOf i).toNat)
    case atStart => exact ⟨0, Nat.zero_le _, rfl, TK⟩
    case round =>
      obtain ⟨j, hj, rfl, HI⟩ := hrel
      clear TK hc
      by_cases hlt : j < nc
      · have i1 : (j : Int) < (nc : Int) := by omega
        have i2 : (j : Int) < 24 := by have := HL3.out; omega
        have hx := cell_list (cs := [_]) HI.nx (i := 0) rfl
        obtain ⟨z, hz⟩ : ∃ z : BitVec 8, z = keyAt l (ns + ne + nc + 2 + 2 * j) := ⟨_, rfl⟩
        obtain ⟨r3, hr3⟩ : ∃ r3 : Int, r3 = ((num ((l.drop (ns + ne + nc + 2 + 2 * j)).take 2) : Nat) : Int) := ⟨_, rfl⟩
        have hlen2 : ((l.drop (ns + ne + nc + 2 + 2 * j)).take 2).length = 2 := by have := HLN.out.2; simp; omega
        have hr4 : r3 = (z.toNat : Int) ∧ r3 < 256 := by
          have := num_two_lt _ hlen2
          rw [hr3, hz, keyAt, BitVec.toNat_ofNat]; omega
        have hr5 : 0 ≤ r3 := by omega
        have hrw : IntKind.u8.wrap r3 = r3 := Bv.wrap_small .u8 rfl hr5 (show r3 < (2 : Int) ^ 8 by omega)
        have HR3 := Lib.hid hr3
        have HZ := Lib.hid hz
        have HR4 := Lib.hid hr4.1
        have HRB := Lib.hid hr4.2
        clear hr3 hz hr4 hlen2
        go_wp2_with fail
        refine (next_c w g L _ pl l ns ne nc _ (ns + ne + nc + 2 + 2 * j) 2 2 r3 _ rfl HR3.out HI HHP.out HLN.out.1 (by omega) (by have := HLN.out.2; omega)).mono ?_
        rintro e W5 ⟨rfl, T5⟩
        clear hx HI
        have hj24 : j < 24 := by omega
        have x5 := cell_list T5.bb (btnV_key (b := rdK l ns ne nc j) (i := j) (by rw [rdK_len]; exact hj24))
        have f5 := free_at T5.bb (5 + j)
        have T6 := T5.setB (btn_setk _ j z)
        rw [HZ.out, rdK_succ l ns ne nc j hj24, ← HZ.out, ← HR4.out] at T6
        have HT6 := Lib.hid T6
        clear T6 T5
        generalize ((rdK l ns ne nc j).keys.getD j 0#8).toNat = y at x5
        have hm : r3 % 256 = r3 := by have := HRB.out; omega
        go_wp2
        go_roundw
        case rel => exact ⟨j + 1, by omega, by go_num, by have := HT6.out; rwa [show ns + ne + nc + 2 + 2 * (j + 1) = ns + ne + nc + 2 + 2 * j + 2 by omega]⟩
        case measure => simp [intOf]; omega
      · obtain rfl : j = nc := by omega
        rw [rdK_done] at HI
        have RL := range_of HI.lay
        have RB := range_of HI.bb
        have szB : (Try.prog.info? 33).map (·.size) = some (btnV (rdB l ns ne j)).length := btn_size (rdK_len l ns ne j j)
        go_wp2_with (first
          | refine wpList_load_g (by rfl) 29 (.tmp 2) (by rfl) w.heap.size 0 (by rfl) L _ RL Try.underlying29 rfl szL ?_
          | refine wpList_load_g (by rfl) 33 (.tmp 4) (by rfl) (w.heap.size + 1) 0 (by rfl) (btnV (rdB l ns ne j)) _ RB Try.underlying33 rfl szB ?_
          | fail)
        refine (Put_c L nsec lens nsig nfl A c B1 c1 B3 c3 ve ns ne j (rdB l ns ne j) _ HNS.out HNE.out HNC.out (rdK_len l ns ne j j) (HLw.out.later HI.bel)).mono ?_
        rintro e W5 ⟨b5, A5, k5, B5, rfl, o5, h5, hsz5⟩
        have T5 := HI.later b5
        clear HI RL RB
        have HS5 : Hid (SliceAt W5 1 (.slice Au n cu) pl.length (u8s pl)) := Lib.hid (by have := HSw.out.later T5.bel; rwa [HN.out] at this ⊢)
        have H5 := Lib.hid h5
        have HSZ5 := Lib.hid hsz5
        clear h5 hsz5
        have O5 := Lib.hid (sliceAt_of_own o5)
        clear o5
        go_wp2_with fail
        refine (Equal_c _ _ B5 pl _ O5.out HS5.out).mono ?_
        rintro e W6 ⟨rfl, rfl⟩
        have T6 := T5
        have VB := T6.bb
        have BB1 := T6.bel
        clear T5 T6
        by_cases heq : B5 = pl
        · rw [decide_eq_true heq]
          have HEQ := Lib.hid heq
          clear heq
          have RB := range_of VB
          have th := there_of VB 0 (btnV (rdB l ns ne j)).toArray.size (by rw [List.size_toArray]; exact Nat.le_of_eq (Nat.zero_add _))
          have szB2 : (Try.prog.info? 33).map (·.size) = some (btnV (rdB l ns ne j)).toArray.size := by simpa using szB
          have K1 := Lib.hid (And.intro (self_set VB) (below_setCells (g := w.heap.size + 1) (by omega) (btnV (rdB l ns ne j)).toArray.toList 0 BB1))
          go_wp2_with (first
            | refine wpList_load_g (by rfl) 33 (.tmp 4) (by rfl) (w.heap.size + 1) 0 (by rfl) (btnV (rdB l ns ne j)) _ RB Try.underlying33 rfl szB ?_
            | (refine wpList_store_mid rfl 33 (.tmp 4) (.tmp 66) (by rfl) (w.heap.size + 1) 0 (btnV (rdB l ns ne j)).toArray (by rfl) (by rfl) th szB2 (all_one (btnV_one _)) ?_; generalize hWs : World.setCells _ (w.heap.size + 1) 0 (btnV (rdB l ns ne j)).toArray.toList = Ws at *)
            | fail)
          refine bodyPost_ret (res_mid2 (t := 4) (u := 5) (M := btnV (rdB l ns ne j)) Try.underlying33 rfl rfl szB rfl K1.out.1) rfl ⟨K1.out.2, rdB l ns ne j, 0, rfl, .inr ⟨HSIZE.out, .inl ⟨?_, by rw [HLL.out], rfl⟩⟩, rdK_len l ns ne j j⟩
          have := H5.out
          rw [HEQ.out, HLL.out] at this
          exact this
        · rw [decide_eq_false heq]
          have HEQ := Lib.hid heq
          clear heq
          have szB0 := btn_size zBtn_len
          have hbz := fun W => build_zero W
          have th := there_of VB 0 (btnV zBtn).toArray.size (by simp only [List.size_toArray]; rw [btnV_len (b := rdB l ns ne j) (rdK_len l ns ne j j)]; decide)
          have szB2 : (Try.prog.info? 33).map (·.size) = some (btnV zBtn).toArray.size := by kernel_rfl
          have k1 : ∀ W : World, W.heap[w.heap.size + 1]? = some (.cells (btnV (rdB l ns ne j)).toArray 33 (0, 0)) → (W.setCells (w.heap.size + 1) 0 (btnV zBtn).toArray.toList).heap[w.heap.size + 1]? = some (.cells (btnV zBtn).toArray 33 (0, 0)) := fun W h => by
            rw [setCells_at _ _ h, setL_all (by rw [List.size_toArray, btnV_len (b := rdB l ns ne j) (rdK_len l ns ne j j)]; rfl)]
          have K1 := Lib.hid (And.intro (k1 _ VB) (below_setCells (g := w.heap.size + 1) (by omega) (btnV zBtn).toArray.toList 0 BB1))
          clear k1
          go_wp2_with (first
            | refine wpList_build0 rfl 33 (by rfl) _ (hbz _) ?_
            | (refine wpList_store_mid rfl 33 (.tmp 4) (.tmp 65) (by rfl) (w.heap.size + 1) 0 (btnV zBtn).toArray (by rfl) (by rfl) th szB2 (all_one (btnV_one _)) ?_; generalize hWs : World.setCells _ (w.heap.size + 1) 0 (btnV zBtn).toArray.toList = Ws at *)
            | fail)
          refine bodyPost_ret (res_mid2 (t := 4) (u := 5) (M := btnV zBtn) Try.underlying33 rfl rfl szB0 rfl K1.out.1) rfl ⟨K1.out.2, zBtn, 41, rfl, .inr ⟨HSIZE.out, .inr ⟨fun h => HEQ.out (holds_unique H5.out (by rw [HLL.out]; exact h)), rfl, rfl⟩⟩, zBtn_len⟩
  · rw [decide_eq_false hsize] at hne0
    have HSIZE := Lib.hid hsize
    clear hsize
    go_enter Try.func6, Try.ntmps6
    go_upto_region 1 with (fail)
    clear hW0
    go_wp2_with (first
      | refine wpList_load_g (by rfl) 29 (.tmp 2) (by rfl) w.heap.size 0 (by rfl) L _ RL Try.underlying29 rfl szL ?_
      | fail)
    refine (Size_c L nsec lens nsig nfl A c B1 c1 B3 c3 ve ns ne nc sz _ HNS.out HNE.out HNC.out HSZ.out HL0.out).mono ?_
    rintro e W1 ⟨rfl, b1⟩
    replace VB := var_later VB b1
    have BB1 := below_step B0 b1
    clear RL VL b1
    have RB := range_of VB
    have szB := btn_size zBtn_len
    have th := there_of VB 0 (btnV zBtn).toArray.size (by decide)
    have szB2 : (Try.prog.info? 33).map (·.size) = some (btnV zBtn).toArray.size := by kernel_rfl
    have K1 := Lib.hid (And.intro (self_set VB) (below_setCells (g := w.heap.size + 1) (by omega) (btnV zBtn).toArray.toList 0 BB1))
    go_wp2_with (first
      | refine wpList_load_g (by rfl) 33 (.tmp 4) (by rfl) (w.heap.size + 1) 0 (by rfl) (btnV zBtn) _ RB Try.underlying33 rfl szB ?_
      | (refine wpList_store_mid rfl 33 (.tmp 4) (.tmp 17) (by rfl) (w.heap.size + 1) 0 (btnV zBtn).toArray (by rfl) (by rfl) th szB2 (all_one (btnV_one zBtn)) ?_; generalize hWs : W1.setCells (w.heap.size + 1) 0 (btnV zBtn).toArray.toList = Ws at *)
      | fail)
    refine bodyPost_ret (res_mid2 (t := 4) (u := 5) (M := btnV zBtn) Try.underlying33 rfl rfl szB rfl K1.out.1) rfl ⟨K1.out.2, zBtn, 41, rfl, .inl ⟨HSIZE.out, rfl, rfl⟩, zBtn_len⟩
end Go.Proofs.Ytioggdiicgfoaaa
