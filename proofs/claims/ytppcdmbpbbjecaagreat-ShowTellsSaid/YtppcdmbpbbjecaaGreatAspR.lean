/- Images: contracts of the document's Stale, bit, Lit, Occupied, At. Nothing that was there is turned. -/
import Derived.Test.YtppcdmbpbbjecaaGreatAspT
namespace Go.Proofs.YtppcdmbpbbjecaaGreat
open Go.RowKit Rf Mem Bv
attribute [local go_sem ↓] run_max2 run_min2
theorem low32 (b : BitVec 32) (j : Nat) : (Go.bits .and .u32 ((b.toNat : Int) / 2 ^ j) 1 == 1) = b.getLsbD j := by
  have e1 : ((b.toNat : Int) / 2 ^ j) = ((b >>> j).toNat : Int) := by
    rw [BitVec.toNat_ushiftRight, Nat.shiftRight_eq_div_pow]; norm_cast
  have e2 : Go.bits .and .u32 ((b >>> j).toNat : Int) 1 = (((b >>> j) &&& 1#32).toNat : Int) := Bv.bits_and .u32 rfl (b >>> j) 1#32
  rw [e1, e2]
  have e3 : (b >>> j) &&& 1#32 = if b.getLsbD j then 1#32 else 0#32 := by
    rw [BitVec.and_one_eq_setWidth_ofBool_getLsbD]
    simp only [BitVec.getLsbD_ushiftRight, Nat.add_zero]
    cases b.getLsbD j <;> rfl
  rw [e3]
  cases b.getLsbD j <;> rfl
theorem bitV_nat (x : BitVec 32) {k : Nat} (h : k < 32) : bitV x k = x.getLsbD k := by
  unfold bitV
  rw [decide_eq_true (by omega : (0 : Int) ≤ k), decide_eq_true (by omega : (k : Int) < 32)]
  simp
theorem bitV_neg {x : BitVec 32} {n : Int} (h : ¬ 0 ≤ n) : bitV x n = false := by
  unfold bitV; rw [decide_eq_false h]; rfl
theorem bitV_big {x : BitVec 32} {n : Int} (h : ¬ n < 32) : bitV x n = false := by
  unfold bitV; rw [decide_eq_false h]; simp
theorem refStale_c (L M : List Value) (age st : Int) (s : Bool) (w : World) (hs : s = decide (st < age)) (hL : L[6]? = some (.int .i64 st)) (hM : M[0]? = some (.int .i64 age)) :
    Calls Tryz.prog 84 #[.agg L.toArray, .agg M.toArray] w fun e w' => e = .returned (.bool s) ∧ Below w.heap.size w w' := by
  subst hs
  have b0 := below_new w (.cells L.toArray 29)
  have b1 := below_new (w.alloc (.cells L.toArray 29)) (.cells M.toArray 35)
  have x0 := cell_list (old_at (new_at (w := w) rfl (.cells L.toArray 29)) (.cells M.toArray 35)) hL
  have x1 := cell_list (new_at (w := w.alloc (.cells L.toArray 29)) (by simp; rfl) (.cells M.toArray 35)) hM
  go_enter Tryz.func84, Tryz.ntmps84
  go_wp2_with fail
  refine (r3Late_c age st _).mono ?_
  rintro e w' ⟨rfl, rfl⟩
  go_wp2
  go_ret
  exact ⟨rfl, below_step b0 b1⟩
theorem refbit_c (x : BitVec 32) (n : Int) (b : Bool) (w : World) (hb : b = bitV x n) :
    Calls Tryz.prog 85 #[.int .u32 x.toNat, .int .i64 n] w fun e w' => e = .returned (.bool b) ∧ w' = w := by
  by_cases h1 : 0 ≤ n
  · obtain ⟨k, rfl⟩ := Int.eq_ofNat_of_zero_le h1
    by_cases h2 : k < 32
    · have q1 : decide (0 ≤ (k : Int)) = true := decide_eq_true h1
      have q2 : decide ((k : Int) < 32) = true := decide_eq_true (by omega)
      have i2 : (k : Int) < 32 := by omega
      have hl := low32 x k
      rw [bitV_nat x h2] at hb
      rw [← hb] at hl
      clear hb
      generalize (x.toNat : Int) = xi at *
      go_enter Tryz.func85, Tryz.ntmps85
      go_wp2
      go_ret
      exact ⟨rfl, rfl⟩
    · have q1 : decide (0 ≤ (k : Int)) = true := decide_eq_true h1
      have q2 : decide ((k : Int) < 32) = false := decide_eq_false (by omega)
      obtain rfl : b = false := hb.trans (bitV_big (by omega))
      clear hb
      go_enter Tryz.func85, Tryz.ntmps85
      go_wp2
      go_ret
      exact ⟨rfl, rfl⟩
  · have q1 : decide (0 ≤ n) = false := decide_eq_false h1
    obtain rfl : b = false := hb.trans (bitV_neg h1)
    clear hb
    go_enter Tryz.func85, Tryz.ntmps85
    go_wp2
    go_ret
    exact ⟨rfl, rfl⟩
set_option maxHeartbeats 2000000 in
set_option maxRecDepth 100000 in
theorem refLit_c (L M : List Value) (ns nsig : Nat) (clr st age n : Int) (A A1 : Option Addr) (c c1 : Nat) (free : List Int) (occ nor rev lam : BitVec 32) (r : Bool) (w : World) (hr : r = litV nsig lam (decide (st < age)) n) (hL : LayF L ns nsig clr st A c A1 c1) (hM : ImgF M age free occ nor rev lam) :
    Calls Tryz.prog 114 #[.agg L.toArray, .agg M.toArray, .int .i64 n] w fun e w' => e = .returned (.bool r) ∧ Below w.heap.size w w' := by
  have T := Two.new w L M
  have x0 := T.cl hL.sig
  have szL := lay_size hL.len
  have szM := img_size hM.len
  by_cases h1 : 0 ≤ n
  · have q1 : decide (0 ≤ n) = true := decide_eq_true h1
    by_cases h2 : n < (nsig : Int)
    · have q2 : decide (n < (nsig : Int)) = true := decide_eq_true h2
      obtain ⟨s, hs⟩ : ∃ s, decide (st < age) = s := ⟨_, rfl⟩
      obtain ⟨b, hb⟩ : ∃ b, bitV lam n = b := ⟨_, rfl⟩
      unfold litV at hr
      rw [q2, hs, hb] at hr
      have HS := Lib.hid hs.symm
      have HB := Lib.hid hb.symm
      have RL := T.rl
      have RM := T.rm
      clear hs hb
      cases s
      · obtain rfl : r = b := by rw [hr]; cases b <;> rfl
        clear hr
        go_enter Tryz.func114, Tryz.ntmps114
        go_wp2_with (first
          | refine wpList_load_g (by rfl) 29 (.tmp 3) (by rfl) w.heap.size 0 (by rfl) L _ RL Tryz.underlying29 rfl szL ?_
          | refine wpList_load_g (by rfl) 35 (.tmp 4) (by rfl) (w.heap.size + 1) 0 (by rfl) M _ RM Tryz.underlying35 rfl szM ?_
          | fail)
        refine (refStale_c L M age st false _ HS.out hL.st hM.age).mono ?_
        rintro e W1 ⟨rfl, b1⟩
        have T1 := T.later b1
        clear x0 RL RM b1 T
        have x1 := T1.cm hM.lam
        go_wp2_with fail
        refine (refbit_c lam n r _ HB.out).mono ?_
        rintro e w' ⟨rfl, rfl⟩
        go_wp2
        go_ret
        exact ⟨rfl, T1.below⟩
      · obtain rfl : r = false := by rw [hr]; simp
        clear hr
        go_enter Tryz.func114, Tryz.ntmps114
        go_wp2_with (first
          | refine wpList_load_g (by rfl) 29 (.tmp 3) (by rfl) w.heap.size 0 (by rfl) L _ RL Tryz.underlying29 rfl szL ?_
          | refine wpList_load_g (by rfl) 35 (.tmp 4) (by rfl) (w.heap.size + 1) 0 (by rfl) M _ RM Tryz.underlying35 rfl szM ?_
          | fail)
        refine (refStale_c L M age st true _ HS.out hL.st hM.age).mono ?_
        rintro e W1 ⟨rfl, b1⟩
        have T1 := T.later b1
        clear x0 RL RM b1 T
        go_wp2
        go_ret
        exact ⟨rfl, T1.below⟩
    · have q2 : decide (n < (nsig : Int)) = false := decide_eq_false h2
      obtain rfl : r = false := by rw [hr, litV, q2]; rfl
      clear hr
      go_enter Tryz.func114, Tryz.ntmps114
      go_wp2
      go_ret
      exact ⟨rfl, T.below⟩
  · have q1 : decide (0 ≤ n) = false := decide_eq_false h1
    obtain rfl : r = false := by rw [hr, litV, bitV_neg h1]; simp
    clear hr
    go_enter Tryz.func114, Tryz.ntmps114
    go_wp2
    go_ret
    exact ⟨rfl, T.below⟩
set_option maxHeartbeats 2000000 in
set_option maxRecDepth 100000 in
theorem refOcc_c (L M : List Value) (ns nsig : Nat) (clr st age n : Int) (A A1 : Option Addr) (c c1 : Nat) (free : List Int) (occ nor rev lam : BitVec 32) (r : Bool) (w : World) (hr : r = occV ns occ (decide (st < age)) free clr n) (hL : LayF L ns nsig clr st A c A1 c1) (hM : ImgF M age free occ nor rev lam) :
    Calls Tryz.prog 53 #[.agg L.toArray, .agg M.toArray, .int .i64 n] w fun e w' => e = .returned (.bool r) ∧ Below w.heap.size w w' := by
  have T := Two.new w L M
  have x0 := T.cl hL.sec
  have szL := lay_size hL.len
  have szM := img_size hM.len
  unfold occV at hr
  by_cases h1 : n < 0
  · have q1 : decide (n < 0) = true := decide_eq_true h1
    obtain rfl : r = true := by rw [hr, q1]; rfl
    clear hr
    go_enter Tryz.func53, Tryz.ntmps53
    go_wp2
    go_ret
    exact ⟨rfl, T.below⟩
  have q1 : decide (n < 0) = false := decide_eq_false h1
  by_cases h2 : (ns : Int) ≤ n
  · have q2 : decide ((ns : Int) ≤ n) = true := decide_eq_true h2
    obtain rfl : r = true := by rw [hr, decide_eq_true (show min (ns : Int) 24 ≤ n by omega)]; simp
    clear hr
    go_enter Tryz.func53, Tryz.ntmps53
    go_wp2
    go_ret
    exact ⟨rfl, T.below⟩
  have q2 : decide ((ns : Int) ≤ n) = false := decide_eq_false h2
  by_cases h3 : 24 ≤ n
  · have q3 : decide (24 ≤ n) = true := decide_eq_true h3
    obtain rfl : r = true := by rw [hr, decide_eq_true (show min (ns : Int) 24 ≤ n by omega)]; simp
    clear hr
    go_enter Tryz.func53, Tryz.ntmps53
    go_wp2
    go_ret
    exact ⟨rfl, T.below⟩
  have q3 : decide (24 ≤ n) = false := decide_eq_false h3
  rw [q1, decide_eq_false (show ¬ min (ns : Int) 24 ≤ n by omega), Bool.false_or, Bool.false_or] at hr
  obtain ⟨k, rfl⟩ := Int.eq_ofNat_of_zero_le (by omega : 0 ≤ n)
  have hk : k < 24 := by omega
  have q4 : decide (ns ≤ k) = false := decide_eq_false (by omega)
  have q5 : decide (24 ≤ k) = false := decide_eq_false (by omega)
  obtain ⟨z, hz⟩ : ∃ z, free[k]? = some z := ⟨_, List.getElem?_eq_getElem (by rw [hM.fl]; exact hk)⟩
  rw [show free.getD (k : Int).toNat 0 = z by simp [List.getD, hz]] at hr
  have hfz := hM.free k z hz
  have i1 : (k : Int) < 24 := by omega
  obtain ⟨s, hs⟩ : ∃ s, decide (st < age) = s := ⟨_, rfl⟩
  obtain ⟨b, hb⟩ : ∃ b, bitV occ k = b := ⟨_, rfl⟩
  obtain ⟨t, ht⟩ : ∃ t, decide (z < clr) = t := ⟨_, rfl⟩
  rw [hs, hb, ht] at hr
  have HS := Lib.hid hs.symm
  have HB := Lib.hid hb.symm
  have HT := Lib.hid ht
  have hcr := hL.clr
  have hoc := hM.occ
  clear hs hb ht hz h1 h2 h3
  go_enter Tryz.func53, Tryz.ntmps53
  go_upto_region 3 with (fail)
  clear q1 q2 q3 q4 q5 x0
  generalize (w.alloc (.cells L.toArray 29)).alloc (.cells M.toArray 35) = W0 at *
  have TD := T.drew
  clear T
  refine wp_region_held_drew (S := (fun w' => w'.rangeAt w.heap.size 0 L ∧ w'.rangeAt (w.heap.size + 1) 0 M ∧ w'.cell? ⟨w.heap.size, 4, none⟩ = some (.int .i64 clr) ∧ w'.cell? ⟨w.heap.size + 1, 25, none⟩ = some (.int .u32 occ.toNat) ∧ w'.cell? ⟨w.heap.size + 1, 1 + k, none⟩ = some (.int .i64 z))) (by kernel_rfl) ?_ (fun hHeld => ?_)
  · exact ⟨TD.rl, TD.rm, TD.cl hcr, TD.cm hoc, TD.cm hfz⟩
  refine wpAnyH_take (i := 0) (v := .agg (L : List Value).toArray) rfl (by kernel_rfl) (by kernel_rfl) (by kernel_rfl) (fun _ _ _ h => h) (yieldsIf_load_mid (by kernel_rfl) 29 (.tmp 3) (by kernel_rfl) (w.heap.size) 0 (by kernel_rfl) L _ (fun w' h => h.1) (by first | exact Tryz.underlying29) rfl (by first | assumption | (simp only [*]; kernel_rfl))) (by assumption) ?_
  try simp only [List.getElem_toArray, List.getElem_cons_succ, List.getElem_cons_zero, Act.put, List.setIfInBounds_toArray, List.set_cons_zero, List.set_cons_succ]
  refine wpAnyH_take (i := 1) (v := .agg (M : List Value).toArray) rfl (by kernel_rfl) (by kernel_rfl) (by kernel_rfl) (fun _ _ _ h => h) (yieldsIf_load_mid (by kernel_rfl) 35 (.tmp 4) (by kernel_rfl) (w.heap.size + 1) 0 (by kernel_rfl) M _ (fun w' h => h.2.1) (by first | exact Tryz.underlying35) rfl (by first | assumption | (simp only [*]; kernel_rfl))) (by assumption) ?_
  try simp only [List.getElem_toArray, List.getElem_cons_succ, List.getElem_cons_zero, Act.put, List.setIfInBounds_toArray, List.set_cons_zero, List.set_cons_succ]
  clear hHeld
  refine wpAnyH_ready (rs := [2]) (by kernel_rfl) (by simp) ?_
  refine AllReadyH.cons rfl (fun K hK => ?_) AllReadyH.nil
  go_simp
  refine (refStale_c L M age st s _ HS.out hL.st hM.age).mono ?_
  rintro e W1 ⟨rfl, b1⟩
  replace TD := TD.later b1
  clear b1
  refine hK.out _ _ ⟨TD.rl, TD.rm, TD.cl hcr, TD.cm hoc, TD.cm hfz⟩ (fun hHeld => ?_)
  clear hK K
  try simp only [List.getElem_toArray, List.getElem_cons_succ, List.getElem_cons_zero, Act.put, List.setIfInBounds_toArray, List.set_cons_zero, List.set_cons_succ]
  cases s
  · refine wpAnyH_take (i := 3) (v := ?_) rfl (by kernel_rfl) (by kernel_rfl) (by kernel_rfl) (fun _ _ _ h => h) (Or.inl ⟨by kernel_rfl, ?_⟩) (by assumption) ?_
    rotate_left
    · intro w hSw
      try dsimp only at hSw
      go_simp
      try with_reducible rfl
    simp only [List.getElem_toArray, List.getElem_cons_succ, List.getElem_cons_zero, Act.put, List.setIfInBounds_toArray, List.set_cons_zero, List.set_cons_succ]
    refine wpAnyH_take (i := 4) (v := ?_) rfl (by kernel_rfl) (by kernel_rfl) (by kernel_rfl) (fun _ _ _ h => h) (Or.inl ⟨by kernel_rfl, ?_⟩) (by assumption) ?_
    rotate_left
    · intro w hSw
      try dsimp only at hSw
      go_simp
      try with_reducible rfl
    simp only [List.getElem_toArray, List.getElem_cons_succ, List.getElem_cons_zero, Act.put, List.setIfInBounds_toArray, List.set_cons_zero, List.set_cons_succ]
    refine wpAnyH_take (i := 5) (v := ?_) rfl (by kernel_rfl) (by kernel_rfl) (by kernel_rfl) (fun _ _ _ h => h) (Or.inl ⟨by kernel_rfl, ?_⟩) (by assumption) ?_
    rotate_left
    · intro w hSw
      try dsimp only at hSw
      go_simp
      try with_reducible rfl
    simp only [List.getElem_toArray, List.getElem_cons_succ, List.getElem_cons_zero, Act.put, List.setIfInBounds_toArray, List.set_cons_zero, List.set_cons_succ]
    refine wpAnyH_take (i := 6) (v := ?_) rfl (by kernel_rfl) (by kernel_rfl) (by kernel_rfl) (fun _ _ _ h => h) (Or.inl ⟨by kernel_rfl, ?_⟩) (by assumption) ?_
    rotate_left
    · intro w hSw
      try dsimp only at hSw
      go_simp
      try with_reducible rfl
    simp only [List.getElem_toArray, List.getElem_cons_succ, List.getElem_cons_zero, Act.put, List.setIfInBounds_toArray, List.set_cons_zero, List.set_cons_succ]
    refine wpAnyH_take (i := 7) (v := ?_) rfl (by kernel_rfl) (by kernel_rfl) (by kernel_rfl) (fun _ _ _ h => h) (Or.inl ⟨by kernel_rfl, ?_⟩) (by assumption) ?_
    rotate_left
    · intro w hSw
      try dsimp only at hSw
      go_simp
      try with_reducible rfl
    simp only [List.getElem_toArray, List.getElem_cons_succ, List.getElem_cons_zero, Act.put, List.setIfInBounds_toArray, List.set_cons_zero, List.set_cons_succ]
    clear hHeld
    refine wpAnyH_ready (rs := [8]) (by kernel_rfl) (by simp) ?_
    refine AllReadyH.cons rfl (fun K hK => ?_) AllReadyH.nil
    go_simp
    refine (refbit_c occ k b _ HB.out).mono ?_
    rintro e w' ⟨rfl, rfl⟩
    refine hK.out _ _ ⟨TD.rl, TD.rm, TD.cl hcr, TD.cm hoc, TD.cm hfz⟩ (fun hHeld => ?_)
    clear hK K
    try simp only [List.getElem_toArray, List.getElem_cons_succ, List.getElem_cons_zero, Act.put, List.setIfInBounds_toArray, List.set_cons_zero, List.set_cons_succ]
    cases b
    · obtain rfl : r = t := by rw [hr]; cases t <;> rfl
      have ht := HT.out
      clear hr
      refine wpAnyH_take (i := 9) (v := ?_) rfl (by kernel_rfl) (by kernel_rfl) (by kernel_rfl) (fun _ _ _ h => h) (Or.inl ⟨by kernel_rfl, ?_⟩) (by assumption) ?_
      rotate_left
      · intro w hSw
        try dsimp only at hSw
        go_simp
        try with_reducible rfl
      simp only [List.getElem_toArray, List.getElem_cons_succ, List.getElem_cons_zero, Act.put, List.setIfInBounds_toArray, List.set_cons_zero, List.set_cons_succ]
      refine wpAnyH_take (i := 10) (v := ?_) rfl (by kernel_rfl) (by kernel_rfl) (by kernel_rfl) (fun _ _ _ h => h) (Or.inl ⟨by kernel_rfl, ?_⟩) (by assumption) ?_
      rotate_left
      · intro w hSw
        try dsimp only at hSw
        go_simp
        try with_reducible rfl
      simp only [List.getElem_toArray, List.getElem_cons_succ, List.getElem_cons_zero, Act.put, List.setIfInBounds_toArray, List.set_cons_zero, List.set_cons_succ]
      refine wpAnyH_take (i := 11) (v := ?_) rfl (by kernel_rfl) (by kernel_rfl) (by kernel_rfl) (fun _ _ _ h => h) (Or.inl ⟨by kernel_rfl, ?_⟩) (by assumption) ?_
      rotate_left
      · intro w hSw
        try dsimp only at hSw
        go_simp
        try with_reducible rfl
      simp only [List.getElem_toArray, List.getElem_cons_succ, List.getElem_cons_zero, Act.put, List.setIfInBounds_toArray, List.set_cons_zero, List.set_cons_succ]
      refine wpAnyH_take (i := 12) (v := ?_) rfl (by kernel_rfl) (by kernel_rfl) (by kernel_rfl) (fun _ _ _ h => h) (Or.inl ⟨by kernel_rfl, ?_⟩) (by assumption) ?_
      rotate_left
      · intro w hSw
        try dsimp only at hSw
        go_simp
        try with_reducible rfl
      simp only [List.getElem_toArray, List.getElem_cons_succ, List.getElem_cons_zero, Act.put, List.setIfInBounds_toArray, List.set_cons_zero, List.set_cons_succ]
      refine wpAnyH_take (i := 13) (v := ?_) rfl (by kernel_rfl) (by kernel_rfl) (by kernel_rfl) (fun _ _ _ h => h) (Or.inl ⟨by kernel_rfl, ?_⟩) (by assumption) ?_
      rotate_left
      · intro w hSw
        try dsimp only at hSw
        go_simp
        try with_reducible rfl
      simp only [List.getElem_toArray, List.getElem_cons_succ, List.getElem_cons_zero, Act.put, List.setIfInBounds_toArray, List.set_cons_zero, List.set_cons_succ]
      refine wpAnyH_take (i := 14) (v := ?_) rfl (by kernel_rfl) (by kernel_rfl) (by kernel_rfl) (fun _ _ _ h => h) (Or.inl ⟨by kernel_rfl, ?_⟩) (by assumption) ?_
      rotate_left
      · intro w hSw
        try dsimp only at hSw
        go_simp
        try with_reducible rfl
      simp only [List.getElem_toArray, List.getElem_cons_succ, List.getElem_cons_zero, Act.put, List.setIfInBounds_toArray, List.set_cons_zero, List.set_cons_succ]
      refine wpAnyH_take (i := 15) (v := ?_) rfl (by kernel_rfl) (by kernel_rfl) (by kernel_rfl) (fun _ _ _ h => h) (Or.inl ⟨by kernel_rfl, ?_⟩) (by assumption) ?_
      rotate_left
      · intro w hSw
        try dsimp only at hSw
        go_simp
        try with_reducible rfl
      simp only [List.getElem_toArray, List.getElem_cons_succ, List.getElem_cons_zero, Act.put, List.setIfInBounds_toArray, List.set_cons_zero, List.set_cons_succ]
      refine wpAnyH_take (i := 16) (v := ?_) rfl (by kernel_rfl) (by kernel_rfl) (by kernel_rfl) (fun _ _ _ h => h) (Or.inl ⟨by kernel_rfl, ?_⟩) (by assumption) ?_
      rotate_left
      · intro w hSw
        try dsimp only at hSw
        go_simp
        try with_reducible rfl
      simp only [List.getElem_toArray, List.getElem_cons_succ, List.getElem_cons_zero, Act.put, List.setIfInBounds_toArray, List.set_cons_zero, List.set_cons_succ]
      refine wpAnyH_take (i := 17) (v := ?_) rfl (by kernel_rfl) (by kernel_rfl) (by kernel_rfl) (fun _ _ _ h => h) (Or.inl ⟨by kernel_rfl, ?_⟩) (by assumption) ?_
      rotate_left
      · intro w hSw
        try dsimp only at hSw
        go_simp
        try with_reducible rfl
      simp only [List.getElem_toArray, List.getElem_cons_succ, List.getElem_cons_zero, Act.put, List.setIfInBounds_toArray, List.set_cons_zero, List.set_cons_succ]
      refine wpAnyH_take (i := 18) (v := ?_) rfl (by kernel_rfl) (by kernel_rfl) (by kernel_rfl) (fun _ _ _ h => h) (Or.inl ⟨by kernel_rfl, ?_⟩) (by assumption) ?_
      rotate_left
      · intro w hSw
        try dsimp only at hSw
        go_simp
        try with_reducible rfl
      simp only [List.getElem_toArray, List.getElem_cons_succ, List.getElem_cons_zero, Act.put, List.setIfInBounds_toArray, List.set_cons_zero, List.set_cons_succ]
      refine wpAnyH_take (i := 19) (v := ?_) rfl (by kernel_rfl) (by kernel_rfl) (by kernel_rfl) (fun _ _ _ h => h) (Or.inl ⟨by kernel_rfl, ?_⟩) (by assumption) ?_
      rotate_left
      · intro w hSw
        try dsimp only at hSw
        go_simp
        try with_reducible rfl
      simp only [List.getElem_toArray, List.getElem_cons_succ, List.getElem_cons_zero, Act.put, List.setIfInBounds_toArray, List.set_cons_zero, List.set_cons_succ]
      refine wpAnyH_take (i := 20) (v := ?_) rfl (by kernel_rfl) (by kernel_rfl) (by kernel_rfl) (fun _ _ _ h => h) (Or.inl ⟨by kernel_rfl, ?_⟩) (by assumption) ?_
      rotate_left
      · intro w hSw
        try dsimp only at hSw
        go_simp
        try with_reducible rfl
      simp only [List.getElem_toArray, List.getElem_cons_succ, List.getElem_cons_zero, Act.put, List.setIfInBounds_toArray, List.set_cons_zero, List.set_cons_succ]
      clear hHeld
      refine wpAnyH_done (by kernel_rfl) ?_ _
      go_wp2
      go_ret
      exact ⟨rfl, TD.below⟩
    · obtain rfl : r = true := by rw [hr]; rfl
      clear hr
      refine wpAnyH_take (i := 9) (v := ?_) rfl (by kernel_rfl) (by kernel_rfl) (by kernel_rfl) (fun _ _ _ h => h) (Or.inl ⟨by kernel_rfl, ?_⟩) (by assumption) ?_
      rotate_left
      · intro w hSw
        try dsimp only at hSw
        go_simp
        try with_reducible rfl
      simp only [List.getElem_toArray, List.getElem_cons_succ, List.getElem_cons_zero, Act.put, List.setIfInBounds_toArray, List.set_cons_zero, List.set_cons_succ]
      refine wpAnyH_take (i := 10) (v := ?_) rfl (by kernel_rfl) (by kernel_rfl) (by kernel_rfl) (fun _ _ _ h => h) (Or.inl ⟨by kernel_rfl, ?_⟩) (by assumption) ?_
      rotate_left
      · intro w hSw
        try dsimp only at hSw
        go_simp
        try with_reducible rfl
      simp only [List.getElem_toArray, List.getElem_cons_succ, List.getElem_cons_zero, Act.put, List.setIfInBounds_toArray, List.set_cons_zero, List.set_cons_succ]
      refine wpAnyH_take (i := 11) (v := undef) rfl (by kernel_rfl) (by kernel_rfl) (by kernel_rfl) (fun _ _ _ h => h) (Or.inr ⟨by kernel_rfl, rfl⟩) (by assumption) ?_
      refine wpAnyH_take (i := 12) (v := undef) rfl (by kernel_rfl) (by kernel_rfl) (by kernel_rfl) (fun _ _ _ h => h) (Or.inr ⟨by kernel_rfl, rfl⟩) (by assumption) ?_
      refine wpAnyH_take (i := 13) (v := undef) rfl (by kernel_rfl) (by kernel_rfl) (by kernel_rfl) (fun _ _ _ h => h) (Or.inr ⟨by kernel_rfl, rfl⟩) (by assumption) ?_
      refine wpAnyH_take (i := 14) (v := undef) rfl (by kernel_rfl) (by kernel_rfl) (by kernel_rfl) (fun _ _ _ h => h) (Or.inr ⟨by kernel_rfl, rfl⟩) (by assumption) ?_
      refine wpAnyH_take (i := 15) (v := undef) rfl (by kernel_rfl) (by kernel_rfl) (by kernel_rfl) (fun _ _ _ h => h) (Or.inr ⟨by kernel_rfl, rfl⟩) (by assumption) ?_
      refine wpAnyH_take (i := 16) (v := undef) rfl (by kernel_rfl) (by kernel_rfl) (by kernel_rfl) (fun _ _ _ h => h) (Or.inr ⟨by kernel_rfl, rfl⟩) (by assumption) ?_
      refine wpAnyH_take (i := 17) (v := undef) rfl (by kernel_rfl) (by kernel_rfl) (by kernel_rfl) (fun _ _ _ h => h) (Or.inr ⟨by kernel_rfl, rfl⟩) (by assumption) ?_
      refine wpAnyH_take (i := 18) (v := undef) rfl (by kernel_rfl) (by kernel_rfl) (by kernel_rfl) (fun _ _ _ h => h) (Or.inr ⟨by kernel_rfl, rfl⟩) (by assumption) ?_
      simp only [List.getElem_toArray, List.getElem_cons_succ, List.getElem_cons_zero, Act.put, List.setIfInBounds_toArray, List.set_cons_zero, List.set_cons_succ]
      refine wpAnyH_take (i := 19) (v := ?_) rfl (by kernel_rfl) (by kernel_rfl) (by kernel_rfl) (fun _ _ _ h => h) (Or.inl ⟨by kernel_rfl, ?_⟩) (by assumption) ?_
      rotate_left
      · intro w hSw
        try dsimp only at hSw
        go_simp
        try with_reducible rfl
      simp only [List.getElem_toArray, List.getElem_cons_succ, List.getElem_cons_zero, Act.put, List.setIfInBounds_toArray, List.set_cons_zero, List.set_cons_succ]
      refine wpAnyH_take (i := 20) (v := ?_) rfl (by kernel_rfl) (by kernel_rfl) (by kernel_rfl) (fun _ _ _ h => h) (Or.inl ⟨by kernel_rfl, ?_⟩) (by assumption) ?_
      rotate_left
      · intro w hSw
        try dsimp only at hSw
        go_simp
        try with_reducible rfl
      simp only [List.getElem_toArray, List.getElem_cons_succ, List.getElem_cons_zero, Act.put, List.setIfInBounds_toArray, List.set_cons_zero, List.set_cons_succ]
      clear hHeld
      refine wpAnyH_done (by kernel_rfl) ?_ _
      go_wp2
      go_ret
      exact ⟨rfl, TD.below⟩
  · obtain rfl : r = true := by rw [hr]; rfl
    clear hr
    refine wpAnyH_take (i := 3) (v := ?_) rfl (by kernel_rfl) (by kernel_rfl) (by kernel_rfl) (fun _ _ _ h => h) (Or.inl ⟨by kernel_rfl, ?_⟩) (by assumption) ?_
    rotate_left
    · intro w hSw
      try dsimp only at hSw
      go_simp
      try with_reducible rfl
    simp only [List.getElem_toArray, List.getElem_cons_succ, List.getElem_cons_zero, Act.put, List.setIfInBounds_toArray, List.set_cons_zero, List.set_cons_succ]
    refine wpAnyH_take (i := 4) (v := undef) rfl (by kernel_rfl) (by kernel_rfl) (by kernel_rfl) (fun _ _ _ h => h) (Or.inr ⟨by kernel_rfl, rfl⟩) (by assumption) ?_
    refine wpAnyH_take (i := 5) (v := undef) rfl (by kernel_rfl) (by kernel_rfl) (by kernel_rfl) (fun _ _ _ h => h) (Or.inr ⟨by kernel_rfl, rfl⟩) (by assumption) ?_
    refine wpAnyH_take (i := 6) (v := undef) rfl (by kernel_rfl) (by kernel_rfl) (by kernel_rfl) (fun _ _ _ h => h) (Or.inr ⟨by kernel_rfl, rfl⟩) (by assumption) ?_
    refine wpAnyH_take (i := 7) (v := undef) rfl (by kernel_rfl) (by kernel_rfl) (by kernel_rfl) (fun _ _ _ h => h) (Or.inr ⟨by kernel_rfl, rfl⟩) (by assumption) ?_
    refine wpAnyH_take (i := 8) (v := undef) rfl (by kernel_rfl) (by kernel_rfl) (by kernel_rfl) (fun _ _ _ h => h) (Or.inr ⟨by kernel_rfl, rfl⟩) (by assumption) ?_
    simp only [List.getElem_toArray, List.getElem_cons_succ, List.getElem_cons_zero, Act.put, List.setIfInBounds_toArray, List.set_cons_zero, List.set_cons_succ]
    refine wpAnyH_take (i := 9) (v := ?_) rfl (by kernel_rfl) (by kernel_rfl) (by kernel_rfl) (fun _ _ _ h => h) (Or.inl ⟨by kernel_rfl, ?_⟩) (by assumption) ?_
    rotate_left
    · intro w hSw
      try dsimp only at hSw
      go_simp
      try with_reducible rfl
    simp only [List.getElem_toArray, List.getElem_cons_succ, List.getElem_cons_zero, Act.put, List.setIfInBounds_toArray, List.set_cons_zero, List.set_cons_succ]
    refine wpAnyH_take (i := 10) (v := ?_) rfl (by kernel_rfl) (by kernel_rfl) (by kernel_rfl) (fun _ _ _ h => h) (Or.inl ⟨by kernel_rfl, ?_⟩) (by assumption) ?_
    rotate_left
    · intro w hSw
      try dsimp only at hSw
      go_simp
      try with_reducible rfl
    simp only [List.getElem_toArray, List.getElem_cons_succ, List.getElem_cons_zero, Act.put, List.setIfInBounds_toArray, List.set_cons_zero, List.set_cons_succ]
    refine wpAnyH_take (i := 11) (v := undef) rfl (by kernel_rfl) (by kernel_rfl) (by kernel_rfl) (fun _ _ _ h => h) (Or.inr ⟨by kernel_rfl, rfl⟩) (by assumption) ?_
    refine wpAnyH_take (i := 12) (v := undef) rfl (by kernel_rfl) (by kernel_rfl) (by kernel_rfl) (fun _ _ _ h => h) (Or.inr ⟨by kernel_rfl, rfl⟩) (by assumption) ?_
    refine wpAnyH_take (i := 13) (v := undef) rfl (by kernel_rfl) (by kernel_rfl) (by kernel_rfl) (fun _ _ _ h => h) (Or.inr ⟨by kernel_rfl, rfl⟩) (by assumption) ?_
    refine wpAnyH_take (i := 14) (v := undef) rfl (by kernel_rfl) (by kernel_rfl) (by kernel_rfl) (fun _ _ _ h => h) (Or.inr ⟨by kernel_rfl, rfl⟩) (by assumption) ?_
    refine wpAnyH_take (i := 15) (v := undef) rfl (by kernel_rfl) (by kernel_rfl) (by kernel_rfl) (fun _ _ _ h => h) (Or.inr ⟨by kernel_rfl, rfl⟩) (by assumption) ?_
    refine wpAnyH_take (i := 16) (v := undef) rfl (by kernel_rfl) (by kernel_rfl) (by kernel_rfl) (fun _ _ _ h => h) (Or.inr ⟨by kernel_rfl, rfl⟩) (by assumption) ?_
    refine wpAnyH_take (i := 17) (v := undef) rfl (by kernel_rfl) (by kernel_rfl) (by kernel_rfl) (fun _ _ _ h => h) (Or.inr ⟨by kernel_rfl, rfl⟩) (by assumption) ?_
    refine wpAnyH_take (i := 18) (v := undef) rfl (by kernel_rfl) (by kernel_rfl) (by kernel_rfl) (fun _ _ _ h => h) (Or.inr ⟨by kernel_rfl, rfl⟩) (by assumption) ?_
    simp only [List.getElem_toArray, List.getElem_cons_succ, List.getElem_cons_zero, Act.put, List.setIfInBounds_toArray, List.set_cons_zero, List.set_cons_succ]
    refine wpAnyH_take (i := 19) (v := ?_) rfl (by kernel_rfl) (by kernel_rfl) (by kernel_rfl) (fun _ _ _ h => h) (Or.inl ⟨by kernel_rfl, ?_⟩) (by assumption) ?_
    rotate_left
    · intro w hSw
      try dsimp only at hSw
      go_simp
      try with_reducible rfl
    simp only [List.getElem_toArray, List.getElem_cons_succ, List.getElem_cons_zero, Act.put, List.setIfInBounds_toArray, List.set_cons_zero, List.set_cons_succ]
    refine wpAnyH_take (i := 20) (v := ?_) rfl (by kernel_rfl) (by kernel_rfl) (by kernel_rfl) (fun _ _ _ h => h) (Or.inl ⟨by kernel_rfl, ?_⟩) (by assumption) ?_
    rotate_left
    · intro w hSw
      try dsimp only at hSw
      go_simp
      try with_reducible rfl
    simp only [List.getElem_toArray, List.getElem_cons_succ, List.getElem_cons_zero, Act.put, List.setIfInBounds_toArray, List.set_cons_zero, List.set_cons_succ]
    clear hHeld
    refine wpAnyH_done (by kernel_rfl) ?_ _
    go_wp2
    go_ret
    exact ⟨rfl, TD.below⟩
set_option maxHeartbeats 4000000 in
set_option maxRecDepth 100000 in
theorem refAt_c (L M : List Value) (kinds : List Int) (ns nsig : Nat) (clr st age n : Int) (A A1 : Option Addr) (c c1 : Nat) (free : List Int) (occ nor rev lam : BitVec 32) (r : Int) (w : World) (hn : ns = kinds.length) (hr : r = atV kinds nor rev (decide (st < age)) n) (hL : LayF L ns nsig clr st A c A1 c1) (hM : ImgF M age free occ nor rev lam) (hS : SecsAt w (.slice A ns c) kinds) :
    Calls Tryz.prog 54 #[.agg L.toArray, .agg M.toArray, .int .i64 n] w fun e w' => e = .returned (.int .i64 r) ∧ Below w.heap.size w w' := by
  subst hn
  have T := Two.new w L M
  have x0 := T.cl hL.sec
  have szL := lay_size hL.len
  have szM := img_size hM.len
  unfold atV at hr
  by_cases h1 : n < 0
  · have q1 : decide (n < 0) = true := decide_eq_true h1
    obtain rfl : r = -1 := by rw [hr, q1, Bool.true_or, if_pos rfl]
    clear hr
    go_enter Tryz.func54, Tryz.ntmps54
    go_wp2
    go_ret
    exact ⟨rfl, T.below⟩
  have q1 : decide (n < 0) = false := decide_eq_false h1
  rw [q1, Bool.false_or] at hr
  by_cases h2 : (kinds.length : Int) ≤ n
  · have q2 : decide ((kinds.length : Int) ≤ n) = true := decide_eq_true h2
    obtain rfl : r = -1 := by rw [hr, q2, Bool.true_or, if_pos rfl]
    clear hr
    go_enter Tryz.func54, Tryz.ntmps54
    go_wp2
    go_ret
    exact ⟨rfl, T.below⟩
  have q2 : decide ((kinds.length : Int) ≤ n) = false := decide_eq_false h2
  rw [q2, Bool.false_or] at hr
  obtain ⟨k, rfl⟩ := Int.eq_ofNat_of_zero_le (by omega : 0 ≤ n)
  have hkl : k < kinds.length := by omega
  obtain ⟨z, hz⟩ : ∃ z, kinds[k]? = some z := ⟨_, List.getElem?_eq_getElem hkl⟩
  rw [show kinds.getD (k : Int).toNat 0 = z by simp [List.getD, hz]] at hr
  obtain ⟨A', c', hv, _, _, hcase⟩ := hS
  obtain ⟨rfl, _, rfl⟩ := Value.slice.inj hv
  obtain ⟨bs, os, rfl, hbs, hcs⟩ := hcase.resolve_left (by omega)
  have y0 := (T.below.cell (p := ⟨bs, os + k * 11, none⟩) hbs).trans (hcs k z hz)
  have i1 : (k : Int) < (kinds.length : Int) := by omega
  have q3 : decide (kinds.length ≤ k) = false := decide_eq_false (by omega)
  obtain ⟨s, hs⟩ : ∃ s, decide (st < age) = s := ⟨_, rfl⟩
  obtain ⟨p, hp⟩ : ∃ p, bitV nor k = p := ⟨_, rfl⟩
  obtain ⟨q, hq⟩ : ∃ q, bitV rev k = q := ⟨_, rfl⟩
  rw [hs, hp, hq] at hr
  have HST := Lib.hid hs.symm
  have HP := Lib.hid hp.symm
  have HQ := Lib.hid hq.symm
  have RL := T.rl
  have RM := T.rm
  clear hv hcase hcs hz h1 h2 hs hp hq hkl
  rcases hk2 : (z != 2) with _ | _
  · rw [hk2, Bool.false_or] at hr
    have HR := Lib.hid hr
    clear hr
    go_enter Tryz.func54, Tryz.ntmps54
    go_wp2_with (first
      | refine wpList_load_g (by rfl) 29 (.tmp 3) (by rfl) w.heap.size 0 (by rfl) L _ RL Tryz.underlying29 rfl szL ?_
      | refine wpList_load_g (by rfl) 35 (.tmp 4) (by rfl) (w.heap.size + 1) 0 (by rfl) M _ RM Tryz.underlying35 rfl szM ?_
      | fail)
    generalize (w.alloc (.cells L.toArray 29)).alloc (.cells M.toArray 35) = W0 at *
    refine (refStale_c L M age st s _ HST.out hL.st hM.age).mono ?_
    rintro e W1 ⟨rfl, b1⟩
    have T1 := T.later b1
    clear x0 y0 RL RM b1 T
    cases s
    · have TD := T1.drew
      have hno := hM.nor
      have hre := hM.rev
      clear T1
      go_upto_region 3 with (fail)
      refine wp_region_held_drew (S := (fun w' => w'.cell? ⟨w.heap.size + 1, 26, none⟩ = some (.int .u32 nor.toNat) ∧ w'.cell? ⟨w.heap.size + 1, 27, none⟩ = some (.int .u32 rev.toNat))) (by kernel_rfl) ?_ (fun hHeld => ?_)
      · exact ⟨TD.cm hno, TD.cm hre⟩
      refine wpAnyH_take (i := 0) (v := ?_) rfl (by kernel_rfl) (by kernel_rfl) (by kernel_rfl) (fun _ _ _ h => h) (Or.inl ⟨by kernel_rfl, ?_⟩) (by assumption) ?_
      rotate_left
      · intro w hSw
        try dsimp only at hSw
        go_simp
        try with_reducible rfl
      simp only [List.getElem_toArray, List.getElem_cons_succ, List.getElem_cons_zero, Act.put, List.setIfInBounds_toArray, List.set_cons_zero, List.set_cons_succ]
      refine wpAnyH_take (i := 1) (v := ?_) rfl (by kernel_rfl) (by kernel_rfl) (by kernel_rfl) (fun _ _ _ h => h) (Or.inl ⟨by kernel_rfl, ?_⟩) (by assumption) ?_
      rotate_left
      · intro w hSw
        try dsimp only at hSw
        go_simp
        try with_reducible rfl
      simp only [List.getElem_toArray, List.getElem_cons_succ, List.getElem_cons_zero, Act.put, List.setIfInBounds_toArray, List.set_cons_zero, List.set_cons_succ]
      refine wpAnyH_take (i := 2) (v := ?_) rfl (by kernel_rfl) (by kernel_rfl) (by kernel_rfl) (fun _ _ _ h => h) (Or.inl ⟨by kernel_rfl, ?_⟩) (by assumption) ?_
      rotate_left
      · intro w hSw
        try dsimp only at hSw
        go_simp
        try with_reducible rfl
      simp only [List.getElem_toArray, List.getElem_cons_succ, List.getElem_cons_zero, Act.put, List.setIfInBounds_toArray, List.set_cons_zero, List.set_cons_succ]
      refine wpAnyH_take (i := 3) (v := ?_) rfl (by kernel_rfl) (by kernel_rfl) (by kernel_rfl) (fun _ _ _ h => h) (Or.inl ⟨by kernel_rfl, ?_⟩) (by assumption) ?_
      rotate_left
      · intro w hSw
        try dsimp only at hSw
        go_simp
        try with_reducible rfl
      simp only [List.getElem_toArray, List.getElem_cons_succ, List.getElem_cons_zero, Act.put, List.setIfInBounds_toArray, List.set_cons_zero, List.set_cons_succ]
      refine wpAnyH_take (i := 5) (v := ?_) rfl (by kernel_rfl) (by kernel_rfl) (by kernel_rfl) (fun _ _ _ h => h) (Or.inl ⟨by kernel_rfl, ?_⟩) (by assumption) ?_
      rotate_left
      · intro w hSw
        try dsimp only at hSw
        go_simp
        try with_reducible rfl
      simp only [List.getElem_toArray, List.getElem_cons_succ, List.getElem_cons_zero, Act.put, List.setIfInBounds_toArray, List.set_cons_zero, List.set_cons_succ]
      refine wpAnyH_take (i := 6) (v := ?_) rfl (by kernel_rfl) (by kernel_rfl) (by kernel_rfl) (fun _ _ _ h => h) (Or.inl ⟨by kernel_rfl, ?_⟩) (by assumption) ?_
      rotate_left
      · intro w hSw
        try dsimp only at hSw
        go_simp
        try with_reducible rfl
      simp only [List.getElem_toArray, List.getElem_cons_succ, List.getElem_cons_zero, Act.put, List.setIfInBounds_toArray, List.set_cons_zero, List.set_cons_succ]
      refine wpAnyH_take (i := 7) (v := ?_) rfl (by kernel_rfl) (by kernel_rfl) (by kernel_rfl) (fun _ _ _ h => h) (Or.inl ⟨by kernel_rfl, ?_⟩) (by assumption) ?_
      rotate_left
      · intro w hSw
        try dsimp only at hSw
        go_simp
        try with_reducible rfl
      simp only [List.getElem_toArray, List.getElem_cons_succ, List.getElem_cons_zero, Act.put, List.setIfInBounds_toArray, List.set_cons_zero, List.set_cons_succ]
      refine wpAnyH_take (i := 8) (v := ?_) rfl (by kernel_rfl) (by kernel_rfl) (by kernel_rfl) (fun _ _ _ h => h) (Or.inl ⟨by kernel_rfl, ?_⟩) (by assumption) ?_
      rotate_left
      · intro w hSw
        try dsimp only at hSw
        go_simp
        try with_reducible rfl
      simp only [List.getElem_toArray, List.getElem_cons_succ, List.getElem_cons_zero, Act.put, List.setIfInBounds_toArray, List.set_cons_zero, List.set_cons_succ]
      clear hHeld
      refine wpAnyH_ready (rs := [4]) (by kernel_rfl) (by simp) ?_
      refine AllReadyH.cons rfl (fun K hK => ?_) AllReadyH.nil
      go_simp
      refine (refbit_c nor k p _ HP.out).mono ?_
      rintro e w' ⟨rfl, rfl⟩
      refine hK.out _ _ ⟨TD.cm hno, TD.cm hre⟩ (fun hHeld => ?_)
      clear hK K hHeld
      try simp only [List.getElem_toArray, List.getElem_cons_succ, List.getElem_cons_zero, Act.put, List.setIfInBounds_toArray, List.set_cons_zero, List.set_cons_succ]
      refine wpAnyH_ready (rs := [9]) (by kernel_rfl) (by simp) ?_
      refine AllReadyH.cons rfl (fun K hK => ?_) AllReadyH.nil
      go_simp
      refine (refbit_c rev k q _ HQ.out).mono ?_
      rintro e w' ⟨rfl, rfl⟩
      refine hK.out _ _ ⟨TD.cm hno, TD.cm hre⟩ (fun hHeld => ?_)
      clear hK K
      try simp only [List.getElem_toArray, List.getElem_cons_succ, List.getElem_cons_zero, Act.put, List.setIfInBounds_toArray, List.set_cons_zero, List.set_cons_succ]
      refine wpAnyH_take (i := 10) (v := ?_) rfl (by kernel_rfl) (by kernel_rfl) (by kernel_rfl) (fun _ _ _ h => h) (Or.inl ⟨by kernel_rfl, ?_⟩) (by assumption) ?_
      rotate_left
      · intro w hSw
        try dsimp only at hSw
        go_simp
        try with_reducible rfl
      simp only [List.getElem_toArray, List.getElem_cons_succ, List.getElem_cons_zero, Act.put, List.setIfInBounds_toArray, List.set_cons_zero, List.set_cons_succ]
      refine wpAnyH_take (i := 11) (v := ?_) rfl (by kernel_rfl) (by kernel_rfl) (by kernel_rfl) (fun _ _ _ h => h) (Or.inl ⟨by kernel_rfl, ?_⟩) (by assumption) ?_
      rotate_left
      · intro w hSw
        try dsimp only at hSw
        go_simp
        try with_reducible rfl
      simp only [List.getElem_toArray, List.getElem_cons_succ, List.getElem_cons_zero, Act.put, List.setIfInBounds_toArray, List.set_cons_zero, List.set_cons_succ]
      clear hHeld
      refine wpAnyH_done (by kernel_rfl) ?_ _
      cases p <;> cases q
      all_goals
        go_wp2
        go_ret
        exact ⟨by rw [HR.out]; rfl, TD.below⟩
    · go_wp2
      go_ret
      exact ⟨by rw [HR.out]; rfl, T1.below⟩
  · rw [hk2, Bool.true_or, if_pos rfl] at hr
    subst hr
    go_enter Tryz.func54, Tryz.ntmps54
    go_wp2
    go_ret
    exact ⟨rfl, T.below⟩
end Go.Proofs.YtppcdmbpbbjecaaGreat
