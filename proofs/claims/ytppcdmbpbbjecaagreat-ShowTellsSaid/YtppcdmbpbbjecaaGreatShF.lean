/- Shows: the closures of Take. A show that is being taken; so many bits were read. -/
import Derived.Test.YtppcdmbpbbjecaaGreatShE
namespace Go.Proofs.YtppcdmbpbbjecaaGreat
open List renaming getElem_toArray → zA, getElem_cons_succ → zS, getElem_cons_zero → zZ, setIfInBounds_toArray → zP, set_cons_zero → zQ, set_cons_succ → zR
open Go.RowKit Rf Mem Bv AM SM Bits
attribute [local go_sem ↓] run_max2 run_min2
attribute [local go_sem] Oper.semAt_some
/-- what Take carries -/
structure TkS (w : World) (L cs : List Value) (g : Nat) (v : Value) (pl : List (BitVec 8)) (l : List Bool) (k : Nat) (W : World) : Prop where
  bel : Below w.heap.size w W
  lay : W.heap[w.heap.size]? = some (.cells L.toArray 29 (0, 0))
  sh : W.heap[w.heap.size + 1]? = some (.cells cs.toArray 52 (0, 0))
  x : W.heap[g]? = some (.cells #[v, .int .i64 ((l.length : Nat) : Int)] 84 (0, 0))
  at_ : W.heap[g + 1]? = some (.cells #[.int .i64 ((k : Nat) : Int)] 3 (0, 0))
  nx : W.heap[g + 1 + 1]? = some (.cells #[.func (.func 19) #[] #[.pointer (some ⟨g, 0, none⟩), .pointer (some ⟨g + 1, 0, none⟩)]] 88 (0, 0))
  sl : W.ownsRow (w.heap.size + 1 + 1) 5 1 v pl.length (u8s pl)
  low : ∀ j, v.ownBlock = some j → j < g
  hg : w.heap.size + 1 < g
section
variable {w : World} {L cs : List Value} {g : Nat} {v : Value} {pl : List (BitVec 8)} {l : List Bool} {k : Nat} {W : World}
theorem TkS.later {W' : World} (h : TkS w L cs g v pl l k W) (b : Below W.heap.size W W') : TkS w L cs g v pl l k W' :=
  ⟨below_step h.bel b, var_later h.lay b, var_later h.sh b, var_later h.x b, var_later h.at_ b, var_later h.nx b, own_later h.sl (fun g hg => b.block g (own_base h.sl hg).2), h.low, h.hg⟩
theorem TkS.setAt {k' : Nat} (h : TkS w L cs g v pl l k W) : TkS w L cs g v pl l k' (W.setCell ⟨g + 1, 0, none⟩ (.int .i64 ((k' : Nat) : Int))) := by
  have hg := h.hg
  exact ⟨below_set h.bel (by omega) _ _, set_far h.lay (by simp only; omega) _, set_far h.sh (by simp only; omega) _, set_far h.x (by simp only; omega) _,
    by rw [set_at h.at_ 0]; rfl, set_far h.nx (by simp only; omega) _, own_later h.sl (fun j hj => Below.heap_setCell W _ _ j (by have := h.low j hj; simp only; omega)), h.low, hg⟩
theorem TkS.setS {o : Nat} {u : Value} (h : TkS w L cs g v pl l k W) : TkS w L (cs.set o u) g v pl l k (W.setCell ⟨w.heap.size + 1, o, none⟩ u) := by
  have hg := h.hg
  exact ⟨below_set h.bel (by omega) _ _, set_far h.lay (by simp only; omega) _, by rw [set_at h.sh o, List.setIfInBounds_toArray], set_far h.x (by simp only; omega) _,
    set_far h.at_ (by simp only; omega) _, set_far h.nx (by simp only; omega) _, Bt.own_set h.sl (Nat.lt_succ_self _) _, h.low, hg⟩
end
/-- so many bits from there on, as a number -/
def rd (l : List Bool) (k wd : Nat) : Nat := num ((l.drop k).take wd)
def orB (z : BitVec 32) (i : Nat) (b : Bool) : BitVec 32 := if b then z ||| BitVec.twoPow 32 i else z
theorem or_b (z : BitVec 32) (i : Nat) (hi : i < 32) (b : Bool) (r : Int) (hr : r = (b.toNat : Int)) : Go.bits .or .u32 (z.toNat : Int) (IntKind.u32.wrap (r * 2 ^ i)) = ((orB z i b).toNat : Int) := by
  have h2 : IntKind.u32.wrap (r * 2 ^ i) = ((if b then BitVec.twoPow 32 i else 0#32).toNat : Int) := by
    have hp : (2 : Nat) ^ i < 2 ^ 32 := Nat.pow_lt_pow_right (by omega) hi
    cases b with
    | false =>
      subst hr
      show IntKind.u32.wrap (0 * 2 ^ i) = 0
      rw [Int.zero_mul]; rfl
    | true =>
      subst hr
      simp only [if_true, BitVec.toNat_twoPow, Bool.toNat_true, Int.natCast_one, Int.one_mul, Nat.mod_eq_of_lt hp]
      rw [Bv.wrap_small .u32 rfl (Int.pow_nonneg (by omega)) (show (2 : Int) ^ i < (2 : Int) ^ 32 by exact_mod_cast hp)]
      simp
  rw [h2]
  have h3 : Go.bits .or .u32 (z.toNat : Int) ((if b then BitVec.twoPow 32 i else 0#32).toNat : Int) = ((z ||| (if b then BitVec.twoPow 32 i else 0#32)).toNat : Int) := Bv.bits_or .u32 rfl z (if b then BitVec.twoPow 32 i else 0#32)
  rw [h3]
  congr 2
  unfold orB
  split <;> simp
theorem rd_lt (l : List Bool) (k wd : Nat) : rd l k wd < 2 ^ wd := by
  have h := num_lt ((l.drop k).take wd)
  have : ((l.drop k).take wd).length ≤ wd := by rw [List.length_take]; omega
  exact Nat.lt_of_lt_of_le h (Nat.pow_le_pow_right (by omega) this)
theorem tnext_c (w : World) (L cs : List Value) (g : Nat) (v : Value) (pl : List (BitVec 8)) (l : List Bool) (k wd : Nat) (wd' r : Int) (W : World) (hw' : wd' = ((wd : Nat) : Int)) (hr : r = ((rd l k wd : Nat) : Int)) (h : TkS w L cs g v pl l k W) (hH : Bits.Holds pl l) (hl : l.length ≤ 1000000) (hw : wd ≤ 32) (hk : k + wd ≤ l.length) :
    Calls Tryz.prog 19 #[.int .i64 wd', .pointer (some ⟨g, 0, none⟩), .pointer (some ⟨g + 1, 0, none⟩)] W fun e W' => e = .returned (.int .i64 r) ∧ TkS w L cs g v pl l (k + wd) W' ∧ Keep (fun q => q ≠ w.heap.size + 1 ∧ q ≠ g + 1) W W' := by
  obtain ⟨A, c, rfl, _⟩ := (sliceAt_of_own h.sl).form
  have HR := Lib.hid hr
  have HW := Lib.hid hw'
  have hw2 : 0 ≤ wd' ∧ wd' ≤ 32 := by omega
  have hx := h.x
  obtain ⟨N, hN⟩ : ∃ N : Int, N = ((l.length : Nat) : Int) := ⟨_, rfl⟩
  obtain ⟨K0, hK0⟩ : ∃ K0 : Int, K0 = ((k : Nat) : Int) := ⟨_, rfl⟩
  have ha := h.at_
  rw [← hN] at hx
  rw [← hK0] at ha
  have c0 := cell_at hx 0
  have c1 := cell_at hx 1
  have a0 := cell_at ha 0
  have HN := Lib.hid hN
  have HK := Lib.hid hK0
  have hb1 : 0 ≤ K0 ∧ K0 ≤ 1000000 := by omega
  clear hr hw' hx ha hN hK0
  go_enter Tryz.func19, Tryz.ntmps19
  go_wp2_with fail
  refine (Bt.Take_g (.slice A pl.length c) pl l k wd N K0 wd' r _ HN.out HK.out HW.out HR.out (sliceAt_of_own h.sl) hH hl hw hk).mono ?_
  rintro e W1 ⟨b1, rfl⟩
  have h1 := h.later b1
  have ha := h1.at_
  rw [← HK.out] at ha
  have a1 := cell_at ha 0
  have af := free_at ha 0
  clear c0 c1 a0 ha
  have hs : wrap64 (K0 + wd') = K0 + wd' := by unfold wrap64; omega
  have h2 := h1.setAt (k' := k + wd)
  have e2 : (((k + wd : Nat)) : Int) = K0 + wd' := by rw [HK.out, HW.out]; omega
  rw [e2] at h2
  have H2 := Lib.hid (And.intro h2 ((keep_all b1 (fun q => q ≠ w.heap.size + 1 ∧ q ≠ g + 1)).setCell (p := ⟨g + 1, 0, none⟩) (fun _ h => h.2 rfl) (.int .i64 (K0 + wd'))))
  clear h2 e2 h1 h
  go_wp2
  go_ret
  exact ⟨rfl, H2.out⟩
set_option maxHeartbeats 1000000 in
set_option maxRecDepth 100000 in
theorem tflag_c (w : World) (L cs : List Value) (g : Nat) (v : Value) (pl : List (BitVec 8)) (l : List Bool) (k j i : Nat) (i' : Int) (z : BitVec 32) (W : World) (hi' : i' = (i : Int)) (hi : i < 32) (hz : cs[j]? = some (.int .u32 z.toNat)) (h : TkS w L cs g v pl l k W) (hH : Bits.Holds pl l) (hl : l.length ≤ 1000000) (hk : k + 1 ≤ l.length) :
    Calls Tryz.prog 21 #[.pointer (some ⟨w.heap.size + 1, j, none⟩), .int .i64 i', .pointer (some ⟨g + 1 + 1, 0, none⟩)] W fun e W' => e = .returned (.tuple #[]) ∧ TkS w L (cs.set j (.int .u32 (orB z i (rd l k 1 == 1)).toNat)) g v pl l (k + 1) W' ∧ Keep (fun q => q ≠ w.heap.size + 1 ∧ q ≠ g + 1) W W' := by
  subst hi'
  have i1 : (0 : Int) ≤ (i : Int) := by omega
  have i2 : (i : Int) < 32 := by omega
  have hr1 := rd_lt l k 1
  obtain ⟨r, hr⟩ : ∃ r : Int, r = ((rd l k 1 : Nat) : Int) := ⟨_, rfl⟩
  have hor := or_b z i hi (rd l k 1 == 1) r (by rw [hr]; rcases (show rd l k 1 = 0 ∨ rd l k 1 = 1 by omega) with e | e <;> rw [e] <;> rfl)
  have hrb : 0 ≤ r ∧ r ≤ 1 := by omega
  have hrw : IntKind.u32.wrap r = r := Bv.wrap_small .u32 rfl hrb.1 (show r < (2 : Int) ^ 32 by omega)
  have TD : TkS w L cs g v pl l k W.drew := h.later (Below.refl _ W).drew
  have K0 : Keep (fun q => q ≠ w.heap.size + 1 ∧ q ≠ g + 1) W W.drew := (Keep.refl _ W).drew
  generalize (orB z i (rd l k 1 == 1)) = zo at *
  have y0 : W.drew.cell? ⟨w.heap.size + 1, j, none⟩ = some (.int .u32 z.toNat) := by rw [cell_at TD.sh j, List.getElem?_toArray, hz]
  have n0 := cell_at TD.nx 0
  obtain ⟨zi, hzi⟩ : ∃ zi : Int, zi = (z.toNat : Int) := ⟨_, rfl⟩
  obtain ⟨zr, hzr⟩ : ∃ zr : Int, zr = (zo.toNat : Int) := ⟨_, rfl⟩
  rw [← hzi] at y0 hor hz
  rw [← hzr] at hor ⊢
  have HR := Lib.hid hr
  have HZ := Lib.hid hz
  clear hr hz hr1 hzi hzr h
  go_enter Tryz.func21, Tryz.ntmps21
  refine wp_region_held_drew (S := (fun w' => w'.cell? ⟨g + 1 + 1, 0, none⟩ = some (.func (.func 19) #[] #[.pointer (some ⟨g, 0, none⟩), .pointer (some ⟨g + 1, 0, none⟩)]))) (by kernel_rfl) ?_ (fun hHeld => ?_)
  · exact n0
  generalize W.drew = X at *
  refine Node.tk 0 ?_ rfl ?_ ?_
  rotate_left
  · intro w hSw; (try dsimp only at hSw); go_simp; try with_reducible rfl
  simp only [zA, zS, zZ, Act.put, zP, zQ, zR]
  refine Node.tk 1 ?_ rfl ?_ ?_
  rotate_left
  · intro w hSw; (try dsimp only at hSw); go_simp; try with_reducible rfl
  simp only [zA, zS, zZ, Act.put, zP, zQ, zR]
  refine Node.tk 3 ?_ rfl ?_ ?_
  rotate_left
  · intro w hSw; (try dsimp only at hSw); go_simp; try with_reducible rfl
  simp only [zA, zS, zZ, Act.put, zP, zQ, zR]
  refine Node.tk 6 ?_ rfl ?_ ?_
  rotate_left
  · intro w hSw; (try dsimp only at hSw); go_simp; try with_reducible rfl
  simp only [zA, zS, zZ, Act.put, zP, zQ, zR]
  have hgT : w.heap.size + 1 < g := TD.hg
  refine wpAnyH_ready (rs := [2, 4]) (by kernel_rfl) (by simp) ?_
  refine AllReadyH.cons rfl (fun K hK => ?_) (AllReadyH.cons rfl (fun K hK => ?_) AllReadyH.nil)
  · skip
    go_simp
    refine hK.out _ _ (by first | exact n0 | exact n1) (fun _ => ?_)
    clear hK K
    try simp only [zA, zS, zZ, Act.put, zP, zQ, zR]
    refine Node.on 4 rfl (fun K hK => ?_)
    go_simp
    refine (tnext_c w L cs g v pl l k 1 1 r X rfl HR.out TD hH hl (by omega) hk).mono ?_
    rintro e W1 ⟨rfl, T1, K1⟩
    replace K1 := K0.trans K1
    have n1 := cell_at T1.nx 0
    have y1 : W1.cell? ⟨w.heap.size + 1, j, none⟩ = some (.int .u32 zi) := by rw [cell_at T1.sh j, List.getElem?_toArray, HZ.out]
    clear TD y0 n0
    refine hK.out _ _ n1 (fun _ => ?_)
    clear hK K
    try simp only [zA, zS, zZ, Act.put, zP, zQ, zR]
    refine Node.on 5 rfl (fun K hK => ?_)
    go_simp
    refine hK.out _ _ n1 (fun _ => ?_)
    clear hK K
    try simp only [zA, zS, zZ, Act.put, zP, zQ, zR]
    refine Node.on 7 rfl (fun K hK => ?_)
    go_simp
    refine hK.out _ _ n1 (fun _ => ?_)
    clear hK K
    try simp only [zA, zS, zZ, Act.put, zP, zQ, zR]
    refine Node.on 8 rfl (fun K hK => ?_)
    go_simp
    refine hK.out _ _ n1 (fun _ => ?_)
    clear hK K
    try simp only [zA, zS, zZ, Act.put, zP, zQ, zR]
    refine Node.on 9 rfl (fun K hK => ?_)
    go_simp
    refine hK.out _ _ n1 (fun _ => ?_)
    clear hK K
    try simp only [zA, zS, zZ, Act.put, zP, zQ, zR]
    refine Node.on 10 rfl (fun K hK => ?_)
    have f1 := free_at T1.sh j
    have T2 := T1.setS (o := j) (u := .int .u32 zr)
    replace K1 := K1.setCell (p := ⟨w.heap.size + 1, j, none⟩) (fun _ h => h.1 rfl) (.int .u32 zr)
    go_simp
    refine hK.out _ _ (cell_at T2.nx 0) (fun _ => ?_)
    clear hK K
    try simp only [zA, zS, zZ, Act.put, zP, zQ, zR]
    refine wpAnyH_done (by kernel_rfl) ?_ _
    go_end0
    exact ⟨rfl, T2, K1⟩
  · skip
    go_simp
    refine (tnext_c w L cs g v pl l k 1 1 r X rfl HR.out TD hH hl (by omega) hk).mono ?_
    rintro e W1 ⟨rfl, T1, K1⟩
    replace K1 := K0.trans K1
    have n1 := cell_at T1.nx 0
    have y1 : W1.cell? ⟨w.heap.size + 1, j, none⟩ = some (.int .u32 zi) := by rw [cell_at T1.sh j, List.getElem?_toArray, HZ.out]
    clear TD y0 n0
    refine hK.out _ _ n1 (fun _ => ?_)
    clear hK K
    try simp only [zA, zS, zZ, Act.put, zP, zQ, zR]
    refine wpAnyH_ready (rs := [2, 5]) (by kernel_rfl) (by simp) ?_
    refine AllReadyH.cons rfl (fun K hK => ?_) (AllReadyH.cons rfl (fun K hK => ?_) AllReadyH.nil)
    · skip
      go_simp
      refine hK.out _ _ (by first | exact n0 | exact n1) (fun _ => ?_)
      clear hK K
      try simp only [zA, zS, zZ, Act.put, zP, zQ, zR]
      refine Node.on 5 rfl (fun K hK => ?_)
      go_simp
      refine hK.out _ _ n1 (fun _ => ?_)
      clear hK K
      try simp only [zA, zS, zZ, Act.put, zP, zQ, zR]
      refine Node.on 7 rfl (fun K hK => ?_)
      go_simp
      refine hK.out _ _ n1 (fun _ => ?_)
      clear hK K
      try simp only [zA, zS, zZ, Act.put, zP, zQ, zR]
      refine Node.on 8 rfl (fun K hK => ?_)
      go_simp
      refine hK.out _ _ n1 (fun _ => ?_)
      clear hK K
      try simp only [zA, zS, zZ, Act.put, zP, zQ, zR]
      refine Node.on 9 rfl (fun K hK => ?_)
      go_simp
      refine hK.out _ _ n1 (fun _ => ?_)
      clear hK K
      try simp only [zA, zS, zZ, Act.put, zP, zQ, zR]
      refine Node.on 10 rfl (fun K hK => ?_)
      have f1 := free_at T1.sh j
      have T2 := T1.setS (o := j) (u := .int .u32 zr)
      replace K1 := K1.setCell (p := ⟨w.heap.size + 1, j, none⟩) (fun _ h => h.1 rfl) (.int .u32 zr)
      go_simp
      refine hK.out _ _ (cell_at T2.nx 0) (fun _ => ?_)
      clear hK K
      try simp only [zA, zS, zZ, Act.put, zP, zQ, zR]
      refine wpAnyH_done (by kernel_rfl) ?_ _
      go_end0
      exact ⟨rfl, T2, K1⟩
    · skip
      go_simp
      refine hK.out _ _ n1 (fun _ => ?_)
      clear hK K
      try simp only [zA, zS, zZ, Act.put, zP, zQ, zR]
      refine wpAnyH_ready (rs := [2, 7]) (by kernel_rfl) (by simp) ?_
      refine AllReadyH.cons rfl (fun K hK => ?_) (AllReadyH.cons rfl (fun K hK => ?_) AllReadyH.nil)
      · skip
        go_simp
        refine hK.out _ _ (by first | exact n0 | exact n1) (fun _ => ?_)
        clear hK K
        try simp only [zA, zS, zZ, Act.put, zP, zQ, zR]
        refine Node.on 7 rfl (fun K hK => ?_)
        go_simp
        refine hK.out _ _ n1 (fun _ => ?_)
        clear hK K
        try simp only [zA, zS, zZ, Act.put, zP, zQ, zR]
        refine Node.on 8 rfl (fun K hK => ?_)
        go_simp
        refine hK.out _ _ n1 (fun _ => ?_)
        clear hK K
        try simp only [zA, zS, zZ, Act.put, zP, zQ, zR]
        refine Node.on 9 rfl (fun K hK => ?_)
        go_simp
        refine hK.out _ _ n1 (fun _ => ?_)
        clear hK K
        try simp only [zA, zS, zZ, Act.put, zP, zQ, zR]
        refine Node.on 10 rfl (fun K hK => ?_)
        have f1 := free_at T1.sh j
        have T2 := T1.setS (o := j) (u := .int .u32 zr)
        replace K1 := K1.setCell (p := ⟨w.heap.size + 1, j, none⟩) (fun _ h => h.1 rfl) (.int .u32 zr)
        go_simp
        refine hK.out _ _ (cell_at T2.nx 0) (fun _ => ?_)
        clear hK K
        try simp only [zA, zS, zZ, Act.put, zP, zQ, zR]
        refine wpAnyH_done (by kernel_rfl) ?_ _
        go_end0
        exact ⟨rfl, T2, K1⟩
      · skip
        go_simp
        refine hK.out _ _ n1 (fun _ => ?_)
        clear hK K
        try simp only [zA, zS, zZ, Act.put, zP, zQ, zR]
        refine Node.on 2 rfl (fun K hK => ?_)
        go_simp
        refine hK.out _ _ (by first | exact n0 | exact n1) (fun _ => ?_)
        clear hK K
        try simp only [zA, zS, zZ, Act.put, zP, zQ, zR]
        refine Node.on 8 rfl (fun K hK => ?_)
        go_simp
        refine hK.out _ _ n1 (fun _ => ?_)
        clear hK K
        try simp only [zA, zS, zZ, Act.put, zP, zQ, zR]
        refine Node.on 9 rfl (fun K hK => ?_)
        go_simp
        refine hK.out _ _ n1 (fun _ => ?_)
        clear hK K
        try simp only [zA, zS, zZ, Act.put, zP, zQ, zR]
        refine Node.on 10 rfl (fun K hK => ?_)
        have f1 := free_at T1.sh j
        have T2 := T1.setS (o := j) (u := .int .u32 zr)
        replace K1 := K1.setCell (p := ⟨w.heap.size + 1, j, none⟩) (fun _ h => h.1 rfl) (.int .u32 zr)
        go_simp
        refine hK.out _ _ (cell_at T2.nx 0) (fun _ => ?_)
        clear hK K
        try simp only [zA, zS, zZ, Act.put, zP, zQ, zR]
        refine wpAnyH_done (by kernel_rfl) ?_ _
        go_end0
        exact ⟨rfl, T2, K1⟩
set_option maxHeartbeats 1000000 in
set_option maxRecDepth 100000 in
theorem twhich_c (w : World) (L cs : List Value) (g : Nat) (v : Value) (pl : List (BitVec 8)) (l : List Bool) (k j j2 i : Nat) (i' : Int) (z z2 : BitVec 32) (W : World) (hi' : i' = (i : Int)) (hi : i < 32) (hz : cs[j]? = some (.int .u32 z.toNat)) (hz2 : cs[j2]? = some (.int .u32 z2.toNat)) (hj : j ≠ j2) (h : TkS w L cs g v pl l k W) (hH : Bits.Holds pl l) (hl : l.length ≤ 1000000) (hk : k + 2 ≤ l.length) :
    Calls Tryz.prog 22 #[.pointer (some ⟨w.heap.size + 1, j, none⟩), .pointer (some ⟨w.heap.size + 1, j2, none⟩), .int .i64 i', .pointer (some ⟨g + 1 + 1, 0, none⟩)] W fun e W' => e = .returned (.tuple #[]) ∧ TkS w L ((cs.set j (.int .u32 (orB z i (rd l k 2 == 1)).toNat)).set j2 (.int .u32 (orB z2 i (rd l k 2 == 2)).toNat)) g v pl l (k + 2) W' ∧ Keep (fun q => q ≠ w.heap.size + 1 ∧ q ≠ g + 1) W W' := by
  subst hi'
  have i1 : (0 : Int) ≤ (i : Int) := by omega
  have i2 : (i : Int) < 32 := by omega
  have hr1 := rd_lt l k 2
  have n0 := cell_at h.nx 0
  generalize hrd : rd l k 2 = m at *
  have hor := or_b z i hi true 1 rfl
  have hor2 := or_b z2 i hi true 1 rfl
  have e0 : orB z i false = z := rfl
  have e2 : orB z2 i false = z2 := rfl
  generalize hzo : orB z i true = zo at *
  generalize hzo2 : orB z2 i true = zo2 at *
  have hset : ∀ (j : Nat) (u : Value), cs[j]? = some u → cs.set j u = cs := fun j u h => by
    obtain ⟨h1, rfl⟩ := List.getElem?_eq_some_iff.1 h
    exact List.set_getElem_self h1
  have hR0 := hset j _ hz
  have hR2 := hset j2 _ hz2
  have hz2' : ∀ u, (cs.set j u)[j2]? = some (.int .u32 z2.toNat) := fun u => by rw [List.getElem?_set_ne hj, hz2]
  obtain ⟨zi, hzi⟩ : ∃ zi : Int, zi = (z.toNat : Int) := ⟨_, rfl⟩
  obtain ⟨zi2, hzi2⟩ : ∃ zi2 : Int, zi2 = (z2.toNat : Int) := ⟨_, rfl⟩
  obtain ⟨zr, hzr⟩ : ∃ zr : Int, zr = (zo.toNat : Int) := ⟨_, rfl⟩
  obtain ⟨zr2, hzr2⟩ : ∃ zr2 : Int, zr2 = (zo2.toNat : Int) := ⟨_, rfl⟩
  have hm : m = 0 ∨ m = 1 ∨ m = 2 ∨ m = 3 := by omega
  have HD := Lib.hid hrd
  have HZZ := Lib.hid (And.intro (And.intro hz hz2) (And.intro hR0 hR2))
  have HE := Lib.hid (And.intro (And.intro hzo e0) (And.intro hzo2 e2))
  have HI := Lib.hid (And.intro (And.intro hzi hzr) (And.intro hzi2 hzr2))
  rw [← hzi, ← hzr] at hor
  rw [← hzi2, ← hzr2] at hor2
  clear hset hR0 hR2 hz hz2 hz2' hrd hzo hzo2 e0 e2 hzi hzi2 hzr hzr2
  go_enter Tryz.func22, Tryz.ntmps22
  go_wp2_with fail
  refine (tnext_c w L cs g v pl l k 2 2 (m : Int) _ rfl (by rw [HD.out]) h hH hl (by omega) hk).mono ?_
  rintro e W1 ⟨rfl, T1, K1⟩
  have TD := T1.later (Below.refl _ W1).drew
  have hy : W1.drew.cell? ⟨w.heap.size + 1, j, none⟩ = some (.int .u32 zi) := by rw [cell_at TD.sh j, List.getElem?_toArray, HZZ.out.1.1, HI.out.1.1]
  have hy2 : W1.drew.cell? ⟨w.heap.size + 1, j2, none⟩ = some (.int .u32 zi2) := by rw [cell_at TD.sh j2, List.getElem?_toArray, HZZ.out.1.2, HI.out.2.1]
  have f1 := free_at TD.sh j
  have f2 := free_at TD.sh j2
  have S1 := Lib.hid ((T1.setS (o := j) (u := .int .u32 zr)).later (Below.refl _ _).drew)
  have S2 := Lib.hid ((T1.setS (o := j2) (u := .int .u32 zr2)).later (Below.refl _ _).drew)
  have HT := Lib.hid (And.intro T1 K1)
  have HK1 := Lib.hid (K1.setCell (p := ⟨w.heap.size + 1, j, none⟩) (fun _ h => h.1 rfl) (.int .u32 zr)).drew
  have HK2 := Lib.hid (K1.setCell (p := ⟨w.heap.size + 1, j2, none⟩) (fun _ h => h.1 rfl) (.int .u32 zr2)).drew
  clear n0 h T1 TD K1
  have hor' : Go.bits .or .u32 zi (2 ^ i % 4294967296) = zr := by rw [← hor, Int.one_mul]; rfl
  have hor2' : Go.bits .or .u32 zi2 (2 ^ i % 4294967296) = zr2 := by rw [← hor2, Int.one_mul]; rfl
  clear hor hor2
  rcases hm with rfl | rfl | rfl | rfl
  · go_wp2
    go_end0
    have HT' := HT.out
    refine ⟨rfl, ?_⟩
    rw [show (0 == 1) = false from rfl, show (0 == 2) = false from rfl, HE.out.1.2, HE.out.2.2, HZZ.out.2.1, HZZ.out.2.2]
    exact HT'
  · go_wp2
    go_still_tail 7, (by kernel_rfl)
    change wpList _ _ _ _ _ W1.drew
    go_wp2
    rw [hor']
    go_end0
    have HT' := And.intro S1.out HK1.out
    refine ⟨rfl, ?_⟩
    rw [show (1 == 1) = true from rfl, show (1 == 2) = false from rfl, HE.out.2.2, HE.out.1.1, ← HI.out.1.2]
    rw [List.set_comm _ _ hj, HZZ.out.2.2]
    exact HT'
  · go_wp2
    go_still_tail 7, (by kernel_rfl)
    change wpList _ _ _ _ _ W1.drew
    go_wp2
    rw [hor2']
    go_end0
    have HT' := And.intro S2.out HK2.out
    refine ⟨rfl, ?_⟩
    rw [show (2 == 1) = false from rfl, show (2 == 2) = true from rfl, HE.out.1.2, HE.out.2.1, ← HI.out.2.2, HZZ.out.2.1]
    exact HT'
  · go_wp2
    go_end0
    have HT' := HT.out
    refine ⟨rfl, ?_⟩
    rw [show (3 == 1) = false from rfl, show (3 == 2) = false from rfl, HE.out.1.2, HE.out.2.2, HZZ.out.2.1, HZZ.out.2.2]
    exact HT'
end Go.Proofs.YtppcdmbpbbjecaaGreat
