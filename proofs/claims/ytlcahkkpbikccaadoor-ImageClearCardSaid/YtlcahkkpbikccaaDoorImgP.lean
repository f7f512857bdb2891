/- Images: the contract of Mask. Nothing that was there is turned. -/
import Derived.Test.YtlcahkkpbikccaaDoorImgO
namespace Go.Proofs.YtlcahkkpbikccaaDoor
open Go.RowKit Rf Mem
attribute [local go_sem ↓] run_max2 run_min2
attribute [local go_sem] Oper.semAt_some
/-- a word whose bits below n are f's -/
def maskB (f : Nat → Bool) : Nat → BitVec 32
  | 0 => 0#32
  | n + 1 => if f n then maskB f n ||| BitVec.twoPow 32 n else maskB f n
theorem maskB_get (f : Nat → Bool) (i : Nat) : ∀ n, n ≤ 32 → (maskB f n).getLsbD i = (decide (i < n) && f i)
  | 0, _ => by simp [maskB]
  | n + 1, h => by
    have ih := maskB_get f i n (by omega)
    unfold maskB
    by_cases hf : f n
    · rw [if_pos hf, BitVec.getLsbD_or, ih, BitVec.getLsbD_twoPow]
      by_cases e : i = n
      · subst e; simp [hf]; omega
      · have : decide (n = i) = false := decide_eq_false (fun h => e h.symm)
        rw [this]
        have : decide (i < n + 1) = decide (i < n) := by rw [Bool.eq_iff_iff]; simp; omega
        rw [this]; simp
    · rw [if_neg hf, ih]
      by_cases e : i = n
      · subst e; simp [hf]
      · have : decide (i < n + 1) = decide (i < n) := by rw [Bool.eq_iff_iff]; simp; omega
        rw [this]
theorem or_pow (x : BitVec 32) (k : Nat) (h : k < 32) : Go.bits .or .u32 (x.toNat : Int) (2 ^ k % 4294967296) = ((x ||| BitVec.twoPow 32 k).toNat : Int) := by
  have e : ((2 : Int) ^ k % 4294967296) = ((BitVec.twoPow 32 k).toNat : Int) := by
    have h1 : (2 : Nat) ^ k < 4294967296 := Nat.pow_lt_pow_right (by omega) h
    rw [BitVec.toNat_twoPow, Nat.mod_eq_of_lt h1]
    have : ((2 : Int) ^ k) = ((2 ^ k : Nat) : Int) := by push_cast; rfl
    rw [this]
    generalize 2 ^ k = t at *
    omega
  rw [e]
  exact Bv.bits_or .u32 rfl x _
theorem or_wrap (x : BitVec 32) (k : Nat) (h : k < 32) : Go.bits .or .u32 (x.toNat : Int) (IntKind.u32.wrap (2 ^ k)) = ((x ||| BitVec.twoPow 32 k).toNat : Int) := by
  rw [← or_pow x k h]
  have h1 : (2 : Nat) ^ k < 4294967296 := Nat.pow_lt_pow_right (by omega) h
  have e : ((2 : Int) ^ k) = ((2 ^ k : Nat) : Int) := by push_cast; rfl
  rw [e]
  generalize 2 ^ k = t at *
  rw [show IntKind.u32.wrap (t : Int) = (t : Int) % 4294967296 from by simp [IntKind.wrap, IntKind.signed, IntKind.bits]]
theorem load_u32 (W : World) (g : Nat) (x : Value) (h : W.cell? ⟨g, 0, none⟩ = some x) : (loadVar 35 ⟨g, 0, none⟩).run Tryd.prog W = .ok x W := by simp [go_sem, h]
theorem res_u32 {fn : Func} {t : Tmp} (hf : fn.results = #[.cell t 35]) {tmps : Array Value} {W : World} {g : Nat} {x : Value} {e : TypeId} {f : Nat × Nat} (hs : tmps.getD t undef = .pointer (some ⟨g, 0, none⟩)) (hg : W.heap[g]? = some (.cells #[x] e f)) :
    (results fn tmps).run Tryd.prog W = .ok x W := by
  have hs' : tmps[t]?.getD undef = .pointer (some ⟨g, 0, none⟩) := by simpa using hs
  have c0 := cell_at hg 0
  simp only [List.getElem?_toArray, List.getElem?_cons_zero] at c0
  simp [results, hf, hs', asAddr, load_u32 W g x c0]
theorem bodyPostM_u32 {fn : Func} {R : Ending → World → Prop} {t : Tmp} (hf : fn.results = #[.cell t 35]) {tmps : Array Value} {D g : Nat} {W : World} {x : Value} {e : TypeId} {f : Nat × Nat}
    (hD : W.heap[D]? = some (.deferred (some []))) (hs : tmps.getD t undef = .pointer (some ⟨g, 0, none⟩)) (hg : (W.putObj D (.deferred none)).heap[g]? = some (.cells #[x] e f))
    (h : R (.returned x) (W.putObj D (.deferred none))) :
    bodyPostM Fence.wide 0 Tryd.prog fn R .ret { tmps := tmps, defers := [{ target := .collected D, args := #[] }] } W := by
  refine ⟨by simp, .inl ⟨_, _, rfl, run_takeDeferred hD, ?_⟩⟩
  exact ⟨_, res_u32 hf hs hg, h⟩
set_option maxHeartbeats 1000000 in
set_option maxRecDepth 100000 in
theorem Mask_c (L M : List Value) (ss : List (List Value)) (nsig : Nat) (clr st age : Int) (A A1 : Option Addr) (c c1 : Nat) (free : List Int) (occ nor rev lam : BitVec 32) (w : World) (hL : LayF L ss.length nsig clr st A c A1 c1) (hM : ImgF M age free occ nor rev lam) (hS : SecsR w (.slice A ss.length c) ss) :
    Calls Tryd.prog 17 #[.agg L.toArray, .agg M.toArray] w fun e w' => e = .returned (.int .u32 (maskB (fun i => occV ss.length occ (decide (st < age)) free clr i) (min ss.length 24)).toNat) ∧ Below w.heap.size w w' := by
  have T := Two.new w L M
  have a4 := below_new ((w.alloc (.cells L.toArray 29)).alloc (.cells M.toArray 39)) (.cells #[.int .u32 0] 35)
  have G4 : (((w.alloc (.cells L.toArray 29)).alloc (.cells M.toArray 39)).alloc (.cells #[.int .u32 0] 35)).heap[w.heap.size + 1 + 1]? = some (.cells #[.int .u32 0] 35 (0, 0)) := new_at (by simp) _
  replace T := T.later a4
  have szL := lay_size hL.len
  have szM := img_size hM.len
  have HL := Lib.hid hL
  have HM := Lib.hid hM
  obtain ⟨f, hf⟩ : ∃ f : Nat → Bool, (fun i : Nat => occV ss.length occ (decide (st < age)) free clr i) = f := ⟨_, rfl⟩
  rw [hf]
  have HF := Lib.hid hf
  obtain ⟨m, hm⟩ : ∃ m, min ss.length 24 = m := ⟨_, rfl⟩
  rw [hm]
  have HMN := Lib.hid hm
  clear hf hL hM hm
  obtain ⟨A', c', hv, hlc, hmx, hone, hcase⟩ := hS
  obtain ⟨rfl, _, rfl⟩ := Value.slice.inj hv
  obtain ⟨b, off, hA, hrows⟩ : ∃ b off, (ss.length = 0 ∨ A = some ⟨b, off, none⟩) ∧ ∀ (k : Nat) (s : List Value), ss[k]? = some s → b < w.heap.size ∧ w.rangeAt b (off + k * 11) s := by
    rcases hcase with h | ⟨b, off, rfl, h1, h2⟩
    · exact ⟨0, 0, .inl h, fun k s hk => by have := (List.getElem?_eq_some_iff.1 hk).1; omega⟩
    · exact ⟨b, off, .inr rfl, fun k s hk => ⟨h1, h2 k s hk⟩⟩
  clear hv hcase
  have RL := T.rl
  have RM := T.rm
  refine (callsIn_wide (n := 0)).1 (callsIn_of_wp_marks Tryd.func17 rfl trivial ?_ rfl)
  refine wpIn_wide.2 ?_
  simp only [Tryd.ntmps17, List.size_toArray, List.length_cons, List.length_nil, Nat.reduceAdd, Nat.reduceSub, Array.replicate_succ, Array.replicate_zero, List.push_toArray, List.append_toArray, List.nil_append, List.cons_append]
  go_upto_region 1 with (fail)
  generalize ((w.alloc (.cells L.toArray 29)).alloc (.cells M.toArray 39)).alloc (.cells #[.int .u32 0] 35) = W0 at *
  go_wp2_with (first
      | refine wpList_load_g (by rfl) 29 (.tmp 2) (by rfl) w.heap.size 0 (by rfl) L _ RL Tryd.underlying29 rfl szL ?_)
  have hg3 : w.heap.size + 3 ≤ W0.heap.size := by have := (Array.getElem?_eq_some_iff.1 G4).1; omega
  refine (sections_c L _).mono ?_
  rintro e W1 ⟨rfl, hW1⟩
  have b1 : Below W0.heap.size W0 W1 := by rw [← hW1]; exact below_new _ _
  have GL : W1.heap[W0.heap.size]? = some (.cells L.toArray 29 (0, 0)) := by rw [← hW1]; exact new_at rfl _
  have G4 := below_at b1 G4 (Array.getElem?_eq_some_iff.1 G4).1
  replace T := T.later b1
  have hgl : W0.heap.size < W1.heap.size := (Array.getElem?_eq_some_iff.1 GL).1
  generalize W0.heap.size = gl at *
  clear hW1 RL RM a4 b1
  have P0 : SPre W1 gl L b off ss := ⟨GL, fun k s hk => by
    obtain ⟨h1, h2⟩ := hrows k s hk
    exact ⟨Nat.lt_of_lt_of_le h1 T.below.size, range_below h2 T.below h1⟩⟩
  have hbw : ss.length = 0 ∨ b < w.heap.size := by
    rcases Nat.eq_zero_or_pos ss.length with h | h
    · exact .inl h
    · exact .inr (hrows 0 _ (List.getElem?_eq_getElem h)).1
  have HB := Lib.hid hbw
  have HP := Lib.hid P0
  clear hbw P0 GL hrows
  go_wp2_with fail
  refine wp_iter (xs := secL ss) (Fp := fun _ => False) (Rd := SRd gl b ss.length) (gf := 31) (lb := #[.pointer (some ⟨gl, 0, none⟩)]) rfl (enters Tryd.func31 (by kernel_rfl) rfl)
    (sections1 gl b off L ss A c hA HL.out.sec hlc hone) ?hps
    (fun q O W => W.heap[w.heap.size + 1 + 1]? = some (.cells #[.int .u32 (maskB f q).toNat] 35 (0, 0)) ∧ Two w W L M ∧ (∀ k, O k ↔ k = w.heap.size + 1 + 1)) (fun q => q = w.heap.size + 1 + 1) ?hpre ?hO ?hFp ?hI ?h0
    (fun x => { tmps := #[.agg L.toArray, .agg M.toArray, .pointer (some ⟨w.heap.size, 0, none⟩), .pointer (some ⟨w.heap.size + 1, 0, none⟩), .pointer (some ⟨w.heap.size + 1 + 1, 0, none⟩), x.getD 0 undef, .agg L.toArray, .func (.func 31) #[] #[.pointer (some ⟨gl, 0, none⟩)],
            x.getD 0 undef, x.getD 1 undef, undef, undef, undef, undef, undef, undef, undef, undef, undef], defers := [] }) ?assign ?body ?done
  case hps => intro x hx; simp only [secL, List.mem_map] at hx; obtain ⟨q, _, rfl⟩ := hx; rfl
  case hpre => exact fun W hW => HP.out.keep (Keep.of_below (S := fun k => k < W1.heap.size) hW (fun _ h _ => h)) (fun q hq => HP.out.lt hq)
  case hO =>
    rintro q rfl
    refine ⟨by omega, id, ?_⟩
    rintro (h | ⟨h1, h2⟩)
    · omega
    · have := HB.out; omega
  case hFp => rintro q ⟨⟩
  case hI =>
    rintro i O W W' ⟨h1, h2, h3⟩ hk
    have hkb : Below w.heap.size W W' := hk.below h2.below.size (fun k hk' => .inr ⟨by omega, id⟩)
    refine ⟨hk.at_ h1 (.inl ((h3 _).2 rfl)), ⟨hk.at_ h2.l (.inr ⟨by omega, id⟩), hk.at_ h2.m (.inr ⟨by omega, id⟩), h2.below.trans hkb⟩, h3⟩
  case h0 => exact ⟨G4, T, fun _ => Iff.rfl⟩
  case assign =>
    intro l' x W K hx hK
    simp only [secL, List.mem_map] at hx
    obtain ⟨q, _, rfl⟩ := hx
    unfold secV at hK ⊢
    gi_wp2
    exact hK
  case body =>
    rintro l' q x O W ho ⟨G4', T', hO'⟩ hsz'
    have hq : q < m := by have := (List.getElem?_eq_some_iff.1 ho).1; rw [secL_length] at this; have := HMN.out; omega
    rw [secL_at (by rw [HMN.out]; exact hq)] at ho
    obtain rfl := Option.some.inj ho
    have RL := T'.rl
    have RM := T'.rm
    clear ho G4 T
    unfold secV
    simp only [show ∀ y z : Value, (#[y, z] : Array Value).getD 0 undef = y from fun _ _ => rfl, show ∀ y z : Value, (#[y, z] : Array Value).getD 1 undef = z from fun _ _ => rfl]
    generalize (ss.getD q []) = sq
    gi_wp2_with (first
      | refine wpListIn_load_g rfl 29 (.tmp 2) (by rfl) w.heap.size 0 (by rfl) L _ RL Tryd.underlying29 rfl szL ?_
      | refine wpListIn_load_g rfl 39 (.tmp 3) (by rfl) (w.heap.size + 1) 0 (by rfl) M _ RM Tryd.underlying39 rfl szM ?_)
    refine ⟨trivial, rfl, (CallsIn.inRound _ (callsIn_wide.2 (Occupied_c L M ss.length nsig clr st age q A A1 c c1 free occ nor rev lam _ HL.out HM.out))).mono ?_⟩
    rintro e W2 ⟨he, b2⟩
    rw [show occV ss.length occ (decide (st < age)) free clr q = f q from congrFun HF.out q] at he
    obtain ⟨fq, hfq⟩ : ∃ fq, f q = fq := ⟨_, rfl⟩
    rw [hfq] at he
    subst he
    have HFQ := Lib.hid hfq
    have G5 := below_at b2 G4' (Array.getElem?_eq_some_iff.1 G4').1
    have T5 := T'.later b2
    have HK := Lib.hid (Keep.of_below (S := fun k => ¬ O k) b2 (fun k h _ => h))
    clear RL RM G4' T' b2 hfq
    cases fq
    · gi_wp2
      refine ⟨O, ⟨?_, T5, hO'⟩, fun k hk => .inl hk, HK.out⟩
      rw [show maskB f (q + 1) = maskB f q by rw [maskB, if_neg (by rw [HFQ.out]; simp)]]
      exact G5
    · have G5 : W2.drew.heap[w.heap.size + 1 + 1]? = some (.cells #[.int .u32 (maskB f q).toNat] 35 (0, 0)) := G5
      have T5 := T5.drew
      have HK := Lib.hid HK.out.drew
      have hq24 : (q : Int) < 32 := by have := HMN.out; omega
      have e4 := cell_at G5 0
      have f4 := free_at G5 0
      have hq32 : q < 32 := by have := HMN.out; omega
      have hnx := or_wrap (maskB f q) q hq32
      rw [show maskB f q ||| BitVec.twoPow 32 q = maskB f (q + 1) by rw [maskB, if_pos HFQ.out]] at hnx
      have HNX := Lib.hid hnx
      have G6 := set_at G5 0 (.int .u32 (maskB f (q + 1)).toNat)
      have T6 := T5.set (g := w.heap.size + 1 + 1) (by omega) 0 (.int .u32 (maskB f (q + 1)).toNat)
      have HK6 := Lib.hid ((HK.out).setCell (p := ⟨w.heap.size + 1 + 1, 0, none⟩) (fun _ h => h ((hO' _).2 rfl)) (.int .u32 (maskB f (q + 1)).toNat))
      clear hnx G5 HK
      gi_wp2
      refine wpIn_region_held_round (S := (fun _ => True)) (by kernel_rfl) (by kernel_rfl) ?_ (fun hHeld => ?_)
      · trivial
      generalize W2.drew = W3 at *
      refine wpAnyH_take (i := 1) (v := ?_) rfl (by kernel_rfl) (by kernel_rfl) (by kernel_rfl) (fun _ _ _ h => h) (Or.inl ⟨by rfl, ?_⟩) (by assumption) ?_
      rotate_left
      · intro w hSw
        try dsimp only at hSw
        go_simp
        try with_reducible rfl
      simp only [List.getElem_toArray, List.getElem_cons_succ, List.getElem_cons_zero, Act.put, List.setIfInBounds_toArray, List.set_cons_zero, List.set_cons_succ]
      refine wpAnyH_take (i := 2) (v := ?_) rfl (by kernel_rfl) (by kernel_rfl) (by kernel_rfl) (fun _ _ _ h => h) (Or.inl ⟨by rfl, ?_⟩) (by assumption) ?_
      rotate_left
      · intro w hSw
        try dsimp only at hSw
        go_simp
        try with_reducible rfl
      simp only [List.getElem_toArray, List.getElem_cons_succ, List.getElem_cons_zero, Act.put, List.setIfInBounds_toArray, List.set_cons_zero, List.set_cons_succ]
      refine wpAnyH_ready (rs := [0]) (by kernel_rfl) (by simp) ?_
      refine AllReadyH.cons rfl (fun K hK => ?_) AllReadyH.nil
      go_simp
      refine hK.out _ _ trivial (fun _ => ?_)
      clear hK K
      try simp only [List.getElem_toArray, List.getElem_cons_succ, List.getElem_cons_zero, Act.put, List.setIfInBounds_toArray, List.set_cons_zero, List.set_cons_succ]
      refine wpAnyH_take (i := 3) (v := ?_) rfl (by kernel_rfl) (by kernel_rfl) (by kernel_rfl) (fun _ _ _ h => h) (Or.inl ⟨by rfl, ?_⟩) (by assumption) ?_
      rotate_left
      · intro w hSw
        try dsimp only at hSw
        go_simp
        try with_reducible rfl
      simp only [List.getElem_toArray, List.getElem_cons_succ, List.getElem_cons_zero, Act.put, List.setIfInBounds_toArray, List.set_cons_zero, List.set_cons_succ]
      rw [HNX.out]
      refine wpAnyH_ready (rs := [4]) (by kernel_rfl) (by simp) ?_
      refine AllReadyH.cons rfl (fun K hK => ?_) AllReadyH.nil
      go_simp
      refine hK.out _ _ trivial (fun _ => ?_)
      clear hK K
      try simp only [List.getElem_toArray, List.getElem_cons_succ, List.getElem_cons_zero, Act.put, List.setIfInBounds_toArray, List.set_cons_zero, List.set_cons_succ]
      refine wpAnyH_done (by kernel_rfl) ?_ _
      simp only [nq]
      gi_wp2
      exact ⟨O, ⟨G6, T6, hO'⟩, fun k hk => .inl hk, HK6.out⟩
  case done =>
    rintro D O W ⟨G4', T', hO'⟩ hD1 hD2
    rw [secL_length, HMN.out] at G4'
    have d0 := cell_at G4' 0
    have e0 := free_at G4' 0
    have hDn : D ≠ w.heap.size + 1 + 1 := by omega
    go_wp2
    refine bodyPostM_u32 (t := 4) rfl (set_far hD2 hDn _) rfl ((World.putObj_heap_other (fun e => hDn e.symm)).trans (set_at G4' 0 _)) ⟨rfl, below_putObj (T'.below.setCell (by simp; omega) _) (by omega) _⟩
end Go.Proofs.YtlcahkkpbikccaaDoor
