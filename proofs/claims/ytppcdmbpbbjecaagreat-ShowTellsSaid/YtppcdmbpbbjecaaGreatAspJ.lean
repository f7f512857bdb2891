/- Routes: the contract of Signals. Nothing that was there is turned. -/
import Derived.Test.YtppcdmbpbbjecaaGreatAspH
namespace Go.Proofs.YtppcdmbpbbjecaaGreat
open List renaming getElem_toArray → zA, getElem_cons_succ → zS, getElem_cons_zero → zZ, setIfInBounds_toArray → zP, set_cons_zero → zQ, set_cons_succ → zR
open Go.RowKit Rf Mem Bv AM
attribute [local go_sem ↓] run_max2 run_min2
attribute [local go_sem] Oper.semAt_some
theorem or_pow (x : BitVec 32) (k : Nat) (h : k < 32) : Go.bits .or .u32 (x.toNat : Int) (2 ^ k % 4294967296) = ((x ||| BitVec.twoPow 32 k).toNat : Int) := by
  have e : ((2 : Int) ^ k % 4294967296) = ((BitVec.twoPow 32 k).toNat : Int) := by
    have h1 : (2 : Nat) ^ k < 4294967296 := Nat.pow_lt_pow_right (by omega) h
    rw [BitVec.toNat_twoPow, Nat.mod_eq_of_lt h1]
    have : ((2 : Int) ^ k) = ((2 ^ k : Nat) : Int) := by push_cast; rfl
    rw [this]
    generalize 2 ^ k = t at *
    omega
  rw [e]
  exact Bv.bits_or .u32 rfl x _
theorem or_wrap (x : BitVec 32) (k : Nat) (h : k < 32) : Go.bits .or .u32 (x.toNat : Int) (IntKind.u32.wrap (2 ^ k)) = ((x ||| BitVec.twoPow 32 k).toNat : Int) := by
  rw [← or_pow x k h]
  have h1 : (2 : Nat) ^ k < 4294967296 := Nat.pow_lt_pow_right (by omega) h
  have e : ((2 : Int) ^ k) = ((2 ^ k : Nat) : Int) := by push_cast; rfl
  rw [e]
  generalize 2 ^ k = t at *
  rw [show IntKind.u32.wrap (t : Int) = (t : Int) % 4294967296 from by simp [IntKind.wrap, IntKind.signed, IntKind.bits]]
theorem load_u32 (W : World) (g : Nat) (x : Value) (h : W.cell? ⟨g, 0, none⟩ = some x) : (loadVar 31 ⟨g, 0, none⟩).run Tryz.prog W = .ok x W := by simp [go_sem, h]
theorem res_u32 {fn : Func} {t : Tmp} (hf : fn.results = #[.cell t 31]) {tmps : Array Value} {W : World} {g : Nat} {x : Value} {e : TypeId} {f : Nat × Nat} (hs : tmps.getD t undef = .pointer (some ⟨g, 0, none⟩)) (hg : W.heap[g]? = some (.cells #[x] e f)) :
    (results fn tmps).run Tryz.prog W = .ok x W := by
  have hs' : tmps[t]?.getD undef = .pointer (some ⟨g, 0, none⟩) := by simpa using hs
  have c0 := cell_at hg 0
  simp only [List.getElem?_toArray, List.getElem?_cons_zero] at c0
  simp [results, hf, hs', asAddr, load_u32 W g x c0]
theorem bodyPostM_u32 {fn : Func} {R : Ending → World → Prop} {t : Tmp} (hf : fn.results = #[.cell t 31]) {tmps : Array Value} {D g : Nat} {W : World} {x : Value} {e : TypeId} {f : Nat × Nat}
    (hD : W.heap[D]? = some (.deferred (some []))) (hs : tmps.getD t undef = .pointer (some ⟨g, 0, none⟩)) (hg : (W.putObj D (.deferred none)).heap[g]? = some (.cells #[x] e f))
    (h : R (.returned x) (W.putObj D (.deferred none))) :
    bodyPostM Fence.wide 0 Tryz.prog fn R .ret { tmps := tmps, defers := [{ target := .collected D, args := #[] }] } W := by
  refine ⟨by simp, .inl ⟨_, _, rfl, run_takeDeferred hD, ?_⟩⟩
  exact ⟨_, res_u32 hf hs hg, h⟩
/-- the signals of some places -/
def sigN (sg : Nat → Int) : List Nat → BitVec 32
  | [] => 0#32
  | k :: r => sigBit true (sg k) ||| sigN sg r
theorem sigN_snoc (sg : Nat → Int) (k : Nat) : ∀ l : List Nat, sigN sg (l ++ [k]) = sigN sg l ||| sigBit true (sg k)
  | [] => by simp [sigN]
  | a :: r => by rw [List.cons_append, sigN, sigN_snoc sg k r, sigN, BitVec.or_assoc]
theorem sigN_W (cl : HeldM → Bool) (hs : List HeldM) (P : Nat → Bool) (sg : Nat → Int) (hP : ∀ (k : Nat) (h : HeldM), hs[k]? = some h → P k = cl h ∧ sg k = h.sig) : ∀ n, n ≤ hs.length → sigN sg (keptN P n) = sigW cl (hs.take n)
  | 0, _ => by simp [keptN, sigN, sigW]
  | n + 1, h => by
    obtain ⟨q, hq⟩ : ∃ q, hs[n]? = some q := ⟨_, List.getElem?_eq_getElem (by omega)⟩
    obtain ⟨h1, h2⟩ := hP n q hq
    have ih := sigN_W cl hs P sg hP n (by omega)
    rw [keptN_succ, List.take_add_one, hq, Option.toList_some, sigW_snoc, h1]
    cases hc : cl q
    · simp [ih, sigBit]
    · rw [if_pos rfl, sigN_snoc, ih, h2]
theorem keptN_mem {P : Nat → Bool} {n k : Nat} (h : k ∈ keptN P n) : k < n ∧ P k = true := by
  simp only [keptN, List.mem_filter, List.mem_range] at h; exact h
structure SInv (w W : World) (O : Nat → Prop) (x : BitVec 32) : Prop where
  g : W.heap[w.heap.size + 1 + 1 + 1]? = some (.cells #[.int .u32 x.toNat] 31 (0, 0))
  bel : Below w.heap.size w W
  o : ∀ k, O k ↔ k = w.heap.size + 1 + 1 + 1
set_option maxHeartbeats 2000000 in
set_option maxRecDepth 100000 in
theorem Signals_c (I : IM) (K L M : List Value) (vh : Value) (css : List (List Value)) (hs : List HeldM) (nx : Int) (ms : List (Int × Int × Bool)) (w : World) (hA : IMA I L M w) (hK : KerAt w K vh css hs nx ms) (hlen : hs.length ≤ 5864062014700)
    (hsm : ∀ h ∈ hs, h.needs.length ≤ 5864062014700 ∧ h.steps.length ≤ 5864062014700 ∧ h.over.length ≤ 5864062014700) :
    Calls Tryz.prog 51 #[.agg L.toArray, .agg M.toArray, .agg K.toArray] w fun e w' => e = .returned (.int .u32 (sigW (clearB I.stand I.occB I.litB) hs).toNat) ∧ Below w.heap.size w w' := by
  obtain ⟨W0, hW0⟩ : ∃ W0, (((w.alloc (.cells L.toArray 29)).alloc (.cells M.toArray 35)).alloc (.cells K.toArray 41)).alloc (.cells #[.int .u32 0] 31) = W0 := ⟨_, rfl⟩
  have B0 : Below w.heap.size w W0 := by rw [← hW0]; exact below_step (below_step (below_step (below_new _ _) (below_new _ _)) (below_new _ _)) (below_new _ _)
  have VL : W0.heap[w.heap.size]? = some (.cells L.toArray 29 (0, 0)) := by rw [← hW0]; exact old_at (old_at (old_at (new_at rfl _) _) _) _
  have VM : W0.heap[w.heap.size + 1]? = some (.cells M.toArray 35 (0, 0)) := by rw [← hW0]; exact old_at (old_at (new_at (by simp) _) _) _
  have VK : W0.heap[w.heap.size + 1 + 1]? = some (.cells K.toArray 41 (0, 0)) := by rw [← hW0]; exact old_at (new_at (by simp) _) _
  have V4 : W0.heap[w.heap.size + 1 + 1 + 1]? = some (.cells #[.int .u32 0] 31 (0, 0)) := by rw [← hW0]; exact new_at (by simp) _
  have szL := lay_size hA.f.l.len
  have szM := img_size hA.f.m.len
  have szK : (Tryz.prog.info? 41).map (·.size) = some K.length := by rw [hK.len]; kernel_rfl
  have RL := range_of VL
  have RM := range_of VM
  have RK := range_of VK
  have s4 : W0.heap.size = w.heap.size + 4 := by rw [← hW0]; simp
  have HA := Lib.hid hA
  have HK := Lib.hid hK
  clear hA hK
  refine (callsIn_wide (n := 0)).1 (callsIn_of_wp_marks Tryz.func51 rfl trivial ?_ rfl)
  refine wpIn_wide.2 ?_
  simp only [Tryz.ntmps51, List.size_toArray, List.length_cons, List.length_nil, Nat.reduceAdd, Nat.reduceSub, Array.replicate_succ, Array.replicate_zero, List.push_toArray, List.append_toArray, List.nil_append, List.cons_append]
  go_upto_region 1 with (fail)
  generalize (((w.alloc (.cells L.toArray 29)).alloc (.cells M.toArray 35)).alloc (.cells K.toArray 41)).alloc (.cells #[.int .u32 0] 31) = W0' at *
  subst hW0
  go_wp2_with (first
    | refine wpList_load_g (by rfl) 29 (.tmp 3) (by rfl) w.heap.size 0 (by rfl) L _ RL Tryz.underlying29 rfl szL ?_
    | refine wpList_load_g (by rfl) 35 (.tmp 4) (by rfl) (w.heap.size + 1) 0 (by rfl) M _ RM Tryz.underlying35 rfl szM ?_
    | refine wpList_load_g (by rfl) 41 (.tmp 5) (by rfl) (w.heap.size + 1 + 1) 0 (by rfl) K _ RK Tryz.underlying41 rfl szK ?_
    | fail)
  refine (aclear_c L M K _).mono ?_
  rintro e W1 ⟨rfl, hW1⟩
  have b1 : Below W0'.heap.size W0' W1 := by rw [← hW1]; exact below_step (below_step (below_new _ _) (below_new _ _)) (below_new _ _)
  have B1 := below_step B0 b1
  have s5 : W1.heap.size = W0'.heap.size + 3 := by rw [← hW1]; simp
  have PP : KPre w W1 (W0'.heap.size + 2) W0'.heap.size (W0'.heap.size + 1) K L M := ⟨B1, by rw [← hW1]; exact new_at (by simp) _, ⟨by rw [← hW1]; exact old_at (old_at (new_at rfl _) _) _, by rw [← hW1]; exact old_at (new_at (by simp) _) _⟩⟩
  have G6 := var_later V4 b1
  have PH := Lib.hid PP
  clear hW1 b1 RL RM RK VL VM VK V4 B0 PP
  generalize W0'.heap.size = g0 at *
  obtain ⟨P, hP⟩ : ∃ P : Nat → Bool, P = fun k => match hs[k]? with | some h => clearB I.stand I.occB I.litB h | none => false := ⟨_, rfl⟩
  obtain ⟨sg, hsg⟩ : ∃ sg : Nat → Int, sg = fun k => match hs[k]? with | some h => h.sig | none => 0 := ⟨_, rfl⟩
  have HP : Hid (∀ (k : Nat) (h : HeldM), hs[k]? = some h → P k = clearB I.stand I.occB I.litB h ∧ sg k = h.sig) := Lib.hid (fun k h hk => by rw [hP, hsg]; simp only [hk]; exact ⟨trivial, trivial⟩)
  have HS4 := Lib.hid s4
  have HS5 := Lib.hid s5
  have HSM := Lib.hid hsm
  clear hP hsg s4 s5 hsm
  go_wp2_with fail
  refine wp_iterA (xs := clL css P) (Fp := fun _ => False) (Rd := KRd w.heap.size (g0 + 2) g0 (g0 + 1)) (gf := 107) (lb := #[.pointer (some ⟨g0 + 2, 0, none⟩), .pointer (some ⟨g0, 0, none⟩), .pointer (some ⟨g0 + 1, 0, none⟩)]) rfl (enters Tryz.func107 (by kernel_rfl) rfl)
    (clear1 w I K L M vh css hs nx ms _ _ _ P HA.out HK.out hlen (fun k h hk => (HP.out k h hk).1) HSM.out) ?hps
    (fun q O W => SInv w W O (sigN sg ((keptN P css.length).take q))) (fun q => q = w.heap.size + 1 + 1 + 1)
    (fun z a W => ∃ (gp k : Nat), z = clV css k ∧ a = { tmps := #[.agg L.toArray, .agg M.toArray, .agg K.toArray, .pointer (some ⟨w.heap.size, 0, none⟩), .pointer (some ⟨w.heap.size + 1, 0, none⟩), .pointer (some ⟨w.heap.size + 1 + 1, 0, none⟩), .pointer (some ⟨w.heap.size + 1 + 1 + 1, 0, none⟩), undef, .pointer (some ⟨gp, 0, none⟩), undef, .agg L.toArray, .agg M.toArray, .agg K.toArray, .func (.func 107) #[] #[.pointer (some ⟨g0 + 2, 0, none⟩), .pointer (some ⟨g0, 0, none⟩), .pointer (some ⟨g0 + 1, 0, none⟩)], .int .i64 k, .agg (css.getD k []).toArray, undef, undef, undef, undef, undef, undef, undef, undef, undef, undef, undef, undef, undef, undef], defers := [] } ∧ W.heap[gp]? = some (.cells (css.getD k []).toArray 75 (0, 0)))
    ?hpre ?hO ?hFp ?hI ?h0 ?hR ?assign ?body ?done
  case hps => intro z hz; simp only [clL, List.mem_map] at hz; obtain ⟨p, _, rfl⟩ := hz; rfl
  case hpre => exact fun W hW => PH.out.keep (Keep.of_below (S := fun k => k < W1.heap.size) hW (fun _ h _ => h)) (fun q hq => PH.out.lt hq)
  case hO =>
    rintro q rfl
    have h4 := HS4.out
    have h5 := HS5.out
    exact ⟨by omega, id, fun h => by unfold KRd at h; omega⟩
  case hFp => rintro q ⟨⟩
  case hI =>
    rintro i O W W' ⟨h1, h2, h3⟩ hk
    have h4 := HS4.out
    have h5 := HS5.out
    exact ⟨hk.at_ h1 (.inl ((h3 _).2 rfl)), below_keep h2 hk (Nat.le_refl _) (fun q hq => .inr ⟨by omega, id⟩), h3⟩
  case h0 => exact ⟨by simpa [sigN] using G6, B1, fun _ => Iff.rfl⟩
  case hR =>
    rintro z a W l o o' hl ⟨gp, k, h1, h2, h3⟩
    refine ⟨gp, k, h1, h2, (World.putObj_heap_other ?_).trans h3⟩
    rintro rfl
    rw [hl] at h3; cases h3
  case assign =>
    intro l' z W K0 hz hK0
    simp only [clL, List.mem_map] at hz
    obtain ⟨k, hk, rfl⟩ := hz
    have hkn := (keptN_mem hk).1
    obtain ⟨cs, hcs⟩ : ∃ s, css[k]? = some s := ⟨_, List.getElem?_eq_getElem hkn⟩
    obtain ⟨q, hq⟩ : ∃ s, hs[k]? = some s := ⟨_, List.getElem?_eq_getElem (by rw [← HK.out.hs.len]; exact hkn)⟩
    have hgd : css.getD k [] = cs := by simp [List.getD, hcs]
    have hHq := HK.out.hs.at_ k cs q hcs hq
    have szS := held_size hHq.len
    have szm : (Tryz.prog.info? 75).map (·.size) = some cs.toArray.size := by simpa using szS
    have oneS : cs.toArray.all (·.oneCell') = true := all_one hHq.one
    obtain ⟨Ws, hWs, k3, k4, k2⟩ := newv (V := W) cs zHeld 75 (by rw [hHq.len]; rfl)
    have HWS := Lib.hid hWs
    have HK0 := Lib.hid hK0
    have HGD := Lib.hid hgd
    clear hWs hK0 hgd hcs hq hHq hk
    unfold clV
    rw [HGD.out]
    gi_wp2_with (first
      | (refine wpListIn_store_g rfl 75 (.tmp 8) (.tmp 15) (by rfl) W.heap.size 0 cs.toArray (by rfl) (by rfl) k2 szm oneS ?_; rw [HWS.out]))
    exact HK0.out _ _ k4 ⟨_, k, rfl, by rw [HGD.out], by rw [HGD.out]; exact k3⟩
  case body =>
    rintro l' i z O W a' hz hI ⟨gp, k, rfl, rfl, hgp⟩ hsz'
    have hi : (keptN P css.length)[i]? = some k := by
      rw [clL, List.getElem?_map] at hz
      obtain ⟨k', h1, h2⟩ := Option.map_eq_some_iff.1 hz
      have h3 : (k' : Int) = (k : Int) := by
        have := congrArg (fun x : Array Value => x.getD 0 undef) h2
        simpa [clV] using this
      rw [h1, show k' = k by omega]
    have HX : Hid ((keptN P css.length).take (i + 1) = (keptN P css.length).take i ++ [k]) := Lib.hid (by rw [List.take_add_one, hi]; rfl)
    have hkn := (keptN_mem (List.mem_of_getElem? hi)).1
    obtain ⟨cs, hcs⟩ : ∃ s, css[k]? = some s := ⟨_, List.getElem?_eq_getElem hkn⟩
    obtain ⟨q, hq⟩ : ∃ s, hs[k]? = some s := ⟨_, List.getElem?_eq_getElem (by rw [← HK.out.hs.len]; exact hkn)⟩
    have hgd : css.getD k [] = cs := by simp [List.getD, hcs]
    have hHq := HK.out.hs.at_ k cs q hcs hq
    have hsgk := (HP.out k q hq).2
    rw [hgd] at hgp
    rw [hgd]
    have x1 := cell_list hgp hHq.sig
    obtain ⟨z, hz2⟩ : ∃ z, q.sig = z := ⟨_, rfl⟩
    rw [hz2] at x1 hsgk
    have HG := Lib.hid hsgk
    obtain ⟨h1, h2, h3⟩ := hI
    have HI := Lib.hid (show Keep (fun k => ¬ O k) W W from Keep.refl _ _)
    clear hz hi hkn hcs hq hgd hHq hsgk hz2
    generalize (keptN P css.length).take i = l0 at *
    obtain ⟨x, hx⟩ : ∃ x, sigN sg l0 = x := ⟨_, rfl⟩
    rw [hx] at h1
    have HXX := Lib.hid hx
    clear hx
    by_cases c1 : 0 ≤ z
    · have q1 : decide (0 ≤ z) = true := decide_eq_true c1
      by_cases c2 : z < 12
      · have q2 : decide (z < 12) = true := decide_eq_true c2
        obtain ⟨m, rfl⟩ := Int.eq_ofNat_of_zero_le c1
        have m12 : m < 12 := by omega
        have i32 : (m : Int) < 32 := by omega
        have hnx := or_wrap x m (by omega)
        have hy : sigN sg (l0 ++ [k]) = x ||| BitVec.twoPow 32 m := by
          rw [sigN_snoc, HXX.out, HG.out]
          unfold sigBit
          rw [q1, q2]; rfl
        rw [← hy] at hnx
        have HNX := Lib.hid hnx
        have G5 : W.drew.heap[w.heap.size + 1 + 1 + 1]? = some (.cells #[.int .u32 x.toNat] 31 (0, 0)) := h1
        have T5 : Below w.heap.size w W.drew := h2.drew
        have e4 := cell_at G5 0
        have f4 := free_at G5 0
        have G6 := set_at G5 0 (.int .u32 (sigN sg (l0 ++ [k])).toNat)
        have T6 := T5.setCell (p := ⟨w.heap.size + 1 + 1 + 1, 0, none⟩) (by simp; omega) (.int .u32 (sigN sg (l0 ++ [k])).toNat)
        have HK6 := Lib.hid ((HI.out.drew).setCell (p := ⟨w.heap.size + 1 + 1 + 1, 0, none⟩) (fun _ h => h ((h3 _).2 rfl)) (.int .u32 (sigN sg (l0 ++ [k])).toNat))
        clear hnx G5 HI h1 h2 hy
        gi_wp2
        refine wpIn_region_held_round (S := (fun _ => True)) (by kernel_rfl) (by kernel_rfl) ?_ (fun hHeld => ?_)
        · trivial
        generalize W.drew = W3 at *
        refine Node.tk 1 ?_ rfl ?_ ?_
        rotate_left
        · intro w hSw; (try dsimp only at hSw); go_simp; try with_reducible rfl
        simp only [zA, zS, zZ, Act.put, zP, zQ, zR]
        refine Node.tk 2 ?_ rfl ?_ ?_
        rotate_left
        · intro w hSw; (try dsimp only at hSw); go_simp; try with_reducible rfl
        simp only [zA, zS, zZ, Act.put, zP, zQ, zR]
        refine Node.on 0 rfl (fun K hK => ?_)
        go_simp
        refine hK.out _ _ trivial (fun _ => ?_)
        clear hK K
        try simp only [zA, zS, zZ, Act.put, zP, zQ, zR]
        refine Node.tk 3 ?_ rfl ?_ ?_
        rotate_left
        · intro w hSw; (try dsimp only at hSw); go_simp; try with_reducible rfl
        simp only [zA, zS, zZ, Act.put, zP, zQ, zR]
        rw [HNX.out]
        refine Node.on 4 rfl (fun K hK => ?_)
        go_simp
        refine hK.out _ _ trivial (fun _ => ?_)
        clear hK K
        try simp only [zA, zS, zZ, Act.put, zP, zQ, zR]
        refine wpAnyH_done (by kernel_rfl) ?_ _
        simp only [nq]
        gi_wp2
        exact ⟨O, by dsimp only; rw [HX.out]; exact ⟨G6, T6, h3⟩, fun k hk => .inl hk, HK6.out⟩
      · have q2 : decide (z < 12) = false := decide_eq_false c2
        have hy : sigN sg (l0 ++ [k]) = x := by
          rw [sigN_snoc, HXX.out, HG.out]
          unfold sigBit
          rw [q2]; simp
        have HYY := Lib.hid hy
        clear hy
        gi_wp2
        exact ⟨O, by dsimp only; rw [HX.out, HYY.out]; exact ⟨h1, h2, h3⟩, fun k hk => .inl hk, HI.out⟩
    · have q1 : decide (0 ≤ z) = false := decide_eq_false c1
      have hy : sigN sg (l0 ++ [k]) = x := by
        rw [sigN_snoc, HXX.out, HG.out]
        unfold sigBit
        rw [q1]; simp
      have HYY := Lib.hid hy
      clear hy
      gi_wp2
      exact ⟨O, by dsimp only; rw [HX.out, HYY.out]; exact ⟨h1, h2, h3⟩, fun k hk => .inl hk, HI.out⟩
  case done =>
    rintro D O W ⟨h1, h2, h3⟩ hD1 hD2
    have h4 := HS4.out
    have h5 := HS5.out
    rw [clL, List.length_map, List.take_of_length_le (Nat.le_refl _)] at h1
    have d0 := cell_at h1 0
    have e0 := free_at h1 0
    have hDn : D ≠ w.heap.size + 1 + 1 + 1 := by omega
    have he : sigN sg (keptN P css.length) = sigW (clearB I.stand I.occB I.litB) hs := by
      rw [HK.out.hs.len, sigN_W _ hs P sg HP.out _ (Nat.le_refl _), List.take_of_length_le (Nat.le_refl _)]
    have HE := Lib.hid he
    clear he
    generalize sigN sg (keptN P css.length) = x at *
    go_wp2
    refine bodyPostM_u32 (t := 6) rfl (set_far hD2 hDn _) rfl ((World.putObj_heap_other (fun e => hDn e.symm)).trans (set_at h1 0 _)) ⟨by rw [HE.out], below_putObj (h2.setCell (by simp; omega) _) (by omega) _⟩
end Go.Proofs.YtppcdmbpbbjecaaGreat
