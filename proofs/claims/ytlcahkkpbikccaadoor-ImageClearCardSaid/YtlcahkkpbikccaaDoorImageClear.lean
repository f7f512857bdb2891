/- ImageClear: for every argument the statement's Go text returns true and turns nothing that was there. It is proved at every argument, without a condition beyond the row. -/
import Derived.Test.YtlcahkkpbikccaaDoorTV
import Derived.Test.YtlcahkkpbikccaaDoorCards
import Derived.Test.YtlcahkkpbikccaaDoorTie
import Derived.SevenTiedAt
import Derived.Test.YtlcahkkpbikccaaDoorFrame
import Derived.Deep.RegionHeld3
import Derived.Deep.DrawnRows
namespace Go.Proofs.YtlcahkkpbikccaaDoor.imageClear
open Go.ChangeShapes Go.WideShapes Go.ChangeAt Go.RowKit Rf
attribute [local go_sem ↓] run_max2 run_min2
open Mem
/-- a layout, and an image in a variable of its own -/
structure CV (w W : World) (L : List Value) (pM : Nat) (M : List Value) : Prop where
  l : W.heap[w.heap.size]? = some (.cells L.toArray 29 (0, 0))
  m : W.heap[pM]? = some (.cells M.toArray 39 (0, 0))
  lt : w.heap.size + 1 ≤ pM
  bb : Below w.heap.size w W
  t0 : Tops w
theorem CV.t {w W : World} {L M : List Value} {pM : Nat} (h : CV w W L pM M) : Tops W := h.t0.below h.bb
theorem CV.later {w W W' : World} {L M : List Value} {pM : Nat} (h : CV w W L pM M) (b : Below W.heap.size W W') : CV w W' L pM M := ⟨var_later h.l b, var_later h.m b, h.lt, below_step h.bb b, h.t0⟩
theorem CV.drew {w W : World} {L M : List Value} {pM : Nat} (h : CV w W L pM M) : CV w W.drew L pM M := h.later (Below.refl _ W).drew
theorem CV.set {w W : World} {L M M' : List Value} {pM : Nat} (h : CV w W L pM M) (hl : M'.length = M.length) : CV w (W.setCells pM 0 M'.toArray.toList) L pM M' :=
  ⟨setCells_far (by have := h.lt; omega) _ _ h.l, by rw [setCells_at _ _ h.m, setL_all (by simp [hl])], h.lt, below_setCells (by have := h.lt; omega) _ _ h.bb, h.t0⟩
theorem setCells_other {g k : Nat} (hne : k ≠ g) : ∀ (vs : List Value) (o : Nat) {w : World}, (w.setCells g o vs).heap[k]? = w.heap[k]?
  | [], _, _ => rfl
  | v :: r, o, w => by rw [World.setCells, setCells_other hne r (o + 1)]; exact Below.heap_setCell w ⟨g, o, none⟩ v k hne
theorem occ_in {ns : Nat} {occ : BitVec 32} {stale : Bool} {free : List Int} {clr z : Int} {s : Nat} (h1 : s < ns) (h2 : s < 24) (hz : free[s]? = some z) : occV ns occ stale free clr s = (!(!stale && !occ.getLsbD s) || decide (z < clr)) := by
  unfold occV
  have e1 : decide ((s : Int) < 0) = false := decide_eq_false (by omega)
  have e2 : decide (min (ns : Int) 24 ≤ (s : Int)) = false := decide_eq_false (by omega)
  rw [e1, e2, bitV_nat occ (by omega)]
  have e3 : free.getD (s : Int).toNat 0 = z := by simp [List.getD, hz]
  rw [e3]; simp
theorem rowL_next {o : BitVec 32} {s : Bool} {free : List Int} {k : Nat} {z : Int} (hk : k < 24) (hf : free.length = 24) (hz : free[k]? = some z) (hb : 0 ≤ z ∧ z ≤ 100) : (rowL o s free 24)[k]? = some (if !s && !o.getLsbD k then z + 1 else 0) := by
  rw [rowL_at o s free hk hf, bitV_nat o (by omega)]
  have e3 : free.getD k 0 = z := by simp [List.getD, hz]
  rw [e3, rowV_val (by omega)]
  congr 1
  split
  · omega
  · rfl
abbrev Ins := BitVec 32 × BitVec 32 × BitVec 32 × BitVec 32
abbrev insV (x : Ins) : List Value := (inV x.1 x.2.1 x.2.2.1 x.2.2.2).toList
theorem ins_at {w : World} {n : Nat} {A : Option Addr} {c : Nat} {xs : List Ins} (h : SliceAt w 4 (.slice A n c) xs.length (xs.flatMap insV)) {k : Nat} {x : Ins} (hk : xs[k]? = some x) : ∃ b off, A = some ⟨b, off, none⟩ ∧ b < w.heap.size ∧ w.rangeAt b (off + k * 4) (insV x) := by
  have hlt := (List.getElem?_eq_some_iff.1 hk).1
  obtain ⟨b, off, c', hv, h1, _, h2, h3⟩ := h.pos (by omega)
  obtain ⟨rfl, _, _⟩ := Value.slice.inj hv
  refine ⟨b, off, rfl, h2, fun j v hv => ?_⟩
  have hj : j < 4 := (List.getElem?_eq_some_iff.1 hv).1
  rw [Nat.add_assoc]
  exact h3 _ v (by rw [flatMap_get (sz := 4) (fun a _ => rfl) k j hj, hk]; exact hv)
set_option maxHeartbeats 8000000 in
set_option maxRecDepth 100000 in
theorem walk (L : List Value) (kinds : List Int) (ss : List (List Value)) (lens : List Nat) (nsig nfl : Nat) (clr st : Int) (A : Option Addr) (c : Nat) (A1 : Option Addr) (c1 : Nat) (A3 : Option Addr) (c3 : Nat) (ve : Value) (s : Int) (v : Value) (tl : List Bool) (u : Value) (xs : List Ins) (w : World) (hT : Tops w)
    (hA : LayA w L kinds ss lens nsig nfl clr st A c A1 c1 A3 c3 ve) (hv : SliceAt w 1 v tl.length (bools tl)) (hu : SliceAt w 4 u xs.length (xs.flatMap insV)) :
    Calls Tryd.prog 3 #[.agg L.toArray, .int .i64 s, v, u] w fun e w' => e = .returned (.bool true) ∧ Below w.heap.size w w' := by
  obtain ⟨At, ct, rfl, _⟩ := hv.form
  obtain ⟨Au, cu, rfl, _⟩ := hu.form
  have bl := below_new w (.cells L.toArray 29)
  have GL : (w.alloc (.cells L.toArray 29)).heap[w.heap.size]? = some (.cells L.toArray 29 (0, 0)) := new_at rfl _
  have szL := lay_size hA.f.len
  have hg := hA.later bl
  obtain ⟨g, hgr⟩ : ∃ g, greatV kinds.length nsig nfl lens = g := ⟨_, rfl⟩
  have HG := Lib.hid hgr
  have hT1 := hT.below bl
  have HV := Lib.hid hv
  have HU := Lib.hid hu
  clear hgr hv hu
  go_enter Tryd.func3, Tryd.ntmps3
  go_upto_region 1 with (fail)
  generalize w.alloc (.cells L.toArray 29) = W0 at *
  have RL := range_of GL
  go_wp2_with (first
    | refine wpList_load_g (by rfl) 29 (.tmp 4) (by rfl) w.heap.size 0 (by rfl) L _ RL Tryd.underlying29 rfl szL ?_)
  refine (Great_g L kinds.length nsig nfl lens A A1 A3 c c1 c3 ve g _ HG.out.symm hA.f.sec hA.f.sig hA.ex hA.fl hg.ea).mono ?_
  rintro e W1 ⟨rfl, b⟩
  replace GL := var_later GL b
  replace hT1 := hT1.below b
  replace bl := below_step bl b
  clear RL b hg
  have wk : ∀ (W : World), Tops W → Calls Tryd.prog 6 #[] W fun e w' => e = .returned (.bool true) ∧ Below W.heap.size W w' := fun W h => wakes_c W h
  have x0 := cell_list GL hA.f.sec
  have x4 := cell_list GL hA.f.clr
  have x6 := cell_list GL hA.f.st
  rcases Bool.eq_false_or_eq_true (g || (decide (24 < (kinds.length : Int)) || (decide (s < 0) || (decide ((kinds.length : Int) ≤ s) || (decide (60 < (tl.length : Int)) || (decide (clr < 1) || (decide (1000 < clr) || (decide (st < 1) || decide (1000 < st))))))))) with hq | hq
  · have hq2 : g = true ∨ (g = false ∧ decide (24 < (kinds.length : Int)) = true) ∨ (g = false ∧ decide (24 < (kinds.length : Int)) = false ∧ decide (s < 0) = true) ∨ (g = false ∧ decide (24 < (kinds.length : Int)) = false ∧ decide (s < 0) = false ∧ decide ((kinds.length : Int) ≤ s) = true) ∨
        (g = false ∧ decide (24 < (kinds.length : Int)) = false ∧ decide (s < 0) = false ∧ decide ((kinds.length : Int) ≤ s) = false ∧ decide (60 < (tl.length : Int)) = true) ∨
        (g = false ∧ decide (24 < (kinds.length : Int)) = false ∧ decide (s < 0) = false ∧ decide ((kinds.length : Int) ≤ s) = false ∧ decide (60 < (tl.length : Int)) = false ∧ decide (clr < 1) = true) ∨
        (g = false ∧ decide (24 < (kinds.length : Int)) = false ∧ decide (s < 0) = false ∧ decide ((kinds.length : Int) ≤ s) = false ∧ decide (60 < (tl.length : Int)) = false ∧ decide (clr < 1) = false ∧ decide (1000 < clr) = true) ∨
        (g = false ∧ decide (24 < (kinds.length : Int)) = false ∧ decide (s < 0) = false ∧ decide ((kinds.length : Int) ≤ s) = false ∧ decide (60 < (tl.length : Int)) = false ∧ decide (clr < 1) = false ∧ decide (1000 < clr) = false ∧ decide (st < 1) = true) ∨
        (g = false ∧ decide (24 < (kinds.length : Int)) = false ∧ decide (s < 0) = false ∧ decide ((kinds.length : Int) ≤ s) = false ∧ decide (60 < (tl.length : Int)) = false ∧ decide (clr < 1) = false ∧ decide (1000 < clr) = false ∧ decide (st < 1) = false ∧ decide (1000 < st) = true) := by
      clear x0 x4 x6 GL wk
      revert hq
      generalize decide (24 < (kinds.length : Int)) = t1
      generalize decide (s < 0) = t2
      generalize decide ((kinds.length : Int) ≤ s) = t3
      generalize decide (60 < (tl.length : Int)) = t4
      generalize decide (clr < 1) = t5
      generalize decide (1000 < clr) = t6
      generalize decide (st < 1) = t7
      generalize decide (1000 < st) = t8
      intro hq
      cases g <;> cases t1 <;> cases t2 <;> cases t3 <;> cases t4 <;> cases t5 <;> cases t6 <;> cases t7 <;> cases t8 <;> simp at hq ⊢
    clear hq
    rcases hq2 with rfl | ⟨rfl, t1⟩ | ⟨rfl, t1, t2⟩ | ⟨rfl, t1, t2, t3⟩ | ⟨rfl, t1, t2, t3, t4⟩ | ⟨rfl, t1, t2, t3, t4, t5⟩ | ⟨rfl, t1, t2, t3, t4, t5, t6⟩ | ⟨rfl, t1, t2, t3, t4, t5, t6, t7⟩ | ⟨rfl, t1, t2, t3, t4, t5, t6, t7, t8⟩
    all_goals
      go_wp2_with fail
      refine (wk _ hT1).mono ?_
      rintro e W2 ⟨rfl, b⟩
      go_wp2
      go_ret
      exact ⟨rfl, below_step bl b⟩
  · simp only [Bool.or_eq_false_iff] at hq
    obtain ⟨rfl, t1, t2, t3, t4, t5, t6, t7, t8⟩ := hq
    go_wp2_with fail
    refine (New_c _).mono ?_
    rintro e W2 ⟨b, rfl⟩
    have hMA := newI_f
    have szA := img_size hMA.len
    have oneA := all_oneCell_toArray hMA.one
    replace GL := var_later GL b
    replace bl := below_step bl b
    obtain ⟨W3, hWs, VA, bs, ths⟩ := new_var W2 zM 39 newI (by simp [hMA.len])
    have S : CV w W3 L W2.heap.size newI := ⟨var_later GL bs, VA, by have := (Array.getElem?_eq_some_iff.1 GL).1; omega, below_step bl bs, hT⟩
    have HWS := Lib.hid hWs
    have e1 := of_decide_eq_false t1
    have e2 := of_decide_eq_false t2
    have e3 := of_decide_eq_false t3
    have e4 := of_decide_eq_false t4
    have e5 := of_decide_eq_false t5
    have e6 := of_decide_eq_false t6
    have e7 := of_decide_eq_false t7
    have e8 := of_decide_eq_false t8
    clear hWs bs b GL bl hT1 x0 x4 x6 t1 t2 t3 t4 t5 t6 t7 t8 VA
    obtain ⟨sn, rfl⟩ := Int.eq_ofNat_of_zero_le (by omega : 0 ≤ s)
    have hs1 : sn < kinds.length := by omega
    have hs2 : sn < 24 := by omega
    go_wp2_with (first
      | (refine wpList_store_mid rfl 39 (.tmp 9) (.tmp 63) (by rfl) W2.heap.size 0 newI.toArray (by rfl) (by rfl) ths (by simpa using szA) oneA ?_; rw [HWS.out]))
    generalize W2.heap.size = pM at *
    have fr0c : (List.replicate 24 (0 : Int)).all isCount = true := by decide
    have HF0 := Lib.hid fr0c
    have h0s : (List.replicate 24 (0 : Int))[sn]? = some 0 := by rw [List.getElem?_replicate, if_pos hs2]
    have HS0 := Lib.hid h0s
    have bv0 : (0 : Int) = ((0#32).toNat : Int) := rfl
    have BV0 := Lib.hid bv0
    clear fr0c h0s bv0 ths HWS oneA szA
    go_loopw [10, 11, 12, 13] (fun rowv agev occv i wr => ∃ (k : Nat) (M : List Value) (ia age row : Int) (free : List Int) (occ nor rev lam : BitVec 32), k ≤ tl.length ∧ i = .int .i64 k ∧ rowv = .int .i64 row ∧ agev = .int .i64 age ∧ occv = .int .u32 occ.toNat ∧ CV w wr L pM M ∧ ImgF M ia free occ nor rev lam ∧
      Hid ((age = -1 ∧ ia = 65535) ∨ (0 ≤ age ∧ age ≤ k ∧ ia = age)) ∧ Hid (free.all isCount = true) ∧ Hid (free[sn]? = some row) ∧ 0 ≤ row ∧ row ≤ k) (fun _ _ _ i _ => tl.length - (intOf i).toNat)
    case atStart => exact ⟨0, newI, 65535, -1, 0, _, 0#32, 0#32, 0#32, 0#32, Nat.zero_le _, rfl, rfl, rfl, rfl, S, hMA, Lib.hid (.inl ⟨rfl, rfl⟩), HF0, HS0, Int.le_refl _, by omega⟩
    case round =>
      clear S hMA HF0 HS0
      obtain ⟨k, M, ia, age, row, free, occ, nor, rev, lam, hk, rfl, rfl, rfl, rfl, S, hM, HAG, HFC, HFS, hr0, hrk⟩ := hrel
      have szM := img_size hM.len
      by_cases hlt : k < tl.length
      · obtain ⟨tb, htb⟩ : ∃ tb, tl[k]? = some tb := ⟨_, List.getElem?_eq_getElem hlt⟩
        obtain ⟨bt_, ot, ct', hvt, _, _, hbt, hct⟩ := (HV.out.later S.bb).pos (by omega)
        obtain ⟨rfl, _, rfl⟩ := Value.slice.inj hvt
        have xt := hct k (.bool tb) (by simp [bools, htb])
        have i1 : (k : Int) < (tl.length : Int) := by omega
        have hwr : IntKind.i64.wrap (row + 1) = row + 1 := IntWalk.i64_in _ (by omega)
        have hcase : (tb = true ∧ k < xs.length) ∨ (tb = true ∧ ¬ k < xs.length) ∨ tb = false := by
          cases tb
          · exact .inr (.inr rfl)
          · by_cases h : k < xs.length
            · exact .inl ⟨rfl, h⟩
            · exact .inr (.inl ⟨rfl, h⟩)
        have HTB := Lib.hid htb
        clear htb hct hvt
        have PASS : ∀ ia2, ia2 = onV ia 1 65535 → ∃ free2, free2 = rowL occ (decide (st < ia2)) free 24 ∧ free2.all isCount = true ∧ free2[sn]? = some (if !decide (st < ia2) && !occ.getLsbD sn then row + 1 else 0) := fun ia2 _ => ⟨_, rfl, rowL_right _ _ _ _, rowL_next hs2 hM.fl HFS.out (by omega)⟩
        have HPASS := Lib.hid PASS
        clear PASS
        · rcases hcase with ⟨rfl, hx⟩ | ⟨rfl, hx⟩ | rfl
          · obtain ⟨x, hxk⟩ : ∃ x, xs[k]? = some x := ⟨_, List.getElem?_eq_getElem hx⟩
            obtain ⟨o, n, r, l⟩ := x
            obtain ⟨bi, oi, rfl, hbi, hri⟩ := ins_at (HU.out.later (S.drew).bb) hxk
            have i2 : (k : Int) < (xs.length : Int) := by omega
            have q2 : decide (k < xs.length) = true := decide_eq_true hx
            have hrr : (k : Int) < 9223372036854775807 := by omega
            go_upto_region 10 with (fail)
            have SD := S.drew
            have hag := HAG.out
            have f2 := rowL_next (o := o) (s := decide (st < 0)) hs2 hM.fl HFS.out (by omega)
            have HF2 := Lib.hid f2
            have hbm : bi ≠ pM := fun e => by
              obtain ⟨b', o', hA', hb', _⟩ := ins_at HU.out hxk
              obtain ⟨rfl, _⟩ := Addr.mk.inj (Option.some.inj hA')
              have := S.lt
              omega
            clear f2 hag
            refine wp_region_held_drew (S := (fun w' => w'.rangeAt w.heap.size 0 L ∧ w'.rangeAt bi (oi + k * 4) (insV (o, n, r, l)))) (by kernel_rfl) ?_ (fun hHeld => ?_)
            · exact ⟨range_of SD.l, hri⟩
            generalize wr.drew = V0 at *
            refine wpAnyH_take (i := 0) (v := .agg (L : List Value).toArray) rfl (by kernel_rfl) (by kernel_rfl) (by kernel_rfl) (fun _ _ _ h => h) (yieldsIf_load_mid rfl 29 (.tmp 4) rfl (w.heap.size) 0 rfl L _ (fun w' h => h.1) (by first | exact Tryd.underlying29) rfl (by first | assumption | (simp only [*]; kernel_rfl))) (by assumption) ?_
            simp only [List.getElem_toArray, List.getElem_cons_succ, List.getElem_cons_zero, Act.put, List.setIfInBounds_toArray, List.set_cons_zero, List.set_cons_succ]
            refine wpAnyH_take (i := 2) (v := ?_) rfl (by kernel_rfl) (by kernel_rfl) (by kernel_rfl) (fun _ _ _ h => h) (Or.inl ⟨by rfl, ?_⟩) (by assumption) ?_
            rotate_left
            · intro w hSw
              try dsimp only at hSw
              go_simp
              try with_reducible rfl
            simp only [List.getElem_toArray, List.getElem_cons_succ, List.getElem_cons_zero, Act.put, List.setIfInBounds_toArray, List.set_cons_zero, List.set_cons_succ]
            refine wpAnyH_take (i := 3) (v := ?_) rfl (by kernel_rfl) (by kernel_rfl) (by kernel_rfl) (fun _ _ _ h => h) (Or.inl ⟨by rfl, ?_⟩) (by assumption) ?_
            rotate_left
            · intro w hSw
              try dsimp only at hSw
              go_simp
              try with_reducible rfl
            simp only [List.getElem_toArray, List.getElem_cons_succ, List.getElem_cons_zero, Act.put, List.setIfInBounds_toArray, List.set_cons_zero, List.set_cons_succ]
            refine wpAnyH_take (i := 4) (v := ?_) rfl (by kernel_rfl) (by kernel_rfl) (by kernel_rfl) (fun _ _ _ h => h) (Or.inl ⟨by rfl, ?_⟩) (by assumption) ?_
            rotate_left
            · intro w hSw
              try dsimp only at hSw
              go_simp
              try with_reducible rfl
            simp only [List.getElem_toArray, List.getElem_cons_succ, List.getElem_cons_zero, Act.put, List.setIfInBounds_toArray, List.set_cons_zero, List.set_cons_succ]
            refine wpAnyH_take (i := 5) (v := .agg ((insV (o, n, r, l)) : List Value).toArray) rfl (by kernel_rfl) (by kernel_rfl) (by kernel_rfl) (fun _ _ _ h => h) (yieldsIf_load_mid rfl 37 (.tmp 84) rfl (bi) (oi + k * 4) rfl (insV (o, n, r, l)) _ (fun w' h => h.2) (by first | exact Tryd.underlying37) rfl (by first | assumption | (simp only [*]; kernel_rfl) | kernel_rfl)) (by assumption) ?_
            simp only [List.getElem_toArray, List.getElem_cons_succ, List.getElem_cons_zero, Act.put, List.setIfInBounds_toArray, List.set_cons_zero, List.set_cons_succ]
            refine wpAnyH_ready (rs := [1]) (by kernel_rfl) (by simp) ?_
            refine AllReadyH.cons rfl (fun K hK => ?_) AllReadyH.nil
            refine wp_load_mid 39 (.tmp 9) (by rfl) pM 0 (by rfl) M _ (range_of SD.m) Tryd.underlying39 rfl szM ?_
            refine hK.out _ _ ⟨range_of SD.l, hri⟩ (fun _ => ?_)
            clear hK K
            try simp only [List.getElem_toArray, List.getElem_cons_succ, List.getElem_cons_zero, Act.put, List.setIfInBounds_toArray, List.set_cons_zero, List.set_cons_succ]
            obtain ⟨free2, hfree2⟩ : ∃ free2, free2 = rowL o (decide (st < 0)) free 24 := ⟨_, rfl⟩
            refine wpAnyH_ready (rs := [6]) (by kernel_rfl) (by simp) ?_
            refine AllReadyH.cons rfl (fun K hK => ?_) AllReadyH.nil
            go_simp
            refine (Take_g L M kinds.length nsig clr st ia A A1 c c1 free free2 occ nor rev lam o n r l _ hfree2 SD.t hA.f hM).mono ?_
            rintro e V1 ⟨b, M2, rfl, hM2⟩
            refine hK.out _ _ ?_ (fun hHeld => ?_)
            · exact ⟨range_of (SD.later b).l, fun j v hv => (b.cell (p := ⟨bi, _, none⟩) hbi).trans (hri j v hv)⟩
            clear hK K
            replace SD := SD.later b
            have hbi2 : bi < V1.heap.size := Nat.lt_of_lt_of_le hbi b.size
            replace hri : V1.rangeAt bi (oi + k * 4) (insV (o, n, r, l)) := fun j v hv => (b.cell (p := ⟨bi, _, none⟩) hbi).trans (hri j v hv)
            clear b
            try simp only [List.getElem_toArray, List.getElem_cons_succ, List.getElem_cons_zero, Act.put, List.setIfInBounds_toArray, List.set_cons_zero, List.set_cons_succ]
            refine wpAnyH_ready (rs := [7]) (by kernel_rfl) (by simp) ?_
            refine AllReadyH.cons rfl (fun K hK => ?_) AllReadyH.nil
            have th : V1.there pM 0 M2.toArray.size := there_of SD.m 0 _ (by simp [hM.len, hM2.len])
            refine wp_store_mid 39 (.tmp 9) (.tmp 86) (by rfl) pM 0 M2.toArray (by rfl) (by rfl) th (by simpa using img_size hM2.len) (all_oneCell_toArray hM2.one) ?_
            have bi2 : bi ≠ pM := hbm
            replace S := SD.set (M' := M2) (by rw [hM.len, hM2.len])
            have hri2 : (V1.setCells pM 0 M2.toArray.toList).rangeAt bi (oi + k * 4) (insV (o, n, r, l)) := fun j v hv => (World.cell?_of_block (a := ⟨bi, _, none⟩) (setCells_other bi2 _ _)).trans (hri j v hv)
            clear th SD hri
            generalize V1.setCells pM 0 M2.toArray.toList = W6 at *
            refine hK.out _ _ ⟨range_of S.l, hri2⟩ (fun _ => ?_)
            clear hK K
            try simp only [List.getElem_toArray, List.getElem_cons_succ, List.getElem_cons_zero, Act.put, List.setIfInBounds_toArray, List.set_cons_zero, List.set_cons_succ]
            refine wpAnyH_done (by kernel_rfl) ?_ _
            have HF2S : Hid (free2[sn]? = some (if !decide (st < 0) && !o.getLsbD sn then row + 1 else 0)) := Lib.hid (by rw [hfree2]; exact HF2.out)
            have HF2C : Hid (free2.all isCount = true) := Lib.hid (by rw [hfree2]; exact rowL_right _ _ _ _)
            have HRI : Hid (true = rightI free2 0) := Lib.hid (by rw [rightI, HF2C.out]; rfl)
            have hsb : decide (st < 0) = false := decide_eq_false (by omega)
            have HSB := Lib.hid hsb
            rw [hsb] at HF2S
            have xo : W6.cell? ⟨bi, oi + k * 4, none⟩ = some (.int .u32 o.toNat) := hri2 0 _ rfl
            clear hfree2 HF2 hri2
            have x6 := cell_list S.l hA.f.st
            have hlow := low32 o sn
            obtain ⟨bt, hbt2⟩ : ∃ bt, o.getLsbD sn = bt := ⟨_, rfl⟩
            rw [hbt2] at hlow HF2S
            have HBT := Lib.hid hbt2
            clear hbt2
            cases bt
            · obtain ⟨q, hq⟩ : ∃ q, decide (row + 1 < clr) = q := ⟨_, rfl⟩
              have HQ := Lib.hid hq
              replace HF2S : Hid (free2[sn]? = some (row + 1)) := Lib.hid (by simpa using HF2S.out)
              have HOC : Hid (q = occV kinds.length o (decide (st < 0)) free2 clr sn) := Lib.hid (by rw [occ_in hs1 hs2 HF2S.out, HSB.out, HBT.out, HQ.out]; simp)
              cases q
              · go_wp2_with fail
                have SD := S.drew
                have szM2 := img_size hM2.len
                have hS : ∀ {W : World}, CV w W L pM M2 → W.rangeAt w.heap.size 0 L ∧ W.rangeAt pM 0 M2 ∧ W.cell? ⟨w.heap.size, 4, none⟩ = some (.int .i64 clr) := fun S => ⟨range_of S.l, range_of S.m, cell_list S.l hA.f.clr⟩
                refine wp_region_held_drew (S := (fun w' => w'.rangeAt w.heap.size 0 L ∧ w'.rangeAt pM 0 M2 ∧ w'.cell? ⟨w.heap.size, 4, none⟩ = some (.int .i64 clr))) (by kernel_rfl) ?_ (fun hHeld => ?_)
                · exact hS SD
                generalize W6.drew = V3 at *
                refine wpAnyH_take (i := 0) (v := .agg (L : List Value).toArray) rfl (by kernel_rfl) (by kernel_rfl) (by kernel_rfl) (fun _ _ _ h => h) (yieldsIf_load_mid rfl 29 (.tmp 4) rfl (w.heap.size) 0 rfl L _ (fun w' h => h.1) (by first | exact Tryd.underlying29) rfl (by first | assumption | (simp only [*]; kernel_rfl))) (by assumption) ?_
                simp only [List.getElem_toArray, List.getElem_cons_succ, List.getElem_cons_zero, Act.put, List.setIfInBounds_toArray, List.set_cons_zero, List.set_cons_succ]
                refine wpAnyH_take (i := 1) (v := .agg (M2 : List Value).toArray) rfl (by kernel_rfl) (by kernel_rfl) (by kernel_rfl) (fun _ _ _ h => h) (yieldsIf_load_mid rfl 39 (.tmp 9) rfl (pM) 0 rfl M2 _ (fun w' h => h.2.1) (by first | exact Tryd.underlying39) rfl (by first | assumption | (simp only [*]; kernel_rfl))) (by assumption) ?_
                simp only [List.getElem_toArray, List.getElem_cons_succ, List.getElem_cons_zero, Act.put, List.setIfInBounds_toArray, List.set_cons_zero, List.set_cons_succ]
                refine wpAnyH_take (i := 2) (v := ?_) rfl (by kernel_rfl) (by kernel_rfl) (by kernel_rfl) (fun _ _ _ h => h) (Or.inl ⟨by rfl, ?_⟩) (by assumption) ?_
                rotate_left
                · intro w hSw
                  try dsimp only at hSw
                  go_simp
                  try with_reducible rfl
                simp only [List.getElem_toArray, List.getElem_cons_succ, List.getElem_cons_zero, Act.put, List.setIfInBounds_toArray, List.set_cons_zero, List.set_cons_succ]
                refine wpAnyH_take (i := 4) (v := ?_) rfl (by kernel_rfl) (by kernel_rfl) (by kernel_rfl) (fun _ _ _ h => h) (Or.inl ⟨by rfl, ?_⟩) (by assumption) ?_
                rotate_left
                · intro w hSw
                  try dsimp only at hSw
                  go_simp
                  try with_reducible rfl
                simp only [List.getElem_toArray, List.getElem_cons_succ, List.getElem_cons_zero, Act.put, List.setIfInBounds_toArray, List.set_cons_zero, List.set_cons_succ]
                refine wpAnyH_take (i := 5) (v := ?_) rfl (by kernel_rfl) (by kernel_rfl) (by kernel_rfl) (fun _ _ _ h => h) (Or.inl ⟨by rfl, ?_⟩) (by assumption) ?_
                rotate_left
                · intro w hSw
                  try dsimp only at hSw
                  go_simp
                  try with_reducible rfl
                simp only [List.getElem_toArray, List.getElem_cons_succ, List.getElem_cons_zero, Act.put, List.setIfInBounds_toArray, List.set_cons_zero, List.set_cons_succ]
                refine wpAnyH_take (i := 6) (v := ?_) rfl (by kernel_rfl) (by kernel_rfl) (by kernel_rfl) (fun _ _ _ h => h) (Or.inl ⟨by rfl, ?_⟩) (by assumption) ?_
                rotate_left
                · intro w hSw
                  try dsimp only at hSw
                  go_simp
                  try with_reducible rfl
                simp only [List.getElem_toArray, List.getElem_cons_succ, List.getElem_cons_zero, Act.put, List.setIfInBounds_toArray, List.set_cons_zero, List.set_cons_succ]
                refine wpAnyH_take (i := 7) (v := ?_) rfl (by kernel_rfl) (by kernel_rfl) (by kernel_rfl) (fun _ _ _ h => h) (Or.inl ⟨by rfl, ?_⟩) (by assumption) ?_
                rotate_left
                · intro w hSw
                  try dsimp only at hSw
                  go_simp
                  try with_reducible rfl
                simp only [List.getElem_toArray, List.getElem_cons_succ, List.getElem_cons_zero, Act.put, List.setIfInBounds_toArray, List.set_cons_zero, List.set_cons_succ]
                refine wpAnyH_take (i := 8) (v := ?_) rfl (by kernel_rfl) (by kernel_rfl) (by kernel_rfl) (fun _ _ _ h => h) (Or.inl ⟨by rfl, ?_⟩) (by assumption) ?_
                rotate_left
                · intro w hSw
                  try dsimp only at hSw
                  go_simp
                  try with_reducible rfl
                simp only [List.getElem_toArray, List.getElem_cons_succ, List.getElem_cons_zero, Act.put, List.setIfInBounds_toArray, List.set_cons_zero, List.set_cons_succ]
                refine wpAnyH_ready (rs := [3]) (by kernel_rfl) (by simp) ?_
                refine AllReadyH.cons rfl (fun K hK => ?_) AllReadyH.nil
                go_simp
                refine (Occupied_g L M2 kinds.length nsig clr st 0 sn A A1 c c1 free2 o n r l false _ HOC.out hA.f hM2).mono ?_
                rintro e V4 ⟨rfl, b⟩
                refine hK.out _ _ ?_ (fun hHeld => ?_)
                · exact hS (SD.later b)
                clear hK K
                replace SD := SD.later b
                clear b
                try simp only [List.getElem_toArray, List.getElem_cons_succ, List.getElem_cons_zero, Act.put, List.setIfInBounds_toArray, List.set_cons_zero, List.set_cons_succ]
                refine wpAnyH_take (i := 9) (v := ?_) rfl (by kernel_rfl) (by kernel_rfl) (by kernel_rfl) (fun _ _ _ h => h) (Or.inl ⟨by rfl, ?_⟩) (by assumption) ?_
                rotate_left
                · intro w hSw
                  try dsimp only at hSw
                  go_simp
                  try with_reducible rfl
                simp only [List.getElem_toArray, List.getElem_cons_succ, List.getElem_cons_zero, Act.put, List.setIfInBounds_toArray, List.set_cons_zero, List.set_cons_succ]
                refine wpAnyH_take (i := 10) (v := ?_) rfl (by kernel_rfl) (by kernel_rfl) (by kernel_rfl) (fun _ _ _ h => h) (Or.inl ⟨by rfl, ?_⟩) (by assumption) ?_
                rotate_left
                · intro w hSw
                  try dsimp only at hSw
                  go_simp
                  try with_reducible rfl
                simp only [List.getElem_toArray, List.getElem_cons_succ, List.getElem_cons_zero, Act.put, List.setIfInBounds_toArray, List.set_cons_zero, List.set_cons_succ]
                refine wpAnyH_take (i := 11) (v := .agg (M2 : List Value).toArray) rfl (by kernel_rfl) (by kernel_rfl) (by kernel_rfl) (fun _ _ _ h => h) (yieldsIf_load_mid rfl 39 (.tmp 9) rfl (pM) 0 rfl M2 _ (fun w' h => h.2.1) (by first | exact Tryd.underlying39) rfl (by first | assumption | (simp only [*]; kernel_rfl))) (by assumption) ?_
                simp only [List.getElem_toArray, List.getElem_cons_succ, List.getElem_cons_zero, Act.put, List.setIfInBounds_toArray, List.set_cons_zero, List.set_cons_succ]
                refine wpAnyH_ready (rs := [12]) (by kernel_rfl) (by simp) ?_
                refine AllReadyH.cons rfl (fun K hK => ?_) AllReadyH.nil
                go_simp
                refine (Right_g M2 0 free2 o n r l true _ HRI.out SD.t hM2).mono ?_
                rintro e V5 ⟨rfl, b⟩
                refine hK.out _ _ ?_ (fun hHeld => ?_)
                · exact hS (SD.later b)
                clear hK K
                replace SD := SD.later b
                clear b
                try simp only [List.getElem_toArray, List.getElem_cons_succ, List.getElem_cons_zero, Act.put, List.setIfInBounds_toArray, List.set_cons_zero, List.set_cons_succ]
                refine wpAnyH_take (i := 13) (v := ?_) rfl (by kernel_rfl) (by kernel_rfl) (by kernel_rfl) (fun _ _ _ h => h) (Or.inl ⟨by rfl, ?_⟩) (by assumption) ?_
                rotate_left
                · intro w hSw
                  try dsimp only at hSw
                  go_simp
                  try with_reducible rfl
                simp only [List.getElem_toArray, List.getElem_cons_succ, List.getElem_cons_zero, Act.put, List.setIfInBounds_toArray, List.set_cons_zero, List.set_cons_succ]
                refine wpAnyH_take (i := 14) (v := ?_) rfl (by kernel_rfl) (by kernel_rfl) (by kernel_rfl) (fun _ _ _ h => h) (Or.inl ⟨by rfl, ?_⟩) (by assumption) ?_
                rotate_left
                · intro w hSw
                  try dsimp only at hSw
                  go_simp
                  try with_reducible rfl
                simp only [List.getElem_toArray, List.getElem_cons_succ, List.getElem_cons_zero, Act.put, List.setIfInBounds_toArray, List.set_cons_zero, List.set_cons_succ]
                refine wpAnyH_done (by kernel_rfl) ?_ _
                go_wp2
                go_roundw
                case rel => exact ⟨k + 1, M2, 0, 0, (row + 1), free2, o, n, r, l, by omega, by go_num, rfl, rfl, rfl, SD, hM2, Lib.hid (.inr ⟨Int.le_refl _, by omega, rfl⟩), HF2C, HF2S, by omega, by omega⟩
                case measure => simp [intOf]; omega
              · go_wp2_with fail
                have SD := S.drew
                have szM2 := img_size hM2.len
                have hS : ∀ {W : World}, CV w W L pM M2 → W.rangeAt w.heap.size 0 L ∧ W.rangeAt pM 0 M2 ∧ W.cell? ⟨w.heap.size, 4, none⟩ = some (.int .i64 clr) := fun S => ⟨range_of S.l, range_of S.m, cell_list S.l hA.f.clr⟩
                refine wp_region_held_drew (S := (fun w' => w'.rangeAt w.heap.size 0 L ∧ w'.rangeAt pM 0 M2 ∧ w'.cell? ⟨w.heap.size, 4, none⟩ = some (.int .i64 clr))) (by kernel_rfl) ?_ (fun hHeld => ?_)
                · exact hS SD
                generalize W6.drew = V3 at *
                refine wpAnyH_take (i := 0) (v := .agg (L : List Value).toArray) rfl (by kernel_rfl) (by kernel_rfl) (by kernel_rfl) (fun _ _ _ h => h) (yieldsIf_load_mid rfl 29 (.tmp 4) rfl (w.heap.size) 0 rfl L _ (fun w' h => h.1) (by first | exact Tryd.underlying29) rfl (by first | assumption | (simp only [*]; kernel_rfl))) (by assumption) ?_
                simp only [List.getElem_toArray, List.getElem_cons_succ, List.getElem_cons_zero, Act.put, List.setIfInBounds_toArray, List.set_cons_zero, List.set_cons_succ]
                refine wpAnyH_take (i := 1) (v := .agg (M2 : List Value).toArray) rfl (by kernel_rfl) (by kernel_rfl) (by kernel_rfl) (fun _ _ _ h => h) (yieldsIf_load_mid rfl 39 (.tmp 9) rfl (pM) 0 rfl M2 _ (fun w' h => h.2.1) (by first | exact Tryd.underlying39) rfl (by first | assumption | (simp only [*]; kernel_rfl))) (by assumption) ?_
                simp only [List.getElem_toArray, List.getElem_cons_succ, List.getElem_cons_zero, Act.put, List.setIfInBounds_toArray, List.set_cons_zero, List.set_cons_succ]
                refine wpAnyH_take (i := 2) (v := ?_) rfl (by kernel_rfl) (by kernel_rfl) (by kernel_rfl) (fun _ _ _ h => h) (Or.inl ⟨by rfl, ?_⟩) (by assumption) ?_
                rotate_left
                · intro w hSw
                  try dsimp only at hSw
                  go_simp
                  try with_reducible rfl
                simp only [List.getElem_toArray, List.getElem_cons_succ, List.getElem_cons_zero, Act.put, List.setIfInBounds_toArray, List.set_cons_zero, List.set_cons_succ]
                refine wpAnyH_take (i := 4) (v := ?_) rfl (by kernel_rfl) (by kernel_rfl) (by kernel_rfl) (fun _ _ _ h => h) (Or.inl ⟨by rfl, ?_⟩) (by assumption) ?_
                rotate_left
                · intro w hSw
                  try dsimp only at hSw
                  go_simp
                  try with_reducible rfl
                simp only [List.getElem_toArray, List.getElem_cons_succ, List.getElem_cons_zero, Act.put, List.setIfInBounds_toArray, List.set_cons_zero, List.set_cons_succ]
                refine wpAnyH_take (i := 5) (v := ?_) rfl (by kernel_rfl) (by kernel_rfl) (by kernel_rfl) (fun _ _ _ h => h) (Or.inl ⟨by rfl, ?_⟩) (by assumption) ?_
                rotate_left
                · intro w hSw
                  try dsimp only at hSw
                  go_simp
                  try with_reducible rfl
                simp only [List.getElem_toArray, List.getElem_cons_succ, List.getElem_cons_zero, Act.put, List.setIfInBounds_toArray, List.set_cons_zero, List.set_cons_succ]
                refine wpAnyH_take (i := 6) (v := ?_) rfl (by kernel_rfl) (by kernel_rfl) (by kernel_rfl) (fun _ _ _ h => h) (Or.inl ⟨by rfl, ?_⟩) (by assumption) ?_
                rotate_left
                · intro w hSw
                  try dsimp only at hSw
                  go_simp
                  try with_reducible rfl
                simp only [List.getElem_toArray, List.getElem_cons_succ, List.getElem_cons_zero, Act.put, List.setIfInBounds_toArray, List.set_cons_zero, List.set_cons_succ]
                refine wpAnyH_take (i := 7) (v := ?_) rfl (by kernel_rfl) (by kernel_rfl) (by kernel_rfl) (fun _ _ _ h => h) (Or.inl ⟨by rfl, ?_⟩) (by assumption) ?_
                rotate_left
                · intro w hSw
                  try dsimp only at hSw
                  go_simp
                  try with_reducible rfl
                simp only [List.getElem_toArray, List.getElem_cons_succ, List.getElem_cons_zero, Act.put, List.setIfInBounds_toArray, List.set_cons_zero, List.set_cons_succ]
                refine wpAnyH_take (i := 8) (v := ?_) rfl (by kernel_rfl) (by kernel_rfl) (by kernel_rfl) (fun _ _ _ h => h) (Or.inl ⟨by rfl, ?_⟩) (by assumption) ?_
                rotate_left
                · intro w hSw
                  try dsimp only at hSw
                  go_simp
                  try with_reducible rfl
                simp only [List.getElem_toArray, List.getElem_cons_succ, List.getElem_cons_zero, Act.put, List.setIfInBounds_toArray, List.set_cons_zero, List.set_cons_succ]
                refine wpAnyH_ready (rs := [3]) (by kernel_rfl) (by simp) ?_
                refine AllReadyH.cons rfl (fun K hK => ?_) AllReadyH.nil
                go_simp
                refine (Occupied_g L M2 kinds.length nsig clr st 0 sn A A1 c c1 free2 o n r l true _ HOC.out hA.f hM2).mono ?_
                rintro e V4 ⟨rfl, b⟩
                refine hK.out _ _ ?_ (fun hHeld => ?_)
                · exact hS (SD.later b)
                clear hK K
                replace SD := SD.later b
                clear b
                try simp only [List.getElem_toArray, List.getElem_cons_succ, List.getElem_cons_zero, Act.put, List.setIfInBounds_toArray, List.set_cons_zero, List.set_cons_succ]
                refine wpAnyH_take (i := 9) (v := ?_) rfl (by kernel_rfl) (by kernel_rfl) (by kernel_rfl) (fun _ _ _ h => h) (Or.inl ⟨by rfl, ?_⟩) (by assumption) ?_
                rotate_left
                · intro w hSw
                  try dsimp only at hSw
                  go_simp
                  try with_reducible rfl
                simp only [List.getElem_toArray, List.getElem_cons_succ, List.getElem_cons_zero, Act.put, List.setIfInBounds_toArray, List.set_cons_zero, List.set_cons_succ]
                refine wpAnyH_take (i := 10) (v := ?_) rfl (by kernel_rfl) (by kernel_rfl) (by kernel_rfl) (fun _ _ _ h => h) (Or.inl ⟨by rfl, ?_⟩) (by assumption) ?_
                rotate_left
                · intro w hSw
                  try dsimp only at hSw
                  go_simp
                  try with_reducible rfl
                simp only [List.getElem_toArray, List.getElem_cons_succ, List.getElem_cons_zero, Act.put, List.setIfInBounds_toArray, List.set_cons_zero, List.set_cons_succ]
                refine wpAnyH_take (i := 11) (v := .agg (M2 : List Value).toArray) rfl (by kernel_rfl) (by kernel_rfl) (by kernel_rfl) (fun _ _ _ h => h) (yieldsIf_load_mid rfl 39 (.tmp 9) rfl (pM) 0 rfl M2 _ (fun w' h => h.2.1) (by first | exact Tryd.underlying39) rfl (by first | assumption | (simp only [*]; kernel_rfl))) (by assumption) ?_
                simp only [List.getElem_toArray, List.getElem_cons_succ, List.getElem_cons_zero, Act.put, List.setIfInBounds_toArray, List.set_cons_zero, List.set_cons_succ]
                refine wpAnyH_ready (rs := [12]) (by kernel_rfl) (by simp) ?_
                refine AllReadyH.cons rfl (fun K hK => ?_) AllReadyH.nil
                go_simp
                refine (Right_g M2 0 free2 o n r l true _ HRI.out SD.t hM2).mono ?_
                rintro e V5 ⟨rfl, b⟩
                refine hK.out _ _ ?_ (fun hHeld => ?_)
                · exact hS (SD.later b)
                clear hK K
                replace SD := SD.later b
                clear b
                try simp only [List.getElem_toArray, List.getElem_cons_succ, List.getElem_cons_zero, Act.put, List.setIfInBounds_toArray, List.set_cons_zero, List.set_cons_succ]
                refine wpAnyH_take (i := 13) (v := ?_) rfl (by kernel_rfl) (by kernel_rfl) (by kernel_rfl) (fun _ _ _ h => h) (Or.inl ⟨by rfl, ?_⟩) (by assumption) ?_
                rotate_left
                · intro w hSw
                  try dsimp only at hSw
                  go_simp
                  try with_reducible rfl
                simp only [List.getElem_toArray, List.getElem_cons_succ, List.getElem_cons_zero, Act.put, List.setIfInBounds_toArray, List.set_cons_zero, List.set_cons_succ]
                refine wpAnyH_take (i := 14) (v := ?_) rfl (by kernel_rfl) (by kernel_rfl) (by kernel_rfl) (fun _ _ _ h => h) (Or.inl ⟨by rfl, ?_⟩) (by assumption) ?_
                rotate_left
                · intro w hSw
                  try dsimp only at hSw
                  go_simp
                  try with_reducible rfl
                simp only [List.getElem_toArray, List.getElem_cons_succ, List.getElem_cons_zero, Act.put, List.setIfInBounds_toArray, List.set_cons_zero, List.set_cons_succ]
                refine wpAnyH_done (by kernel_rfl) ?_ _
                go_wp2
                go_roundw
                case rel => exact ⟨k + 1, M2, 0, 0, (row + 1), free2, o, n, r, l, by omega, by go_num, rfl, rfl, rfl, SD, hM2, Lib.hid (.inr ⟨Int.le_refl _, by omega, rfl⟩), HF2C, HF2S, by omega, by omega⟩
                case measure => simp [intOf]; omega
            · have hq0 : decide (0 < clr) = true := decide_eq_true (by omega)
              replace HF2S : Hid (free2[sn]? = some 0) := Lib.hid (by simpa using HF2S.out)
              have HOC : Hid (true = occV kinds.length o (decide (st < 0)) free2 clr sn) := Lib.hid (by rw [occ_in hs1 hs2 HF2S.out, HSB.out, HBT.out]; simp)
              go_wp2_with fail
              have SD := S.drew
              have szM2 := img_size hM2.len
              have hS : ∀ {W : World}, CV w W L pM M2 → W.rangeAt w.heap.size 0 L ∧ W.rangeAt pM 0 M2 ∧ W.cell? ⟨w.heap.size, 4, none⟩ = some (.int .i64 clr) := fun S => ⟨range_of S.l, range_of S.m, cell_list S.l hA.f.clr⟩
              refine wp_region_held_drew (S := (fun w' => w'.rangeAt w.heap.size 0 L ∧ w'.rangeAt pM 0 M2 ∧ w'.cell? ⟨w.heap.size, 4, none⟩ = some (.int .i64 clr))) (by kernel_rfl) ?_ (fun hHeld => ?_)
              · exact hS SD
              generalize W6.drew = V3 at *
              refine wpAnyH_take (i := 0) (v := .agg (L : List Value).toArray) rfl (by kernel_rfl) (by kernel_rfl) (by kernel_rfl) (fun _ _ _ h => h) (yieldsIf_load_mid rfl 29 (.tmp 4) rfl (w.heap.size) 0 rfl L _ (fun w' h => h.1) (by first | exact Tryd.underlying29) rfl (by first | assumption | (simp only [*]; kernel_rfl))) (by assumption) ?_
              simp only [List.getElem_toArray, List.getElem_cons_succ, List.getElem_cons_zero, Act.put, List.setIfInBounds_toArray, List.set_cons_zero, List.set_cons_succ]
              refine wpAnyH_take (i := 1) (v := .agg (M2 : List Value).toArray) rfl (by kernel_rfl) (by kernel_rfl) (by kernel_rfl) (fun _ _ _ h => h) (yieldsIf_load_mid rfl 39 (.tmp 9) rfl (pM) 0 rfl M2 _ (fun w' h => h.2.1) (by first | exact Tryd.underlying39) rfl (by first | assumption | (simp only [*]; kernel_rfl))) (by assumption) ?_
              simp only [List.getElem_toArray, List.getElem_cons_succ, List.getElem_cons_zero, Act.put, List.setIfInBounds_toArray, List.set_cons_zero, List.set_cons_succ]
              refine wpAnyH_take (i := 2) (v := ?_) rfl (by kernel_rfl) (by kernel_rfl) (by kernel_rfl) (fun _ _ _ h => h) (Or.inl ⟨by rfl, ?_⟩) (by assumption) ?_
              rotate_left
              · intro w hSw
                try dsimp only at hSw
                go_simp
                try with_reducible rfl
              simp only [List.getElem_toArray, List.getElem_cons_succ, List.getElem_cons_zero, Act.put, List.setIfInBounds_toArray, List.set_cons_zero, List.set_cons_succ]
              refine wpAnyH_take (i := 4) (v := ?_) rfl (by kernel_rfl) (by kernel_rfl) (by kernel_rfl) (fun _ _ _ h => h) (Or.inl ⟨by rfl, ?_⟩) (by assumption) ?_
              rotate_left
              · intro w hSw
                try dsimp only at hSw
                go_simp
                try with_reducible rfl
              simp only [List.getElem_toArray, List.getElem_cons_succ, List.getElem_cons_zero, Act.put, List.setIfInBounds_toArray, List.set_cons_zero, List.set_cons_succ]
              refine wpAnyH_take (i := 5) (v := ?_) rfl (by kernel_rfl) (by kernel_rfl) (by kernel_rfl) (fun _ _ _ h => h) (Or.inl ⟨by rfl, ?_⟩) (by assumption) ?_
              rotate_left
              · intro w hSw
                try dsimp only at hSw
                go_simp
                try with_reducible rfl
              simp only [List.getElem_toArray, List.getElem_cons_succ, List.getElem_cons_zero, Act.put, List.setIfInBounds_toArray, List.set_cons_zero, List.set_cons_succ]
              refine wpAnyH_take (i := 6) (v := ?_) rfl (by kernel_rfl) (by kernel_rfl) (by kernel_rfl) (fun _ _ _ h => h) (Or.inl ⟨by rfl, ?_⟩) (by assumption) ?_
              rotate_left
              · intro w hSw
                try dsimp only at hSw
                go_simp
                try with_reducible rfl
              simp only [List.getElem_toArray, List.getElem_cons_succ, List.getElem_cons_zero, Act.put, List.setIfInBounds_toArray, List.set_cons_zero, List.set_cons_succ]
              refine wpAnyH_take (i := 7) (v := ?_) rfl (by kernel_rfl) (by kernel_rfl) (by kernel_rfl) (fun _ _ _ h => h) (Or.inl ⟨by rfl, ?_⟩) (by assumption) ?_
              rotate_left
              · intro w hSw
                try dsimp only at hSw
                go_simp
                try with_reducible rfl
              simp only [List.getElem_toArray, List.getElem_cons_succ, List.getElem_cons_zero, Act.put, List.setIfInBounds_toArray, List.set_cons_zero, List.set_cons_succ]
              refine wpAnyH_take (i := 8) (v := ?_) rfl (by kernel_rfl) (by kernel_rfl) (by kernel_rfl) (fun _ _ _ h => h) (Or.inl ⟨by rfl, ?_⟩) (by assumption) ?_
              rotate_left
              · intro w hSw
                try dsimp only at hSw
                go_simp
                try with_reducible rfl
              simp only [List.getElem_toArray, List.getElem_cons_succ, List.getElem_cons_zero, Act.put, List.setIfInBounds_toArray, List.set_cons_zero, List.set_cons_succ]
              refine wpAnyH_ready (rs := [3]) (by kernel_rfl) (by simp) ?_
              refine AllReadyH.cons rfl (fun K hK => ?_) AllReadyH.nil
              go_simp
              refine (Occupied_g L M2 kinds.length nsig clr st 0 sn A A1 c c1 free2 o n r l true _ HOC.out hA.f hM2).mono ?_
              rintro e V4 ⟨rfl, b⟩
              refine hK.out _ _ ?_ (fun hHeld => ?_)
              · exact hS (SD.later b)
              clear hK K
              replace SD := SD.later b
              clear b
              try simp only [List.getElem_toArray, List.getElem_cons_succ, List.getElem_cons_zero, Act.put, List.setIfInBounds_toArray, List.set_cons_zero, List.set_cons_succ]
              refine wpAnyH_take (i := 9) (v := ?_) rfl (by kernel_rfl) (by kernel_rfl) (by kernel_rfl) (fun _ _ _ h => h) (Or.inl ⟨by rfl, ?_⟩) (by assumption) ?_
              rotate_left
              · intro w hSw
                try dsimp only at hSw
                go_simp
                try with_reducible rfl
              simp only [List.getElem_toArray, List.getElem_cons_succ, List.getElem_cons_zero, Act.put, List.setIfInBounds_toArray, List.set_cons_zero, List.set_cons_succ]
              refine wpAnyH_take (i := 10) (v := ?_) rfl (by kernel_rfl) (by kernel_rfl) (by kernel_rfl) (fun _ _ _ h => h) (Or.inl ⟨by rfl, ?_⟩) (by assumption) ?_
              rotate_left
              · intro w hSw
                try dsimp only at hSw
                go_simp
                try with_reducible rfl
              simp only [List.getElem_toArray, List.getElem_cons_succ, List.getElem_cons_zero, Act.put, List.setIfInBounds_toArray, List.set_cons_zero, List.set_cons_succ]
              refine wpAnyH_take (i := 11) (v := .agg (M2 : List Value).toArray) rfl (by kernel_rfl) (by kernel_rfl) (by kernel_rfl) (fun _ _ _ h => h) (yieldsIf_load_mid rfl 39 (.tmp 9) rfl (pM) 0 rfl M2 _ (fun w' h => h.2.1) (by first | exact Tryd.underlying39) rfl (by first | assumption | (simp only [*]; kernel_rfl))) (by assumption) ?_
              simp only [List.getElem_toArray, List.getElem_cons_succ, List.getElem_cons_zero, Act.put, List.setIfInBounds_toArray, List.set_cons_zero, List.set_cons_succ]
              refine wpAnyH_ready (rs := [12]) (by kernel_rfl) (by simp) ?_
              refine AllReadyH.cons rfl (fun K hK => ?_) AllReadyH.nil
              go_simp
              refine (Right_g M2 0 free2 o n r l true _ HRI.out SD.t hM2).mono ?_
              rintro e V5 ⟨rfl, b⟩
              refine hK.out _ _ ?_ (fun hHeld => ?_)
              · exact hS (SD.later b)
              clear hK K
              replace SD := SD.later b
              clear b
              try simp only [List.getElem_toArray, List.getElem_cons_succ, List.getElem_cons_zero, Act.put, List.setIfInBounds_toArray, List.set_cons_zero, List.set_cons_succ]
              refine wpAnyH_take (i := 13) (v := ?_) rfl (by kernel_rfl) (by kernel_rfl) (by kernel_rfl) (fun _ _ _ h => h) (Or.inl ⟨by rfl, ?_⟩) (by assumption) ?_
              rotate_left
              · intro w hSw
                try dsimp only at hSw
                go_simp
                try with_reducible rfl
              simp only [List.getElem_toArray, List.getElem_cons_succ, List.getElem_cons_zero, Act.put, List.setIfInBounds_toArray, List.set_cons_zero, List.set_cons_succ]
              refine wpAnyH_take (i := 14) (v := ?_) rfl (by kernel_rfl) (by kernel_rfl) (by kernel_rfl) (fun _ _ _ h => h) (Or.inl ⟨by rfl, ?_⟩) (by assumption) ?_
              rotate_left
              · intro w hSw
                try dsimp only at hSw
                go_simp
                try with_reducible rfl
              simp only [List.getElem_toArray, List.getElem_cons_succ, List.getElem_cons_zero, Act.put, List.setIfInBounds_toArray, List.set_cons_zero, List.set_cons_succ]
              refine wpAnyH_done (by kernel_rfl) ?_ _
              go_wp2
              go_roundw
              case rel => exact ⟨k + 1, M2, 0, 0, 0, free2, o, n, r, l, by omega, by go_num, rfl, rfl, rfl, SD, hM2, Lib.hid (.inr ⟨Int.le_refl _, by omega, rfl⟩), HF2C, HF2S, by omega, by omega⟩
              case measure => simp [intOf]; omega
          · have q2 : decide (k < xs.length) = false := decide_eq_false hx
            rcases HAG.out with ⟨rfl, rfl⟩ | ⟨ha0, hak, hia⟩
            · obtain ⟨free2, hfree2, hfc, hfs⟩ := HPASS.out 65535 (by decide)
              have hia2 : (65535 : Int) = onV 65535 1 65535 := by decide
              have HF2C := Lib.hid hfc
              have HF2S := Lib.hid hfs
              have hsb : decide (st < 65535) = true := decide_eq_true (by omega)
              rw [hsb] at HF2S
              have HSB := Lib.hid hsb
              clear hfc hfs hsb
              go_wp2_with (first
                | refine wpList_load_g (by rfl) 29 (.tmp 4) (by rfl) w.heap.size 0 (by rfl) L _ (range_of S.l) Tryd.underlying29 rfl szL ?_
                | refine wpList_load_g (by rfl) 39 (.tmp 9) (by rfl) pM 0 (by rfl) M _ (range_of S.m) Tryd.underlying39 rfl szM ?_)
              refine (Pass_g L M kinds.length nsig clr st 65535 65535 A A1 c c1 free free2 occ nor rev lam _ hia2 hfree2 S.t hA.f hM).mono ?_
              rintro e W5 ⟨b, M2, rfl, hM2⟩
              replace S := S.later b
              clear b
              have th : W5.there pM 0 M2.toArray.size := there_of S.m 0 _ (by simp [hM.len, hM2.len])
              have szm := img_size hM2.len
              have one2 := all_oneCell_toArray hM2.one
              replace S := S.set (M' := M2) (by rw [hM.len, hM2.len])
              obtain ⟨W6, hW6⟩ : ∃ W6, W5.setCells pM 0 M2.toArray.toList = W6 := ⟨_, rfl⟩
              rw [hW6] at S
              have HW6 := Lib.hid hW6
              have HRI : Hid (true = rightI free2 65535) := Lib.hid (by rw [rightI, HF2C.out, Bool.true_and]; exact ((isCount_iff _).2 (by omega)).symm)
              clear hia2 hfree2 hW6
              have x6 := cell_list S.l hA.f.st
              have hq0 : decide (0 < clr) = true := decide_eq_true (by omega)
              replace HF2S : Hid (free2[sn]? = some 0) := Lib.hid (by simpa using HF2S.out)
              have HOC : Hid (true = occV kinds.length occ (decide (st < 65535)) free2 clr sn) := Lib.hid (by rw [occ_in hs1 hs2 HF2S.out, HSB.out]; simp)
              go_wp2_with (first
                | (refine wpList_store_mid rfl 39 (.tmp 9) (.tmp 94) (by rfl) pM 0 M2.toArray (by rfl) (by rfl) th (by simpa using szm) one2 ?_; rw [HW6.out]))
              have SD := S.drew
              have szM2 := img_size hM2.len
              have hS : ∀ {W : World}, CV w W L pM M2 → W.rangeAt w.heap.size 0 L ∧ W.rangeAt pM 0 M2 ∧ W.cell? ⟨w.heap.size, 4, none⟩ = some (.int .i64 clr) := fun S => ⟨range_of S.l, range_of S.m, cell_list S.l hA.f.clr⟩
              refine wp_region_held_drew (S := (fun w' => w'.rangeAt w.heap.size 0 L ∧ w'.rangeAt pM 0 M2 ∧ w'.cell? ⟨w.heap.size, 4, none⟩ = some (.int .i64 clr))) (by kernel_rfl) ?_ (fun hHeld => ?_)
              · exact hS SD
              generalize W6.drew = V3 at *
              refine wpAnyH_take (i := 0) (v := .agg (L : List Value).toArray) rfl (by kernel_rfl) (by kernel_rfl) (by kernel_rfl) (fun _ _ _ h => h) (yieldsIf_load_mid rfl 29 (.tmp 4) rfl (w.heap.size) 0 rfl L _ (fun w' h => h.1) (by first | exact Tryd.underlying29) rfl (by first | assumption | (simp only [*]; kernel_rfl))) (by assumption) ?_
              simp only [List.getElem_toArray, List.getElem_cons_succ, List.getElem_cons_zero, Act.put, List.setIfInBounds_toArray, List.set_cons_zero, List.set_cons_succ]
              refine wpAnyH_take (i := 1) (v := .agg (M2 : List Value).toArray) rfl (by kernel_rfl) (by kernel_rfl) (by kernel_rfl) (fun _ _ _ h => h) (yieldsIf_load_mid rfl 39 (.tmp 9) rfl (pM) 0 rfl M2 _ (fun w' h => h.2.1) (by first | exact Tryd.underlying39) rfl (by first | assumption | (simp only [*]; kernel_rfl))) (by assumption) ?_
              simp only [List.getElem_toArray, List.getElem_cons_succ, List.getElem_cons_zero, Act.put, List.setIfInBounds_toArray, List.set_cons_zero, List.set_cons_succ]
              refine wpAnyH_take (i := 2) (v := ?_) rfl (by kernel_rfl) (by kernel_rfl) (by kernel_rfl) (fun _ _ _ h => h) (Or.inl ⟨by rfl, ?_⟩) (by assumption) ?_
              rotate_left
              · intro w hSw
                try dsimp only at hSw
                go_simp
                try with_reducible rfl
              simp only [List.getElem_toArray, List.getElem_cons_succ, List.getElem_cons_zero, Act.put, List.setIfInBounds_toArray, List.set_cons_zero, List.set_cons_succ]
              refine wpAnyH_take (i := 4) (v := ?_) rfl (by kernel_rfl) (by kernel_rfl) (by kernel_rfl) (fun _ _ _ h => h) (Or.inl ⟨by rfl, ?_⟩) (by assumption) ?_
              rotate_left
              · intro w hSw
                try dsimp only at hSw
                go_simp
                try with_reducible rfl
              simp only [List.getElem_toArray, List.getElem_cons_succ, List.getElem_cons_zero, Act.put, List.setIfInBounds_toArray, List.set_cons_zero, List.set_cons_succ]
              refine wpAnyH_take (i := 5) (v := ?_) rfl (by kernel_rfl) (by kernel_rfl) (by kernel_rfl) (fun _ _ _ h => h) (Or.inl ⟨by rfl, ?_⟩) (by assumption) ?_
              rotate_left
              · intro w hSw
                try dsimp only at hSw
                go_simp
                try with_reducible rfl
              simp only [List.getElem_toArray, List.getElem_cons_succ, List.getElem_cons_zero, Act.put, List.setIfInBounds_toArray, List.set_cons_zero, List.set_cons_succ]
              refine wpAnyH_take (i := 6) (v := ?_) rfl (by kernel_rfl) (by kernel_rfl) (by kernel_rfl) (fun _ _ _ h => h) (Or.inl ⟨by rfl, ?_⟩) (by assumption) ?_
              rotate_left
              · intro w hSw
                try dsimp only at hSw
                go_simp
                try with_reducible rfl
              simp only [List.getElem_toArray, List.getElem_cons_succ, List.getElem_cons_zero, Act.put, List.setIfInBounds_toArray, List.set_cons_zero, List.set_cons_succ]
              refine wpAnyH_take (i := 7) (v := ?_) rfl (by kernel_rfl) (by kernel_rfl) (by kernel_rfl) (fun _ _ _ h => h) (Or.inl ⟨by rfl, ?_⟩) (by assumption) ?_
              rotate_left
              · intro w hSw
                try dsimp only at hSw
                go_simp
                try with_reducible rfl
              simp only [List.getElem_toArray, List.getElem_cons_succ, List.getElem_cons_zero, Act.put, List.setIfInBounds_toArray, List.set_cons_zero, List.set_cons_succ]
              refine wpAnyH_take (i := 8) (v := ?_) rfl (by kernel_rfl) (by kernel_rfl) (by kernel_rfl) (fun _ _ _ h => h) (Or.inl ⟨by rfl, ?_⟩) (by assumption) ?_
              rotate_left
              · intro w hSw
                try dsimp only at hSw
                go_simp
                try with_reducible rfl
              simp only [List.getElem_toArray, List.getElem_cons_succ, List.getElem_cons_zero, Act.put, List.setIfInBounds_toArray, List.set_cons_zero, List.set_cons_succ]
              refine wpAnyH_ready (rs := [3]) (by kernel_rfl) (by simp) ?_
              refine AllReadyH.cons rfl (fun K hK => ?_) AllReadyH.nil
              go_simp
              refine (Occupied_g L M2 kinds.length nsig clr st 65535 sn A A1 c c1 free2 occ nor rev lam true _ HOC.out hA.f hM2).mono ?_
              rintro e V4 ⟨rfl, b⟩
              refine hK.out _ _ ?_ (fun hHeld => ?_)
              · exact hS (SD.later b)
              clear hK K
              replace SD := SD.later b
              clear b
              try simp only [List.getElem_toArray, List.getElem_cons_succ, List.getElem_cons_zero, Act.put, List.setIfInBounds_toArray, List.set_cons_zero, List.set_cons_succ]
              refine wpAnyH_take (i := 9) (v := ?_) rfl (by kernel_rfl) (by kernel_rfl) (by kernel_rfl) (fun _ _ _ h => h) (Or.inl ⟨by rfl, ?_⟩) (by assumption) ?_
              rotate_left
              · intro w hSw
                try dsimp only at hSw
                go_simp
                try with_reducible rfl
              simp only [List.getElem_toArray, List.getElem_cons_succ, List.getElem_cons_zero, Act.put, List.setIfInBounds_toArray, List.set_cons_zero, List.set_cons_succ]
              refine wpAnyH_take (i := 10) (v := ?_) rfl (by kernel_rfl) (by kernel_rfl) (by kernel_rfl) (fun _ _ _ h => h) (Or.inl ⟨by rfl, ?_⟩) (by assumption) ?_
              rotate_left
              · intro w hSw
                try dsimp only at hSw
                go_simp
                try with_reducible rfl
              simp only [List.getElem_toArray, List.getElem_cons_succ, List.getElem_cons_zero, Act.put, List.setIfInBounds_toArray, List.set_cons_zero, List.set_cons_succ]
              refine wpAnyH_take (i := 11) (v := .agg (M2 : List Value).toArray) rfl (by kernel_rfl) (by kernel_rfl) (by kernel_rfl) (fun _ _ _ h => h) (yieldsIf_load_mid rfl 39 (.tmp 9) rfl (pM) 0 rfl M2 _ (fun w' h => h.2.1) (by first | exact Tryd.underlying39) rfl (by first | assumption | (simp only [*]; kernel_rfl))) (by assumption) ?_
              simp only [List.getElem_toArray, List.getElem_cons_succ, List.getElem_cons_zero, Act.put, List.setIfInBounds_toArray, List.set_cons_zero, List.set_cons_succ]
              refine wpAnyH_ready (rs := [12]) (by kernel_rfl) (by simp) ?_
              refine AllReadyH.cons rfl (fun K hK => ?_) AllReadyH.nil
              go_simp
              refine (Right_g M2 65535 free2 occ nor rev lam true _ HRI.out SD.t hM2).mono ?_
              rintro e V5 ⟨rfl, b⟩
              refine hK.out _ _ ?_ (fun hHeld => ?_)
              · exact hS (SD.later b)
              clear hK K
              replace SD := SD.later b
              clear b
              try simp only [List.getElem_toArray, List.getElem_cons_succ, List.getElem_cons_zero, Act.put, List.setIfInBounds_toArray, List.set_cons_zero, List.set_cons_succ]
              refine wpAnyH_take (i := 13) (v := ?_) rfl (by kernel_rfl) (by kernel_rfl) (by kernel_rfl) (fun _ _ _ h => h) (Or.inl ⟨by rfl, ?_⟩) (by assumption) ?_
              rotate_left
              · intro w hSw
                try dsimp only at hSw
                go_simp
                try with_reducible rfl
              simp only [List.getElem_toArray, List.getElem_cons_succ, List.getElem_cons_zero, Act.put, List.setIfInBounds_toArray, List.set_cons_zero, List.set_cons_succ]
              refine wpAnyH_take (i := 14) (v := ?_) rfl (by kernel_rfl) (by kernel_rfl) (by kernel_rfl) (fun _ _ _ h => h) (Or.inl ⟨by rfl, ?_⟩) (by assumption) ?_
              rotate_left
              · intro w hSw
                try dsimp only at hSw
                go_simp
                try with_reducible rfl
              simp only [List.getElem_toArray, List.getElem_cons_succ, List.getElem_cons_zero, Act.put, List.setIfInBounds_toArray, List.set_cons_zero, List.set_cons_succ]
              refine wpAnyH_done (by kernel_rfl) ?_ _
              go_wp2
              go_roundw
              case rel => exact ⟨k + 1, M2, 65535, (-1), 0, free2, occ, nor, rev, lam, by omega, by go_num, rfl, rfl, rfl, SD, hM2, Lib.hid (.inl ⟨rfl, rfl⟩), HF2C, HF2S, by omega, by omega⟩
              case measure => simp [intOf]; omega
            · replace hia := hia.symm
              subst hia
              have hia2 : age + 1 = onV age 1 65535 := by rw [onV_val (by omega)]; omega
              obtain ⟨free2, hfree2, hfc, hfs⟩ := HPASS.out (age + 1) hia2
              have HF2C := Lib.hid hfc
              have HF2S := Lib.hid hfs
              have qa : decide (0 ≤ age) = true := decide_eq_true ha0
              have qb : decide (age + 1 < 0) = false := decide_eq_false (by omega)
              have hwa : IntKind.i64.wrap (age + 1) = age + 1 := IntWalk.i64_in _ (by omega)
              clear hfc hfs
              go_wp2_with (first
                | refine wpList_load_g (by rfl) 29 (.tmp 4) (by rfl) w.heap.size 0 (by rfl) L _ (range_of S.l) Tryd.underlying29 rfl szL ?_
                | refine wpList_load_g (by rfl) 39 (.tmp 9) (by rfl) pM 0 (by rfl) M _ (range_of S.m) Tryd.underlying39 rfl szM ?_)
              refine (Pass_g L M kinds.length nsig clr st age (age + 1) A A1 c c1 free free2 occ nor rev lam _ hia2 hfree2 S.t hA.f hM).mono ?_
              rintro e W5 ⟨b, M2, rfl, hM2⟩
              replace S := S.later b
              clear b
              have th : W5.there pM 0 M2.toArray.size := there_of S.m 0 _ (by simp [hM.len, hM2.len])
              have szm := img_size hM2.len
              have one2 := all_oneCell_toArray hM2.one
              replace S := S.set (M' := M2) (by rw [hM.len, hM2.len])
              obtain ⟨W6, hW6⟩ : ∃ W6, W5.setCells pM 0 M2.toArray.toList = W6 := ⟨_, rfl⟩
              rw [hW6] at S
              have HW6 := Lib.hid hW6
              have HRI : Hid (true = rightI free2 (age + 1)) := Lib.hid (by rw [rightI, HF2C.out, Bool.true_and]; exact ((isCount_iff _).2 (by omega)).symm)
              clear hia2 hfree2 hW6
              have x6 := cell_list S.l hA.f.st
              obtain ⟨sb, hsb⟩ : ∃ sb, decide (st < age + 1) = sb := ⟨_, rfl⟩
              rw [hsb] at HF2S
              have HSB := Lib.hid hsb
              cases sb
              · have hlow := low32 occ sn
                obtain ⟨bt, hbt2⟩ : ∃ bt, occ.getLsbD sn = bt := ⟨_, rfl⟩
                rw [hbt2] at hlow HF2S
                have HBT := Lib.hid hbt2
                clear hbt2
                cases bt
                · obtain ⟨q, hq⟩ : ∃ q, decide (row + 1 < clr) = q := ⟨_, rfl⟩
                  have HQ := Lib.hid hq
                  replace HF2S : Hid (free2[sn]? = some (row + 1)) := Lib.hid (by simpa using HF2S.out)
                  have HOC : Hid (q = occV kinds.length occ (decide (st < (age + 1))) free2 clr sn) := Lib.hid (by rw [occ_in hs1 hs2 HF2S.out, HSB.out, HBT.out, HQ.out]; simp)
                  cases q
                  · go_wp2_with (first
                  | (refine wpList_store_mid rfl 39 (.tmp 9) (.tmp 94) (by rfl) pM 0 M2.toArray (by rfl) (by rfl) th (by simpa using szm) one2 ?_; rw [HW6.out]))
                    have SD := S.drew
                    have szM2 := img_size hM2.len
                    have hS : ∀ {W : World}, CV w W L pM M2 → W.rangeAt w.heap.size 0 L ∧ W.rangeAt pM 0 M2 ∧ W.cell? ⟨w.heap.size, 4, none⟩ = some (.int .i64 clr) := fun S => ⟨range_of S.l, range_of S.m, cell_list S.l hA.f.clr⟩
                    refine wp_region_held_drew (S := (fun w' => w'.rangeAt w.heap.size 0 L ∧ w'.rangeAt pM 0 M2 ∧ w'.cell? ⟨w.heap.size, 4, none⟩ = some (.int .i64 clr))) (by kernel_rfl) ?_ (fun hHeld => ?_)
                    · exact hS SD
                    generalize W6.drew = V3 at *
                    refine wpAnyH_take (i := 0) (v := .agg (L : List Value).toArray) rfl (by kernel_rfl) (by kernel_rfl) (by kernel_rfl) (fun _ _ _ h => h) (yieldsIf_load_mid rfl 29 (.tmp 4) rfl (w.heap.size) 0 rfl L _ (fun w' h => h.1) (by first | exact Tryd.underlying29) rfl (by first | assumption | (simp only [*]; kernel_rfl))) (by assumption) ?_
                    simp only [List.getElem_toArray, List.getElem_cons_succ, List.getElem_cons_zero, Act.put, List.setIfInBounds_toArray, List.set_cons_zero, List.set_cons_succ]
                    refine wpAnyH_take (i := 1) (v := .agg (M2 : List Value).toArray) rfl (by kernel_rfl) (by kernel_rfl) (by kernel_rfl) (fun _ _ _ h => h) (yieldsIf_load_mid rfl 39 (.tmp 9) rfl (pM) 0 rfl M2 _ (fun w' h => h.2.1) (by first | exact Tryd.underlying39) rfl (by first | assumption | (simp only [*]; kernel_rfl))) (by assumption) ?_
                    simp only [List.getElem_toArray, List.getElem_cons_succ, List.getElem_cons_zero, Act.put, List.setIfInBounds_toArray, List.set_cons_zero, List.set_cons_succ]
                    refine wpAnyH_take (i := 2) (v := ?_) rfl (by kernel_rfl) (by kernel_rfl) (by kernel_rfl) (fun _ _ _ h => h) (Or.inl ⟨by rfl, ?_⟩) (by assumption) ?_
                    rotate_left
                    · intro w hSw
                      try dsimp only at hSw
                      go_simp
                      try with_reducible rfl
                    simp only [List.getElem_toArray, List.getElem_cons_succ, List.getElem_cons_zero, Act.put, List.setIfInBounds_toArray, List.set_cons_zero, List.set_cons_succ]
                    refine wpAnyH_take (i := 4) (v := ?_) rfl (by kernel_rfl) (by kernel_rfl) (by kernel_rfl) (fun _ _ _ h => h) (Or.inl ⟨by rfl, ?_⟩) (by assumption) ?_
                    rotate_left
                    · intro w hSw
                      try dsimp only at hSw
                      go_simp
                      try with_reducible rfl
                    simp only [List.getElem_toArray, List.getElem_cons_succ, List.getElem_cons_zero, Act.put, List.setIfInBounds_toArray, List.set_cons_zero, List.set_cons_succ]
                    refine wpAnyH_take (i := 5) (v := ?_) rfl (by kernel_rfl) (by kernel_rfl) (by kernel_rfl) (fun _ _ _ h => h) (Or.inl ⟨by rfl, ?_⟩) (by assumption) ?_
                    rotate_left
                    · intro w hSw
                      try dsimp only at hSw
                      go_simp
                      try with_reducible rfl
                    simp only [List.getElem_toArray, List.getElem_cons_succ, List.getElem_cons_zero, Act.put, List.setIfInBounds_toArray, List.set_cons_zero, List.set_cons_succ]
                    refine wpAnyH_take (i := 6) (v := ?_) rfl (by kernel_rfl) (by kernel_rfl) (by kernel_rfl) (fun _ _ _ h => h) (Or.inl ⟨by rfl, ?_⟩) (by assumption) ?_
                    rotate_left
                    · intro w hSw
                      try dsimp only at hSw
                      go_simp
                      try with_reducible rfl
                    simp only [List.getElem_toArray, List.getElem_cons_succ, List.getElem_cons_zero, Act.put, List.setIfInBounds_toArray, List.set_cons_zero, List.set_cons_succ]
                    refine wpAnyH_take (i := 7) (v := ?_) rfl (by kernel_rfl) (by kernel_rfl) (by kernel_rfl) (fun _ _ _ h => h) (Or.inl ⟨by rfl, ?_⟩) (by assumption) ?_
                    rotate_left
                    · intro w hSw
                      try dsimp only at hSw
                      go_simp
                      try with_reducible rfl
                    simp only [List.getElem_toArray, List.getElem_cons_succ, List.getElem_cons_zero, Act.put, List.setIfInBounds_toArray, List.set_cons_zero, List.set_cons_succ]
                    refine wpAnyH_take (i := 8) (v := ?_) rfl (by kernel_rfl) (by kernel_rfl) (by kernel_rfl) (fun _ _ _ h => h) (Or.inl ⟨by rfl, ?_⟩) (by assumption) ?_
                    rotate_left
                    · intro w hSw
                      try dsimp only at hSw
                      go_simp
                      try with_reducible rfl
                    simp only [List.getElem_toArray, List.getElem_cons_succ, List.getElem_cons_zero, Act.put, List.setIfInBounds_toArray, List.set_cons_zero, List.set_cons_succ]
                    refine wpAnyH_ready (rs := [3]) (by kernel_rfl) (by simp) ?_
                    refine AllReadyH.cons rfl (fun K hK => ?_) AllReadyH.nil
                    go_simp
                    refine (Occupied_g L M2 kinds.length nsig clr st (age + 1) sn A A1 c c1 free2 occ nor rev lam false _ HOC.out hA.f hM2).mono ?_
                    rintro e V4 ⟨rfl, b⟩
                    refine hK.out _ _ ?_ (fun hHeld => ?_)
                    · exact hS (SD.later b)
                    clear hK K
                    replace SD := SD.later b
                    clear b
                    try simp only [List.getElem_toArray, List.getElem_cons_succ, List.getElem_cons_zero, Act.put, List.setIfInBounds_toArray, List.set_cons_zero, List.set_cons_succ]
                    refine wpAnyH_take (i := 9) (v := ?_) rfl (by kernel_rfl) (by kernel_rfl) (by kernel_rfl) (fun _ _ _ h => h) (Or.inl ⟨by rfl, ?_⟩) (by assumption) ?_
                    rotate_left
                    · intro w hSw
                      try dsimp only at hSw
                      go_simp
                      try with_reducible rfl
                    simp only [List.getElem_toArray, List.getElem_cons_succ, List.getElem_cons_zero, Act.put, List.setIfInBounds_toArray, List.set_cons_zero, List.set_cons_succ]
                    refine wpAnyH_take (i := 10) (v := ?_) rfl (by kernel_rfl) (by kernel_rfl) (by kernel_rfl) (fun _ _ _ h => h) (Or.inl ⟨by rfl, ?_⟩) (by assumption) ?_
                    rotate_left
                    · intro w hSw
                      try dsimp only at hSw
                      go_simp
                      try with_reducible rfl
                    simp only [List.getElem_toArray, List.getElem_cons_succ, List.getElem_cons_zero, Act.put, List.setIfInBounds_toArray, List.set_cons_zero, List.set_cons_succ]
                    refine wpAnyH_take (i := 11) (v := .agg (M2 : List Value).toArray) rfl (by kernel_rfl) (by kernel_rfl) (by kernel_rfl) (fun _ _ _ h => h) (yieldsIf_load_mid rfl 39 (.tmp 9) rfl (pM) 0 rfl M2 _ (fun w' h => h.2.1) (by first | exact Tryd.underlying39) rfl (by first | assumption | (simp only [*]; kernel_rfl))) (by assumption) ?_
                    simp only [List.getElem_toArray, List.getElem_cons_succ, List.getElem_cons_zero, Act.put, List.setIfInBounds_toArray, List.set_cons_zero, List.set_cons_succ]
                    refine wpAnyH_ready (rs := [12]) (by kernel_rfl) (by simp) ?_
                    refine AllReadyH.cons rfl (fun K hK => ?_) AllReadyH.nil
                    go_simp
                    refine (Right_g M2 (age + 1) free2 occ nor rev lam true _ HRI.out SD.t hM2).mono ?_
                    rintro e V5 ⟨rfl, b⟩
                    refine hK.out _ _ ?_ (fun hHeld => ?_)
                    · exact hS (SD.later b)
                    clear hK K
                    replace SD := SD.later b
                    clear b
                    try simp only [List.getElem_toArray, List.getElem_cons_succ, List.getElem_cons_zero, Act.put, List.setIfInBounds_toArray, List.set_cons_zero, List.set_cons_succ]
                    refine wpAnyH_take (i := 13) (v := ?_) rfl (by kernel_rfl) (by kernel_rfl) (by kernel_rfl) (fun _ _ _ h => h) (Or.inl ⟨by rfl, ?_⟩) (by assumption) ?_
                    rotate_left
                    · intro w hSw
                      try dsimp only at hSw
                      go_simp
                      try with_reducible rfl
                    simp only [List.getElem_toArray, List.getElem_cons_succ, List.getElem_cons_zero, Act.put, List.setIfInBounds_toArray, List.set_cons_zero, List.set_cons_succ]
                    refine wpAnyH_take (i := 14) (v := ?_) rfl (by kernel_rfl) (by kernel_rfl) (by kernel_rfl) (fun _ _ _ h => h) (Or.inl ⟨by rfl, ?_⟩) (by assumption) ?_
                    rotate_left
                    · intro w hSw
                      try dsimp only at hSw
                      go_simp
                      try with_reducible rfl
                    simp only [List.getElem_toArray, List.getElem_cons_succ, List.getElem_cons_zero, Act.put, List.setIfInBounds_toArray, List.set_cons_zero, List.set_cons_succ]
                    refine wpAnyH_done (by kernel_rfl) ?_ _
                    go_wp2
                    go_roundw
                    case rel => exact ⟨k + 1, M2, (age + 1), (age + 1), (row + 1), free2, occ, nor, rev, lam, by omega, by go_num, rfl, rfl, rfl, SD, hM2, Lib.hid (.inr ⟨by omega, by omega, rfl⟩), HF2C, HF2S, by omega, by omega⟩
                    case measure => simp [intOf]; omega
                  · go_wp2_with (first
                  | (refine wpList_store_mid rfl 39 (.tmp 9) (.tmp 94) (by rfl) pM 0 M2.toArray (by rfl) (by rfl) th (by simpa using szm) one2 ?_; rw [HW6.out]))
                    have SD := S.drew
                    have szM2 := img_size hM2.len
                    have hS : ∀ {W : World}, CV w W L pM M2 → W.rangeAt w.heap.size 0 L ∧ W.rangeAt pM 0 M2 ∧ W.cell? ⟨w.heap.size, 4, none⟩ = some (.int .i64 clr) := fun S => ⟨range_of S.l, range_of S.m, cell_list S.l hA.f.clr⟩
                    refine wp_region_held_drew (S := (fun w' => w'.rangeAt w.heap.size 0 L ∧ w'.rangeAt pM 0 M2 ∧ w'.cell? ⟨w.heap.size, 4, none⟩ = some (.int .i64 clr))) (by kernel_rfl) ?_ (fun hHeld => ?_)
                    · exact hS SD
                    generalize W6.drew = V3 at *
                    refine wpAnyH_take (i := 0) (v := .agg (L : List Value).toArray) rfl (by kernel_rfl) (by kernel_rfl) (by kernel_rfl) (fun _ _ _ h => h) (yieldsIf_load_mid rfl 29 (.tmp 4) rfl (w.heap.size) 0 rfl L _ (fun w' h => h.1) (by first | exact Tryd.underlying29) rfl (by first | assumption | (simp only [*]; kernel_rfl))) (by assumption) ?_
                    simp only [List.getElem_toArray, List.getElem_cons_succ, List.getElem_cons_zero, Act.put, List.setIfInBounds_toArray, List.set_cons_zero, List.set_cons_succ]
                    refine wpAnyH_take (i := 1) (v := .agg (M2 : List Value).toArray) rfl (by kernel_rfl) (by kernel_rfl) (by kernel_rfl) (fun _ _ _ h => h) (yieldsIf_load_mid rfl 39 (.tmp 9) rfl (pM) 0 rfl M2 _ (fun w' h => h.2.1) (by first | exact Tryd.underlying39) rfl (by first | assumption | (simp only [*]; kernel_rfl))) (by assumption) ?_
                    simp only [List.getElem_toArray, List.getElem_cons_succ, List.getElem_cons_zero, Act.put, List.setIfInBounds_toArray, List.set_cons_zero, List.set_cons_succ]
                    refine wpAnyH_take (i := 2) (v := ?_) rfl (by kernel_rfl) (by kernel_rfl) (by kernel_rfl) (fun _ _ _ h => h) (Or.inl ⟨by rfl, ?_⟩) (by assumption) ?_
                    rotate_left
                    · intro w hSw
                      try dsimp only at hSw
                      go_simp
                      try with_reducible rfl
                    simp only [List.getElem_toArray, List.getElem_cons_succ, List.getElem_cons_zero, Act.put, List.setIfInBounds_toArray, List.set_cons_zero, List.set_cons_succ]
                    refine wpAnyH_take (i := 4) (v := ?_) rfl (by kernel_rfl) (by kernel_rfl) (by kernel_rfl) (fun _ _ _ h => h) (Or.inl ⟨by rfl, ?_⟩) (by assumption) ?_
                    rotate_left
                    · intro w hSw
                      try dsimp only at hSw
                      go_simp
                      try with_reducible rfl
                    simp only [List.getElem_toArray, List.getElem_cons_succ, List.getElem_cons_zero, Act.put, List.setIfInBounds_toArray, List.set_cons_zero, List.set_cons_succ]
                    refine wpAnyH_take (i := 5) (v := ?_) rfl (by kernel_rfl) (by kernel_rfl) (by kernel_rfl) (fun _ _ _ h => h) (Or.inl ⟨by rfl, ?_⟩) (by assumption) ?_
                    rotate_left
                    · intro w hSw
                      try dsimp only at hSw
                      go_simp
                      try with_reducible rfl
                    simp only [List.getElem_toArray, List.getElem_cons_succ, List.getElem_cons_zero, Act.put, List.setIfInBounds_toArray, List.set_cons_zero, List.set_cons_succ]
                    refine wpAnyH_take (i := 6) (v := ?_) rfl (by kernel_rfl) (by kernel_rfl) (by kernel_rfl) (fun _ _ _ h => h) (Or.inl ⟨by rfl, ?_⟩) (by assumption) ?_
                    rotate_left
                    · intro w hSw
                      try dsimp only at hSw
                      go_simp
                      try with_reducible rfl
                    simp only [List.getElem_toArray, List.getElem_cons_succ, List.getElem_cons_zero, Act.put, List.setIfInBounds_toArray, List.set_cons_zero, List.set_cons_succ]
                    refine wpAnyH_take (i := 7) (v := ?_) rfl (by kernel_rfl) (by kernel_rfl) (by kernel_rfl) (fun _ _ _ h => h) (Or.inl ⟨by rfl, ?_⟩) (by assumption) ?_
                    rotate_left
                    · intro w hSw
                      try dsimp only at hSw
                      go_simp
                      try with_reducible rfl
                    simp only [List.getElem_toArray, List.getElem_cons_succ, List.getElem_cons_zero, Act.put, List.setIfInBounds_toArray, List.set_cons_zero, List.set_cons_succ]
                    refine wpAnyH_take (i := 8) (v := ?_) rfl (by kernel_rfl) (by kernel_rfl) (by kernel_rfl) (fun _ _ _ h => h) (Or.inl ⟨by rfl, ?_⟩) (by assumption) ?_
                    rotate_left
                    · intro w hSw
                      try dsimp only at hSw
                      go_simp
                      try with_reducible rfl
                    simp only [List.getElem_toArray, List.getElem_cons_succ, List.getElem_cons_zero, Act.put, List.setIfInBounds_toArray, List.set_cons_zero, List.set_cons_succ]
                    refine wpAnyH_ready (rs := [3]) (by kernel_rfl) (by simp) ?_
                    refine AllReadyH.cons rfl (fun K hK => ?_) AllReadyH.nil
                    go_simp
                    refine (Occupied_g L M2 kinds.length nsig clr st (age + 1) sn A A1 c c1 free2 occ nor rev lam true _ HOC.out hA.f hM2).mono ?_
                    rintro e V4 ⟨rfl, b⟩
                    refine hK.out _ _ ?_ (fun hHeld => ?_)
                    · exact hS (SD.later b)
                    clear hK K
                    replace SD := SD.later b
                    clear b
                    try simp only [List.getElem_toArray, List.getElem_cons_succ, List.getElem_cons_zero, Act.put, List.setIfInBounds_toArray, List.set_cons_zero, List.set_cons_succ]
                    refine wpAnyH_take (i := 9) (v := ?_) rfl (by kernel_rfl) (by kernel_rfl) (by kernel_rfl) (fun _ _ _ h => h) (Or.inl ⟨by rfl, ?_⟩) (by assumption) ?_
                    rotate_left
                    · intro w hSw
                      try dsimp only at hSw
                      go_simp
                      try with_reducible rfl
                    simp only [List.getElem_toArray, List.getElem_cons_succ, List.getElem_cons_zero, Act.put, List.setIfInBounds_toArray, List.set_cons_zero, List.set_cons_succ]
                    refine wpAnyH_take (i := 10) (v := ?_) rfl (by kernel_rfl) (by kernel_rfl) (by kernel_rfl) (fun _ _ _ h => h) (Or.inl ⟨by rfl, ?_⟩) (by assumption) ?_
                    rotate_left
                    · intro w hSw
                      try dsimp only at hSw
                      go_simp
                      try with_reducible rfl
                    simp only [List.getElem_toArray, List.getElem_cons_succ, List.getElem_cons_zero, Act.put, List.setIfInBounds_toArray, List.set_cons_zero, List.set_cons_succ]
                    refine wpAnyH_take (i := 11) (v := .agg (M2 : List Value).toArray) rfl (by kernel_rfl) (by kernel_rfl) (by kernel_rfl) (fun _ _ _ h => h) (yieldsIf_load_mid rfl 39 (.tmp 9) rfl (pM) 0 rfl M2 _ (fun w' h => h.2.1) (by first | exact Tryd.underlying39) rfl (by first | assumption | (simp only [*]; kernel_rfl))) (by assumption) ?_
                    simp only [List.getElem_toArray, List.getElem_cons_succ, List.getElem_cons_zero, Act.put, List.setIfInBounds_toArray, List.set_cons_zero, List.set_cons_succ]
                    refine wpAnyH_ready (rs := [12]) (by kernel_rfl) (by simp) ?_
                    refine AllReadyH.cons rfl (fun K hK => ?_) AllReadyH.nil
                    go_simp
                    refine (Right_g M2 (age + 1) free2 occ nor rev lam true _ HRI.out SD.t hM2).mono ?_
                    rintro e V5 ⟨rfl, b⟩
                    refine hK.out _ _ ?_ (fun hHeld => ?_)
                    · exact hS (SD.later b)
                    clear hK K
                    replace SD := SD.later b
                    clear b
                    try simp only [List.getElem_toArray, List.getElem_cons_succ, List.getElem_cons_zero, Act.put, List.setIfInBounds_toArray, List.set_cons_zero, List.set_cons_succ]
                    refine wpAnyH_take (i := 13) (v := ?_) rfl (by kernel_rfl) (by kernel_rfl) (by kernel_rfl) (fun _ _ _ h => h) (Or.inl ⟨by rfl, ?_⟩) (by assumption) ?_
                    rotate_left
                    · intro w hSw
                      try dsimp only at hSw
                      go_simp
                      try with_reducible rfl
                    simp only [List.getElem_toArray, List.getElem_cons_succ, List.getElem_cons_zero, Act.put, List.setIfInBounds_toArray, List.set_cons_zero, List.set_cons_succ]
                    refine wpAnyH_take (i := 14) (v := ?_) rfl (by kernel_rfl) (by kernel_rfl) (by kernel_rfl) (fun _ _ _ h => h) (Or.inl ⟨by rfl, ?_⟩) (by assumption) ?_
                    rotate_left
                    · intro w hSw
                      try dsimp only at hSw
                      go_simp
                      try with_reducible rfl
                    simp only [List.getElem_toArray, List.getElem_cons_succ, List.getElem_cons_zero, Act.put, List.setIfInBounds_toArray, List.set_cons_zero, List.set_cons_succ]
                    refine wpAnyH_done (by kernel_rfl) ?_ _
                    go_wp2
                    go_roundw
                    case rel => exact ⟨k + 1, M2, (age + 1), (age + 1), (row + 1), free2, occ, nor, rev, lam, by omega, by go_num, rfl, rfl, rfl, SD, hM2, Lib.hid (.inr ⟨by omega, by omega, rfl⟩), HF2C, HF2S, by omega, by omega⟩
                    case measure => simp [intOf]; omega
                · have hq0 : decide (0 < clr) = true := decide_eq_true (by omega)
                  replace HF2S : Hid (free2[sn]? = some 0) := Lib.hid (by simpa using HF2S.out)
                  have HOC : Hid (true = occV kinds.length occ (decide (st < (age + 1))) free2 clr sn) := Lib.hid (by rw [occ_in hs1 hs2 HF2S.out, HSB.out, HBT.out]; simp)
                  go_wp2_with (first
                  | (refine wpList_store_mid rfl 39 (.tmp 9) (.tmp 94) (by rfl) pM 0 M2.toArray (by rfl) (by rfl) th (by simpa using szm) one2 ?_; rw [HW6.out]))
                  have SD := S.drew
                  have szM2 := img_size hM2.len
                  have hS : ∀ {W : World}, CV w W L pM M2 → W.rangeAt w.heap.size 0 L ∧ W.rangeAt pM 0 M2 ∧ W.cell? ⟨w.heap.size, 4, none⟩ = some (.int .i64 clr) := fun S => ⟨range_of S.l, range_of S.m, cell_list S.l hA.f.clr⟩
                  refine wp_region_held_drew (S := (fun w' => w'.rangeAt w.heap.size 0 L ∧ w'.rangeAt pM 0 M2 ∧ w'.cell? ⟨w.heap.size, 4, none⟩ = some (.int .i64 clr))) (by kernel_rfl) ?_ (fun hHeld => ?_)
                  · exact hS SD
                  generalize W6.drew = V3 at *
                  refine wpAnyH_take (i := 0) (v := .agg (L : List Value).toArray) rfl (by kernel_rfl) (by kernel_rfl) (by kernel_rfl) (fun _ _ _ h => h) (yieldsIf_load_mid rfl 29 (.tmp 4) rfl (w.heap.size) 0 rfl L _ (fun w' h => h.1) (by first | exact Tryd.underlying29) rfl (by first | assumption | (simp only [*]; kernel_rfl))) (by assumption) ?_
                  simp only [List.getElem_toArray, List.getElem_cons_succ, List.getElem_cons_zero, Act.put, List.setIfInBounds_toArray, List.set_cons_zero, List.set_cons_succ]
                  refine wpAnyH_take (i := 1) (v := .agg (M2 : List Value).toArray) rfl (by kernel_rfl) (by kernel_rfl) (by kernel_rfl) (fun _ _ _ h => h) (yieldsIf_load_mid rfl 39 (.tmp 9) rfl (pM) 0 rfl M2 _ (fun w' h => h.2.1) (by first | exact Tryd.underlying39) rfl (by first | assumption | (simp only [*]; kernel_rfl))) (by assumption) ?_
                  simp only [List.getElem_toArray, List.getElem_cons_succ, List.getElem_cons_zero, Act.put, List.setIfInBounds_toArray, List.set_cons_zero, List.set_cons_succ]
                  refine wpAnyH_take (i := 2) (v := ?_) rfl (by kernel_rfl) (by kernel_rfl) (by kernel_rfl) (fun _ _ _ h => h) (Or.inl ⟨by rfl, ?_⟩) (by assumption) ?_
                  rotate_left
                  · intro w hSw
                    try dsimp only at hSw
                    go_simp
                    try with_reducible rfl
                  simp only [List.getElem_toArray, List.getElem_cons_succ, List.getElem_cons_zero, Act.put, List.setIfInBounds_toArray, List.set_cons_zero, List.set_cons_succ]
                  refine wpAnyH_take (i := 4) (v := ?_) rfl (by kernel_rfl) (by kernel_rfl) (by kernel_rfl) (fun _ _ _ h => h) (Or.inl ⟨by rfl, ?_⟩) (by assumption) ?_
                  rotate_left
                  · intro w hSw
                    try dsimp only at hSw
                    go_simp
                    try with_reducible rfl
                  simp only [List.getElem_toArray, List.getElem_cons_succ, List.getElem_cons_zero, Act.put, List.setIfInBounds_toArray, List.set_cons_zero, List.set_cons_succ]
                  refine wpAnyH_take (i := 5) (v := ?_) rfl (by kernel_rfl) (by kernel_rfl) (by kernel_rfl) (fun _ _ _ h => h) (Or.inl ⟨by rfl, ?_⟩) (by assumption) ?_
                  rotate_left
                  · intro w hSw
                    try dsimp only at hSw
                    go_simp
                    try with_reducible rfl
                  simp only [List.getElem_toArray, List.getElem_cons_succ, List.getElem_cons_zero, Act.put, List.setIfInBounds_toArray, List.set_cons_zero, List.set_cons_succ]
                  refine wpAnyH_take (i := 6) (v := ?_) rfl (by kernel_rfl) (by kernel_rfl) (by kernel_rfl) (fun _ _ _ h => h) (Or.inl ⟨by rfl, ?_⟩) (by assumption) ?_
                  rotate_left
                  · intro w hSw
                    try dsimp only at hSw
                    go_simp
                    try with_reducible rfl
                  simp only [List.getElem_toArray, List.getElem_cons_succ, List.getElem_cons_zero, Act.put, List.setIfInBounds_toArray, List.set_cons_zero, List.set_cons_succ]
                  refine wpAnyH_take (i := 7) (v := ?_) rfl (by kernel_rfl) (by kernel_rfl) (by kernel_rfl) (fun _ _ _ h => h) (Or.inl ⟨by rfl, ?_⟩) (by assumption) ?_
                  rotate_left
                  · intro w hSw
                    try dsimp only at hSw
                    go_simp
                    try with_reducible rfl
                  simp only [List.getElem_toArray, List.getElem_cons_succ, List.getElem_cons_zero, Act.put, List.setIfInBounds_toArray, List.set_cons_zero, List.set_cons_succ]
                  refine wpAnyH_take (i := 8) (v := ?_) rfl (by kernel_rfl) (by kernel_rfl) (by kernel_rfl) (fun _ _ _ h => h) (Or.inl ⟨by rfl, ?_⟩) (by assumption) ?_
                  rotate_left
                  · intro w hSw
                    try dsimp only at hSw
                    go_simp
                    try with_reducible rfl
                  simp only [List.getElem_toArray, List.getElem_cons_succ, List.getElem_cons_zero, Act.put, List.setIfInBounds_toArray, List.set_cons_zero, List.set_cons_succ]
                  refine wpAnyH_ready (rs := [3]) (by kernel_rfl) (by simp) ?_
                  refine AllReadyH.cons rfl (fun K hK => ?_) AllReadyH.nil
                  go_simp
                  refine (Occupied_g L M2 kinds.length nsig clr st (age + 1) sn A A1 c c1 free2 occ nor rev lam true _ HOC.out hA.f hM2).mono ?_
                  rintro e V4 ⟨rfl, b⟩
                  refine hK.out _ _ ?_ (fun hHeld => ?_)
                  · exact hS (SD.later b)
                  clear hK K
                  replace SD := SD.later b
                  clear b
                  try simp only [List.getElem_toArray, List.getElem_cons_succ, List.getElem_cons_zero, Act.put, List.setIfInBounds_toArray, List.set_cons_zero, List.set_cons_succ]
                  refine wpAnyH_take (i := 9) (v := ?_) rfl (by kernel_rfl) (by kernel_rfl) (by kernel_rfl) (fun _ _ _ h => h) (Or.inl ⟨by rfl, ?_⟩) (by assumption) ?_
                  rotate_left
                  · intro w hSw
                    try dsimp only at hSw
                    go_simp
                    try with_reducible rfl
                  simp only [List.getElem_toArray, List.getElem_cons_succ, List.getElem_cons_zero, Act.put, List.setIfInBounds_toArray, List.set_cons_zero, List.set_cons_succ]
                  refine wpAnyH_take (i := 10) (v := ?_) rfl (by kernel_rfl) (by kernel_rfl) (by kernel_rfl) (fun _ _ _ h => h) (Or.inl ⟨by rfl, ?_⟩) (by assumption) ?_
                  rotate_left
                  · intro w hSw
                    try dsimp only at hSw
                    go_simp
                    try with_reducible rfl
                  simp only [List.getElem_toArray, List.getElem_cons_succ, List.getElem_cons_zero, Act.put, List.setIfInBounds_toArray, List.set_cons_zero, List.set_cons_succ]
                  refine wpAnyH_take (i := 11) (v := .agg (M2 : List Value).toArray) rfl (by kernel_rfl) (by kernel_rfl) (by kernel_rfl) (fun _ _ _ h => h) (yieldsIf_load_mid rfl 39 (.tmp 9) rfl (pM) 0 rfl M2 _ (fun w' h => h.2.1) (by first | exact Tryd.underlying39) rfl (by first | assumption | (simp only [*]; kernel_rfl))) (by assumption) ?_
                  simp only [List.getElem_toArray, List.getElem_cons_succ, List.getElem_cons_zero, Act.put, List.setIfInBounds_toArray, List.set_cons_zero, List.set_cons_succ]
                  refine wpAnyH_ready (rs := [12]) (by kernel_rfl) (by simp) ?_
                  refine AllReadyH.cons rfl (fun K hK => ?_) AllReadyH.nil
                  go_simp
                  refine (Right_g M2 (age + 1) free2 occ nor rev lam true _ HRI.out SD.t hM2).mono ?_
                  rintro e V5 ⟨rfl, b⟩
                  refine hK.out _ _ ?_ (fun hHeld => ?_)
                  · exact hS (SD.later b)
                  clear hK K
                  replace SD := SD.later b
                  clear b
                  try simp only [List.getElem_toArray, List.getElem_cons_succ, List.getElem_cons_zero, Act.put, List.setIfInBounds_toArray, List.set_cons_zero, List.set_cons_succ]
                  refine wpAnyH_take (i := 13) (v := ?_) rfl (by kernel_rfl) (by kernel_rfl) (by kernel_rfl) (fun _ _ _ h => h) (Or.inl ⟨by rfl, ?_⟩) (by assumption) ?_
                  rotate_left
                  · intro w hSw
                    try dsimp only at hSw
                    go_simp
                    try with_reducible rfl
                  simp only [List.getElem_toArray, List.getElem_cons_succ, List.getElem_cons_zero, Act.put, List.setIfInBounds_toArray, List.set_cons_zero, List.set_cons_succ]
                  refine wpAnyH_take (i := 14) (v := ?_) rfl (by kernel_rfl) (by kernel_rfl) (by kernel_rfl) (fun _ _ _ h => h) (Or.inl ⟨by rfl, ?_⟩) (by assumption) ?_
                  rotate_left
                  · intro w hSw
                    try dsimp only at hSw
                    go_simp
                    try with_reducible rfl
                  simp only [List.getElem_toArray, List.getElem_cons_succ, List.getElem_cons_zero, Act.put, List.setIfInBounds_toArray, List.set_cons_zero, List.set_cons_succ]
                  refine wpAnyH_done (by kernel_rfl) ?_ _
                  go_wp2
                  go_roundw
                  case rel => exact ⟨k + 1, M2, (age + 1), (age + 1), 0, free2, occ, nor, rev, lam, by omega, by go_num, rfl, rfl, rfl, SD, hM2, Lib.hid (.inr ⟨by omega, by omega, rfl⟩), HF2C, HF2S, by omega, by omega⟩
                  case measure => simp [intOf]; omega
              · have hq0 : decide (0 < clr) = true := decide_eq_true (by omega)
                replace HF2S : Hid (free2[sn]? = some 0) := Lib.hid (by simpa using HF2S.out)
                have HOC : Hid (true = occV kinds.length occ (decide (st < (age + 1))) free2 clr sn) := Lib.hid (by rw [occ_in hs1 hs2 HF2S.out, HSB.out]; simp)
                go_wp2_with (first
                  | (refine wpList_store_mid rfl 39 (.tmp 9) (.tmp 94) (by rfl) pM 0 M2.toArray (by rfl) (by rfl) th (by simpa using szm) one2 ?_; rw [HW6.out]))
                have SD := S.drew
                have szM2 := img_size hM2.len
                have hS : ∀ {W : World}, CV w W L pM M2 → W.rangeAt w.heap.size 0 L ∧ W.rangeAt pM 0 M2 ∧ W.cell? ⟨w.heap.size, 4, none⟩ = some (.int .i64 clr) := fun S => ⟨range_of S.l, range_of S.m, cell_list S.l hA.f.clr⟩
                refine wp_region_held_drew (S := (fun w' => w'.rangeAt w.heap.size 0 L ∧ w'.rangeAt pM 0 M2 ∧ w'.cell? ⟨w.heap.size, 4, none⟩ = some (.int .i64 clr))) (by kernel_rfl) ?_ (fun hHeld => ?_)
                · exact hS SD
                generalize W6.drew = V3 at *
                refine wpAnyH_take (i := 0) (v := .agg (L : List Value).toArray) rfl (by kernel_rfl) (by kernel_rfl) (by kernel_rfl) (fun _ _ _ h => h) (yieldsIf_load_mid rfl 29 (.tmp 4) rfl (w.heap.size) 0 rfl L _ (fun w' h => h.1) (by first | exact Tryd.underlying29) rfl (by first | assumption | (simp only [*]; kernel_rfl))) (by assumption) ?_
                simp only [List.getElem_toArray, List.getElem_cons_succ, List.getElem_cons_zero, Act.put, List.setIfInBounds_toArray, List.set_cons_zero, List.set_cons_succ]
                refine wpAnyH_take (i := 1) (v := .agg (M2 : List Value).toArray) rfl (by kernel_rfl) (by kernel_rfl) (by kernel_rfl) (fun _ _ _ h => h) (yieldsIf_load_mid rfl 39 (.tmp 9) rfl (pM) 0 rfl M2 _ (fun w' h => h.2.1) (by first | exact Tryd.underlying39) rfl (by first | assumption | (simp only [*]; kernel_rfl))) (by assumption) ?_
                simp only [List.getElem_toArray, List.getElem_cons_succ, List.getElem_cons_zero, Act.put, List.setIfInBounds_toArray, List.set_cons_zero, List.set_cons_succ]
                refine wpAnyH_take (i := 2) (v := ?_) rfl (by kernel_rfl) (by kernel_rfl) (by kernel_rfl) (fun _ _ _ h => h) (Or.inl ⟨by rfl, ?_⟩) (by assumption) ?_
                rotate_left
                · intro w hSw
                  try dsimp only at hSw
                  go_simp
                  try with_reducible rfl
                simp only [List.getElem_toArray, List.getElem_cons_succ, List.getElem_cons_zero, Act.put, List.setIfInBounds_toArray, List.set_cons_zero, List.set_cons_succ]
                refine wpAnyH_take (i := 4) (v := ?_) rfl (by kernel_rfl) (by kernel_rfl) (by kernel_rfl) (fun _ _ _ h => h) (Or.inl ⟨by rfl, ?_⟩) (by assumption) ?_
                rotate_left
                · intro w hSw
                  try dsimp only at hSw
                  go_simp
                  try with_reducible rfl
                simp only [List.getElem_toArray, List.getElem_cons_succ, List.getElem_cons_zero, Act.put, List.setIfInBounds_toArray, List.set_cons_zero, List.set_cons_succ]
                refine wpAnyH_take (i := 5) (v := ?_) rfl (by kernel_rfl) (by kernel_rfl) (by kernel_rfl) (fun _ _ _ h => h) (Or.inl ⟨by rfl, ?_⟩) (by assumption) ?_
                rotate_left
                · intro w hSw
                  try dsimp only at hSw
                  go_simp
                  try with_reducible rfl
                simp only [List.getElem_toArray, List.getElem_cons_succ, List.getElem_cons_zero, Act.put, List.setIfInBounds_toArray, List.set_cons_zero, List.set_cons_succ]
                refine wpAnyH_take (i := 6) (v := ?_) rfl (by kernel_rfl) (by kernel_rfl) (by kernel_rfl) (fun _ _ _ h => h) (Or.inl ⟨by rfl, ?_⟩) (by assumption) ?_
                rotate_left
                · intro w hSw
                  try dsimp only at hSw
                  go_simp
                  try with_reducible rfl
                simp only [List.getElem_toArray, List.getElem_cons_succ, List.getElem_cons_zero, Act.put, List.setIfInBounds_toArray, List.set_cons_zero, List.set_cons_succ]
                refine wpAnyH_take (i := 7) (v := ?_) rfl (by kernel_rfl) (by kernel_rfl) (by kernel_rfl) (fun _ _ _ h => h) (Or.inl ⟨by rfl, ?_⟩) (by assumption) ?_
                rotate_left
                · intro w hSw
                  try dsimp only at hSw
                  go_simp
                  try with_reducible rfl
                simp only [List.getElem_toArray, List.getElem_cons_succ, List.getElem_cons_zero, Act.put, List.setIfInBounds_toArray, List.set_cons_zero, List.set_cons_succ]
                refine wpAnyH_take (i := 8) (v := ?_) rfl (by kernel_rfl) (by kernel_rfl) (by kernel_rfl) (fun _ _ _ h => h) (Or.inl ⟨by rfl, ?_⟩) (by assumption) ?_
                rotate_left
                · intro w hSw
                  try dsimp only at hSw
                  go_simp
                  try with_reducible rfl
                simp only [List.getElem_toArray, List.getElem_cons_succ, List.getElem_cons_zero, Act.put, List.setIfInBounds_toArray, List.set_cons_zero, List.set_cons_succ]
                refine wpAnyH_ready (rs := [3]) (by kernel_rfl) (by simp) ?_
                refine AllReadyH.cons rfl (fun K hK => ?_) AllReadyH.nil
                go_simp
                refine (Occupied_g L M2 kinds.length nsig clr st (age + 1) sn A A1 c c1 free2 occ nor rev lam true _ HOC.out hA.f hM2).mono ?_
                rintro e V4 ⟨rfl, b⟩
                refine hK.out _ _ ?_ (fun hHeld => ?_)
                · exact hS (SD.later b)
                clear hK K
                replace SD := SD.later b
                clear b
                try simp only [List.getElem_toArray, List.getElem_cons_succ, List.getElem_cons_zero, Act.put, List.setIfInBounds_toArray, List.set_cons_zero, List.set_cons_succ]
                refine wpAnyH_take (i := 9) (v := ?_) rfl (by kernel_rfl) (by kernel_rfl) (by kernel_rfl) (fun _ _ _ h => h) (Or.inl ⟨by rfl, ?_⟩) (by assumption) ?_
                rotate_left
                · intro w hSw
                  try dsimp only at hSw
                  go_simp
                  try with_reducible rfl
                simp only [List.getElem_toArray, List.getElem_cons_succ, List.getElem_cons_zero, Act.put, List.setIfInBounds_toArray, List.set_cons_zero, List.set_cons_succ]
                refine wpAnyH_take (i := 10) (v := ?_) rfl (by kernel_rfl) (by kernel_rfl) (by kernel_rfl) (fun _ _ _ h => h) (Or.inl ⟨by rfl, ?_⟩) (by assumption) ?_
                rotate_left
                · intro w hSw
                  try dsimp only at hSw
                  go_simp
                  try with_reducible rfl
                simp only [List.getElem_toArray, List.getElem_cons_succ, List.getElem_cons_zero, Act.put, List.setIfInBounds_toArray, List.set_cons_zero, List.set_cons_succ]
                refine wpAnyH_take (i := 11) (v := .agg (M2 : List Value).toArray) rfl (by kernel_rfl) (by kernel_rfl) (by kernel_rfl) (fun _ _ _ h => h) (yieldsIf_load_mid rfl 39 (.tmp 9) rfl (pM) 0 rfl M2 _ (fun w' h => h.2.1) (by first | exact Tryd.underlying39) rfl (by first | assumption | (simp only [*]; kernel_rfl))) (by assumption) ?_
                simp only [List.getElem_toArray, List.getElem_cons_succ, List.getElem_cons_zero, Act.put, List.setIfInBounds_toArray, List.set_cons_zero, List.set_cons_succ]
                refine wpAnyH_ready (rs := [12]) (by kernel_rfl) (by simp) ?_
                refine AllReadyH.cons rfl (fun K hK => ?_) AllReadyH.nil
                go_simp
                refine (Right_g M2 (age + 1) free2 occ nor rev lam true _ HRI.out SD.t hM2).mono ?_
                rintro e V5 ⟨rfl, b⟩
                refine hK.out _ _ ?_ (fun hHeld => ?_)
                · exact hS (SD.later b)
                clear hK K
                replace SD := SD.later b
                clear b
                try simp only [List.getElem_toArray, List.getElem_cons_succ, List.getElem_cons_zero, Act.put, List.setIfInBounds_toArray, List.set_cons_zero, List.set_cons_succ]
                refine wpAnyH_take (i := 13) (v := ?_) rfl (by kernel_rfl) (by kernel_rfl) (by kernel_rfl) (fun _ _ _ h => h) (Or.inl ⟨by rfl, ?_⟩) (by assumption) ?_
                rotate_left
                · intro w hSw
                  try dsimp only at hSw
                  go_simp
                  try with_reducible rfl
                simp only [List.getElem_toArray, List.getElem_cons_succ, List.getElem_cons_zero, Act.put, List.setIfInBounds_toArray, List.set_cons_zero, List.set_cons_succ]
                refine wpAnyH_take (i := 14) (v := ?_) rfl (by kernel_rfl) (by kernel_rfl) (by kernel_rfl) (fun _ _ _ h => h) (Or.inl ⟨by rfl, ?_⟩) (by assumption) ?_
                rotate_left
                · intro w hSw
                  try dsimp only at hSw
                  go_simp
                  try with_reducible rfl
                simp only [List.getElem_toArray, List.getElem_cons_succ, List.getElem_cons_zero, Act.put, List.setIfInBounds_toArray, List.set_cons_zero, List.set_cons_succ]
                refine wpAnyH_done (by kernel_rfl) ?_ _
                go_wp2
                go_roundw
                case rel => exact ⟨k + 1, M2, (age + 1), (age + 1), 0, free2, occ, nor, rev, lam, by omega, by go_num, rfl, rfl, rfl, SD, hM2, Lib.hid (.inr ⟨by omega, by omega, rfl⟩), HF2C, HF2S, by omega, by omega⟩
                case measure => simp [intOf]; omega
          · skip
            rcases HAG.out with ⟨rfl, rfl⟩ | ⟨ha0, hak, hia⟩
            · obtain ⟨free2, hfree2, hfc, hfs⟩ := HPASS.out 65535 (by decide)
              have hia2 : (65535 : Int) = onV 65535 1 65535 := by decide
              have HF2C := Lib.hid hfc
              have HF2S := Lib.hid hfs
              have hsb : decide (st < 65535) = true := decide_eq_true (by omega)
              rw [hsb] at HF2S
              have HSB := Lib.hid hsb
              clear hfc hfs hsb
              go_wp2_with (first
                | refine wpList_load_g (by rfl) 29 (.tmp 4) (by rfl) w.heap.size 0 (by rfl) L _ (range_of S.l) Tryd.underlying29 rfl szL ?_
                | refine wpList_load_g (by rfl) 39 (.tmp 9) (by rfl) pM 0 (by rfl) M _ (range_of S.m) Tryd.underlying39 rfl szM ?_)
              refine (Pass_g L M kinds.length nsig clr st 65535 65535 A A1 c c1 free free2 occ nor rev lam _ hia2 hfree2 S.t hA.f hM).mono ?_
              rintro e W5 ⟨b, M2, rfl, hM2⟩
              replace S := S.later b
              clear b
              have th : W5.there pM 0 M2.toArray.size := there_of S.m 0 _ (by simp [hM.len, hM2.len])
              have szm := img_size hM2.len
              have one2 := all_oneCell_toArray hM2.one
              replace S := S.set (M' := M2) (by rw [hM.len, hM2.len])
              obtain ⟨W6, hW6⟩ : ∃ W6, W5.setCells pM 0 M2.toArray.toList = W6 := ⟨_, rfl⟩
              rw [hW6] at S
              have HW6 := Lib.hid hW6
              have HRI : Hid (true = rightI free2 65535) := Lib.hid (by rw [rightI, HF2C.out, Bool.true_and]; exact ((isCount_iff _).2 (by omega)).symm)
              clear hia2 hfree2 hW6
              have x6 := cell_list S.l hA.f.st
              have hq0 : decide (0 < clr) = true := decide_eq_true (by omega)
              replace HF2S : Hid (free2[sn]? = some 0) := Lib.hid (by simpa using HF2S.out)
              have HOC : Hid (true = occV kinds.length occ (decide (st < 65535)) free2 clr sn) := Lib.hid (by rw [occ_in hs1 hs2 HF2S.out, HSB.out]; simp)
              go_wp2_with (first
                | (refine wpList_store_mid rfl 39 (.tmp 9) (.tmp 94) (by rfl) pM 0 M2.toArray (by rfl) (by rfl) th (by simpa using szm) one2 ?_; rw [HW6.out]))
              have SD := S.drew
              have szM2 := img_size hM2.len
              have hS : ∀ {W : World}, CV w W L pM M2 → W.rangeAt w.heap.size 0 L ∧ W.rangeAt pM 0 M2 ∧ W.cell? ⟨w.heap.size, 4, none⟩ = some (.int .i64 clr) := fun S => ⟨range_of S.l, range_of S.m, cell_list S.l hA.f.clr⟩
              refine wp_region_held_drew (S := (fun w' => w'.rangeAt w.heap.size 0 L ∧ w'.rangeAt pM 0 M2 ∧ w'.cell? ⟨w.heap.size, 4, none⟩ = some (.int .i64 clr))) (by kernel_rfl) ?_ (fun hHeld => ?_)
              · exact hS SD
              generalize W6.drew = V3 at *
              refine wpAnyH_take (i := 0) (v := .agg (L : List Value).toArray) rfl (by kernel_rfl) (by kernel_rfl) (by kernel_rfl) (fun _ _ _ h => h) (yieldsIf_load_mid rfl 29 (.tmp 4) rfl (w.heap.size) 0 rfl L _ (fun w' h => h.1) (by first | exact Tryd.underlying29) rfl (by first | assumption | (simp only [*]; kernel_rfl))) (by assumption) ?_
              simp only [List.getElem_toArray, List.getElem_cons_succ, List.getElem_cons_zero, Act.put, List.setIfInBounds_toArray, List.set_cons_zero, List.set_cons_succ]
              refine wpAnyH_take (i := 1) (v := .agg (M2 : List Value).toArray) rfl (by kernel_rfl) (by kernel_rfl) (by kernel_rfl) (fun _ _ _ h => h) (yieldsIf_load_mid rfl 39 (.tmp 9) rfl (pM) 0 rfl M2 _ (fun w' h => h.2.1) (by first | exact Tryd.underlying39) rfl (by first | assumption | (simp only [*]; kernel_rfl))) (by assumption) ?_
              simp only [List.getElem_toArray, List.getElem_cons_succ, List.getElem_cons_zero, Act.put, List.setIfInBounds_toArray, List.set_cons_zero, List.set_cons_succ]
              refine wpAnyH_take (i := 2) (v := ?_) rfl (by kernel_rfl) (by kernel_rfl) (by kernel_rfl) (fun _ _ _ h => h) (Or.inl ⟨by rfl, ?_⟩) (by assumption) ?_
              rotate_left
              · intro w hSw
                try dsimp only at hSw
                go_simp
                try with_reducible rfl
              simp only [List.getElem_toArray, List.getElem_cons_succ, List.getElem_cons_zero, Act.put, List.setIfInBounds_toArray, List.set_cons_zero, List.set_cons_succ]
              refine wpAnyH_take (i := 4) (v := ?_) rfl (by kernel_rfl) (by kernel_rfl) (by kernel_rfl) (fun _ _ _ h => h) (Or.inl ⟨by rfl, ?_⟩) (by assumption) ?_
              rotate_left
              · intro w hSw
                try dsimp only at hSw
                go_simp
                try with_reducible rfl
              simp only [List.getElem_toArray, List.getElem_cons_succ, List.getElem_cons_zero, Act.put, List.setIfInBounds_toArray, List.set_cons_zero, List.set_cons_succ]
              refine wpAnyH_take (i := 5) (v := ?_) rfl (by kernel_rfl) (by kernel_rfl) (by kernel_rfl) (fun _ _ _ h => h) (Or.inl ⟨by rfl, ?_⟩) (by assumption) ?_
              rotate_left
              · intro w hSw
                try dsimp only at hSw
                go_simp
                try with_reducible rfl
              simp only [List.getElem_toArray, List.getElem_cons_succ, List.getElem_cons_zero, Act.put, List.setIfInBounds_toArray, List.set_cons_zero, List.set_cons_succ]
              refine wpAnyH_take (i := 6) (v := ?_) rfl (by kernel_rfl) (by kernel_rfl) (by kernel_rfl) (fun _ _ _ h => h) (Or.inl ⟨by rfl, ?_⟩) (by assumption) ?_
              rotate_left
              · intro w hSw
                try dsimp only at hSw
                go_simp
                try with_reducible rfl
              simp only [List.getElem_toArray, List.getElem_cons_succ, List.getElem_cons_zero, Act.put, List.setIfInBounds_toArray, List.set_cons_zero, List.set_cons_succ]
              refine wpAnyH_take (i := 7) (v := ?_) rfl (by kernel_rfl) (by kernel_rfl) (by kernel_rfl) (fun _ _ _ h => h) (Or.inl ⟨by rfl, ?_⟩) (by assumption) ?_
              rotate_left
              · intro w hSw
                try dsimp only at hSw
                go_simp
                try with_reducible rfl
              simp only [List.getElem_toArray, List.getElem_cons_succ, List.getElem_cons_zero, Act.put, List.setIfInBounds_toArray, List.set_cons_zero, List.set_cons_succ]
              refine wpAnyH_take (i := 8) (v := ?_) rfl (by kernel_rfl) (by kernel_rfl) (by kernel_rfl) (fun _ _ _ h => h) (Or.inl ⟨by rfl, ?_⟩) (by assumption) ?_
              rotate_left
              · intro w hSw
                try dsimp only at hSw
                go_simp
                try with_reducible rfl
              simp only [List.getElem_toArray, List.getElem_cons_succ, List.getElem_cons_zero, Act.put, List.setIfInBounds_toArray, List.set_cons_zero, List.set_cons_succ]
              refine wpAnyH_ready (rs := [3]) (by kernel_rfl) (by simp) ?_
              refine AllReadyH.cons rfl (fun K hK => ?_) AllReadyH.nil
              go_simp
              refine (Occupied_g L M2 kinds.length nsig clr st 65535 sn A A1 c c1 free2 occ nor rev lam true _ HOC.out hA.f hM2).mono ?_
              rintro e V4 ⟨rfl, b⟩
              refine hK.out _ _ ?_ (fun hHeld => ?_)
              · exact hS (SD.later b)
              clear hK K
              replace SD := SD.later b
              clear b
              try simp only [List.getElem_toArray, List.getElem_cons_succ, List.getElem_cons_zero, Act.put, List.setIfInBounds_toArray, List.set_cons_zero, List.set_cons_succ]
              refine wpAnyH_take (i := 9) (v := ?_) rfl (by kernel_rfl) (by kernel_rfl) (by kernel_rfl) (fun _ _ _ h => h) (Or.inl ⟨by rfl, ?_⟩) (by assumption) ?_
              rotate_left
              · intro w hSw
                try dsimp only at hSw
                go_simp
                try with_reducible rfl
              simp only [List.getElem_toArray, List.getElem_cons_succ, List.getElem_cons_zero, Act.put, List.setIfInBounds_toArray, List.set_cons_zero, List.set_cons_succ]
              refine wpAnyH_take (i := 10) (v := ?_) rfl (by kernel_rfl) (by kernel_rfl) (by kernel_rfl) (fun _ _ _ h => h) (Or.inl ⟨by rfl, ?_⟩) (by assumption) ?_
              rotate_left
              · intro w hSw
                try dsimp only at hSw
                go_simp
                try with_reducible rfl
              simp only [List.getElem_toArray, List.getElem_cons_succ, List.getElem_cons_zero, Act.put, List.setIfInBounds_toArray, List.set_cons_zero, List.set_cons_succ]
              refine wpAnyH_take (i := 11) (v := .agg (M2 : List Value).toArray) rfl (by kernel_rfl) (by kernel_rfl) (by kernel_rfl) (fun _ _ _ h => h) (yieldsIf_load_mid rfl 39 (.tmp 9) rfl (pM) 0 rfl M2 _ (fun w' h => h.2.1) (by first | exact Tryd.underlying39) rfl (by first | assumption | (simp only [*]; kernel_rfl))) (by assumption) ?_
              simp only [List.getElem_toArray, List.getElem_cons_succ, List.getElem_cons_zero, Act.put, List.setIfInBounds_toArray, List.set_cons_zero, List.set_cons_succ]
              refine wpAnyH_ready (rs := [12]) (by kernel_rfl) (by simp) ?_
              refine AllReadyH.cons rfl (fun K hK => ?_) AllReadyH.nil
              go_simp
              refine (Right_g M2 65535 free2 occ nor rev lam true _ HRI.out SD.t hM2).mono ?_
              rintro e V5 ⟨rfl, b⟩
              refine hK.out _ _ ?_ (fun hHeld => ?_)
              · exact hS (SD.later b)
              clear hK K
              replace SD := SD.later b
              clear b
              try simp only [List.getElem_toArray, List.getElem_cons_succ, List.getElem_cons_zero, Act.put, List.setIfInBounds_toArray, List.set_cons_zero, List.set_cons_succ]
              refine wpAnyH_take (i := 13) (v := ?_) rfl (by kernel_rfl) (by kernel_rfl) (by kernel_rfl) (fun _ _ _ h => h) (Or.inl ⟨by rfl, ?_⟩) (by assumption) ?_
              rotate_left
              · intro w hSw
                try dsimp only at hSw
                go_simp
                try with_reducible rfl
              simp only [List.getElem_toArray, List.getElem_cons_succ, List.getElem_cons_zero, Act.put, List.setIfInBounds_toArray, List.set_cons_zero, List.set_cons_succ]
              refine wpAnyH_take (i := 14) (v := ?_) rfl (by kernel_rfl) (by kernel_rfl) (by kernel_rfl) (fun _ _ _ h => h) (Or.inl ⟨by rfl, ?_⟩) (by assumption) ?_
              rotate_left
              · intro w hSw
                try dsimp only at hSw
                go_simp
                try with_reducible rfl
              simp only [List.getElem_toArray, List.getElem_cons_succ, List.getElem_cons_zero, Act.put, List.setIfInBounds_toArray, List.set_cons_zero, List.set_cons_succ]
              refine wpAnyH_done (by kernel_rfl) ?_ _
              go_wp2
              go_roundw
              case rel => exact ⟨k + 1, M2, 65535, (-1), 0, free2, occ, nor, rev, lam, by omega, by go_num, rfl, rfl, rfl, SD, hM2, Lib.hid (.inl ⟨rfl, rfl⟩), HF2C, HF2S, by omega, by omega⟩
              case measure => simp [intOf]; omega
            · replace hia := hia.symm
              subst hia
              have hia2 : age + 1 = onV age 1 65535 := by rw [onV_val (by omega)]; omega
              obtain ⟨free2, hfree2, hfc, hfs⟩ := HPASS.out (age + 1) hia2
              have HF2C := Lib.hid hfc
              have HF2S := Lib.hid hfs
              have qa : decide (0 ≤ age) = true := decide_eq_true ha0
              have qb : decide (age + 1 < 0) = false := decide_eq_false (by omega)
              have hwa : IntKind.i64.wrap (age + 1) = age + 1 := IntWalk.i64_in _ (by omega)
              clear hfc hfs
              go_wp2_with (first
                | refine wpList_load_g (by rfl) 29 (.tmp 4) (by rfl) w.heap.size 0 (by rfl) L _ (range_of S.l) Tryd.underlying29 rfl szL ?_
                | refine wpList_load_g (by rfl) 39 (.tmp 9) (by rfl) pM 0 (by rfl) M _ (range_of S.m) Tryd.underlying39 rfl szM ?_)
              refine (Pass_g L M kinds.length nsig clr st age (age + 1) A A1 c c1 free free2 occ nor rev lam _ hia2 hfree2 S.t hA.f hM).mono ?_
              rintro e W5 ⟨b, M2, rfl, hM2⟩
              replace S := S.later b
              clear b
              have th : W5.there pM 0 M2.toArray.size := there_of S.m 0 _ (by simp [hM.len, hM2.len])
              have szm := img_size hM2.len
              have one2 := all_oneCell_toArray hM2.one
              replace S := S.set (M' := M2) (by rw [hM.len, hM2.len])
              obtain ⟨W6, hW6⟩ : ∃ W6, W5.setCells pM 0 M2.toArray.toList = W6 := ⟨_, rfl⟩
              rw [hW6] at S
              have HW6 := Lib.hid hW6
              have HRI : Hid (true = rightI free2 (age + 1)) := Lib.hid (by rw [rightI, HF2C.out, Bool.true_and]; exact ((isCount_iff _).2 (by omega)).symm)
              clear hia2 hfree2 hW6
              have x6 := cell_list S.l hA.f.st
              obtain ⟨sb, hsb⟩ : ∃ sb, decide (st < age + 1) = sb := ⟨_, rfl⟩
              rw [hsb] at HF2S
              have HSB := Lib.hid hsb
              cases sb
              · have hlow := low32 occ sn
                obtain ⟨bt, hbt2⟩ : ∃ bt, occ.getLsbD sn = bt := ⟨_, rfl⟩
                rw [hbt2] at hlow HF2S
                have HBT := Lib.hid hbt2
                clear hbt2
                cases bt
                · obtain ⟨q, hq⟩ : ∃ q, decide (row + 1 < clr) = q := ⟨_, rfl⟩
                  have HQ := Lib.hid hq
                  replace HF2S : Hid (free2[sn]? = some (row + 1)) := Lib.hid (by simpa using HF2S.out)
                  have HOC : Hid (q = occV kinds.length occ (decide (st < (age + 1))) free2 clr sn) := Lib.hid (by rw [occ_in hs1 hs2 HF2S.out, HSB.out, HBT.out, HQ.out]; simp)
                  cases q
                  · go_wp2_with (first
                  | (refine wpList_store_mid rfl 39 (.tmp 9) (.tmp 94) (by rfl) pM 0 M2.toArray (by rfl) (by rfl) th (by simpa using szm) one2 ?_; rw [HW6.out]))
                    have SD := S.drew
                    have szM2 := img_size hM2.len
                    have hS : ∀ {W : World}, CV w W L pM M2 → W.rangeAt w.heap.size 0 L ∧ W.rangeAt pM 0 M2 ∧ W.cell? ⟨w.heap.size, 4, none⟩ = some (.int .i64 clr) := fun S => ⟨range_of S.l, range_of S.m, cell_list S.l hA.f.clr⟩
                    refine wp_region_held_drew (S := (fun w' => w'.rangeAt w.heap.size 0 L ∧ w'.rangeAt pM 0 M2 ∧ w'.cell? ⟨w.heap.size, 4, none⟩ = some (.int .i64 clr))) (by kernel_rfl) ?_ (fun hHeld => ?_)
                    · exact hS SD
                    generalize W6.drew = V3 at *
                    refine wpAnyH_take (i := 0) (v := .agg (L : List Value).toArray) rfl (by kernel_rfl) (by kernel_rfl) (by kernel_rfl) (fun _ _ _ h => h) (yieldsIf_load_mid rfl 29 (.tmp 4) rfl (w.heap.size) 0 rfl L _ (fun w' h => h.1) (by first | exact Tryd.underlying29) rfl (by first | assumption | (simp only [*]; kernel_rfl))) (by assumption) ?_
                    simp only [List.getElem_toArray, List.getElem_cons_succ, List.getElem_cons_zero, Act.put, List.setIfInBounds_toArray, List.set_cons_zero, List.set_cons_succ]
                    refine wpAnyH_take (i := 1) (v := .agg (M2 : List Value).toArray) rfl (by kernel_rfl) (by kernel_rfl) (by kernel_rfl) (fun _ _ _ h => h) (yieldsIf_load_mid rfl 39 (.tmp 9) rfl (pM) 0 rfl M2 _ (fun w' h => h.2.1) (by first | exact Tryd.underlying39) rfl (by first | assumption | (simp only [*]; kernel_rfl))) (by assumption) ?_
                    simp only [List.getElem_toArray, List.getElem_cons_succ, List.getElem_cons_zero, Act.put, List.setIfInBounds_toArray, List.set_cons_zero, List.set_cons_succ]
                    refine wpAnyH_take (i := 2) (v := ?_) rfl (by kernel_rfl) (by kernel_rfl) (by kernel_rfl) (fun _ _ _ h => h) (Or.inl ⟨by rfl, ?_⟩) (by assumption) ?_
                    rotate_left
                    · intro w hSw
                      try dsimp only at hSw
                      go_simp
                      try with_reducible rfl
                    simp only [List.getElem_toArray, List.getElem_cons_succ, List.getElem_cons_zero, Act.put, List.setIfInBounds_toArray, List.set_cons_zero, List.set_cons_succ]
                    refine wpAnyH_take (i := 4) (v := ?_) rfl (by kernel_rfl) (by kernel_rfl) (by kernel_rfl) (fun _ _ _ h => h) (Or.inl ⟨by rfl, ?_⟩) (by assumption) ?_
                    rotate_left
                    · intro w hSw
                      try dsimp only at hSw
                      go_simp
                      try with_reducible rfl
                    simp only [List.getElem_toArray, List.getElem_cons_succ, List.getElem_cons_zero, Act.put, List.setIfInBounds_toArray, List.set_cons_zero, List.set_cons_succ]
                    refine wpAnyH_take (i := 5) (v := ?_) rfl (by kernel_rfl) (by kernel_rfl) (by kernel_rfl) (fun _ _ _ h => h) (Or.inl ⟨by rfl, ?_⟩) (by assumption) ?_
                    rotate_left
                    · intro w hSw
                      try dsimp only at hSw
                      go_simp
                      try with_reducible rfl
                    simp only [List.getElem_toArray, List.getElem_cons_succ, List.getElem_cons_zero, Act.put, List.setIfInBounds_toArray, List.set_cons_zero, List.set_cons_succ]
                    refine wpAnyH_take (i := 6) (v := ?_) rfl (by kernel_rfl) (by kernel_rfl) (by kernel_rfl) (fun _ _ _ h => h) (Or.inl ⟨by rfl, ?_⟩) (by assumption) ?_
                    rotate_left
                    · intro w hSw
                      try dsimp only at hSw
                      go_simp
                      try with_reducible rfl
                    simp only [List.getElem_toArray, List.getElem_cons_succ, List.getElem_cons_zero, Act.put, List.setIfInBounds_toArray, List.set_cons_zero, List.set_cons_succ]
                    refine wpAnyH_take (i := 7) (v := ?_) rfl (by kernel_rfl) (by kernel_rfl) (by kernel_rfl) (fun _ _ _ h => h) (Or.inl ⟨by rfl, ?_⟩) (by assumption) ?_
                    rotate_left
                    · intro w hSw
                      try dsimp only at hSw
                      go_simp
                      try with_reducible rfl
                    simp only [List.getElem_toArray, List.getElem_cons_succ, List.getElem_cons_zero, Act.put, List.setIfInBounds_toArray, List.set_cons_zero, List.set_cons_succ]
                    refine wpAnyH_take (i := 8) (v := ?_) rfl (by kernel_rfl) (by kernel_rfl) (by kernel_rfl) (fun _ _ _ h => h) (Or.inl ⟨by rfl, ?_⟩) (by assumption) ?_
                    rotate_left
                    · intro w hSw
                      try dsimp only at hSw
                      go_simp
                      try with_reducible rfl
                    simp only [List.getElem_toArray, List.getElem_cons_succ, List.getElem_cons_zero, Act.put, List.setIfInBounds_toArray, List.set_cons_zero, List.set_cons_succ]
                    refine wpAnyH_ready (rs := [3]) (by kernel_rfl) (by simp) ?_
                    refine AllReadyH.cons rfl (fun K hK => ?_) AllReadyH.nil
                    go_simp
                    refine (Occupied_g L M2 kinds.length nsig clr st (age + 1) sn A A1 c c1 free2 occ nor rev lam false _ HOC.out hA.f hM2).mono ?_
                    rintro e V4 ⟨rfl, b⟩
                    refine hK.out _ _ ?_ (fun hHeld => ?_)
                    · exact hS (SD.later b)
                    clear hK K
                    replace SD := SD.later b
                    clear b
                    try simp only [List.getElem_toArray, List.getElem_cons_succ, List.getElem_cons_zero, Act.put, List.setIfInBounds_toArray, List.set_cons_zero, List.set_cons_succ]
                    refine wpAnyH_take (i := 9) (v := ?_) rfl (by kernel_rfl) (by kernel_rfl) (by kernel_rfl) (fun _ _ _ h => h) (Or.inl ⟨by rfl, ?_⟩) (by assumption) ?_
                    rotate_left
                    · intro w hSw
                      try dsimp only at hSw
                      go_simp
                      try with_reducible rfl
                    simp only [List.getElem_toArray, List.getElem_cons_succ, List.getElem_cons_zero, Act.put, List.setIfInBounds_toArray, List.set_cons_zero, List.set_cons_succ]
                    refine wpAnyH_take (i := 10) (v := ?_) rfl (by kernel_rfl) (by kernel_rfl) (by kernel_rfl) (fun _ _ _ h => h) (Or.inl ⟨by rfl, ?_⟩) (by assumption) ?_
                    rotate_left
                    · intro w hSw
                      try dsimp only at hSw
                      go_simp
                      try with_reducible rfl
                    simp only [List.getElem_toArray, List.getElem_cons_succ, List.getElem_cons_zero, Act.put, List.setIfInBounds_toArray, List.set_cons_zero, List.set_cons_succ]
                    refine wpAnyH_take (i := 11) (v := .agg (M2 : List Value).toArray) rfl (by kernel_rfl) (by kernel_rfl) (by kernel_rfl) (fun _ _ _ h => h) (yieldsIf_load_mid rfl 39 (.tmp 9) rfl (pM) 0 rfl M2 _ (fun w' h => h.2.1) (by first | exact Tryd.underlying39) rfl (by first | assumption | (simp only [*]; kernel_rfl))) (by assumption) ?_
                    simp only [List.getElem_toArray, List.getElem_cons_succ, List.getElem_cons_zero, Act.put, List.setIfInBounds_toArray, List.set_cons_zero, List.set_cons_succ]
                    refine wpAnyH_ready (rs := [12]) (by kernel_rfl) (by simp) ?_
                    refine AllReadyH.cons rfl (fun K hK => ?_) AllReadyH.nil
                    go_simp
                    refine (Right_g M2 (age + 1) free2 occ nor rev lam true _ HRI.out SD.t hM2).mono ?_
                    rintro e V5 ⟨rfl, b⟩
                    refine hK.out _ _ ?_ (fun hHeld => ?_)
                    · exact hS (SD.later b)
                    clear hK K
                    replace SD := SD.later b
                    clear b
                    try simp only [List.getElem_toArray, List.getElem_cons_succ, List.getElem_cons_zero, Act.put, List.setIfInBounds_toArray, List.set_cons_zero, List.set_cons_succ]
                    refine wpAnyH_take (i := 13) (v := ?_) rfl (by kernel_rfl) (by kernel_rfl) (by kernel_rfl) (fun _ _ _ h => h) (Or.inl ⟨by rfl, ?_⟩) (by assumption) ?_
                    rotate_left
                    · intro w hSw
                      try dsimp only at hSw
                      go_simp
                      try with_reducible rfl
                    simp only [List.getElem_toArray, List.getElem_cons_succ, List.getElem_cons_zero, Act.put, List.setIfInBounds_toArray, List.set_cons_zero, List.set_cons_succ]
                    refine wpAnyH_take (i := 14) (v := ?_) rfl (by kernel_rfl) (by kernel_rfl) (by kernel_rfl) (fun _ _ _ h => h) (Or.inl ⟨by rfl, ?_⟩) (by assumption) ?_
                    rotate_left
                    · intro w hSw
                      try dsimp only at hSw
                      go_simp
                      try with_reducible rfl
                    simp only [List.getElem_toArray, List.getElem_cons_succ, List.getElem_cons_zero, Act.put, List.setIfInBounds_toArray, List.set_cons_zero, List.set_cons_succ]
                    refine wpAnyH_done (by kernel_rfl) ?_ _
                    go_wp2
                    go_roundw
                    case rel => exact ⟨k + 1, M2, (age + 1), (age + 1), (row + 1), free2, occ, nor, rev, lam, by omega, by go_num, rfl, rfl, rfl, SD, hM2, Lib.hid (.inr ⟨by omega, by omega, rfl⟩), HF2C, HF2S, by omega, by omega⟩
                    case measure => simp [intOf]; omega
                  · go_wp2_with (first
                  | (refine wpList_store_mid rfl 39 (.tmp 9) (.tmp 94) (by rfl) pM 0 M2.toArray (by rfl) (by rfl) th (by simpa using szm) one2 ?_; rw [HW6.out]))
                    have SD := S.drew
                    have szM2 := img_size hM2.len
                    have hS : ∀ {W : World}, CV w W L pM M2 → W.rangeAt w.heap.size 0 L ∧ W.rangeAt pM 0 M2 ∧ W.cell? ⟨w.heap.size, 4, none⟩ = some (.int .i64 clr) := fun S => ⟨range_of S.l, range_of S.m, cell_list S.l hA.f.clr⟩
                    refine wp_region_held_drew (S := (fun w' => w'.rangeAt w.heap.size 0 L ∧ w'.rangeAt pM 0 M2 ∧ w'.cell? ⟨w.heap.size, 4, none⟩ = some (.int .i64 clr))) (by kernel_rfl) ?_ (fun hHeld => ?_)
                    · exact hS SD
                    generalize W6.drew = V3 at *
                    refine wpAnyH_take (i := 0) (v := .agg (L : List Value).toArray) rfl (by kernel_rfl) (by kernel_rfl) (by kernel_rfl) (fun _ _ _ h => h) (yieldsIf_load_mid rfl 29 (.tmp 4) rfl (w.heap.size) 0 rfl L _ (fun w' h => h.1) (by first | exact Tryd.underlying29) rfl (by first | assumption | (simp only [*]; kernel_rfl))) (by assumption) ?_
                    simp only [List.getElem_toArray, List.getElem_cons_succ, List.getElem_cons_zero, Act.put, List.setIfInBounds_toArray, List.set_cons_zero, List.set_cons_succ]
                    refine wpAnyH_take (i := 1) (v := .agg (M2 : List Value).toArray) rfl (by kernel_rfl) (by kernel_rfl) (by kernel_rfl) (fun _ _ _ h => h) (yieldsIf_load_mid rfl 39 (.tmp 9) rfl (pM) 0 rfl M2 _ (fun w' h => h.2.1) (by first | exact Tryd.underlying39) rfl (by first | assumption | (simp only [*]; kernel_rfl))) (by assumption) ?_
                    simp only [List.getElem_toArray, List.getElem_cons_succ, List.getElem_cons_zero, Act.put, List.setIfInBounds_toArray, List.set_cons_zero, List.set_cons_succ]
                    refine wpAnyH_take (i := 2) (v := ?_) rfl (by kernel_rfl) (by kernel_rfl) (by kernel_rfl) (fun _ _ _ h => h) (Or.inl ⟨by rfl, ?_⟩) (by assumption) ?_
                    rotate_left
                    · intro w hSw
                      try dsimp only at hSw
                      go_simp
                      try with_reducible rfl
                    simp only [List.getElem_toArray, List.getElem_cons_succ, List.getElem_cons_zero, Act.put, List.setIfInBounds_toArray, List.set_cons_zero, List.set_cons_succ]
                    refine wpAnyH_take (i := 4) (v := ?_) rfl (by kernel_rfl) (by kernel_rfl) (by kernel_rfl) (fun _ _ _ h => h) (Or.inl ⟨by rfl, ?_⟩) (by assumption) ?_
                    rotate_left
                    · intro w hSw
                      try dsimp only at hSw
                      go_simp
                      try with_reducible rfl
                    simp only [List.getElem_toArray, List.getElem_cons_succ, List.getElem_cons_zero, Act.put, List.setIfInBounds_toArray, List.set_cons_zero, List.set_cons_succ]
                    refine wpAnyH_take (i := 5) (v := ?_) rfl (by kernel_rfl) (by kernel_rfl) (by kernel_rfl) (fun _ _ _ h => h) (Or.inl ⟨by rfl, ?_⟩) (by assumption) ?_
                    rotate_left
                    · intro w hSw
                      try dsimp only at hSw
                      go_simp
                      try with_reducible rfl
                    simp only [List.getElem_toArray, List.getElem_cons_succ, List.getElem_cons_zero, Act.put, List.setIfInBounds_toArray, List.set_cons_zero, List.set_cons_succ]
                    refine wpAnyH_take (i := 6) (v := ?_) rfl (by kernel_rfl) (by kernel_rfl) (by kernel_rfl) (fun _ _ _ h => h) (Or.inl ⟨by rfl, ?_⟩) (by assumption) ?_
                    rotate_left
                    · intro w hSw
                      try dsimp only at hSw
                      go_simp
                      try with_reducible rfl
                    simp only [List.getElem_toArray, List.getElem_cons_succ, List.getElem_cons_zero, Act.put, List.setIfInBounds_toArray, List.set_cons_zero, List.set_cons_succ]
                    refine wpAnyH_take (i := 7) (v := ?_) rfl (by kernel_rfl) (by kernel_rfl) (by kernel_rfl) (fun _ _ _ h => h) (Or.inl ⟨by rfl, ?_⟩) (by assumption) ?_
                    rotate_left
                    · intro w hSw
                      try dsimp only at hSw
                      go_simp
                      try with_reducible rfl
                    simp only [List.getElem_toArray, List.getElem_cons_succ, List.getElem_cons_zero, Act.put, List.setIfInBounds_toArray, List.set_cons_zero, List.set_cons_succ]
                    refine wpAnyH_take (i := 8) (v := ?_) rfl (by kernel_rfl) (by kernel_rfl) (by kernel_rfl) (fun _ _ _ h => h) (Or.inl ⟨by rfl, ?_⟩) (by assumption) ?_
                    rotate_left
                    · intro w hSw
                      try dsimp only at hSw
                      go_simp
                      try with_reducible rfl
                    simp only [List.getElem_toArray, List.getElem_cons_succ, List.getElem_cons_zero, Act.put, List.setIfInBounds_toArray, List.set_cons_zero, List.set_cons_succ]
                    refine wpAnyH_ready (rs := [3]) (by kernel_rfl) (by simp) ?_
                    refine AllReadyH.cons rfl (fun K hK => ?_) AllReadyH.nil
                    go_simp
                    refine (Occupied_g L M2 kinds.length nsig clr st (age + 1) sn A A1 c c1 free2 occ nor rev lam true _ HOC.out hA.f hM2).mono ?_
                    rintro e V4 ⟨rfl, b⟩
                    refine hK.out _ _ ?_ (fun hHeld => ?_)
                    · exact hS (SD.later b)
                    clear hK K
                    replace SD := SD.later b
                    clear b
                    try simp only [List.getElem_toArray, List.getElem_cons_succ, List.getElem_cons_zero, Act.put, List.setIfInBounds_toArray, List.set_cons_zero, List.set_cons_succ]
                    refine wpAnyH_take (i := 9) (v := ?_) rfl (by kernel_rfl) (by kernel_rfl) (by kernel_rfl) (fun _ _ _ h => h) (Or.inl ⟨by rfl, ?_⟩) (by assumption) ?_
                    rotate_left
                    · intro w hSw
                      try dsimp only at hSw
                      go_simp
                      try with_reducible rfl
                    simp only [List.getElem_toArray, List.getElem_cons_succ, List.getElem_cons_zero, Act.put, List.setIfInBounds_toArray, List.set_cons_zero, List.set_cons_succ]
                    refine wpAnyH_take (i := 10) (v := ?_) rfl (by kernel_rfl) (by kernel_rfl) (by kernel_rfl) (fun _ _ _ h => h) (Or.inl ⟨by rfl, ?_⟩) (by assumption) ?_
                    rotate_left
                    · intro w hSw
                      try dsimp only at hSw
                      go_simp
                      try with_reducible rfl
                    simp only [List.getElem_toArray, List.getElem_cons_succ, List.getElem_cons_zero, Act.put, List.setIfInBounds_toArray, List.set_cons_zero, List.set_cons_succ]
                    refine wpAnyH_take (i := 11) (v := .agg (M2 : List Value).toArray) rfl (by kernel_rfl) (by kernel_rfl) (by kernel_rfl) (fun _ _ _ h => h) (yieldsIf_load_mid rfl 39 (.tmp 9) rfl (pM) 0 rfl M2 _ (fun w' h => h.2.1) (by first | exact Tryd.underlying39) rfl (by first | assumption | (simp only [*]; kernel_rfl))) (by assumption) ?_
                    simp only [List.getElem_toArray, List.getElem_cons_succ, List.getElem_cons_zero, Act.put, List.setIfInBounds_toArray, List.set_cons_zero, List.set_cons_succ]
                    refine wpAnyH_ready (rs := [12]) (by kernel_rfl) (by simp) ?_
                    refine AllReadyH.cons rfl (fun K hK => ?_) AllReadyH.nil
                    go_simp
                    refine (Right_g M2 (age + 1) free2 occ nor rev lam true _ HRI.out SD.t hM2).mono ?_
                    rintro e V5 ⟨rfl, b⟩
                    refine hK.out _ _ ?_ (fun hHeld => ?_)
                    · exact hS (SD.later b)
                    clear hK K
                    replace SD := SD.later b
                    clear b
                    try simp only [List.getElem_toArray, List.getElem_cons_succ, List.getElem_cons_zero, Act.put, List.setIfInBounds_toArray, List.set_cons_zero, List.set_cons_succ]
                    refine wpAnyH_take (i := 13) (v := ?_) rfl (by kernel_rfl) (by kernel_rfl) (by kernel_rfl) (fun _ _ _ h => h) (Or.inl ⟨by rfl, ?_⟩) (by assumption) ?_
                    rotate_left
                    · intro w hSw
                      try dsimp only at hSw
                      go_simp
                      try with_reducible rfl
                    simp only [List.getElem_toArray, List.getElem_cons_succ, List.getElem_cons_zero, Act.put, List.setIfInBounds_toArray, List.set_cons_zero, List.set_cons_succ]
                    refine wpAnyH_take (i := 14) (v := ?_) rfl (by kernel_rfl) (by kernel_rfl) (by kernel_rfl) (fun _ _ _ h => h) (Or.inl ⟨by rfl, ?_⟩) (by assumption) ?_
                    rotate_left
                    · intro w hSw
                      try dsimp only at hSw
                      go_simp
                      try with_reducible rfl
                    simp only [List.getElem_toArray, List.getElem_cons_succ, List.getElem_cons_zero, Act.put, List.setIfInBounds_toArray, List.set_cons_zero, List.set_cons_succ]
                    refine wpAnyH_done (by kernel_rfl) ?_ _
                    go_wp2
                    go_roundw
                    case rel => exact ⟨k + 1, M2, (age + 1), (age + 1), (row + 1), free2, occ, nor, rev, lam, by omega, by go_num, rfl, rfl, rfl, SD, hM2, Lib.hid (.inr ⟨by omega, by omega, rfl⟩), HF2C, HF2S, by omega, by omega⟩
                    case measure => simp [intOf]; omega
                · have hq0 : decide (0 < clr) = true := decide_eq_true (by omega)
                  replace HF2S : Hid (free2[sn]? = some 0) := Lib.hid (by simpa using HF2S.out)
                  have HOC : Hid (true = occV kinds.length occ (decide (st < (age + 1))) free2 clr sn) := Lib.hid (by rw [occ_in hs1 hs2 HF2S.out, HSB.out, HBT.out]; simp)
                  go_wp2_with (first
                  | (refine wpList_store_mid rfl 39 (.tmp 9) (.tmp 94) (by rfl) pM 0 M2.toArray (by rfl) (by rfl) th (by simpa using szm) one2 ?_; rw [HW6.out]))
                  have SD := S.drew
                  have szM2 := img_size hM2.len
                  have hS : ∀ {W : World}, CV w W L pM M2 → W.rangeAt w.heap.size 0 L ∧ W.rangeAt pM 0 M2 ∧ W.cell? ⟨w.heap.size, 4, none⟩ = some (.int .i64 clr) := fun S => ⟨range_of S.l, range_of S.m, cell_list S.l hA.f.clr⟩
                  refine wp_region_held_drew (S := (fun w' => w'.rangeAt w.heap.size 0 L ∧ w'.rangeAt pM 0 M2 ∧ w'.cell? ⟨w.heap.size, 4, none⟩ = some (.int .i64 clr))) (by kernel_rfl) ?_ (fun hHeld => ?_)
                  · exact hS SD
                  generalize W6.drew = V3 at *
                  refine wpAnyH_take (i := 0) (v := .agg (L : List Value).toArray) rfl (by kernel_rfl) (by kernel_rfl) (by kernel_rfl) (fun _ _ _ h => h) (yieldsIf_load_mid rfl 29 (.tmp 4) rfl (w.heap.size) 0 rfl L _ (fun w' h => h.1) (by first | exact Tryd.underlying29) rfl (by first | assumption | (simp only [*]; kernel_rfl))) (by assumption) ?_
                  simp only [List.getElem_toArray, List.getElem_cons_succ, List.getElem_cons_zero, Act.put, List.setIfInBounds_toArray, List.set_cons_zero, List.set_cons_succ]
                  refine wpAnyH_take (i := 1) (v := .agg (M2 : List Value).toArray) rfl (by kernel_rfl) (by kernel_rfl) (by kernel_rfl) (fun _ _ _ h => h) (yieldsIf_load_mid rfl 39 (.tmp 9) rfl (pM) 0 rfl M2 _ (fun w' h => h.2.1) (by first | exact Tryd.underlying39) rfl (by first | assumption | (simp only [*]; kernel_rfl))) (by assumption) ?_
                  simp only [List.getElem_toArray, List.getElem_cons_succ, List.getElem_cons_zero, Act.put, List.setIfInBounds_toArray, List.set_cons_zero, List.set_cons_succ]
                  refine wpAnyH_take (i := 2) (v := ?_) rfl (by kernel_rfl) (by kernel_rfl) (by kernel_rfl) (fun _ _ _ h => h) (Or.inl ⟨by rfl, ?_⟩) (by assumption) ?_
                  rotate_left
                  · intro w hSw
                    try dsimp only at hSw
                    go_simp
                    try with_reducible rfl
                  simp only [List.getElem_toArray, List.getElem_cons_succ, List.getElem_cons_zero, Act.put, List.setIfInBounds_toArray, List.set_cons_zero, List.set_cons_succ]
                  refine wpAnyH_take (i := 4) (v := ?_) rfl (by kernel_rfl) (by kernel_rfl) (by kernel_rfl) (fun _ _ _ h => h) (Or.inl ⟨by rfl, ?_⟩) (by assumption) ?_
                  rotate_left
                  · intro w hSw
                    try dsimp only at hSw
                    go_simp
                    try with_reducible rfl
                  simp only [List.getElem_toArray, List.getElem_cons_succ, List.getElem_cons_zero, Act.put, List.setIfInBounds_toArray, List.set_cons_zero, List.set_cons_succ]
                  refine wpAnyH_take (i := 5) (v := ?_) rfl (by kernel_rfl) (by kernel_rfl) (by kernel_rfl) (fun _ _ _ h => h) (Or.inl ⟨by rfl, ?_⟩) (by assumption) ?_
                  rotate_left
                  · intro w hSw
                    try dsimp only at hSw
                    go_simp
                    try with_reducible rfl
                  simp only [List.getElem_toArray, List.getElem_cons_succ, List.getElem_cons_zero, Act.put, List.setIfInBounds_toArray, List.set_cons_zero, List.set_cons_succ]
                  refine wpAnyH_take (i := 6) (v := ?_) rfl (by kernel_rfl) (by kernel_rfl) (by kernel_rfl) (fun _ _ _ h => h) (Or.inl ⟨by rfl, ?_⟩) (by assumption) ?_
                  rotate_left
                  · intro w hSw
                    try dsimp only at hSw
                    go_simp
                    try with_reducible rfl
                  simp only [List.getElem_toArray, List.getElem_cons_succ, List.getElem_cons_zero, Act.put, List.setIfInBounds_toArray, List.set_cons_zero, List.set_cons_succ]
                  refine wpAnyH_take (i := 7) (v := ?_) rfl (by kernel_rfl) (by kernel_rfl) (by kernel_rfl) (fun _ _ _ h => h) (Or.inl ⟨by rfl, ?_⟩) (by assumption) ?_
                  rotate_left
                  · intro w hSw
                    try dsimp only at hSw
                    go_simp
                    try with_reducible rfl
                  simp only [List.getElem_toArray, List.getElem_cons_succ, List.getElem_cons_zero, Act.put, List.setIfInBounds_toArray, List.set_cons_zero, List.set_cons_succ]
                  refine wpAnyH_take (i := 8) (v := ?_) rfl (by kernel_rfl) (by kernel_rfl) (by kernel_rfl) (fun _ _ _ h => h) (Or.inl ⟨by rfl, ?_⟩) (by assumption) ?_
                  rotate_left
                  · intro w hSw
                    try dsimp only at hSw
                    go_simp
                    try with_reducible rfl
                  simp only [List.getElem_toArray, List.getElem_cons_succ, List.getElem_cons_zero, Act.put, List.setIfInBounds_toArray, List.set_cons_zero, List.set_cons_succ]
                  refine wpAnyH_ready (rs := [3]) (by kernel_rfl) (by simp) ?_
                  refine AllReadyH.cons rfl (fun K hK => ?_) AllReadyH.nil
                  go_simp
                  refine (Occupied_g L M2 kinds.length nsig clr st (age + 1) sn A A1 c c1 free2 occ nor rev lam true _ HOC.out hA.f hM2).mono ?_
                  rintro e V4 ⟨rfl, b⟩
                  refine hK.out _ _ ?_ (fun hHeld => ?_)
                  · exact hS (SD.later b)
                  clear hK K
                  replace SD := SD.later b
                  clear b
                  try simp only [List.getElem_toArray, List.getElem_cons_succ, List.getElem_cons_zero, Act.put, List.setIfInBounds_toArray, List.set_cons_zero, List.set_cons_succ]
                  refine wpAnyH_take (i := 9) (v := ?_) rfl (by kernel_rfl) (by kernel_rfl) (by kernel_rfl) (fun _ _ _ h => h) (Or.inl ⟨by rfl, ?_⟩) (by assumption) ?_
                  rotate_left
                  · intro w hSw
                    try dsimp only at hSw
                    go_simp
                    try with_reducible rfl
                  simp only [List.getElem_toArray, List.getElem_cons_succ, List.getElem_cons_zero, Act.put, List.setIfInBounds_toArray, List.set_cons_zero, List.set_cons_succ]
                  refine wpAnyH_take (i := 10) (v := ?_) rfl (by kernel_rfl) (by kernel_rfl) (by kernel_rfl) (fun _ _ _ h => h) (Or.inl ⟨by rfl, ?_⟩) (by assumption) ?_
                  rotate_left
                  · intro w hSw
                    try dsimp only at hSw
                    go_simp
                    try with_reducible rfl
                  simp only [List.getElem_toArray, List.getElem_cons_succ, List.getElem_cons_zero, Act.put, List.setIfInBounds_toArray, List.set_cons_zero, List.set_cons_succ]
                  refine wpAnyH_take (i := 11) (v := .agg (M2 : List Value).toArray) rfl (by kernel_rfl) (by kernel_rfl) (by kernel_rfl) (fun _ _ _ h => h) (yieldsIf_load_mid rfl 39 (.tmp 9) rfl (pM) 0 rfl M2 _ (fun w' h => h.2.1) (by first | exact Tryd.underlying39) rfl (by first | assumption | (simp only [*]; kernel_rfl))) (by assumption) ?_
                  simp only [List.getElem_toArray, List.getElem_cons_succ, List.getElem_cons_zero, Act.put, List.setIfInBounds_toArray, List.set_cons_zero, List.set_cons_succ]
                  refine wpAnyH_ready (rs := [12]) (by kernel_rfl) (by simp) ?_
                  refine AllReadyH.cons rfl (fun K hK => ?_) AllReadyH.nil
                  go_simp
                  refine (Right_g M2 (age + 1) free2 occ nor rev lam true _ HRI.out SD.t hM2).mono ?_
                  rintro e V5 ⟨rfl, b⟩
                  refine hK.out _ _ ?_ (fun hHeld => ?_)
                  · exact hS (SD.later b)
                  clear hK K
                  replace SD := SD.later b
                  clear b
                  try simp only [List.getElem_toArray, List.getElem_cons_succ, List.getElem_cons_zero, Act.put, List.setIfInBounds_toArray, List.set_cons_zero, List.set_cons_succ]
                  refine wpAnyH_take (i := 13) (v := ?_) rfl (by kernel_rfl) (by kernel_rfl) (by kernel_rfl) (fun _ _ _ h => h) (Or.inl ⟨by rfl, ?_⟩) (by assumption) ?_
                  rotate_left
                  · intro w hSw
                    try dsimp only at hSw
                    go_simp
                    try with_reducible rfl
                  simp only [List.getElem_toArray, List.getElem_cons_succ, List.getElem_cons_zero, Act.put, List.setIfInBounds_toArray, List.set_cons_zero, List.set_cons_succ]
                  refine wpAnyH_take (i := 14) (v := ?_) rfl (by kernel_rfl) (by kernel_rfl) (by kernel_rfl) (fun _ _ _ h => h) (Or.inl ⟨by rfl, ?_⟩) (by assumption) ?_
                  rotate_left
                  · intro w hSw
                    try dsimp only at hSw
                    go_simp
                    try with_reducible rfl
                  simp only [List.getElem_toArray, List.getElem_cons_succ, List.getElem_cons_zero, Act.put, List.setIfInBounds_toArray, List.set_cons_zero, List.set_cons_succ]
                  refine wpAnyH_done (by kernel_rfl) ?_ _
                  go_wp2
                  go_roundw
                  case rel => exact ⟨k + 1, M2, (age + 1), (age + 1), 0, free2, occ, nor, rev, lam, by omega, by go_num, rfl, rfl, rfl, SD, hM2, Lib.hid (.inr ⟨by omega, by omega, rfl⟩), HF2C, HF2S, by omega, by omega⟩
                  case measure => simp [intOf]; omega
              · have hq0 : decide (0 < clr) = true := decide_eq_true (by omega)
                replace HF2S : Hid (free2[sn]? = some 0) := Lib.hid (by simpa using HF2S.out)
                have HOC : Hid (true = occV kinds.length occ (decide (st < (age + 1))) free2 clr sn) := Lib.hid (by rw [occ_in hs1 hs2 HF2S.out, HSB.out]; simp)
                go_wp2_with (first
                  | (refine wpList_store_mid rfl 39 (.tmp 9) (.tmp 94) (by rfl) pM 0 M2.toArray (by rfl) (by rfl) th (by simpa using szm) one2 ?_; rw [HW6.out]))
                have SD := S.drew
                have szM2 := img_size hM2.len
                have hS : ∀ {W : World}, CV w W L pM M2 → W.rangeAt w.heap.size 0 L ∧ W.rangeAt pM 0 M2 ∧ W.cell? ⟨w.heap.size, 4, none⟩ = some (.int .i64 clr) := fun S => ⟨range_of S.l, range_of S.m, cell_list S.l hA.f.clr⟩
                refine wp_region_held_drew (S := (fun w' => w'.rangeAt w.heap.size 0 L ∧ w'.rangeAt pM 0 M2 ∧ w'.cell? ⟨w.heap.size, 4, none⟩ = some (.int .i64 clr))) (by kernel_rfl) ?_ (fun hHeld => ?_)
                · exact hS SD
                generalize W6.drew = V3 at *
                refine wpAnyH_take (i := 0) (v := .agg (L : List Value).toArray) rfl (by kernel_rfl) (by kernel_rfl) (by kernel_rfl) (fun _ _ _ h => h) (yieldsIf_load_mid rfl 29 (.tmp 4) rfl (w.heap.size) 0 rfl L _ (fun w' h => h.1) (by first | exact Tryd.underlying29) rfl (by first | assumption | (simp only [*]; kernel_rfl))) (by assumption) ?_
                simp only [List.getElem_toArray, List.getElem_cons_succ, List.getElem_cons_zero, Act.put, List.setIfInBounds_toArray, List.set_cons_zero, List.set_cons_succ]
                refine wpAnyH_take (i := 1) (v := .agg (M2 : List Value).toArray) rfl (by kernel_rfl) (by kernel_rfl) (by kernel_rfl) (fun _ _ _ h => h) (yieldsIf_load_mid rfl 39 (.tmp 9) rfl (pM) 0 rfl M2 _ (fun w' h => h.2.1) (by first | exact Tryd.underlying39) rfl (by first | assumption | (simp only [*]; kernel_rfl))) (by assumption) ?_
                simp only [List.getElem_toArray, List.getElem_cons_succ, List.getElem_cons_zero, Act.put, List.setIfInBounds_toArray, List.set_cons_zero, List.set_cons_succ]
                refine wpAnyH_take (i := 2) (v := ?_) rfl (by kernel_rfl) (by kernel_rfl) (by kernel_rfl) (fun _ _ _ h => h) (Or.inl ⟨by rfl, ?_⟩) (by assumption) ?_
                rotate_left
                · intro w hSw
                  try dsimp only at hSw
                  go_simp
                  try with_reducible rfl
                simp only [List.getElem_toArray, List.getElem_cons_succ, List.getElem_cons_zero, Act.put, List.setIfInBounds_toArray, List.set_cons_zero, List.set_cons_succ]
                refine wpAnyH_take (i := 4) (v := ?_) rfl (by kernel_rfl) (by kernel_rfl) (by kernel_rfl) (fun _ _ _ h => h) (Or.inl ⟨by rfl, ?_⟩) (by assumption) ?_
                rotate_left
                · intro w hSw
                  try dsimp only at hSw
                  go_simp
                  try with_reducible rfl
                simp only [List.getElem_toArray, List.getElem_cons_succ, List.getElem_cons_zero, Act.put, List.setIfInBounds_toArray, List.set_cons_zero, List.set_cons_succ]
                refine wpAnyH_take (i := 5) (v := ?_) rfl (by kernel_rfl) (by kernel_rfl) (by kernel_rfl) (fun _ _ _ h => h) (Or.inl ⟨by rfl, ?_⟩) (by assumption) ?_
                rotate_left
                · intro w hSw
                  try dsimp only at hSw
                  go_simp
                  try with_reducible rfl
                simp only [List.getElem_toArray, List.getElem_cons_succ, List.getElem_cons_zero, Act.put, List.setIfInBounds_toArray, List.set_cons_zero, List.set_cons_succ]
                refine wpAnyH_take (i := 6) (v := ?_) rfl (by kernel_rfl) (by kernel_rfl) (by kernel_rfl) (fun _ _ _ h => h) (Or.inl ⟨by rfl, ?_⟩) (by assumption) ?_
                rotate_left
                · intro w hSw
                  try dsimp only at hSw
                  go_simp
                  try with_reducible rfl
                simp only [List.getElem_toArray, List.getElem_cons_succ, List.getElem_cons_zero, Act.put, List.setIfInBounds_toArray, List.set_cons_zero, List.set_cons_succ]
                refine wpAnyH_take (i := 7) (v := ?_) rfl (by kernel_rfl) (by kernel_rfl) (by kernel_rfl) (fun _ _ _ h => h) (Or.inl ⟨by rfl, ?_⟩) (by assumption) ?_
                rotate_left
                · intro w hSw
                  try dsimp only at hSw
                  go_simp
                  try with_reducible rfl
                simp only [List.getElem_toArray, List.getElem_cons_succ, List.getElem_cons_zero, Act.put, List.setIfInBounds_toArray, List.set_cons_zero, List.set_cons_succ]
                refine wpAnyH_take (i := 8) (v := ?_) rfl (by kernel_rfl) (by kernel_rfl) (by kernel_rfl) (fun _ _ _ h => h) (Or.inl ⟨by rfl, ?_⟩) (by assumption) ?_
                rotate_left
                · intro w hSw
                  try dsimp only at hSw
                  go_simp
                  try with_reducible rfl
                simp only [List.getElem_toArray, List.getElem_cons_succ, List.getElem_cons_zero, Act.put, List.setIfInBounds_toArray, List.set_cons_zero, List.set_cons_succ]
                refine wpAnyH_ready (rs := [3]) (by kernel_rfl) (by simp) ?_
                refine AllReadyH.cons rfl (fun K hK => ?_) AllReadyH.nil
                go_simp
                refine (Occupied_g L M2 kinds.length nsig clr st (age + 1) sn A A1 c c1 free2 occ nor rev lam true _ HOC.out hA.f hM2).mono ?_
                rintro e V4 ⟨rfl, b⟩
                refine hK.out _ _ ?_ (fun hHeld => ?_)
                · exact hS (SD.later b)
                clear hK K
                replace SD := SD.later b
                clear b
                try simp only [List.getElem_toArray, List.getElem_cons_succ, List.getElem_cons_zero, Act.put, List.setIfInBounds_toArray, List.set_cons_zero, List.set_cons_succ]
                refine wpAnyH_take (i := 9) (v := ?_) rfl (by kernel_rfl) (by kernel_rfl) (by kernel_rfl) (fun _ _ _ h => h) (Or.inl ⟨by rfl, ?_⟩) (by assumption) ?_
                rotate_left
                · intro w hSw
                  try dsimp only at hSw
                  go_simp
                  try with_reducible rfl
                simp only [List.getElem_toArray, List.getElem_cons_succ, List.getElem_cons_zero, Act.put, List.setIfInBounds_toArray, List.set_cons_zero, List.set_cons_succ]
                refine wpAnyH_take (i := 10) (v := ?_) rfl (by kernel_rfl) (by kernel_rfl) (by kernel_rfl) (fun _ _ _ h => h) (Or.inl ⟨by rfl, ?_⟩) (by assumption) ?_
                rotate_left
                · intro w hSw
                  try dsimp only at hSw
                  go_simp
                  try with_reducible rfl
                simp only [List.getElem_toArray, List.getElem_cons_succ, List.getElem_cons_zero, Act.put, List.setIfInBounds_toArray, List.set_cons_zero, List.set_cons_succ]
                refine wpAnyH_take (i := 11) (v := .agg (M2 : List Value).toArray) rfl (by kernel_rfl) (by kernel_rfl) (by kernel_rfl) (fun _ _ _ h => h) (yieldsIf_load_mid rfl 39 (.tmp 9) rfl (pM) 0 rfl M2 _ (fun w' h => h.2.1) (by first | exact Tryd.underlying39) rfl (by first | assumption | (simp only [*]; kernel_rfl))) (by assumption) ?_
                simp only [List.getElem_toArray, List.getElem_cons_succ, List.getElem_cons_zero, Act.put, List.setIfInBounds_toArray, List.set_cons_zero, List.set_cons_succ]
                refine wpAnyH_ready (rs := [12]) (by kernel_rfl) (by simp) ?_
                refine AllReadyH.cons rfl (fun K hK => ?_) AllReadyH.nil
                go_simp
                refine (Right_g M2 (age + 1) free2 occ nor rev lam true _ HRI.out SD.t hM2).mono ?_
                rintro e V5 ⟨rfl, b⟩
                refine hK.out _ _ ?_ (fun hHeld => ?_)
                · exact hS (SD.later b)
                clear hK K
                replace SD := SD.later b
                clear b
                try simp only [List.getElem_toArray, List.getElem_cons_succ, List.getElem_cons_zero, Act.put, List.setIfInBounds_toArray, List.set_cons_zero, List.set_cons_succ]
                refine wpAnyH_take (i := 13) (v := ?_) rfl (by kernel_rfl) (by kernel_rfl) (by kernel_rfl) (fun _ _ _ h => h) (Or.inl ⟨by rfl, ?_⟩) (by assumption) ?_
                rotate_left
                · intro w hSw
                  try dsimp only at hSw
                  go_simp
                  try with_reducible rfl
                simp only [List.getElem_toArray, List.getElem_cons_succ, List.getElem_cons_zero, Act.put, List.setIfInBounds_toArray, List.set_cons_zero, List.set_cons_succ]
                refine wpAnyH_take (i := 14) (v := ?_) rfl (by kernel_rfl) (by kernel_rfl) (by kernel_rfl) (fun _ _ _ h => h) (Or.inl ⟨by rfl, ?_⟩) (by assumption) ?_
                rotate_left
                · intro w hSw
                  try dsimp only at hSw
                  go_simp
                  try with_reducible rfl
                simp only [List.getElem_toArray, List.getElem_cons_succ, List.getElem_cons_zero, Act.put, List.setIfInBounds_toArray, List.set_cons_zero, List.set_cons_succ]
                refine wpAnyH_done (by kernel_rfl) ?_ _
                go_wp2
                go_roundw
                case rel => exact ⟨k + 1, M2, (age + 1), (age + 1), 0, free2, occ, nor, rev, lam, by omega, by go_num, rfl, rfl, rfl, SD, hM2, Lib.hid (.inr ⟨by omega, by omega, rfl⟩), HF2C, HF2S, by omega, by omega⟩
                case measure => simp [intOf]; omega
      · obtain rfl : k = tl.length := by omega
        go_wp2_with fail
        refine (wakes_c _ S.t).mono ?_
        rintro e W5 ⟨rfl, b⟩
        go_wp2
        go_ret
        exact ⟨rfl, (S.later b).bb⟩

theorem own : ownKnob Tryd.prog.godebug = none := by kernel_rfl
theorem laidOut : laidOutB Tryd.prog = true := by kernel_rfl
noncomputable def wit (os : Os) : World :=
  { World.holding Tryd.prog os ⟨#[], #[], []⟩ with heap := (World.holding Tryd.prog os ⟨#[], #[], []⟩).heap.modify 0 fun
      | .cells _ t frozen => .cells #[.int .i64 1073741824, .int .i64 65535] t frozen
      | o => o }
set_option maxRecDepth 100000 in
theorem lifted (os : Os) (started : os.Started) (H : Type) (enc : TypeId × Value → H) (F : Stop.Interp) :
    ReturnsInHanded {} Tryd.checked os 3 .any ((OpenSpec.ofChange Rows.imageClearSpec).preRow enc Tryd.prog Tryd.f3 Rows.imageClearRow.domain false Rows.imageClearRow.laid) (((OpenSpec.ofChange Rows.imageClearSpec).at F).post enc Tryd.prog Tryd.f3 false true false false) := by
  obtain ⟨x, hx⟩ : ∃ x, DataW.whole enc Tryd.prog ((wit os).forCall (fun _ _ => 0) ⟨#[], #[.agg zL, .int .i64 0, .slice none 0 0, .slice none 0 0], []⟩).memory Tryd.f3.params.toList Rows.imageClearSpec.vars false (#[.agg zL, .int .i64 0, .slice none 0 0, .slice none 0 0] : Array Value).toList 8 = some x := Option.isSome_iff_exists.1 (by kernel_rfl)
  refine Fr.lift (C := Tryd.checked) (s := OpenSpec.ofChange Rows.imageClearSpec) own started (by kernel_rfl) Tryd.func3
    (witness_row_at (enc := enc) (C := Tryd.checked) false (wit os) #[.agg zL, .int .i64 0, .slice none 0 0, .slice none 0 0] rfl (by kernel_rfl) (by kernel_rfl) (by kernel_rfl)
      (OpenSpec.preRow_of_cond 8 hx rfl (fun k hk => by cases hk) (by kernel_rfl) (laidMet_of_run' 8 (by kernel_rfl) (by kernel_rfl))))
    laidOut (by kernel_rfl) rfl Tryd.underlying4 rfl rfl ?_ ?_
  · intro ds hds
    match ds, hds with
    | [_, _, _, _], _ => rfl
  · intro W base args ds before hval hA hlt _ hz hL
    rw [Tryd.params3] at hA hval
    obtain ⟨v0, vs0, d0, ds0, p0, q0, hargs, rfl, rfl, h0, r0⟩ := trodAll_cons hA
    obtain ⟨v1, vs1, d1, ds1, p1, q1, rfl, rfl, rfl, h1, r1⟩ := trodAll_cons r0
    obtain ⟨v2, vs2, d2, ds2, p2, q2, rfl, rfl, rfl, h2, r2⟩ := trodAll_cons r1
    obtain ⟨v3, vs3, d3, ds3, p3, q3, rfl, rfl, rfl, h3, r3⟩ := trodAll_cons r2
    obtain ⟨rfl, rfl, rfl⟩ := trodAll_nil r3
    obtain rfl : args = #[v0, v1, v2, v3] := by cases args; simp_all
    obtain ⟨L, kinds, ss, lens, nsig, nfl, clr, st, A, c, A1, c1, A3, c3, ve, rfl, hLA⟩ := open_layout (hval 0 _ v0 rfl rfl) h0
    obtain ⟨s, rfl, rfl, rfl, w1⟩ := open_int Tryd.underlying3 (hval 1 _ v1 rfl rfl) h1
    obtain ⟨tl, htl⟩ := Mem.open_bools_arg Tryd.underlying30 Tryd.underlying4 (by kernel_rfl) (hval 2 _ v2 rfl rfl) h2
    obtain ⟨xs, hxs, _⟩ := Mem.open_arg (sz := 4) insV (fun _ => True) (fun _ => rfl) (by omega) Tryd.underlying31 (by kernel_rfl) (fun m cs x hl ht => by obtain ⟨o, n, r, l, e⟩ := open_in ht; exact ⟨(o, n, r, l), trivial, e⟩) (hval 3 _ v3 rfl rfl) h3
    exact walk L kinds ss lens nsig nfl clr st A c A1 c1 A3 c3 ve s v2 tl v3 xs W (tops_of_laid hL) hLA htl hxs

theorem said : Rows.ImageClearSaid :=
  OpenClaim.holds_of_cond 3 Tryd.f3 rfl rfl rfl rfl rfl rfl rfl ⟨rfl, rfl, rfl, rfl, rfl⟩ rfl rfl rfl rfl rfl (by kernel_rfl) Tryd.func3 (by kernel_rfl)
    (of_decide_eq_true (by kernel_rfl)) (by unfold Func.isWrapper; first | (rw [if_pos (by decide +kernel)]; kernel_rfl) | (rw [if_neg (by decide +kernel)]; exact ⟨rfl, rfl⟩))
    (fun os started H enc _ F => by rw [OpenClaim.pre_eq_preRow]; exact lifted os started H enc F)

theorem plain (f : FuncId) (fn : Func) (hf : Tryd.pinned.checked.prog.funcNamed "lockbar/lockbarlaw15.ImageClear" = some f) (hfn : Tryd.pinned.checked.prog.funcs[f]? = some fn) :
    false = Tryd.pinned.checked.prog.looks [] ∧ ∀ (j : Nat) t, fn.params[j]? = some t → Tryd.pinned.checked.prog.wantsStandIn t = false := by
  obtain rfl : f = 3 := Option.some.inj ((show Tryd.prog.funcNamed "lockbar/lockbarlaw15.ImageClear" = some 3 by kernel_rfl).symm.trans hf) |>.symm
  obtain rfl : fn = Tryd.f3 := (Option.some.inj (Tryd.func3.symm.trans hfn)).symm
  refine ⟨by kernel_rfl, fun j t ht => ?_⟩
  have hm : t ∈ Tryd.f3.params.toList := by simpa using Array.mem_of_getElem? ht
  have hall : (Tryd.f3.params.toList.all fun u => !Tryd.prog.wantsStandIn u) = true := by kernel_rfl
  exact (show Tryd.prog.wantsStandIn t = false by simpa using List.all_eq_true.1 hall t hm)

theorem card : Rows.ImageClearCardSaid :=
  Claim7.holds_tied_plain_at .later [] _ _ _ _ said (fun _ h => by cases h) (by kernel_rfl) (fun _ h => by cases h) imageClear_row_tie rfl ⟨rfl, rfl⟩ (by kernel_rfl) rfl plain (by kernel_rfl)
#print axioms card
end Go.Proofs.YtlcahkkpbikccaaDoor.imageClear
