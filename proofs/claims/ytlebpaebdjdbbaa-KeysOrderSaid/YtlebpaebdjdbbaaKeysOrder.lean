/- KeysOrder: for every argument the statement's Go text returns true and turns nothing that was there. It is proved at every argument, without a condition beyond the row. -/
import Derived.Test.YtlebpaebdjdbbaaKeyP
import Derived.Test.YtlebpaebdjdbbaaKeyR
import Derived.Test.YtlebpaebdjdbbaaKeyQ
import Derived.Test.YtlebpaebdjdbbaaKeyW
import Derived.Test.YtlebpaebdjdbbaaKeyG
import Derived.Test.YtlebpaebdjdbbaaFrame
import Derived.Deep.RegionHeld3
import Derived.Deep.CutRange
import Derived.Deep.DrawnRows
namespace Go.Proofs.Ytlebpaebdjdbbaa.keysOrder
open Go.ChangeShapes Go.WideShapes Go.ChangeAt Go.RowKit Rf
attribute [local go_sem ↓] run_max2 run_min2
open Mem KM Bits Bv
theorem w64s {k : Nat} (h : k ≤ 1000) : wrap64 ((k : Int) + 1) = (k : Int) + 1 := by unfold wrap64; omega
theorem w64i {z : Int} (h0 : -1000 ≤ z) (h : z ≤ 1000) : wrap64 z = z := by unfold wrap64; omega
theorem low32e (b : BitVec 32) (j : Nat) : (Go.bits .and .u32 ((b.toNat : Int) / 2 ^ j) 1 == 1) = b.getLsbD j := by
  have e1 : ((b.toNat : Int) / 2 ^ j) = ((b >>> j).toNat : Int) := by
    rw [BitVec.toNat_ushiftRight, Nat.shiftRight_eq_div_pow]; norm_cast
  have e2 : Go.bits .and .u32 ((b >>> j).toNat : Int) 1 = (((b >>> j) &&& 1#32).toNat : Int) := Bv.bits_and .u32 rfl (b >>> j) 1#32
  rw [e1, e2]
  have e3 : (b >>> j) &&& 1#32 = if b.getLsbD j then 1#32 else 0#32 := by
    rw [BitVec.and_one_eq_setWidth_ofBool_getLsbD]
    simp only [BitVec.getLsbD_ushiftRight, Nat.add_zero]
    cases b.getLsbD j <;> rfl
  rw [e3]
  cases b.getLsbD j <;> rfl
theorem front_bit (a b c : BitVec 32) (j : Nat) : (Go.bits .and .u32 (Go.bits .andNot .u32 (Go.bits .and .u32 (a.toNat : Int) (b.toNat : Int)) (c.toNat : Int) / 2 ^ j) 1 == 1) = (front a b c).getLsbD j := by
  have e1 : Go.bits .and .u32 (a.toNat : Int) (b.toNat : Int) = ((a &&& b).toNat : Int) := Bv.bits_and .u32 rfl a b
  have e2 : Go.bits .andNot .u32 ((a &&& b).toNat : Int) (c.toNat : Int) = (((a &&& b) &&& ~~~ c).toNat : Int) := Bv.bits_andNot .u32 rfl (a &&& b) c
  rw [e1, e2]
  exact low32e _ _
theorem num_of {b x y : Btn} {ns ne nc : Nat} {p : Pr} (h : Is b x y ns ne nc p) (h1 : ns ≤ 12) (h2 : ne ≤ 12) (h3 : nc ≤ 24) : 0 ≤ p.2.1 ∧ p.2.1 < 24 := by cases h <;> simp <;> omega
theorem lt_of {l : List Pr} (h : l.Pairwise Lt) {j : Nat} {q p : Pr} (hq : l[j]? = some q) (hp : l[j + 1]? = some p) : Lt q p := by
  obtain ⟨h1, e1⟩ := List.getElem?_eq_some_iff.1 hq
  obtain ⟨h2, e2⟩ := List.getElem?_eq_some_iff.1 hp
  rw [← e1, ← e2]
  exact List.pairwise_iff_getElem.1 h j (j + 1) h1 h2 (by omega)
theorem is_inv {b x y : Btn} {ns ne nc : Nat} {p0 p1 : Nat} {p2 : Int} (h : Is b x y ns ne nc ((p0 : Int), (p1 : Int), p2)) :
    (p0 = 1 ∧ p1 = 0 ∧ p2 = 0 ∧ b.can = true ∧ x.can = true ∧ y.can = false) ∨ (p0 = 2 ∧ p1 = 0 ∧ p2 = 0 ∧ b.aut = true ∧ x.aut = true ∧ y.aut = false) ∨
    (p0 = 3 ∧ p2 = 0 ∧ p1 < ns ∧ (front b.ent x.ent y.ent).getLsbD p1 = true) ∨ (p0 = 4 ∧ p2 = 0 ∧ p1 < nc ∧ (front b.via x.via y.via).getLsbD p1 = true) ∨ (p0 = 5 ∧ p2 = 0 ∧ p1 < ne ∧ (front b.exi x.exi y.exi).getLsbD p1 = true) ∨
    (p0 = 6 ∧ p1 < nc ∧ onI ((b.keys.getD p1 0#8).toNat : Int) ((x.keys.getD p1 0#8).toNat : Int) ((y.keys.getD p1 0#8).toNat : Int) = true ∧ p2 = ((b.keys.getD p1 0#8).toNat : Int) - 1) := by
  obtain ⟨p, hp⟩ : ∃ p : Pr, p = ((p0 : Int), (p1 : Int), p2) := ⟨_, rfl⟩
  rw [← hp] at h
  cases h with
  | cancel h => simp only [Prod.mk.injEq] at hp; simp only [Bool.and_eq_true, Bool.not_eq_true'] at h; exact .inl ⟨by omega, by omega, by omega, h.1, h.2.1, h.2.2⟩
  | auto h => simp only [Prod.mk.injEq] at hp; simp only [Bool.and_eq_true, Bool.not_eq_true'] at h; exact .inr (.inl ⟨by omega, by omega, by omega, h.1, h.2.1, h.2.2⟩)
  | entrance i hi h => simp only [Prod.mk.injEq] at hp; obtain rfl : i = p1 := by omega
                       exact .inr (.inr (.inl ⟨by omega, by omega, hi, h⟩))
  | via i hi h => simp only [Prod.mk.injEq] at hp; obtain rfl : i = p1 := by omega
                  exact .inr (.inr (.inr (.inl ⟨by omega, by omega, hi, h⟩)))
  | exit i hi h => simp only [Prod.mk.injEq] at hp; obtain rfl : i = p1 := by omega
                   exact .inr (.inr (.inr (.inr (.inl ⟨by omega, by omega, hi, h⟩))))
  | key i hi h => simp only [Prod.mk.injEq] at hp; obtain rfl : i = p1 := by omega
                  exact .inr (.inr (.inr (.inr (.inr ⟨by omega, hi, by rw [on_eq]; exact h, hp.2.2.symm⟩))))
theorem on_inv {k x y : Int} (h : onI k x y = true) : (k = 1 ∧ x = 1 ∧ (y == 1) = false ∧ (y != 1) = true ∧ (y == 3) = false ∧ (y != 3) = true) ∨ (k = 2 ∧ x = 2 ∧ (y == 2) = false ∧ (y != 2) = true ∧ (y == 3) = false ∧ (y != 3) = true) := by
  simp only [onI, Bool.and_eq_true, Bool.or_eq_true, beq_iff_eq, bne_iff_ne] at h
  obtain ⟨h1, h2, h3, h4⟩ := h
  rcases h1 with h1 | h1
  · subst h1; exact .inl ⟨rfl, h2, by simpa using h3, by simpa using h3, by simpa using h4, by simpa using h4⟩
  · subst h1; exact .inr ⟨rfl, h2, by simpa using h3, by simpa using h3, by simpa using h4, by simpa using h4⟩
theorem mem_yat {x y : Btn} (hx : x.keys.length = 24) {i : Nat} {v : Value} (h : (btnV y)[i]? = some v) : (memV x y)[29 + i]? = some v := by
  unfold memV; rw [List.getElem?_append_right (by rw [btnV_len hx]; omega), btnV_len hx, Nat.add_sub_cancel_left]; exact h
theorem mem_xat {x y : Btn} {i : Nat} {v : Value} (h : (btnV x)[i]? = some v) : (memV x y)[i]? = some v := by
  unfold memV; rw [List.getElem?_append_left (List.getElem?_eq_some_iff.1 h).1]; exact h
abbrev ordL : List Value := [.int .i64 0, .int .i64 1, .int .i64 2, .int .i64 3, .int .i64 4, .int .i64 5, .int .i64 6]
abbrev zOrd : Array Value := #[.int .i64 0, .int .i64 0, .int .i64 0, .int .i64 0, .int .i64 0, .int .i64 0, .int .i64 0]
abbrev zPr : Array Value := #[.int .u8 0, .int .i64 0, .int .i64 0]
theorem ord_at {k : Nat} (h : k < 7) : ordL[k]? = some (.int .i64 (k : Int)) := by
  match k, h with
  | 0, _ => rfl
  | 1, _ => rfl
  | 2, _ => rfl
  | 3, _ => rfl
  | 4, _ => rfl
  | 5, _ => rfl
  | 6, _ => rfl
theorem all_ord : (ordL.toArray).all (·.oneCell') = true := by kernel_rfl
theorem below_drewN {n : Nat} {a w : World} (h : Below n a w) (m : Nat) : Below n a (w.drewN m) := ⟨h.os, h.tape, h.output, h.size, h.block⟩
/-- what the law knows -/
structure KR (w V : World) (L : List Value) (x y b : Btn) : Prop where
  bel : Below w.heap.size w V
  l : V.heap[w.heap.size]? = some (.cells L.toArray 29 (0, 0))
  m : V.heap[w.heap.size + 1]? = some (.cells (memV x y).toArray 35 (0, 0))
  b : V.heap[w.heap.size + 1 + 1]? = some (.cells (btnV b).toArray 33 (0, 0))
theorem KR.later {w V V' : World} {L : List Value} {x y b : Btn} (h : KR w V L x y b) (c : Below V.heap.size V V') : KR w V' L x y b :=
  ⟨below_step h.bel c, var_later h.l c, var_later h.m c, var_later h.b c⟩
theorem Presses_n (L : List Value) (nsec : Nat) (lens : List Nat) (nsig nfl : Nat) (A : Option Addr) (c : Nat) (A1 : Option Addr) (c1 : Nat) (A3 : Option Addr) (c3 : Nat) (ve : Value) (ns ne nc : Nat) (x y b : Btn) (l : List Pr) (w : World) (hns : min nsig 12 = ns) (hne : min lens.length 12 = ne) (hnc : min nsec 24 = nc) (hx : x.keys.length = 24) (hy : y.keys.length = 24) (hb : b.keys.length = 24) (hl : pressL b x y ns ne nc = l) (hL : LayN w L nsec lens nsig nfl A c A1 c1 A3 c3 ve) :
    Calls Try.prog 9 #[.agg L.toArray, .agg (memV x y).toArray, .agg (btnV b).toArray] w fun e w' => Below w.heap.size w w' ∧ ∃ A' c', e = .returned (.tuple #[.slice A' l.length c', .agg (memV b x).toArray]) ∧ w'.ownsRow w.heap.size 52 3 (.slice A' l.length c') l.length (prs l) := by
  subst hl
  refine (Presses_of L nsec lens nsig nfl A c A1 c1 A3 c3 ve ns ne nc x y b w hns hne hnc hx hy hb hL (fun g => presses1 g x y b ns ne nc (by omega) (by omega) (by omega) hx hy hb)).mono ?_
  rintro e w' ⟨hB, v', rfl, ho⟩
  obtain ⟨A', c', rfl, _, _⟩ := (sliceAt_of_own ho).form
  exact ⟨hB, A', c', rfl, ho⟩
set_option maxHeartbeats 8000000 in
set_option maxRecDepth 100000 in
theorem walk (L : List Value) (nsec : Nat) (lens : List Nat) (nsig nfl : Nat) (A : Option Addr) (c : Nat) (A1 : Option Addr) (c1 : Nat) (A3 : Option Addr) (c3 : Nat) (ve : Value) (x y b : Btn) (w : World) (hxl : x.keys.length = 24) (hyl : y.keys.length = 24) (hbl : b.keys.length = 24)
    (hL : LayN w L nsec lens nsig nfl A c A1 c1 A3 c3 ve) :
    Calls Try.prog 4 #[.agg L.toArray, .agg (memV x y).toArray, .agg (btnV b).toArray] w fun e w' => e = .returned (.bool true) ∧ Below w.heap.size w w' := by
  obtain ⟨Ae, ce, rfl, _⟩ := hL.ea
  have szL := lay_size hL.len
  have szM := mem_size hxl hyl
  have szN := mem_size hbl hxl
  have szB := btn_size hbl
  have szX := btn_size hxl
  obtain ⟨ns, hns⟩ : ∃ ns, min nsig 12 = ns := ⟨_, rfl⟩
  obtain ⟨ne, hne⟩ : ∃ ne, min lens.length 12 = ne := ⟨_, rfl⟩
  obtain ⟨nc, hnc⟩ : ∃ nc, min nsec 24 = nc := ⟨_, rfl⟩
  have l1 : ns ≤ 12 := by omega
  have l2 : ne ≤ 12 := by omega
  have l3 : nc ≤ 24 := by omega
  have HNS := Lib.hid hns
  have HNE := Lib.hid hne
  have HNC := Lib.hid hnc
  clear hns hne hnc
  have HL1 := Lib.hid l1
  have HL2 := Lib.hid l2
  have HL3 := Lib.hid l3
  have HLw := Lib.hid hL
  clear l1 l2 l3
  obtain ⟨gr, hg⟩ : ∃ gr, greatV nsec nsig nfl lens = gr := ⟨_, rfl⟩
  have HG := Lib.hid hg
  clear hg
  have W0 : KR w (((w.alloc (.cells L.toArray 29)).alloc (.cells (memV x y).toArray 35)).alloc (.cells (btnV b).toArray 33)) L x y b :=
    ⟨below_step (below_step (kbelow_new _ _) (kbelow_new _ _)) (kbelow_new _ _), old_at (old_at (new_at rfl _) _) _, old_at (new_at (by simp) _) _, new_at (by simp) _⟩
  clear hL
  go_enter Try.func4, Try.ntmps4
  go_upto_region 1 with (fail)
  generalize ((w.alloc (.cells L.toArray 29)).alloc (.cells (memV x y).toArray 35)).alloc (.cells (btnV b).toArray 33) = V at *
  have RL := range_of W0.l
  have hL0 := Lib.hid (HLw.out.later W0.bel)
  go_wp2_with (first
    | refine wpList_load_g (by rfl) 29 (.tmp 3) (by rfl) w.heap.size 0 (by rfl) L _ RL Try.underlying29 rfl szL ?_
    | fail)
  refine (Great_c L nsec nsig nfl lens A A1 A3 c c1 c3 _ _ hL0.out.sec hL0.out.sig hL0.out.ex hL0.out.fl hL0.out.ea).mono ?_
  rintro e V1 ⟨rfl, b1⟩
  rw [HG.out]
  have W1 := W0.later b1
  clear RL W0 b1 hL0
  cases gr with
  | true =>
    go_wp2_with fail
    refine (wakes_c _).mono ?_
    rintro e V2 ⟨rfl, b2⟩
    have W2 := W1.later b2
    go_wp2
    go_ret
    exact ⟨rfl, W2.bel⟩
  | false =>
    go_upto_region 3 with (fail)
    have RL := range_of W1.l
    have RM := range_of W1.m
    have RB := range_of W1.b
    obtain ⟨l, hl⟩ : ∃ l, pressL b x y ns ne nc = l := ⟨_, rfl⟩
    have HPL := Lib.hid hl
    clear hl
    go_wp2_with (first
      | refine wpList_load_g (by rfl) 29 (.tmp 3) (by rfl) w.heap.size 0 (by rfl) L _ RL Try.underlying29 rfl szL ?_
      | refine wpList_load_g (by rfl) 35 (.tmp 4) (by rfl) (w.heap.size + 1) 0 (by rfl) (memV x y) _ RM Try.underlying35 rfl szM ?_
      | refine wpList_load_g (by rfl) 33 (.tmp 5) (by rfl) (w.heap.size + 1 + 1) 0 (by rfl) (btnV b) _ RB Try.underlying33 rfl szB ?_
      | fail)
    refine (Presses_n L nsec lens nsig nfl A c A1 c1 A3 c3 _ ns ne nc x y b l _ HNS.out HNE.out HNC.out hxl hyl hbl HPL.out (HLw.out.later W1.bel)).mono ?_
    rintro e V2 ⟨b2, Ar, cr, rfl, op⟩
    have W2 := W1.later b2
    have sp := sliceAt_of_own op
    clear op b2 W1 RL RM RB
    obtain ⟨V3, hW, VN, b3, ths⟩ := newv (V := V2) (memV b x) zMem 35 (by rw [memV_len hbl hxl]; rfl)
    have szN2 : (Try.prog.info? 35).map (·.size) = some (memV b x).toArray.size := by simpa using szN
    go_upto_region 4 with (first
      | (refine wpList_store_mid rfl 35 (.tmp 8) (.tmp 22) (by rfl) V2.heap.size 0 (memV b x).toArray (by rfl) (by rfl) ths szN2 (all_one (memV_one _ _)) ?_; rw [hW])
      | fail)
    have W3 := W2.later b3
    replace sp := sp.later b3
    clear hW ths b3 W2
    generalize V2.heap.size = gn at *
    have R1 := mem_x VN
    have R2 := mem_y hbl VN
    have R3 := mem_x W3.m
    have R4 := range_of W3.b
    have heB : ∀ W : World, (Op.equalIn 10000 33 (.agg (btnV b).toArray) (.agg (btnV b).toArray)).run Try.prog W = .ok true W := fun W => by rw [eq_btn b b hbl hbl W, decide_eq_true rfl]
    have heX : ∀ W : World, (Op.equalIn 10000 33 (.agg (btnV x).toArray) (.agg (btnV x).toArray)).run Try.prog W = .ok true W := fun W => by rw [eq_btn x x hxl hxl W, decide_eq_true rfl]
    go_upto_region 6 with (first
      | refine wpList_load_g (by rfl) 33 (.tmp 23) (by rfl) gn 0 (by rfl) (btnV b) _ R1 Try.underlying33 rfl szB ?_
      | refine wpList_load_g (by rfl) 33 (.tmp 5) (by rfl) (w.heap.size + 1 + 1) 0 (by rfl) (btnV b) _ R4 Try.underlying33 rfl szB ?_
      | refine wpList_load_g (by rfl) 33 (.tmp 28) (by rfl) gn 29 (by rfl) (btnV x) _ R2 Try.underlying33 rfl szX ?_
      | refine wpList_load_g (by rfl) 33 (.tmp 30) (by rfl) (w.heap.size + 1) 0 (by rfl) (btnV x) _ R3 Try.underlying33 rfl szX ?_
      | fail)
    clear R1 R2 R3 R4 heB heX VN
    obtain ⟨V4, hW, VO, b4, ths⟩ := newv (V := V3) ordL zOrd 50 rfl
    go_upto_region 7 with (first
      | (refine wpList_store_mid rfl 50 (.tmp 9) (.tmp 34) (by rfl) V3.heap.size 0 ordL.toArray (by rfl) (by rfl) ths (by kernel_rfl) all_ord ?_; rw [hW])
      | fail)
    have W4 := W3.later b4
    replace sp := sp.later b4
    clear hW ths b4 W3
    generalize V3.heap.size = go at *
    have HLL : Hid (l.length ≤ 100) := Lib.hid (by have := pressL_le b x y ns ne nc; rw [HPL.out] at this; have := HL1.out; have := HL2.out; have := HL3.out; omega)
    go_wp2_with fail
    go_loopw [10] (fun i wr => ∃ k : Nat, k ≤ l.length ∧ i = .int .i64 k ∧ KR w wr L x y b ∧ SliceAt wr 3 (.slice Ar l.length cr) l.length (prs l) ∧ wr.heap[go]? = some (.cells ordL.toArray 50 (0, 0))) (fun i _ => l.length - (intOf i).toNat)
    case atStart => exact ⟨0, Nat.zero_le _, rfl, W4, sp, VO⟩
    case round =>
      clear W4 sp VO
      obtain ⟨k, hk, rfl, K, sp, VO⟩ := hrel
      by_cases hkl : k < l.length
      · have i1 : (k : Int) < (l.length : Int) := by omega
        obtain ⟨p, hp⟩ : ∃ p, l[k]? = some p := ⟨_, List.getElem?_eq_getElem hkl⟩
        obtain ⟨bp, op, cc, hv, x0, x1, x2⟩ := pr_cells sp hp
        obtain ⟨rfl, hnn, rfl⟩ := Value.slice.inj hv
        have hI : Is b x y ns ne nc p := mem_pressL (by rw [HPL.out]; exact List.mem_of_getElem? hp)
        have hn := num_of hI HL1.out HL2.out HL3.out
        have hkd := kind_of hI
        have hLt : ∀ q, 0 < k → l[k - 1]? = some q → Lt q p := fun q h0 hq => lt_of (HPL.out ▸ pressL_sorted b x y ns ne nc) hq (by rw [Nat.sub_add_cancel h0]; exact hp)
        have hQ : ∀ q, l[k - 1]? = some q → 1 ≤ q.1 ∧ q.1 ≤ 6 := fun q hq => kind_of (mem_pressL (by rw [HPL.out]; exact List.mem_of_getElem? hq) : Is b x y ns ne nc q)
        obtain ⟨p0, p1, p2⟩ := p
        simp only at x0 x1 x2 hn hkd
        obtain ⟨pk, rfl⟩ : ∃ pk : Nat, p0 = (pk : Int) := ⟨p0.toNat, by omega⟩
        obtain ⟨pn, rfl⟩ : ∃ pn : Nat, p1 = (pn : Int) := ⟨p1.toNat, by omega⟩
        have t1 : decide ((pk : Int) < 1) = false := decide_eq_false (by omega)
        have t2 : decide ((7 : Int) ≤ (pk : Int)) = false := decide_eq_false (by omega)
        have t3 : decide ((pn : Int) < 0) = false := decide_eq_false (by omega)
        have t4 : decide ((24 : Int) ≤ (pn : Int)) = false := decide_eq_false (by omega)
        have i2 : (pk : Int) < 7 := by omega
        have hpk7 : pk < 7 := by omega
        have HI := Lib.hid hI
        have HLT := Lib.hid hLt
        have HQQ := Lib.hid hQ
        have HKL := Lib.hid hkl
        have hle := HLL.out
        have HW1 := Lib.hid (w64s (k := k) (by omega))
        have hpn24 : (pn : Int) < 24 := hn.2
        clear hv hnn hI hn hkd hLt hQ hp
        obtain ⟨V5, hW, VX, b5, ths⟩ := newv (V := wr) [.int .u8 (pk : Int), .int .i64 (pn : Int), .int .i64 p2] zPr 52 rfl
        go_upto_region 11 with (first
          | (refine wpList_store_mid rfl 52 (.tmp 11) (.tmp 44) (by rfl) wr.heap.size 0 [.int .u8 (pk : Int), .int .i64 (pn : Int), .int .i64 p2].toArray (by rfl) (by rfl) ths (by kernel_rfl) (by simp [Value.oneCell']) ?_; rw [hW])
          | fail)
        replace K := K.later b5
        replace sp := sp.later b5
        replace VO := var_later VO b5
        clear hW ths b5 x0 x1 x2
        generalize wr.heap.size = gx at *
        simp only [Act.put]
        go_cut [103] from 35 to 302 (fun v wx => v = .bool false ∧ KR w wx L x y b ∧ SliceAt wx 3 (.slice (some ⟨bp, op, none⟩) l.length cr) l.length (prs l) ∧ wx.heap[go]? = some (.cells ordL.toArray 50 (0, 0)) ∧ wx.heap[gx]? = some (.cells ([.int .u8 (pk : Int), .int .i64 (pn : Int), .int .i64 p2] : List Value).toArray 52 (0, 0)))
        case first =>
          have c0 := cell_list VX (i := 0) rfl
          have c1 := cell_list VX (i := 1) rfl
          rcases Nat.eq_zero_or_pos k with h0 | h0
          · subst h0
            go_quiet (fail)
            go_wp2
            go_meet
            exact ⟨rfl, K.later (below_drewN (Below.refl _ _) _), sp.later (below_drewN (Below.refl _ _) _), var_later VO (below_drewN (Below.refl _ _) _), var_later VX (below_drewN (Below.refl _ _) _)⟩
          · have g0 : decide ((0 : Int) < (k : Int)) = true := decide_eq_true (by omega)
            obtain ⟨k1, hk1⟩ : ∃ k1, k1 + 1 = k := ⟨k - 1, by omega⟩
            have hkk : k - 1 = k1 := by omega
            obtain ⟨q, hq⟩ : ∃ q, l[k1]? = some q := ⟨_, List.getElem?_eq_getElem (by omega)⟩
            obtain ⟨bq, oq, cq, hv, y0, y1, _⟩ := pr_cells sp hq
            obtain ⟨hb1, hz1, hz2⟩ := Value.slice.inj hv
            obtain ⟨rfl, rfl, hz3⟩ := Addr.mk.inj (Option.some.inj hb1)
            clear hz1 hz2 hz3
            have hlt := HLT.out q h0 (by rw [hkk]; exact hq)
            have hqk := HQQ.out q (by rw [hkk]; exact hq)
            obtain ⟨q0, q1, q2⟩ := q
            simp only [Lt] at y0 y1 hlt hqk
            obtain ⟨qk, rfl⟩ : ∃ qk : Nat, q0 = (qk : Int) := ⟨q0.toNat, by omega⟩
            have hqk7 : qk < 7 := by omega
            have i3 : (qk : Int) < 7 := by omega
            have o0 := cell_list VO (ord_at hpk7)
            have o1 := cell_list VO (ord_at hqk7)
            have j1 : (k1 : Int) < (l.length : Int) := by omega
            have g1 : decide (pk < qk) = false := decide_eq_false (by omega)
            have g1' : decide ((pk : Int) < (qk : Int)) = false := decide_eq_false (by omega)
            have hc : (((qk : Int) == (pk : Int)) = false ∧ (qk == pk) = false) ∨ (((qk : Int) == (pk : Int)) = true ∧ (qk == pk) = true ∧ decide ((pn : Int) ≤ q1) = false) := by
              rcases hlt with h | ⟨h1, h2⟩
              · exact .inl ⟨by simp; omega, by simp; omega⟩
              · exact .inr ⟨by simp; omega, by simp; omega, decide_eq_false (by omega)⟩
            have hy : -1000 ≤ (k : Int) - 1 ∧ (k : Int) - 1 ≤ 1000 ∧ (k : Int) - 1 = (k1 : Int) := by omega
            have HA := Lib.hid ((w64i hy.1 hy.2.1).trans hy.2.2)
            clear hy
            clear hlt hqk hq hv hb1 hkk hk1
            rcases hc with ⟨g2, g2'⟩ | ⟨g2, g2', g3⟩
            · as_aux_lemma =>
              have hA := HA.out
              have hA2 : IntKind.i64.wrap ((k : Int) - 1) = (k1 : Int) := (IntWalk.i64_left _).trans hA
              go_quiet (fail)
              go_wp2
              go_meet
              exact ⟨rfl, K.later (below_drewN (Below.refl _ _) _), sp.later (below_drewN (Below.refl _ _) _), var_later VO (below_drewN (Below.refl _ _) _), var_later VX (below_drewN (Below.refl _ _) _)⟩
            · as_aux_lemma =>
              have hA := HA.out
              have hA2 : IntKind.i64.wrap ((k : Int) - 1) = (k1 : Int) := (IntWalk.i64_left _).trans hA
              go_quiet (fail)
              go_wp2
              go_meet
              exact ⟨rfl, K.later (below_drewN (Below.refl _ _) _), sp.later (below_drewN (Below.refl _ _) _), var_later VO (below_drewN (Below.refl _ _) _), var_later VX (below_drewN (Below.refl _ _) _)⟩
        case rest =>
          obtain ⟨rfl, K, sp, VO, VX⟩ := hcut
          have hme : Hid (l.length - ((k : Int) + 1).toNat < l.length - ((k : Int)).toNat) := Lib.hid (by have := HKL.out; omega)
          rcases is_inv HI.out with ⟨rfl, rfl, rfl, hb, hx, hy⟩ | ⟨rfl, rfl, rfl, hb, hx, hy⟩ | ⟨rfl, rfl, hi, hf⟩ | ⟨rfl, rfl, hi, hf⟩ | ⟨rfl, rfl, hi, hf⟩ | ⟨rfl, hi, hon, hp2⟩
          · as_aux_lemma =>
            have z0 := cell_list K.b (i := 3) (v := .bool b.can) rfl
            have z1 := cell_list K.m (i := 3) (mem_xat (i := 3) (v := .bool x.can) rfl)
            have z2 := cell_list K.m (i := 32) (mem_yat hxl (i := 3) (v := .bool y.can) rfl)
            rw [hb] at z0
            rw [hx] at z1
            rw [hy] at z2
            have c0 := cell_list VX (i := 0) rfl
            have c1 := cell_list VX (i := 1) rfl
            have c2 := cell_list VX (i := 2) rfl
            clear hb hx hy t1 t2 t3 t4
            clear HI HLT HQQ
            go_wp2
            go_roundw
            case rel => exact ⟨k + 1, HKL.out, rfl, K, sp, VO⟩
            case measure => exact hme.out
          · as_aux_lemma =>
            have z0 := cell_list K.b (i := 4) (v := .bool b.aut) rfl
            have z1 := cell_list K.m (i := 4) (mem_xat (i := 4) (v := .bool x.aut) rfl)
            have z2 := cell_list K.m (i := 33) (mem_yat hxl (i := 4) (v := .bool y.aut) rfl)
            rw [hb] at z0
            rw [hx] at z1
            rw [hy] at z2
            have c0 := cell_list VX (i := 0) rfl
            have c1 := cell_list VX (i := 1) rfl
            have c2 := cell_list VX (i := 2) rfl
            clear hb hx hy t1 t2 t3 t4
            clear HI HLT HQQ
            go_wp2
            go_roundw
            case rel => exact ⟨k + 1, HKL.out, rfl, K, sp, VO⟩
            case measure => exact hme.out
          · as_aux_lemma =>
            have j1 : (pn : Int) < (nsig : Int) := by have := HNS.out; omega
            have zl := cell_list K.l HLw.out.sig
            have f1 := front_bit b.ent x.ent y.ent pn
            rw [hf] at f1
            have z0 := cell_list K.b (i := 0) (v := .int .u32 b.ent.toNat) rfl
            have z1 := cell_list K.m (i := 0) (mem_xat (i := 0) (v := .int .u32 x.ent.toNat) rfl)
            have z2 := cell_list K.m (i := 29) (mem_yat hxl (i := 0) (v := .int .u32 y.ent.toNat) rfl)
            generalize (b.ent.toNat : Int) = eb at *
            generalize (x.ent.toNat : Int) = ex at *
            generalize (y.ent.toNat : Int) = ey at *
            obtain ⟨q1, hq1⟩ : ∃ z, Go.bits .and .u32 eb ex = z := ⟨_, rfl⟩
            rw [hq1] at f1
            obtain ⟨q2, hq2⟩ : ∃ z, Go.bits .andNot .u32 q1 ey = z := ⟨_, rfl⟩
            rw [hq2] at f1
            have c0 := cell_list VX (i := 0) rfl
            have c1 := cell_list VX (i := 1) rfl
            have c2 := cell_list VX (i := 2) rfl
            clear hf hi t1 t2 t3 t4
            clear HI HLT HQQ
            go_wp2
            go_roundw
            case rel => exact ⟨k + 1, HKL.out, rfl, K, sp, VO⟩
            case measure => exact hme.out
          · as_aux_lemma =>
            have j1 : (pn : Int) < (nsec : Int) := by have := HNC.out; omega
            have zl := cell_list K.l HLw.out.sec
            have f1 := front_bit b.via x.via y.via pn
            rw [hf] at f1
            have z0 := cell_list K.b (i := 2) (v := .int .u32 b.via.toNat) rfl
            have z1 := cell_list K.m (i := 2) (mem_xat (i := 2) (v := .int .u32 x.via.toNat) rfl)
            have z2 := cell_list K.m (i := 31) (mem_yat hxl (i := 2) (v := .int .u32 y.via.toNat) rfl)
            generalize (b.via.toNat : Int) = eb at *
            generalize (x.via.toNat : Int) = ex at *
            generalize (y.via.toNat : Int) = ey at *
            obtain ⟨q1, hq1⟩ : ∃ z, Go.bits .and .u32 eb ex = z := ⟨_, rfl⟩
            rw [hq1] at f1
            obtain ⟨q2, hq2⟩ : ∃ z, Go.bits .andNot .u32 q1 ey = z := ⟨_, rfl⟩
            rw [hq2] at f1
            have c0 := cell_list VX (i := 0) rfl
            have c1 := cell_list VX (i := 1) rfl
            have c2 := cell_list VX (i := 2) rfl
            clear hf hi t1 t2 t3 t4
            clear HI HLT HQQ
            go_wp2
            go_roundw
            case rel => exact ⟨k + 1, HKL.out, rfl, K, sp, VO⟩
            case measure => exact hme.out
          · as_aux_lemma =>
            have j1 : (pn : Int) < (lens.length : Int) := by have := HNE.out; omega
            have zl := cell_list K.l HLw.out.ex
            have f1 := front_bit b.exi x.exi y.exi pn
            rw [hf] at f1
            have z0 := cell_list K.b (i := 1) (v := .int .u32 b.exi.toNat) rfl
            have z1 := cell_list K.m (i := 1) (mem_xat (i := 1) (v := .int .u32 x.exi.toNat) rfl)
            have z2 := cell_list K.m (i := 30) (mem_yat hxl (i := 1) (v := .int .u32 y.exi.toNat) rfl)
            generalize (b.exi.toNat : Int) = eb at *
            generalize (x.exi.toNat : Int) = ex at *
            generalize (y.exi.toNat : Int) = ey at *
            obtain ⟨q1, hq1⟩ : ∃ z, Go.bits .and .u32 eb ex = z := ⟨_, rfl⟩
            rw [hq1] at f1
            obtain ⟨q2, hq2⟩ : ∃ z, Go.bits .andNot .u32 q1 ey = z := ⟨_, rfl⟩
            rw [hq2] at f1
            have c0 := cell_list VX (i := 0) rfl
            have c1 := cell_list VX (i := 1) rfl
            have c2 := cell_list VX (i := 2) rfl
            clear hf hi t1 t2 t3 t4
            clear HI HLT HQQ
            go_wp2
            go_roundw
            case rel => exact ⟨k + 1, HKL.out, rfl, K, sp, VO⟩
            case measure => exact hme.out
          · as_aux_lemma =>
            have hpn : pn < 24 := by omega
            have j1 : (pn : Int) < (nsec : Int) := by have := HNC.out; omega
            have zl := cell_list K.l HLw.out.sec
            have z0 := cell_list K.b (i := 5 + pn) (btnV_key (by omega))
            have z1 := cell_list K.m (i := 5 + pn) (mem_xat (btnV_key (by omega)))
            have z2 := cell_list K.m (i := 34 + pn) (by rw [show 34 + pn = 29 + (5 + pn) by omega]; exact mem_yat hxl (btnV_key (by omega)))
            generalize ((b.keys.getD pn 0#8).toNat : Int) = ib at *
            generalize ((x.keys.getD pn 0#8).toNat : Int) = ix at *
            generalize ((y.keys.getD pn 0#8).toNat : Int) = iy at *
            rcases on_inv hon with ⟨rfl, rfl, g1, g2, g3, g4⟩ | ⟨rfl, rfl, g1, g2, g3, g4⟩
            · obtain rfl : p2 = 0 := by omega
              as_aux_lemma =>
              clear hp2 hon hi hpn t1 t2 t3 t4
              have c0 := cell_list VX (i := 0) rfl
              have c1 := cell_list VX (i := 1) rfl
              have c2 := cell_list VX (i := 2) rfl
              clear HI HLT HQQ
              go_upto_region 26 with (fail)
              simp only [List.append_eq, List.cons_append, List.nil_append]
              go_quiet (fail)
              go_wp2
              go_roundw
              case rel => exact ⟨k + 1, HKL.out, rfl, K.later (below_drewN (Below.refl _ _) _), sp.later (below_drewN (Below.refl _ _) _), var_later VO (below_drewN (Below.refl _ _) _)⟩
              case measure => exact hme.out
            · obtain rfl : p2 = 1 := by omega
              as_aux_lemma =>
              clear hp2 hon hi hpn t1 t2 t3 t4
              have c0 := cell_list VX (i := 0) rfl
              have c1 := cell_list VX (i := 1) rfl
              have c2 := cell_list VX (i := 2) rfl
              clear HI HLT HQQ
              go_upto_region 26 with (fail)
              simp only [List.append_eq, List.cons_append, List.nil_append]
              go_quiet (fail)
              go_wp2
              go_roundw
              case rel => exact ⟨k + 1, HKL.out, rfl, K.later (below_drewN (Below.refl _ _) _), sp.later (below_drewN (Below.refl _ _) _), var_later VO (below_drewN (Below.refl _ _) _)⟩
              case measure => exact hme.out
      · obtain rfl : k = l.length := by omega
        have i1 : ¬ (l.length : Int) < (l.length : Int) := by omega
        go_wp2_with fail
        refine (wakes_c _).mono ?_
        rintro e V9 ⟨rfl, b9⟩
        have B9 := below_step K.bel b9
        go_wp2
        go_ret
        exact ⟨rfl, B9⟩

theorem own : ownKnob Try.prog.godebug = none := by kernel_rfl
theorem laidOut : laidOutB Try.prog = true := by kernel_rfl
noncomputable def wit (os : Os) : World := World.holding Try.prog os ⟨#[], #[], []⟩
set_option maxRecDepth 100000 in
theorem lifted (os : Os) (started : os.Started) (H : Type) (enc : TypeId × Value → H) (F : Stop.Interp) :
    ReturnsInHanded {} Try.checked os 4 .any ((OpenSpec.ofChange Rows.keysOrderSpec).preRow enc Try.prog Try.f4 Rows.keysOrderRow.domain false Rows.keysOrderRow.laid) (((OpenSpec.ofChange Rows.keysOrderSpec).at F).post enc Try.prog Try.f4 false true false false) := by
  obtain ⟨x, hx⟩ : ∃ x, DataW.whole enc Try.prog ((wit os).forCall (fun _ _ => 0) ⟨#[], #[.agg zL, .agg zMem, .agg zB], []⟩).memory Try.f4.params.toList Rows.keysOrderSpec.vars false (#[.agg zL, .agg zMem, .agg zB] : Array Value).toList 8 = some x := Option.isSome_iff_exists.1 (by kernel_rfl)
  refine Fr.lift (C := Try.checked) (s := OpenSpec.ofChange Rows.keysOrderSpec) own started (by kernel_rfl) Try.func4
    (witness_row_at (enc := enc) (C := Try.checked) false (wit os) #[.agg zL, .agg zMem, .agg zB] rfl (by kernel_rfl) (by kernel_rfl) (by kernel_rfl)
      (OpenSpec.preRow_of_cond 8 hx rfl (fun k hk => by cases hk) (by kernel_rfl) (laidMet_of_run' 8 (by kernel_rfl) (by kernel_rfl))))
    laidOut (by kernel_rfl) rfl Try.underlying4 rfl rfl ?_ ?_
  · intro ds hds
    match ds, hds with
    | [_, _, _], _ => rfl
  · intro W base args ds before hval hA hlt _ hz hL
    rw [Try.params4] at hA hval
    obtain ⟨v0, vs0, d0, ds0, p0, q0, hargs, rfl, rfl, h0, r0⟩ := trodAll_cons hA
    obtain ⟨v1, vs1, d1, ds1, p1, q1, rfl, rfl, rfl, h1, r1⟩ := trodAll_cons r0
    obtain ⟨v2, vs2, d2, ds2, p2, q2, rfl, rfl, rfl, h2, r2⟩ := trodAll_cons r1
    obtain ⟨rfl, rfl, rfl⟩ := trodAll_nil r2
    obtain rfl : args = #[v0, v1, v2] := by cases args; simp_all
    obtain ⟨L, nsec, lens, nsig, nfl, A, c, A1, c1, A3, c3, ve, rfl, hLA⟩ := open_layN (hval 0 _ v0 rfl rfl) h0
    obtain ⟨x, y, hx, hy, rfl⟩ := open_mem (hval 1 _ v1 rfl rfl) h1
    obtain ⟨b, hb, rfl⟩ := open_btn (hval 2 _ v2 rfl rfl) h2
    exact walk L nsec lens nsig nfl A c A1 c1 A3 c3 ve x y b W hx hy hb hLA

theorem said : Rows.KeysOrderSaid :=
  OpenClaim.holds_of_cond 4 Try.f4 rfl rfl rfl rfl rfl rfl rfl ⟨rfl, rfl, rfl, rfl, rfl⟩ rfl rfl rfl rfl rfl (by kernel_rfl) Try.func4 (by kernel_rfl)
    (of_decide_eq_true (by kernel_rfl)) (by unfold Func.isWrapper; first | (rw [if_pos (by decide +kernel)]; kernel_rfl) | (rw [if_neg (by decide +kernel)]; exact ⟨rfl, rfl⟩))
    (fun os started H enc _ F => by rw [OpenClaim.pre_eq_preRow]; exact lifted os started H enc F)
#print axioms said
end Go.Proofs.Ytlebpaebdjdbbaa.keysOrder
