/- KeysTells: for every argument the statement's Go text returns true and turns nothing that was there. It is proved at every argument, without a condition beyond the row. -/
import Derived.Test.YtioggdiicgfoaaaKeyP
import Derived.Test.YtioggdiicgfoaaaKeyQ
import Derived.Test.YtioggdiicgfoaaaKeyV
import Derived.Test.YtioggdiicgfoaaaKeyZ
import Derived.Test.YtioggdiicgfoaaaKeyG
import Derived.Test.YtioggdiicgfoaaaFrame
import Derived.Deep.RegionHeld3
import Derived.Deep.CutRange
import Derived.Deep.DrawnRows
namespace Go.Proofs.Ytioggdiicgfoaaa.keysTells
open Go.ChangeShapes Go.WideShapes Go.ChangeAt Go.RowKit Rf
attribute [local go_sem ↓] run_max2 run_min2
open Mem KM Bits Bv Str
theorem take_same {pl : List (BitVec 8)} {ns ne nc : Nat} {r r' : Btn} {e e' : Int} (h : TakeR pl ns ne nc r e) (h' : TakeR pl ns ne nc r' e') : r' = r ∧ e' = e := by
  rcases h with ⟨h1, rfl, rfl⟩ | ⟨h1, ⟨h2, rfl, rfl⟩ | ⟨h2, rfl, rfl⟩⟩ <;> rcases h' with ⟨k1, rfl, rfl⟩ | ⟨k1, ⟨k2, rfl, rfl⟩ | ⟨k2, rfl, rfl⟩⟩ <;> first | exact ⟨rfl, rfl⟩ | exact absurd k1 h1 | exact absurd h1 k1 | exact absurd h2 k2 | exact absurd k2 h2
theorem strengthen {P : Program} {ops : Array Oper} {Q : Exit → Act → World → Prop} {md : Region.Mode} {S S' : World → Prop} (hSS : ∀ w, S' w → S w) : ∀ (fuel : Nat) (listed : Array Bool) (a : Act) (w : World), wpAnyH P md ops Q S' fuel listed a w → wpAnyH P md ops Q S fuel listed a w
  | 0, _, _, _, h => h
  | fuel + 1, _, _, _, h => ⟨h.1, fun i hi => wpOp_mono (fun a' w' h' => ⟨hSS w' h'.1, strengthen hSS fuel _ a' w' h'.2⟩) (h.2 i hi)⟩
/-- what the law knows -/
structure KT (w V : World) (L : List Value) (nsec : Nat) (lens : List Nat) (nsig nfl : Nat) (A : Option Addr) (c : Nat) (A1 : Option Addr) (c1 : Nat) (A3 : Option Addr) (c3 : Nat) (ve : Value) (x y b : Btn) (u : Value) (pl : List (BitVec 8)) : Prop where
  bel : Below w.heap.size w V
  l : V.heap[w.heap.size]? = some (.cells L.toArray 29 (0, 0))
  b : V.heap[w.heap.size + 1]? = some (.cells (btnV b).toArray 33 (0, 0))
  m : V.heap[w.heap.size + 1 + 1]? = some (.cells (memV x y).toArray 35 (0, 0))
  ps : SliceAt V 1 u pl.length (u8s pl)
  lay : LayN V L nsec lens nsig nfl A c A1 c1 A3 c3 ve
theorem KT.later {w V V' : World} {L : List Value} {nsec : Nat} {lens : List Nat} {nsig nfl : Nat} {A : Option Addr} {c : Nat} {A1 : Option Addr} {c1 : Nat} {A3 : Option Addr} {c3 : Nat} {ve : Value} {x y b : Btn} {u : Value} {pl : List (BitVec 8)} (h : KT w V L nsec lens nsig nfl A c A1 c1 A3 c3 ve x y b u pl) (bb : Below V.heap.size V V') : KT w V' L nsec lens nsig nfl A c A1 c1 A3 c3 ve x y b u pl :=
  ⟨below_step h.bel bb, var_later h.l bb, var_later h.b bb, var_later h.m bb, h.ps.later bb, h.lay.later bb⟩
/-- what it holds in the end -/
structure KQ (w V : World) (L : List Value) (nsec : Nat) (lens : List Nat) (nsig nfl : Nat) (A : Option Addr) (c : Nat) (A1 : Option Addr) (c1 : Nat) (A3 : Option Addr) (c3 : Nat) (ve : Value) (x y b : Btn) (u : Value) (pl : List (BitVec 8)) (r : Btn) (g9 g11 g14 g16 : Nat) (vp vq : Value) (ps : List Pr) : Prop where
  k : KT w V L nsec lens nsig nfl A c A1 c1 A3 c3 ve x y b u pl
  r9 : V.heap[g9]? = some (.cells (btnV r).toArray 33 (0, 0))
  r11 : V.heap[g11]? = some (.cells (btnV r).toArray 33 (0, 0))
  m14 : V.heap[g14]? = some (.cells (memV b x).toArray 35 (0, 0))
  m16 : V.heap[g16]? = some (.cells (memV b x).toArray 35 (0, 0))
  p : SliceAt V 3 vp ps.length (prs ps)
  q : SliceAt V 3 vq ps.length (prs ps)
theorem KQ.later {w V V' : World} {L : List Value} {nsec : Nat} {lens : List Nat} {nsig nfl : Nat} {A : Option Addr} {c : Nat} {A1 : Option Addr} {c1 : Nat} {A3 : Option Addr} {c3 : Nat} {ve : Value} {x y b : Btn} {u : Value} {pl : List (BitVec 8)} {r : Btn} {g9 g11 g14 g16 : Nat} {vp vq : Value} {ps : List Pr} (h : KQ w V L nsec lens nsig nfl A c A1 c1 A3 c3 ve x y b u pl r g9 g11 g14 g16 vp vq ps) (bb : Below V.heap.size V V') : KQ w V' L nsec lens nsig nfl A c A1 c1 A3 c3 ve x y b u pl r g9 g11 g14 g16 vp vq ps :=
  ⟨h.k.later bb, var_later h.r9 bb, var_later h.r11 bb, var_later h.m14 bb, var_later h.m16 bb, h.p.later bb, h.q.later bb⟩
/-- what the law's last region reads -/
abbrev SS (w : World) (L : List Value) (x b r : Btn) (g9 g11 g14 g16 : Nat) (w' : World) : Prop := w'.rangeAt w.heap.size 0 L ∧ w'.rangeAt (w.heap.size + 1) 0 (btnV b) ∧ w'.rangeAt g9 0 (btnV r) ∧ w'.rangeAt g11 0 (btnV r) ∧ w'.rangeAt g14 0 (memV b x) ∧ w'.rangeAt g16 0 (memV b x)
theorem KQ.ss {w V : World} {L : List Value} {nsec : Nat} {lens : List Nat} {nsig nfl : Nat} {A : Option Addr} {c : Nat} {A1 : Option Addr} {c1 : Nat} {A3 : Option Addr} {c3 : Nat} {ve : Value} {x y b : Btn} {u : Value} {pl : List (BitVec 8)} {r : Btn} {g9 g11 g14 g16 : Nat} {vp vq : Value} {ps : List Pr} (h : KQ w V L nsec lens nsig nfl A c A1 c1 A3 c3 ve x y b u pl r g9 g11 g14 g16 vp vq ps) : SS w L x b r g9 g11 g14 g16 V :=
  ⟨range_of h.k.l, range_of h.k.b, range_of h.r9, range_of h.r11, range_of h.m14, range_of h.m16⟩
theorem Presses_n (L : List Value) (nsec : Nat) (lens : List Nat) (nsig nfl : Nat) (A : Option Addr) (c : Nat) (A1 : Option Addr) (c1 : Nat) (A3 : Option Addr) (c3 : Nat) (ve : Value) (ns ne nc : Nat) (x y b : Btn) (l : List Pr) (w : World) (hns : min nsig 12 = ns) (hne : min lens.length 12 = ne) (hnc : min nsec 24 = nc) (hx : x.keys.length = 24) (hy : y.keys.length = 24) (hb : b.keys.length = 24) (hl : pressL b x y ns ne nc = l) (hL : LayN w L nsec lens nsig nfl A c A1 c1 A3 c3 ve) :
    Calls Try.prog 8 #[.agg L.toArray, .agg (memV x y).toArray, .agg (btnV b).toArray] w fun e w' => Below w.heap.size w w' ∧ ∃ A' c', e = .returned (.tuple #[.slice A' l.length c', .agg (memV b x).toArray]) ∧ SliceAt w' 3 (.slice A' l.length c') l.length (prs l) := by
  subst hl
  refine (Presses_of L nsec lens nsig nfl A c A1 c1 A3 c3 ve ns ne nc x y b w hns hne hnc hx hy hb hL (fun g => presses1 g x y b ns ne nc (by omega) (by omega) (by omega) hx hy hb)).mono ?_
  rintro e w' ⟨hB, v', rfl, ho⟩
  obtain ⟨A', c', rfl, _, _⟩ := (sliceAt_of_own ho).form
  exact ⟨hB, A', c', rfl, sliceAt_of_own ho⟩
theorem refPresses_n (L : List Value) (nsec : Nat) (lens : List Nat) (nsig nfl : Nat) (A : Option Addr) (c : Nat) (A1 : Option Addr) (c1 : Nat) (A3 : Option Addr) (c3 : Nat) (ve : Value) (ns ne nc : Nat) (x y b : Btn) (l : List Pr) (w : World) (hns : min nsig 12 = ns) (hne : min lens.length 12 = ne) (hnc : min nsec 24 = nc) (hx : x.keys.length = 24) (hy : y.keys.length = 24) (hb : b.keys.length = 24) (hl : pressL b x y ns ne nc = l) (hL : LayN w L nsec lens nsig nfl A c A1 c1 A3 c3 ve) :
    Calls Try.prog 9 #[.agg L.toArray, .agg (memV x y).toArray, .agg (btnV b).toArray] w fun e w' => Below w.heap.size w w' ∧ ∃ A' c', e = .returned (.tuple #[.slice A' l.length c', .agg (memV b x).toArray]) ∧ SliceAt w' 3 (.slice A' l.length c') l.length (prs l) := by
  subst hl
  refine (refPresses_c L nsec lens nsig nfl A c A1 c1 A3 c3 ve ns ne nc x y b w hns hne hnc hx hy hb hL).mono ?_
  rintro e w' ⟨hB, v', rfl, ho⟩
  obtain ⟨A', c', rfl, _, _⟩ := (sliceAt_of_own ho).form
  exact ⟨hB, A', c', rfl, sliceAt_of_own ho⟩
set_option maxHeartbeats 8000000 in
set_option maxRecDepth 100000 in
theorem walk (L : List Value) (nsec : Nat) (lens : List Nat) (nsig nfl : Nat) (A : Option Addr) (c : Nat) (A1 : Option Addr) (c1 : Nat) (A3 : Option Addr) (c3 : Nat) (ve : Value) (b x y : Btn) (u : Value) (pl : List (BitVec 8)) (w : World) (hbl : b.keys.length = 24) (hxl : x.keys.length = 24) (hyl : y.keys.length = 24)
    (hL : LayN w L nsec lens nsig nfl A c A1 c1 A3 c3 ve) (hs : SliceAt w 1 u pl.length (u8s pl)) :
    Calls Try.prog 3 #[.agg L.toArray, .agg (btnV b).toArray, .agg (memV x y).toArray, u] w fun e w' => e = .returned (.bool true) ∧ Below w.heap.size w w' := by
  obtain ⟨Ae, ce, rfl, _⟩ := hL.ea
  have szL := lay_size hL.len
  have szM := mem_size hxl hyl
  have szN := mem_size hbl hxl
  have szB := btn_size hbl
  obtain ⟨ns, hns⟩ : ∃ ns, min nsig 12 = ns := ⟨_, rfl⟩
  obtain ⟨ne, hne⟩ : ∃ ne, min lens.length 12 = ne := ⟨_, rfl⟩
  obtain ⟨nc, hnc⟩ : ∃ nc, min nsec 24 = nc := ⟨_, rfl⟩
  have HNS := Lib.hid hns
  have HNE := Lib.hid hne
  have HNC := Lib.hid hnc
  clear hns hne hnc
  have HLw := Lib.hid hL
  obtain ⟨gr, hg⟩ : ∃ gr, greatV nsec nsig nfl lens = gr := ⟨_, rfl⟩
  have HG := Lib.hid hg
  clear hg
  have K0 : KT w (((w.alloc (.cells L.toArray 29)).alloc (.cells (btnV b).toArray 33)).alloc (.cells (memV x y).toArray 35)) L nsec lens nsig nfl A c A1 c1 A3 c3 _ x y b u pl :=
    ⟨below_step (below_step (kbelow_new _ _) (kbelow_new _ _)) (kbelow_new _ _), old_at (old_at (new_at rfl _) _) _, old_at (new_at (by simp) _) _, new_at (by simp) _, hs.later (below_step (below_step (kbelow_new _ _) (kbelow_new _ _)) (kbelow_new _ _)), hL.later (below_step (below_step (kbelow_new _ _) (kbelow_new _ _)) (kbelow_new _ _))⟩
  obtain ⟨Au, cu, rfl, _⟩ := hs.form
  clear hL hs
  go_enter Try.func3, Try.ntmps3
  go_upto_region 1 with (fail)
  generalize ((w.alloc (.cells L.toArray 29)).alloc (.cells (btnV b).toArray 33)).alloc (.cells (memV x y).toArray 35) = V at *
  have RL := range_of K0.l
  go_wp2_with (first
    | refine wpList_load_g (by rfl) 29 (.tmp 4) (by rfl) w.heap.size 0 (by rfl) L _ RL Try.underlying29 rfl szL ?_
    | fail)
  refine (Great_c L nsec nsig nfl lens A A1 A3 c c1 c3 _ _ K0.lay.sec K0.lay.sig K0.lay.ex K0.lay.fl K0.lay.ea).mono ?_
  rintro e V1 ⟨rfl, b1⟩
  rw [HG.out]
  have K1 := K0.later b1
  clear RL K0 b1
  cases gr with
  | true =>
    go_wp2_with fail
    refine (wakes_c _).mono ?_
    rintro e V2 ⟨rfl, b2⟩
    have K2 := K1.later b2
    go_wp2
    go_ret
    exact ⟨rfl, K2.bel⟩
  | false =>
    by_cases h40 : 40 < pl.length
    · have q1 : decide ((40 : Int) < (pl.length : Int)) = true := decide_eq_true (by omega)
      clear h40
      go_wp2_with fail
      refine (wakes_c _).mono ?_
      rintro e V2 ⟨rfl, b2⟩
      have K2 := K1.later b2
      go_wp2
      go_ret
      exact ⟨rfl, K2.bel⟩
    · have q1 : decide ((40 : Int) < (pl.length : Int)) = false := decide_eq_false (by omega)
      have HPL : Hid (pl.length ≤ 40) := Lib.hid (by omega)
      clear h40
      go_upto_region 3 with (fail)
      clear q1
      have RL := range_of K1.l
      go_wp2_with (first
        | refine wpList_load_g (by rfl) 29 (.tmp 4) (by rfl) w.heap.size 0 (by rfl) L _ RL Try.underlying29 rfl szL ?_
        | fail)
      refine (Take_c L nsec lens nsig nfl A c A1 c1 A3 c3 _ ns ne nc _ pl _ HNS.out HNE.out HNC.out K1.lay K1.ps).mono ?_
      rintro e V2 ⟨b2, r, err, rfl, hT, hrl⟩
      have K2 := K1.later b2
      clear RL K1 b2
      have HT := Lib.hid hT
      clear hT
      have szR := btn_size hrl
      have szR2 : (Try.prog.info? 33).map (·.size) = some (btnV r).toArray.size := by simpa using szR
      obtain ⟨V3, hW, G9, b3, ths⟩ := newv (V := V2) (btnV r) zB 33 (by rw [btnV_len hrl]; rfl)
      go_upto_region 4 with (first
        | (refine wpList_store_mid rfl 33 (.tmp 9) (.tmp 29) (by rfl) V2.heap.size 0 (btnV r).toArray (by rfl) (by rfl) ths szR2 (all_one (btnV_one _)) ?_; rw [hW])
        | fail)
      have K3 := K2.later b3
      clear hW ths b3 K2
      generalize V2.heap.size = g9 at *
      have RL := range_of K3.l
      go_wp2_with (first
        | refine wpList_load_g (by rfl) 29 (.tmp 4) (by rfl) w.heap.size 0 (by rfl) L _ RL Try.underlying29 rfl szL ?_
        | fail)
      refine (refTake_c L nsec lens nsig nfl A c A1 c1 A3 c3 _ ns ne nc _ pl _ HNS.out HNE.out HNC.out K3.lay K3.ps (by have := HPL.out; omega)).mono ?_
      rintro e V4 ⟨b4, r', err', rfl, hT, hzz⟩
      obtain ⟨rfl, rfl⟩ := take_same HT.out hT
      have K4 := K3.later b4
      replace G9 := var_later G9 b4
      clear RL K3 b4 hT HT hzz
      obtain ⟨V5, hW, G11, b5, ths⟩ := newv (V := V4) (btnV r') zB 33 (by rw [btnV_len hrl]; rfl)
      go_upto_region 5 with (first
        | (refine wpList_store_mid rfl 33 (.tmp 11) (.tmp 35) (by rfl) V4.heap.size 0 (btnV r').toArray (by rfl) (by rfl) ths szR2 (all_one (btnV_one _)) ?_; rw [hW])
        | fail)
      have K5 := K4.later b5
      replace G9 := var_later G9 b5
      clear hW ths b5 K4
      generalize V4.heap.size = g11 at *
      obtain ⟨l, hl⟩ : ∃ l, pressL b x y ns ne nc = l := ⟨_, rfl⟩
      have HPR := Lib.hid hl
      clear hl
      have RL := range_of K5.l
      have RM := range_of K5.m
      have RB := range_of K5.b
      go_wp2_with (first
        | refine wpList_load_g (by rfl) 29 (.tmp 4) (by rfl) w.heap.size 0 (by rfl) L _ RL Try.underlying29 rfl szL ?_
        | refine wpList_load_g (by rfl) 35 (.tmp 6) (by rfl) (w.heap.size + 1 + 1) 0 (by rfl) (memV x y) _ RM Try.underlying35 rfl szM ?_
        | refine wpList_load_g (by rfl) 33 (.tmp 5) (by rfl) (w.heap.size + 1) 0 (by rfl) (btnV b) _ RB Try.underlying33 rfl szB ?_
        | fail)
      refine (Presses_n L nsec lens nsig nfl A c A1 c1 A3 c3 _ ns ne nc x y b l _ HNS.out HNE.out HNC.out hxl hyl hbl HPR.out K5.lay).mono ?_
      rintro e V6 ⟨b6, Ar, cr, rfl, sp⟩
      have K6 := K5.later b6
      replace G9 := var_later G9 b6
      replace G11 := var_later G11 b6
      clear RL RM RB K5 b6
      have szN2 : (Try.prog.info? 35).map (·.size) = some (memV b x).toArray.size := by simpa using szN
      obtain ⟨V7, hW, G14, b7, ths⟩ := newv (V := V6) (memV b x) zMem 35 (by rw [memV_len hbl hxl]; rfl)
      go_upto_region 6 with (first
        | (refine wpList_store_mid rfl 35 (.tmp 14) (.tmp 43) (by rfl) V6.heap.size 0 (memV b x).toArray (by rfl) (by rfl) ths szN2 (all_one (memV_one _ _)) ?_; rw [hW])
        | fail)
      have K7 := K6.later b7
      replace G9 := var_later G9 b7
      replace G11 := var_later G11 b7
      replace sp := sp.later b7
      clear hW ths b7 K6
      generalize V6.heap.size = g14 at *
      have RL := range_of K7.l
      have RM := range_of K7.m
      have RB := range_of K7.b
      go_wp2_with (first
        | refine wpList_load_g (by rfl) 29 (.tmp 4) (by rfl) w.heap.size 0 (by rfl) L _ RL Try.underlying29 rfl szL ?_
        | refine wpList_load_g (by rfl) 35 (.tmp 6) (by rfl) (w.heap.size + 1 + 1) 0 (by rfl) (memV x y) _ RM Try.underlying35 rfl szM ?_
        | refine wpList_load_g (by rfl) 33 (.tmp 5) (by rfl) (w.heap.size + 1) 0 (by rfl) (btnV b) _ RB Try.underlying33 rfl szB ?_
        | fail)
      refine (refPresses_n L nsec lens nsig nfl A c A1 c1 A3 c3 _ ns ne nc x y b l _ HNS.out HNE.out HNC.out hxl hyl hbl HPR.out K7.lay).mono ?_
      rintro e V8 ⟨b8, Aq, cq, rfl, sq⟩
      have K8 := K7.later b8
      replace G9 := var_later G9 b8
      replace G11 := var_later G11 b8
      replace G14 := var_later G14 b8
      replace sp := sp.later b8
      clear RL RM RB K7 b8
      obtain ⟨V9, hW, G16, b9, ths⟩ := newv (V := V8) (memV b x) zMem 35 (by rw [memV_len hbl hxl]; rfl)
      go_upto_region 7 with (first
        | (refine wpList_store_mid rfl 35 (.tmp 16) (.tmp 50) (by rfl) V8.heap.size 0 (memV b x).toArray (by rfl) (by rfl) ths szN2 (all_one (memV_one _ _)) ?_; rw [hW])
        | fail)
      have Q : KQ w V9 L nsec lens nsig nfl A c A1 c1 A3 c3 _ x y b (.slice Au pl.length cu) pl r' g9 g11 g14 V8.heap.size (.slice Ar l.length cr) (.slice Aq l.length cq) l := ⟨K8.later b9, var_later G9 b9, var_later G11 b9, var_later G14 b9, G16, sp.later b9, sq.later b9⟩
      clear hW ths b9 K8 G9 G11 G14 G16 sp sq szM
      generalize V8.heap.size = g16 at *
      obtain ⟨sz, hsz⟩ : ∃ sz : Int, ((sizeK ns ne nc : Nat) : Int) = sz := ⟨_, rfl⟩
      have HSZ := Lib.hid hsz
      clear hsz
      have heB : ∀ W : World, (Op.equalIn 10000 33 (.agg (btnV r').toArray) (.agg (btnV r').toArray)).run Try.prog W = .ok true W := fun W => by rw [eq_btn r' r' hrl hrl W, decide_eq_true rfl]
      have heM : ∀ W : World, (Op.equalIn 10000 35 (.agg (memV b x).toArray) (.agg (memV b x).toArray)).run Try.prog W = .ok true W := fun W => by rw [eq_mem b x b x hbl hxl hbl hxl W, decide_eq_true ⟨rfl, rfl⟩]
      have heD0 : ∀ W : World, (Op.equalIn 10000 35 (.agg (memV deadB deadB).toArray) (.agg (memV deadB deadB).toArray)).run Try.prog W = .ok true W := fun W => by rw [eq_mem deadB deadB deadB deadB rfl rfl rfl rfl W, decide_eq_true ⟨rfl, rfl⟩]
      obtain ⟨D, hD⟩ : ∃ D, memV deadB deadB = D := ⟨_, rfl⟩
      have heD := heD0
      rw [hD] at heD
      have HD := Lib.hid hD
      clear hD heD0
      refine wp_region_held_drew (S := (fun w' => SS w L x b r' g9 g11 g14 g16 w')) (by kernel_rfl) ?_ (fun hHeld => ?_)
      · exact Q.ss
      replace Q := Q.later (Below.refl _ V9).drew
      generalize V9.drew = V at *
      refine wpAnyH_take (i := 0) (v := .agg (L : List Value).toArray) rfl (by kernel_rfl) (by kernel_rfl) (by kernel_rfl) (fun _ _ _ h => h) (yieldsIf_load_mid rfl 29 (.tmp 4) rfl (w.heap.size) 0 rfl L _ (fun w' h => h.1) (by first | exact Try.underlying29) rfl (by first | assumption | (simp only [*]; kernel_rfl))) (by assumption) ?_
      simp only [List.getElem_toArray, List.getElem_cons_succ, List.getElem_cons_zero, Act.put, List.setIfInBounds_toArray, List.set_cons_zero, List.set_cons_succ]
      refine wpAnyH_take (i := 1) (v := .agg ((btnV b) : List Value).toArray) rfl (by kernel_rfl) (by kernel_rfl) (by kernel_rfl) (fun _ _ _ h => h) (yieldsIf_load_mid rfl 33 (.tmp 5) rfl (w.heap.size + 1) 0 rfl (btnV b) _ (fun w' h => h.2.1) (by first | exact Try.underlying33) rfl (by first | assumption | (simp only [*]; kernel_rfl))) (by assumption) ?_
      simp only [List.getElem_toArray, List.getElem_cons_succ, List.getElem_cons_zero, Act.put, List.setIfInBounds_toArray, List.set_cons_zero, List.set_cons_succ]
      refine wpAnyH_take (i := 4) (v := .agg (L : List Value).toArray) rfl (by kernel_rfl) (by kernel_rfl) (by kernel_rfl) (fun _ _ _ h => h) (yieldsIf_load_mid rfl 29 (.tmp 4) rfl (w.heap.size) 0 rfl L _ (fun w' h => h.1) (by first | exact Try.underlying29) rfl (by first | assumption | (simp only [*]; kernel_rfl))) (by assumption) ?_
      simp only [List.getElem_toArray, List.getElem_cons_succ, List.getElem_cons_zero, Act.put, List.setIfInBounds_toArray, List.set_cons_zero, List.set_cons_succ]
      refine wpAnyH_take (i := 5) (v := .agg ((btnV b) : List Value).toArray) rfl (by kernel_rfl) (by kernel_rfl) (by kernel_rfl) (fun _ _ _ h => h) (yieldsIf_load_mid rfl 33 (.tmp 5) rfl (w.heap.size + 1) 0 rfl (btnV b) _ (fun w' h => h.2.1) (by first | exact Try.underlying33) rfl (by first | assumption | (simp only [*]; kernel_rfl))) (by assumption) ?_
      simp only [List.getElem_toArray, List.getElem_cons_succ, List.getElem_cons_zero, Act.put, List.setIfInBounds_toArray, List.set_cons_zero, List.set_cons_succ]
      clear hHeld
      refine wpAnyH_ready (rs := [2]) (by kernel_rfl) (by simp) ?_
      refine AllReadyH.cons rfl (fun K hK => ?_) AllReadyH.nil
      refine Node.wp_fn 10 [.tmp 51, .tmp 52] _ [.agg L.toArray, .agg (btnV b).toArray] (by rfl) (by rfl) (enters Try.func10 (by kernel_rfl) rfl) (Put_c L nsec lens nsig nfl A c A1 c1 A3 c3 _ ns ne nc b V HNS.out HNE.out HNC.out hbl Q.k.lay) ?_
      rintro e V' ⟨bF, Ap, cp, Bp, rfl, op, hp, hzz⟩
      refine ⟨_, rfl, ?_⟩
      replace Q := Q.later bF
      have s1 := sliceAt_of_own op
      have HP := Lib.hid hp
      clear bF op hp hzz
      generalize V' = V at *
      refine hK.out _ _ Q.ss (fun _ => ?_)
      clear hK K
      try simp only [List.getElem_toArray, List.getElem_cons_succ, List.getElem_cons_zero, Act.put, List.setIfInBounds_toArray, List.set_cons_zero, List.set_cons_succ]
      have cv1 : ∀ W : World, SliceAt W 1 (.slice Ap Bp.length cp) Bp.length (u8s Bp) → (convert 36 9 (.slice Ap Bp.length cp)).run Try.prog W = .ok (.string (strOf Bp)) W := fun W h => conv_str (P := Try.prog) (dst := 9) h Try.underlying36 Try.underlying5 Try.underlying9
      refine strengthen (S' := fun w' => SS w L x b r' g9 g11 g14 g16 w' ∧ (convert 36 9 (.slice Ap Bp.length cp)).run Try.prog w' = .ok (.string (strOf Bp)) w') (fun w h => h.1) _ _ _ _ ?_
      have hHeld : SS w L x b r' g9 g11 g14 g16 V ∧ (convert 36 9 (.slice Ap Bp.length cp)).run Try.prog V = .ok (.string (strOf Bp)) V := ⟨Q.ss, cv1 _ s1⟩
      refine wpAnyH_take (i := 3) (v := ?_) rfl (by kernel_rfl) (by kernel_rfl) (by kernel_rfl) (fun _ _ _ h => h) (Or.inl ⟨by rfl, ?_⟩) (by assumption) ?_
      rotate_left
      · intro w hSw
        try dsimp only at hSw
        go_simp
        try with_reducible rfl
      simp only [List.getElem_toArray, List.getElem_cons_succ, List.getElem_cons_zero, Act.put, List.setIfInBounds_toArray, List.set_cons_zero, List.set_cons_succ]
      clear hHeld
      refine wpAnyH_ready (rs := [6]) (by kernel_rfl) (by simp) ?_
      refine AllReadyH.cons rfl (fun K hK => ?_) AllReadyH.nil
      refine Node.wp_fn 11 [.tmp 55, .tmp 56] _ [.agg L.toArray, .agg (btnV b).toArray] (by rfl) (by rfl) (enters Try.func11 (by kernel_rfl) rfl) (refPut_c L nsec lens nsig nfl A c A1 c1 A3 c3 _ ns ne nc b V HNS.out HNE.out HNC.out hbl Q.k.lay) ?_
      rintro e V' ⟨bF, As, cs, Bs, rfl, s2, hp⟩
      refine ⟨_, rfl, ?_⟩
      obtain rfl : Bs = Bp := holds_unique hp HP.out
      replace Q := Q.later bF
      replace s1 := s1.later bF
      clear bF hp
      generalize V' = V at *
      refine hK.out _ _ ⟨Q.ss, cv1 _ s1⟩ (fun _ => ?_)
      clear hK K
      try simp only [List.getElem_toArray, List.getElem_cons_succ, List.getElem_cons_zero, Act.put, List.setIfInBounds_toArray, List.set_cons_zero, List.set_cons_succ]
      have cv2 : ∀ W : World, SliceAt W 1 (.slice As Bs.length cs) Bs.length (u8s Bs) → (convert 36 9 (.slice As Bs.length cs)).run Try.prog W = .ok (.string (strOf Bs)) W := fun W h => conv_str (P := Try.prog) (dst := 9) h Try.underlying36 Try.underlying5 Try.underlying9
      refine strengthen (S' := fun w' => (SS w L x b r' g9 g11 g14 g16 w' ∧ (convert 36 9 (.slice Ap Bs.length cp)).run Try.prog w' = .ok (.string (strOf Bs)) w') ∧ (convert 36 9 (.slice As Bs.length cs)).run Try.prog w' = .ok (.string (strOf Bs)) w') (fun w h => h.1) _ _ _ _ ?_
      have hHeld : (SS w L x b r' g9 g11 g14 g16 V ∧ (convert 36 9 (.slice Ap Bs.length cp)).run Try.prog V = .ok (.string (strOf Bs)) V) ∧ (convert 36 9 (.slice As Bs.length cs)).run Try.prog V = .ok (.string (strOf Bs)) V := ⟨⟨Q.ss, cv1 _ s1⟩, cv2 _ s2⟩
      refine wpAnyH_take (i := 7) (v := ?_) rfl (by kernel_rfl) (by kernel_rfl) (by kernel_rfl) (fun _ _ _ h => h) (Or.inl ⟨by rfl, ?_⟩) (by assumption) ?_
      rotate_left
      · intro w hSw
        try dsimp only at hSw
        go_simp
        try with_reducible rfl
      simp only [List.getElem_toArray, List.getElem_cons_succ, List.getElem_cons_zero, Act.put, List.setIfInBounds_toArray, List.set_cons_zero, List.set_cons_succ]
      refine wpAnyH_take (i := 8) (v := ?_) rfl (by kernel_rfl) (by kernel_rfl) (by kernel_rfl) (fun _ _ _ h => h) (Or.inl ⟨by rfl, ?_⟩) (by assumption) ?_
      rotate_left
      · intro w hSw
        try dsimp only at hSw
        go_simp
        try with_reducible rfl
      simp only [List.getElem_toArray, List.getElem_cons_succ, List.getElem_cons_zero, Act.put, List.setIfInBounds_toArray, List.set_cons_zero, List.set_cons_succ]
      refine wpAnyH_take (i := 9) (v := ?_) rfl (by kernel_rfl) (by kernel_rfl) (by kernel_rfl) (fun _ _ _ h => h) (Or.inl ⟨by rfl, ?_⟩) (by assumption) ?_
      rotate_left
      · intro w hSw
        try dsimp only at hSw
        go_simp
        try with_reducible rfl
      simp only [List.getElem_toArray, List.getElem_cons_succ, List.getElem_cons_zero, Act.put, List.setIfInBounds_toArray, List.set_cons_zero, List.set_cons_succ]
      refine wpAnyH_take (i := 10) (v := .agg ((btnV r') : List Value).toArray) rfl (by kernel_rfl) (by kernel_rfl) (by kernel_rfl) (fun _ _ _ h => h) (yieldsIf_load_mid rfl 33 (.tmp 9) rfl (g9) 0 rfl (btnV r') _ (fun w' h => h.1.1.2.2.1) (by first | exact Try.underlying33) rfl (by first | assumption | (simp only [*]; kernel_rfl))) (by assumption) ?_
      simp only [List.getElem_toArray, List.getElem_cons_succ, List.getElem_cons_zero, Act.put, List.setIfInBounds_toArray, List.set_cons_zero, List.set_cons_succ]
      refine wpAnyH_take (i := 11) (v := .agg ((btnV r') : List Value).toArray) rfl (by kernel_rfl) (by kernel_rfl) (by kernel_rfl) (fun _ _ _ h => h) (yieldsIf_load_mid rfl 33 (.tmp 11) rfl (g11) 0 rfl (btnV r') _ (fun w' h => h.1.1.2.2.2.1) (by first | exact Try.underlying33) rfl (by first | assumption | (simp only [*]; kernel_rfl))) (by assumption) ?_
      simp only [List.getElem_toArray, List.getElem_cons_succ, List.getElem_cons_zero, Act.put, List.setIfInBounds_toArray, List.set_cons_zero, List.set_cons_succ]
      refine wpAnyH_take (i := 12) (v := ?_) rfl (by kernel_rfl) (by kernel_rfl) (by kernel_rfl) (fun _ _ _ h => h) (Or.inl ⟨by rfl, ?_⟩) (by assumption) ?_
      rotate_left
      · intro w hSw
        try dsimp only at hSw
        go_simp
        try with_reducible rfl
      simp only [List.getElem_toArray, List.getElem_cons_succ, List.getElem_cons_zero, Act.put, List.setIfInBounds_toArray, List.set_cons_zero, List.set_cons_succ]
      refine wpAnyH_take (i := 13) (v := ?_) rfl (by kernel_rfl) (by kernel_rfl) (by kernel_rfl) (fun _ _ _ h => h) (Or.inl ⟨by rfl, ?_⟩) (by assumption) ?_
      rotate_left
      · intro w hSw
        try dsimp only at hSw
        go_simp
        try with_reducible rfl
      simp only [List.getElem_toArray, List.getElem_cons_succ, List.getElem_cons_zero, Act.put, List.setIfInBounds_toArray, List.set_cons_zero, List.set_cons_succ]
      refine wpAnyH_take (i := 14) (v := ?_) rfl (by kernel_rfl) (by kernel_rfl) (by kernel_rfl) (fun _ _ _ h => h) (Or.inl ⟨by rfl, ?_⟩) (by assumption) ?_
      rotate_left
      · intro w hSw
        try dsimp only at hSw
        go_simp
        try with_reducible rfl
      simp only [List.getElem_toArray, List.getElem_cons_succ, List.getElem_cons_zero, Act.put, List.setIfInBounds_toArray, List.set_cons_zero, List.set_cons_succ]
      refine wpAnyH_take (i := 15) (v := ?_) rfl (by kernel_rfl) (by kernel_rfl) (by kernel_rfl) (fun _ _ _ h => h) (Or.inl ⟨by rfl, ?_⟩) (by assumption) ?_
      rotate_left
      · intro w hSw
        try dsimp only at hSw
        go_simp
        try with_reducible rfl
      simp only [List.getElem_toArray, List.getElem_cons_succ, List.getElem_cons_zero, Act.put, List.setIfInBounds_toArray, List.set_cons_zero, List.set_cons_succ]
      refine wpAnyH_take (i := 16) (v := ?_) rfl (by kernel_rfl) (by kernel_rfl) (by kernel_rfl) (fun _ _ _ h => h) (Or.inl ⟨by rfl, ?_⟩) (by assumption) ?_
      rotate_left
      · intro w hSw
        try dsimp only at hSw
        go_simp
        try with_reducible rfl
      simp only [List.getElem_toArray, List.getElem_cons_succ, List.getElem_cons_zero, Act.put, List.setIfInBounds_toArray, List.set_cons_zero, List.set_cons_succ]
      refine wpAnyH_take (i := 17) (v := ?_) rfl (by kernel_rfl) (by kernel_rfl) (by kernel_rfl) (fun _ _ _ h => h) (Or.inl ⟨by rfl, ?_⟩) (by assumption) ?_
      rotate_left
      · intro w hSw
        try dsimp only at hSw
        go_simp
        try with_reducible rfl
      simp only [List.getElem_toArray, List.getElem_cons_succ, List.getElem_cons_zero, Act.put, List.setIfInBounds_toArray, List.set_cons_zero, List.set_cons_succ]
      refine wpAnyH_take (i := 18) (v := ?_) rfl (by kernel_rfl) (by kernel_rfl) (by kernel_rfl) (fun _ _ _ h => h) (Or.inl ⟨by rfl, ?_⟩) (by assumption) ?_
      rotate_left
      · intro w hSw
        try dsimp only at hSw
        go_simp
        try with_reducible rfl
      simp only [List.getElem_toArray, List.getElem_cons_succ, List.getElem_cons_zero, Act.put, List.setIfInBounds_toArray, List.set_cons_zero, List.set_cons_succ]
      refine wpAnyH_take (i := 19) (v := ?_) rfl (by kernel_rfl) (by kernel_rfl) (by kernel_rfl) (fun _ _ _ h => h) (Or.inl ⟨by rfl, ?_⟩) (by assumption) ?_
      rotate_left
      · intro w hSw
        try dsimp only at hSw
        go_simp
        try with_reducible rfl
      simp only [List.getElem_toArray, List.getElem_cons_succ, List.getElem_cons_zero, Act.put, List.setIfInBounds_toArray, List.set_cons_zero, List.set_cons_succ]
      refine wpAnyH_take (i := 20) (v := .agg (L : List Value).toArray) rfl (by kernel_rfl) (by kernel_rfl) (by kernel_rfl) (fun _ _ _ h => h) (yieldsIf_load_mid rfl 29 (.tmp 4) rfl (w.heap.size) 0 rfl L _ (fun w' h => h.1.1.1) (by first | exact Try.underlying29) rfl (by first | assumption | (simp only [*]; kernel_rfl))) (by assumption) ?_
      simp only [List.getElem_toArray, List.getElem_cons_succ, List.getElem_cons_zero, Act.put, List.setIfInBounds_toArray, List.set_cons_zero, List.set_cons_succ]
      refine wpAnyH_take (i := 22) (v := .agg (L : List Value).toArray) rfl (by kernel_rfl) (by kernel_rfl) (by kernel_rfl) (fun _ _ _ h => h) (yieldsIf_load_mid rfl 29 (.tmp 4) rfl (w.heap.size) 0 rfl L _ (fun w' h => h.1.1.1) (by first | exact Try.underlying29) rfl (by first | assumption | (simp only [*]; kernel_rfl))) (by assumption) ?_
      simp only [List.getElem_toArray, List.getElem_cons_succ, List.getElem_cons_zero, Act.put, List.setIfInBounds_toArray, List.set_cons_zero, List.set_cons_succ]
      clear hHeld
      refine wpAnyH_ready (rs := [21]) (by kernel_rfl) (by simp) ?_
      refine AllReadyH.cons rfl (fun K hK => ?_) AllReadyH.nil
      go_simp
      refine (Size_c L nsec lens nsig nfl A c A1 c1 A3 c3 _ ns ne nc sz _ HNS.out HNE.out HNC.out HSZ.out.symm Q.k.lay).mono ?_
      rintro e V' ⟨rfl, bF⟩
      replace Q := Q.later bF
      replace s1 := s1.later bF
      replace s2 := s2.later bF
      clear bF
      generalize V' = V at *
      refine hK.out _ _ ⟨⟨Q.ss, cv1 _ s1⟩, cv2 _ s2⟩ (fun _ => ?_)
      clear hK K
      try simp only [List.getElem_toArray, List.getElem_cons_succ, List.getElem_cons_zero, Act.put, List.setIfInBounds_toArray, List.set_cons_zero, List.set_cons_succ]
      refine wpAnyH_ready (rs := [23]) (by kernel_rfl) (by simp) ?_
      refine AllReadyH.cons rfl (fun K hK => ?_) AllReadyH.nil
      go_simp
      refine (refSize_c L nsec lens nsig nfl A c A1 c1 A3 c3 _ ns ne nc sz _ HNS.out HNE.out HNC.out HSZ.out Q.k.lay).mono ?_
      rintro e V' ⟨rfl, bF⟩
      replace Q := Q.later bF
      replace s1 := s1.later bF
      replace s2 := s2.later bF
      clear bF
      generalize V' = V at *
      refine hK.out _ _ ⟨⟨Q.ss, cv1 _ s1⟩, cv2 _ s2⟩ (fun _ => ?_)
      clear hK K
      try simp only [List.getElem_toArray, List.getElem_cons_succ, List.getElem_cons_zero, Act.put, List.setIfInBounds_toArray, List.set_cons_zero, List.set_cons_succ]
      have hHeld : (SS w L x b r' g9 g11 g14 g16 V ∧ (convert 36 9 (.slice Ap Bs.length cp)).run Try.prog V = .ok (.string (strOf Bs)) V) ∧ (convert 36 9 (.slice As Bs.length cs)).run Try.prog V = .ok (.string (strOf Bs)) V := ⟨⟨Q.ss, cv1 _ s1⟩, cv2 _ s2⟩
      refine wpAnyH_take (i := 24) (v := ?_) rfl (by kernel_rfl) (by kernel_rfl) (by kernel_rfl) (fun _ _ _ h => h) (Or.inl ⟨by rfl, ?_⟩) (by assumption) ?_
      rotate_left
      · intro w hSw
        try dsimp only at hSw
        go_simp
        try with_reducible rfl
      simp only [List.getElem_toArray, List.getElem_cons_succ, List.getElem_cons_zero, Act.put, List.setIfInBounds_toArray, List.set_cons_zero, List.set_cons_succ]
      refine wpAnyH_take (i := 25) (v := ?_) rfl (by kernel_rfl) (by kernel_rfl) (by kernel_rfl) (fun _ _ _ h => h) (Or.inl ⟨by rfl, ?_⟩) (by assumption) ?_
      rotate_left
      · intro w hSw
        try dsimp only at hSw
        go_simp
        try with_reducible rfl
      simp only [List.getElem_toArray, List.getElem_cons_succ, List.getElem_cons_zero, Act.put, List.setIfInBounds_toArray, List.set_cons_zero, List.set_cons_succ]
      refine wpAnyH_take (i := 26) (v := ?_) rfl (by kernel_rfl) (by kernel_rfl) (by kernel_rfl) (fun _ _ _ h => h) (Or.inl ⟨by rfl, ?_⟩) (by assumption) ?_
      rotate_left
      · intro w hSw
        try dsimp only at hSw
        go_simp
        try with_reducible rfl
      simp only [List.getElem_toArray, List.getElem_cons_succ, List.getElem_cons_zero, Act.put, List.setIfInBounds_toArray, List.set_cons_zero, List.set_cons_succ]
      clear hHeld
      refine wpAnyH_ready (rs := [27]) (by kernel_rfl) (by simp) ?_
      refine AllReadyH.cons rfl (fun K hK => ?_) AllReadyH.nil
      go_simp
      refine (Dead_c _).mono ?_
      rintro e V' ⟨rfl, bF⟩
      rw [HD.out]
      replace Q := Q.later bF
      replace s1 := s1.later bF
      replace s2 := s2.later bF
      clear bF
      generalize V' = V at *
      refine hK.out _ _ ⟨⟨Q.ss, cv1 _ s1⟩, cv2 _ s2⟩ (fun _ => ?_)
      clear hK K
      try simp only [List.getElem_toArray, List.getElem_cons_succ, List.getElem_cons_zero, Act.put, List.setIfInBounds_toArray, List.set_cons_zero, List.set_cons_succ]
      refine wpAnyH_ready (rs := [28]) (by kernel_rfl) (by simp) ?_
      refine AllReadyH.cons rfl (fun K hK => ?_) AllReadyH.nil
      go_simp
      refine (refDead_c _).mono ?_
      rintro e V' ⟨rfl, bF⟩
      rw [HD.out]
      replace Q := Q.later bF
      replace s1 := s1.later bF
      replace s2 := s2.later bF
      clear bF
      generalize V' = V at *
      refine hK.out _ _ ⟨⟨Q.ss, cv1 _ s1⟩, cv2 _ s2⟩ (fun _ => ?_)
      clear hK K
      try simp only [List.getElem_toArray, List.getElem_cons_succ, List.getElem_cons_zero, Act.put, List.setIfInBounds_toArray, List.set_cons_zero, List.set_cons_succ]
      have hHeld : (SS w L x b r' g9 g11 g14 g16 V ∧ (convert 36 9 (.slice Ap Bs.length cp)).run Try.prog V = .ok (.string (strOf Bs)) V) ∧ (convert 36 9 (.slice As Bs.length cs)).run Try.prog V = .ok (.string (strOf Bs)) V := ⟨⟨Q.ss, cv1 _ s1⟩, cv2 _ s2⟩
      refine wpAnyH_take (i := 29) (v := ?_) rfl (by kernel_rfl) (by kernel_rfl) (by kernel_rfl) (fun _ _ _ h => h) (Or.inl ⟨by rfl, ?_⟩) (by assumption) ?_
      rotate_left
      · intro w hSw
        try dsimp only at hSw
        go_simp
        try with_reducible rfl
      simp only [List.getElem_toArray, List.getElem_cons_succ, List.getElem_cons_zero, Act.put, List.setIfInBounds_toArray, List.set_cons_zero, List.set_cons_succ]
      refine wpAnyH_take (i := 30) (v := ?_) rfl (by kernel_rfl) (by kernel_rfl) (by kernel_rfl) (fun _ _ _ h => h) (Or.inl ⟨by rfl, ?_⟩) (by assumption) ?_
      rotate_left
      · intro w hSw
        try dsimp only at hSw
        go_simp
        try with_reducible rfl
      simp only [List.getElem_toArray, List.getElem_cons_succ, List.getElem_cons_zero, Act.put, List.setIfInBounds_toArray, List.set_cons_zero, List.set_cons_succ]
      refine wpAnyH_take (i := 31) (v := ?_) rfl (by kernel_rfl) (by kernel_rfl) (by kernel_rfl) (fun _ _ _ h => h) (Or.inl ⟨by rfl, ?_⟩) (by assumption) ?_
      rotate_left
      · intro w hSw
        try dsimp only at hSw
        go_simp
        try with_reducible rfl
      simp only [List.getElem_toArray, List.getElem_cons_succ, List.getElem_cons_zero, Act.put, List.setIfInBounds_toArray, List.set_cons_zero, List.set_cons_succ]
      refine wpAnyH_take (i := 32) (v := ?_) rfl (by kernel_rfl) (by kernel_rfl) (by kernel_rfl) (fun _ _ _ h => h) (Or.inl ⟨by rfl, ?_⟩) (by assumption) ?_
      rotate_left
      · intro w hSw
        try dsimp only at hSw
        go_simp
        try with_reducible rfl
      simp only [List.getElem_toArray, List.getElem_cons_succ, List.getElem_cons_zero, Act.put, List.setIfInBounds_toArray, List.set_cons_zero, List.set_cons_succ]
      refine wpAnyH_take (i := 33) (v := ?_) rfl (by kernel_rfl) (by kernel_rfl) (by kernel_rfl) (fun _ _ _ h => h) (Or.inl ⟨by rfl, ?_⟩) (by assumption) ?_
      rotate_left
      · intro w hSw
        try dsimp only at hSw
        go_simp
        try with_reducible rfl
      simp only [List.getElem_toArray, List.getElem_cons_succ, List.getElem_cons_zero, Act.put, List.setIfInBounds_toArray, List.set_cons_zero, List.set_cons_succ]
      clear hHeld
      refine wpAnyH_ready (rs := [34]) (by kernel_rfl) (by simp) ?_
      refine AllReadyH.cons rfl (fun K hK => ?_) AllReadyH.nil
      go_simp
      refine (Rows_c _ _ l l true _ (decide_eq_true rfl).symm Q.p Q.q).mono ?_
      rintro e V' ⟨rfl, bF⟩
      replace Q := Q.later bF
      replace s1 := s1.later bF
      replace s2 := s2.later bF
      clear bF
      generalize V' = V at *
      refine hK.out _ _ ⟨⟨Q.ss, cv1 _ s1⟩, cv2 _ s2⟩ (fun _ => ?_)
      clear hK K
      try simp only [List.getElem_toArray, List.getElem_cons_succ, List.getElem_cons_zero, Act.put, List.setIfInBounds_toArray, List.set_cons_zero, List.set_cons_succ]
      have hHeld : (SS w L x b r' g9 g11 g14 g16 V ∧ (convert 36 9 (.slice Ap Bs.length cp)).run Try.prog V = .ok (.string (strOf Bs)) V) ∧ (convert 36 9 (.slice As Bs.length cs)).run Try.prog V = .ok (.string (strOf Bs)) V := ⟨⟨Q.ss, cv1 _ s1⟩, cv2 _ s2⟩
      refine wpAnyH_take (i := 35) (v := ?_) rfl (by kernel_rfl) (by kernel_rfl) (by kernel_rfl) (fun _ _ _ h => h) (Or.inl ⟨by rfl, ?_⟩) (by assumption) ?_
      rotate_left
      · intro w hSw
        try dsimp only at hSw
        go_simp
        try with_reducible rfl
      simp only [List.getElem_toArray, List.getElem_cons_succ, List.getElem_cons_zero, Act.put, List.setIfInBounds_toArray, List.set_cons_zero, List.set_cons_succ]
      refine wpAnyH_take (i := 36) (v := ?_) rfl (by kernel_rfl) (by kernel_rfl) (by kernel_rfl) (fun _ _ _ h => h) (Or.inl ⟨by rfl, ?_⟩) (by assumption) ?_
      rotate_left
      · intro w hSw
        try dsimp only at hSw
        go_simp
        try with_reducible rfl
      simp only [List.getElem_toArray, List.getElem_cons_succ, List.getElem_cons_zero, Act.put, List.setIfInBounds_toArray, List.set_cons_zero, List.set_cons_succ]
      refine wpAnyH_take (i := 37) (v := .agg ((memV b x) : List Value).toArray) rfl (by kernel_rfl) (by kernel_rfl) (by kernel_rfl) (fun _ _ _ h => h) (yieldsIf_load_mid rfl 35 (.tmp 14) rfl (g14) 0 rfl (memV b x) _ (fun w' h => h.1.1.2.2.2.2.1) (by first | exact Try.underlying35) rfl (by first | assumption | (simp only [*]; kernel_rfl))) (by assumption) ?_
      simp only [List.getElem_toArray, List.getElem_cons_succ, List.getElem_cons_zero, Act.put, List.setIfInBounds_toArray, List.set_cons_zero, List.set_cons_succ]
      refine wpAnyH_take (i := 38) (v := .agg ((memV b x) : List Value).toArray) rfl (by kernel_rfl) (by kernel_rfl) (by kernel_rfl) (fun _ _ _ h => h) (yieldsIf_load_mid rfl 35 (.tmp 16) rfl (g16) 0 rfl (memV b x) _ (fun w' h => h.1.1.2.2.2.2.2) (by first | exact Try.underlying35) rfl (by first | assumption | (simp only [*]; kernel_rfl))) (by assumption) ?_
      simp only [List.getElem_toArray, List.getElem_cons_succ, List.getElem_cons_zero, Act.put, List.setIfInBounds_toArray, List.set_cons_zero, List.set_cons_succ]
      refine wpAnyH_take (i := 39) (v := ?_) rfl (by kernel_rfl) (by kernel_rfl) (by kernel_rfl) (fun _ _ _ h => h) (Or.inl ⟨by rfl, ?_⟩) (by assumption) ?_
      rotate_left
      · intro w hSw
        try dsimp only at hSw
        go_simp
        try with_reducible rfl
      simp only [List.getElem_toArray, List.getElem_cons_succ, List.getElem_cons_zero, Act.put, List.setIfInBounds_toArray, List.set_cons_zero, List.set_cons_succ]
      refine wpAnyH_take (i := 40) (v := ?_) rfl (by kernel_rfl) (by kernel_rfl) (by kernel_rfl) (fun _ _ _ h => h) (Or.inl ⟨by rfl, ?_⟩) (by assumption) ?_
      rotate_left
      · intro w hSw
        try dsimp only at hSw
        go_simp
        try with_reducible rfl
      simp only [List.getElem_toArray, List.getElem_cons_succ, List.getElem_cons_zero, Act.put, List.setIfInBounds_toArray, List.set_cons_zero, List.set_cons_succ]
      refine wpAnyH_take (i := 41) (v := ?_) rfl (by kernel_rfl) (by kernel_rfl) (by kernel_rfl) (fun _ _ _ h => h) (Or.inl ⟨by rfl, ?_⟩) (by assumption) ?_
      rotate_left
      · intro w hSw
        try dsimp only at hSw
        go_simp
        try with_reducible rfl
      simp only [List.getElem_toArray, List.getElem_cons_succ, List.getElem_cons_zero, Act.put, List.setIfInBounds_toArray, List.set_cons_zero, List.set_cons_succ]
      clear hHeld
      refine wpAnyH_ready (rs := [42]) (by kernel_rfl) (by simp) ?_
      refine AllReadyH.cons rfl (fun K hK => ?_) AllReadyH.nil
      go_simp
      refine (wakes_c _).mono ?_
      rintro e V' ⟨rfl, bF⟩
      replace Q := Q.later bF
      replace s1 := s1.later bF
      replace s2 := s2.later bF
      clear bF
      generalize V' = V at *
      refine hK.out _ _ ⟨⟨Q.ss, cv1 _ s1⟩, cv2 _ s2⟩ (fun _ => ?_)
      clear hK K
      try simp only [List.getElem_toArray, List.getElem_cons_succ, List.getElem_cons_zero, Act.put, List.setIfInBounds_toArray, List.set_cons_zero, List.set_cons_succ]
      have hHeld : (SS w L x b r' g9 g11 g14 g16 V ∧ (convert 36 9 (.slice Ap Bs.length cp)).run Try.prog V = .ok (.string (strOf Bs)) V) ∧ (convert 36 9 (.slice As Bs.length cs)).run Try.prog V = .ok (.string (strOf Bs)) V := ⟨⟨Q.ss, cv1 _ s1⟩, cv2 _ s2⟩
      refine wpAnyH_take (i := 43) (v := ?_) rfl (by kernel_rfl) (by kernel_rfl) (by kernel_rfl) (fun _ _ _ h => h) (Or.inl ⟨by rfl, ?_⟩) (by assumption) ?_
      rotate_left
      · intro w hSw
        try dsimp only at hSw
        go_simp
        try with_reducible rfl
      simp only [List.getElem_toArray, List.getElem_cons_succ, List.getElem_cons_zero, Act.put, List.setIfInBounds_toArray, List.set_cons_zero, List.set_cons_succ]
      refine wpAnyH_take (i := 44) (v := ?_) rfl (by kernel_rfl) (by kernel_rfl) (by kernel_rfl) (fun _ _ _ h => h) (Or.inl ⟨by rfl, ?_⟩) (by assumption) ?_
      rotate_left
      · intro w hSw
        try dsimp only at hSw
        go_simp
        try with_reducible rfl
      simp only [List.getElem_toArray, List.getElem_cons_succ, List.getElem_cons_zero, Act.put, List.setIfInBounds_toArray, List.set_cons_zero, List.set_cons_succ]
      clear hHeld
      refine wpAnyH_done (by kernel_rfl) ?_ _
      have HB := Lib.hid Q.k.bel
      clear Q s1 s2 cv1 cv2 heB heM heD
      go_wp2
      go_ret
      exact ⟨rfl, HB.out⟩

theorem own : ownKnob Try.prog.godebug = none := by kernel_rfl
theorem laidOut : laidOutB Try.prog = true := by kernel_rfl
noncomputable def wit (os : Os) : World := World.holding Try.prog os ⟨#[], #[], []⟩
set_option maxRecDepth 100000 in
theorem lifted (os : Os) (started : os.Started) (H : Type) (enc : TypeId × Value → H) (F : Stop.Interp) :
    ReturnsInHanded {} Try.checked os 3 .any ((OpenSpec.ofChange Rows.keysTellsSpec).preRow enc Try.prog Try.f3 Rows.keysTellsRow.domain false Rows.keysTellsRow.laid) (((OpenSpec.ofChange Rows.keysTellsSpec).at F).post enc Try.prog Try.f3 false true false false) := by
  obtain ⟨x, hx⟩ : ∃ x, DataW.whole enc Try.prog ((wit os).forCall (fun _ _ => 0) ⟨#[], #[.agg zL, .agg zB, .agg zMem, .slice none 0 0], []⟩).memory Try.f3.params.toList Rows.keysTellsSpec.vars false (#[.agg zL, .agg zB, .agg zMem, .slice none 0 0] : Array Value).toList 8 = some x := Option.isSome_iff_exists.1 (by kernel_rfl)
  refine Fr.lift (C := Try.checked) (s := OpenSpec.ofChange Rows.keysTellsSpec) own started (by kernel_rfl) Try.func3
    (witness_row_at (enc := enc) (C := Try.checked) false (wit os) #[.agg zL, .agg zB, .agg zMem, .slice none 0 0] rfl (by kernel_rfl) (by kernel_rfl) (by kernel_rfl)
      (OpenSpec.preRow_of_cond 8 hx rfl (fun k hk => by cases hk) (by kernel_rfl) (laidMet_of_run' 8 (by kernel_rfl) (by kernel_rfl))))
    laidOut (by kernel_rfl) rfl Try.underlying4 rfl rfl ?_ ?_
  · intro ds hds
    match ds, hds with
    | [_, _, _, _], _ => rfl
  · intro W base args ds before hval hA hlt _ hz hL
    rw [Try.params3] at hA hval
    obtain ⟨v0, vs0, d0, ds0, p0, q0, hargs, rfl, rfl, h0, r0⟩ := trodAll_cons hA
    obtain ⟨v1, vs1, d1, ds1, p1, q1, rfl, rfl, rfl, h1, r1⟩ := trodAll_cons r0
    obtain ⟨v2, vs2, d2, ds2, p2, q2, rfl, rfl, rfl, h2, r2⟩ := trodAll_cons r1
    obtain ⟨v3, vs3, d3, ds3, p3, q3, rfl, rfl, rfl, h3, r3⟩ := trodAll_cons r2
    obtain ⟨rfl, rfl, rfl⟩ := trodAll_nil r3
    obtain rfl : args = #[v0, v1, v2, v3] := by cases args; simp_all
    obtain ⟨L, nsec, lens, nsig, nfl, A, c, A1, c1, A3, c3, ve, rfl, hLA⟩ := open_layN (hval 0 _ v0 rfl rfl) h0
    obtain ⟨b, hb, rfl⟩ := open_btn (hval 1 _ v1 rfl rfl) h1
    obtain ⟨x, y, hx, hy, rfl⟩ := open_mem (hval 2 _ v2 rfl rfl) h2
    obtain ⟨pl, hpl⟩ := Bv.open_bytes_arg Try.underlying36 Try.underlying5 (by kernel_rfl) (hval 3 _ v3 rfl rfl) h3
    exact walk L nsec lens nsig nfl A c A1 c1 A3 c3 ve b x y v3 pl W hb hx hy hLA hpl

theorem said : Rows.KeysTellsSaid :=
  OpenClaim.holds_of_cond 3 Try.f3 rfl rfl rfl rfl rfl rfl rfl ⟨rfl, rfl, rfl, rfl, rfl⟩ rfl rfl rfl rfl rfl (by kernel_rfl) Try.func3 (by kernel_rfl)
    (of_decide_eq_true (by kernel_rfl)) (by unfold Func.isWrapper; first | (rw [if_pos (by decide +kernel)]; kernel_rfl) | (rw [if_neg (by decide +kernel)]; exact ⟨rfl, rfl⟩))
    (fun os started H enc _ F => by rw [OpenClaim.pre_eq_preRow]; exact lifted os started H enc F)
#print axioms said
end Go.Proofs.Ytioggdiicgfoaaa.keysTells
