/- KeysOnce: for every argument the statement's Go text returns true and turns nothing that was there. It is proved at every argument, without a condition beyond the row. -/
import Derived.Test.YtdnimdpnejjjlaaKeyP
import Derived.Test.YtdnimdpnejjjlaaKeyR
import Derived.Test.YtdnimdpnejjjlaaKeyQ
import Derived.Test.YtdnimdpnejjjlaaKeyW
import Derived.Test.YtdnimdpnejjjlaaKeyG
import Derived.Test.YtdnimdpnejjjlaaFrame
import Derived.Deep.RegionHeld3
import Derived.Deep.CutRange
import Derived.Deep.DrawnRows
namespace Go.Proofs.Ytdnimdpnejjjlaa.keysOnce
open Go.ChangeShapes Go.WideShapes Go.ChangeAt Go.RowKit Rf
attribute [local go_sem ↓] run_max2 run_min2
open Mem KM Bits Bv
theorem cnt_succ (k n : Int) (l : List Pr) (j : Nat) (p : Pr) (h : l[j]? = some p) : cnt k n (l.take (j + 1)) = cnt k n (l.take j) + (if p.1 == k && p.2.1 == n then 1 else 0) := by
  rw [List.take_add_one, h, cnt_append]
  congr 1
  simp only [Option.toList_some, cnt, List.countP_cons, List.countP_nil]
  split <;> simp_all
theorem w64s {k : Nat} (h : k ≤ 1000) : wrap64 ((k : Int) + 1) = (k : Int) + 1 := by unfold wrap64; omega
theorem w64i {z : Int} (h0 : -1000 ≤ z) (h : z ≤ 1000) : wrap64 z = z := by unfold wrap64; omega
theorem cnt_step {k n E z d : Int} {l : List Pr} {j : Nat} {p : Pr} (h : l[j]? = some p) (hz : z = E + cnt k n (l.take j)) (hd : d = if p.1 == k && p.2.1 == n then 1 else 0) : z + d = E + cnt k n (l.take (j + 1)) := by
  rw [cnt_succ k n l j p h, hz, hd]; omega
theorem low32e (b : BitVec 32) (j : Nat) : (Go.bits .and .u32 ((b.toNat : Int) / 2 ^ j) 1 == 1) = b.getLsbD j := by
  have e1 : ((b.toNat : Int) / 2 ^ j) = ((b >>> j).toNat : Int) := by
    rw [BitVec.toNat_ushiftRight, Nat.shiftRight_eq_div_pow]; norm_cast
  have e2 : Go.bits .and .u32 ((b >>> j).toNat : Int) 1 = (((b >>> j) &&& 1#32).toNat : Int) := Bv.bits_and .u32 rfl (b >>> j) 1#32
  rw [e1, e2]
  have e3 : (b >>> j) &&& 1#32 = if b.getLsbD j then 1#32 else 0#32 := by
    rw [BitVec.and_one_eq_setWidth_ofBool_getLsbD]
    simp only [BitVec.getLsbD_ushiftRight, Nat.add_zero]
    cases b.getLsbD j <;> rfl
  rw [e3]
  cases b.getLsbD j <;> rfl
theorem front_bit (a b c : BitVec 32) (j : Nat) : (Go.bits .and .u32 (Go.bits .andNot .u32 (Go.bits .and .u32 (a.toNat : Int) (b.toNat : Int)) (c.toNat : Int) / 2 ^ j) 1 == 1) = (front a b c).getLsbD j := by
  have e1 : Go.bits .and .u32 (a.toNat : Int) (b.toNat : Int) = ((a &&& b).toNat : Int) := Bv.bits_and .u32 rfl a b
  have e2 : Go.bits .andNot .u32 ((a &&& b).toNat : Int) (c.toNat : Int) = (((a &&& b) &&& ~~~ c).toNat : Int) := Bv.bits_andNot .u32 rfl (a &&& b) c
  rw [e1, e2]
  exact low32e _ _
theorem cnt_le (k n : Int) (l : List Pr) : 0 ≤ cnt k n l ∧ cnt k n l ≤ l.length := by
  unfold cnt
  have := List.countP_le_length (p := fun p : Pr => p.1 == k && p.2.1 == n) (l := l)
  omega
theorem sum_step {z z' d S s s' : Int} (h : z = S - s) (h1 : z' = z - d) (h2 : s' = s + d) : z' = S - s' := by omega
theorem sumF_small {F : Nat → Bool} (h : sumF F 2 = 0) {k : Nat} (hk : k ≤ 2) : sumF F k = 0 := by
  have h1 := (sumF_le F 1).1
  have e : sumF F 2 = sumF F 1 + (if F 1 then 1 else 0) := rfl
  match k, hk with
  | 0, _ => rfl
  | 1, _ => rw [e] at h; split at h <;> omega
  | 2, _ => exact h
/-- where a frame of a slice lies -/
theorem btn_range {W : World} {v : Value} {fs : List Btn} (h : SliceAt W 29 v fs.length (btns fs)) (hl : ∀ b ∈ fs, b.keys.length = 24) {k : Nat} {b : Btn} (hb : fs[k]? = some b) : ∃ g off c, v = .slice (some ⟨g, off, none⟩) fs.length c ∧ g < W.heap.size ∧ W.rangeAt g (off + k * 29) (btnV b) := by
  have hk : k < fs.length := (List.getElem?_eq_some_iff.1 hb).1
  obtain ⟨g, off, c, rfl, _, _, hg, hc⟩ := h.pos (by omega)
  refine ⟨g, off, c, rfl, hg, fun j u hu => ?_⟩
  rw [Nat.add_assoc]
  refine hc _ _ ?_
  have hj : j < 29 := by
    have := (List.getElem?_eq_some_iff.1 hu).1
    rw [btnV_len (hl b (List.mem_of_getElem? hb))] at this
    exact this
  rw [btns]
  have fm : ∀ (l : List Btn) (_ : ∀ a ∈ l, (btnV a).length = 29) (q : Nat), (l.flatMap btnV)[q * 29 + j]? = (l[q]?).bind fun a => (btnV a)[j]? := fun l ha q => flatMap_get ha q j hj
  rw [fm fs (fun a ha => btnV_len (hl a ha)) k, hb]
  exact hu
theorem World.rangeAt_below {W W' : World} {g o : Nat} {cs : List Value} (h : W.rangeAt g o cs) (b : Below W.heap.size W W') (hg : g < W.heap.size) : W'.rangeAt g o cs := fun j v hv => (World.cell?_of_block (a := ⟨g, o + j, none⟩) (b.block g hg)).trans (h j v hv)
theorem memX_len {fs : List Btn} (h : ∀ b ∈ fs, b.keys.length = 24) : ∀ k, (memX fs k).keys.length = 24
  | 0 => rfl
  | k + 1 => by
    rw [memX_succ, List.getD_eq_getElem?_getD]
    cases hk : fs[k]? with
    | none => rfl
    | some b => exact h b (List.mem_of_getElem? hk)
theorem memY_len {fs : List Btn} (h : ∀ b ∈ fs, b.keys.length = 24) : ∀ k, (memY fs k).keys.length = 24
  | 0 => rfl
  | k + 1 => by rw [memY_succ]; exact memX_len h k
/-- what the law knows between two frames -/
structure KO (w V : World) (L : List Value) (gM : Nat) (x y : Btn) : Prop where
  bel : Below w.heap.size w V
  l : V.heap[w.heap.size]? = some (.cells L.toArray 29 (0, 0))
  m : V.heap[gM]? = some (.cells (memV x y).toArray 35 (0, 0))
  hg : w.heap.size < gM
theorem KO.later {w V V' : World} {L : List Value} {gM : Nat} {x y : Btn} (h : KO w V L gM x y) (b : Below V.heap.size V V') : KO w V' L gM x y :=
  ⟨below_step h.bel b, var_later h.l b, var_later h.m b, h.hg⟩
theorem Presses_n (L : List Value) (nsec : Nat) (lens : List Nat) (nsig nfl : Nat) (A : Option Addr) (c : Nat) (A1 : Option Addr) (c1 : Nat) (A3 : Option Addr) (c3 : Nat) (ve : Value) (ns ne nc : Nat) (x y b : Btn) (l : List Pr) (w : World) (hns : min nsig 12 = ns) (hne : min lens.length 12 = ne) (hnc : min nsec 24 = nc) (hx : x.keys.length = 24) (hy : y.keys.length = 24) (hb : b.keys.length = 24) (hl : pressL b x y ns ne nc = l) (hL : LayN w L nsec lens nsig nfl A c A1 c1 A3 c3 ve) :
    Calls Try.prog 10 #[.agg L.toArray, .agg (memV x y).toArray, .agg (btnV b).toArray] w fun e w' => Below w.heap.size w w' ∧ ∃ A' c', e = .returned (.tuple #[.slice A' l.length c', .agg (memV b x).toArray]) ∧ w'.ownsRow w.heap.size 52 3 (.slice A' l.length c') l.length (prs l) := by
  subst hl
  refine (Presses_of L nsec lens nsig nfl A c A1 c1 A3 c3 ve ns ne nc x y b w hns hne hnc hx hy hb hL (fun g => presses1 g x y b ns ne nc (by omega) (by omega) (by omega) hx hy hb)).mono ?_
  rintro e w' ⟨hB, v', rfl, ho⟩
  obtain ⟨A', c', rfl, _, _⟩ := (sliceAt_of_own ho).form
  exact ⟨hB, A', c', rfl, ho⟩
set_option maxHeartbeats 8000000 in
set_option maxRecDepth 100000 in
theorem walk (L : List Value) (nsec : Nat) (lens : List Nat) (nsig nfl : Nat) (A : Option Addr) (c : Nat) (A1 : Option Addr) (c1 : Nat) (A3 : Option Addr) (c3 : Nat) (ve u : Value) (fs : List Btn) (s t : Int) (w : World) (hfl : ∀ b ∈ fs, b.keys.length = 24)
    (hL : LayN w L nsec lens nsig nfl A c A1 c1 A3 c3 ve) (hu : SliceAt w 29 u fs.length (btns fs)) :
    Calls Try.prog 4 #[.agg L.toArray, u, .int .i64 s, .int .i64 t] w fun e w' => e = .returned (.bool true) ∧ Below w.heap.size w w' := by
  have szL := lay_size hL.len
  obtain ⟨ns, hns⟩ : ∃ ns, min nsig 12 = ns := ⟨_, rfl⟩
  obtain ⟨ne, hne⟩ : ∃ ne, min lens.length 12 = ne := ⟨_, rfl⟩
  obtain ⟨nc, hnc⟩ : ∃ nc, min nsec 24 = nc := ⟨_, rfl⟩
  have l1 : ns ≤ 12 := by omega
  have l2 : ne ≤ 12 := by omega
  have l3 : nc ≤ 24 := by omega
  have q1 : min (nsig : Int) 12 = (ns : Int) := m12 hns
  have q3 : min (nsec : Int) 24 = (nc : Int) := m24 hnc
  have HNS := Lib.hid hns
  have HNE := Lib.hid hne
  have HNC := Lib.hid hnc
  clear hns hne hnc
  have HL1 := Lib.hid l1
  have HL2 := Lib.hid l2
  have HL3 := Lib.hid l3
  have HFL := Lib.hid hfl
  have HU := Lib.hid hu
  have HLw := Lib.hid hL
  obtain ⟨Au, cu, rfl, _, _⟩ := hu.form
  obtain ⟨n, hn⟩ : ∃ n, n = fs.length := ⟨_, rfl⟩
  rw [← hn] at hu HU ⊢
  have HN := Lib.hid hn
  clear l1 l2 l3 hfl hn
  obtain ⟨gr, hg⟩ : ∃ gr, greatV nsec nsig nfl lens = gr := ⟨_, rfl⟩
  have HG := Lib.hid hg
  clear hg
  have B0 := kbelow_new w (.cells L.toArray 29)
  have VL := new_at (w := w) rfl (.cells L.toArray 29)
  have xs1 := cell_list VL hL.sig
  have xs0 := cell_list VL hL.sec
  have hL0 := hL.later B0
  clear hu
  go_enter Try.func4, Try.ntmps4
  go_upto_region 1 with (fail)
  generalize w.alloc (.cells L.toArray 29) = V at *
  have RL := range_of VL
  clear hL xs1 xs0
  go_wp2_with (first
    | refine wpList_load_g (by rfl) 29 (.tmp 4) (by rfl) w.heap.size 0 (by rfl) L _ RL Try.underlying29 rfl szL ?_
    | fail)
  refine (Great_c L nsec nsig nfl lens A A1 A3 c c1 c3 ve _ hL0.sec hL0.sig hL0.ex hL0.fl hL0.ea).mono ?_
  rintro e V1 ⟨rfl, b1⟩
  rw [HG.out]
  replace VL := var_later VL b1
  replace B0 := below_step B0 b1
  have xs1 := cell_list VL hL0.sig
  have xs0 := cell_list VL hL0.sec
  clear RL b1 hL0
  have hcase : (gr = true) ∨ (gr = false ∧ decide ((30 : Int) < (n : Int)) = true) ∨ (gr = false ∧ decide ((30 : Int) < (n : Int)) = false ∧ decide (s < 0) = true) ∨ (gr = false ∧ decide ((30 : Int) < (n : Int)) = false ∧ decide (s < 0) = false ∧ decide ((ns : Int) ≤ s) = true) ∨
      (gr = false ∧ decide ((30 : Int) < (n : Int)) = false ∧ decide (s < 0) = false ∧ decide ((ns : Int) ≤ s) = false ∧ decide (t < 0) = true) ∨ (gr = false ∧ decide ((30 : Int) < (n : Int)) = false ∧ decide (s < 0) = false ∧ decide ((ns : Int) ≤ s) = false ∧ decide (t < 0) = false ∧ decide ((nc : Int) ≤ t) = true) ∨
      (gr = false ∧ decide ((30 : Int) < (n : Int)) = false ∧ decide (s < 0) = false ∧ decide ((ns : Int) ≤ s) = false ∧ decide (t < 0) = false ∧ decide ((nc : Int) ≤ t) = false) := by
    cases gr <;> cases decide ((30 : Int) < (n : Int)) <;> cases decide (s < 0) <;> cases decide ((ns : Int) ≤ s) <;> cases decide (t < 0) <;> cases decide ((nc : Int) ≤ t) <;> simp
  rcases hcase with rfl | ⟨rfl, d1⟩ | ⟨rfl, d1, d2⟩ | ⟨rfl, d1, d2, d3⟩ | ⟨rfl, d1, d2, d3, d4⟩ | ⟨rfl, d1, d2, d3, d4, d5⟩ | ⟨rfl, d1, d2, d3, d4, d5⟩
  · skip
    go_wp2_with fail
    refine (wakes_c _).mono ?_
    rintro e V2 ⟨rfl, b2⟩
    have B2 := below_step B0 b2
    go_wp2
    go_ret
    exact ⟨rfl, B2⟩
  · skip
    go_wp2_with fail
    refine (wakes_c _).mono ?_
    rintro e V2 ⟨rfl, b2⟩
    have B2 := below_step B0 b2
    go_wp2
    go_ret
    exact ⟨rfl, B2⟩
  · skip
    go_wp2_with fail
    refine (wakes_c _).mono ?_
    rintro e V2 ⟨rfl, b2⟩
    have B2 := below_step B0 b2
    go_wp2
    go_ret
    exact ⟨rfl, B2⟩
  · skip
    go_wp2_with fail
    refine (wakes_c _).mono ?_
    rintro e V2 ⟨rfl, b2⟩
    have B2 := below_step B0 b2
    go_wp2
    go_ret
    exact ⟨rfl, B2⟩
  · skip
    go_wp2_with fail
    refine (wakes_c _).mono ?_
    rintro e V2 ⟨rfl, b2⟩
    have B2 := below_step B0 b2
    go_wp2
    go_ret
    exact ⟨rfl, B2⟩
  · skip
    go_wp2_with fail
    refine (wakes_c _).mono ?_
    rintro e V2 ⟨rfl, b2⟩
    have B2 := below_step B0 b2
    go_wp2
    go_ret
    exact ⟨rfl, B2⟩
  · have hn30 : n ≤ 30 := by have := of_decide_eq_false d1; omega
    obtain ⟨sn, rfl⟩ : ∃ sn : Nat, s = (sn : Int) := ⟨s.toNat, by have := of_decide_eq_false d2; omega⟩
    obtain ⟨tn, rfl⟩ : ∃ tn : Nat, t = (tn : Int) := ⟨t.toNat, by have := of_decide_eq_false d4; omega⟩
    have hsn : sn < ns := by have := of_decide_eq_false d3; omega
    have htn : tn < nc := by have := of_decide_eq_false d5; omega
    go_wp2_with fail
    refine (Dead_c _).mono ?_
    rintro e V2 ⟨rfl, b2⟩
    replace VL := var_later VL b2
    replace B0 := below_step B0 b2
    have hgM : w.heap.size < V2.heap.size := (Array.getElem?_eq_some_iff.1 VL).1
    obtain ⟨V3, hW, VM, b3, ths⟩ := newv (V := V2) (memV deadB deadB) zMem 35 (by rfl)
    go_upto_region 4 with (first | (refine wpList_store_mid rfl 35 (.tmp 9) (.tmp 54) (by rfl) V2.heap.size 0 (memV deadB deadB).toArray (by rfl) (by rfl) ths (by kernel_rfl) (all_one (memV_one _ _)) ?_; rw [hW]) | fail)
    have H : KO w V3 L V2.heap.size (memX fs 0) (memY fs 0) := ⟨below_step B0 b3, var_later VL b3, VM, hgM⟩
    clear hW ths b2 b3 VL B0 VM hgM xs1 xs0
    generalize V2.heap.size = gM at *
    have HSN := Lib.hid hsn
    have HTN := Lib.hid htn
    have HT24 : Hid (tn < 24) := Lib.hid (by have := HL3.out; omega)
    have HT24i : Hid ((tn : Int) < 24) := Lib.hid (by have := HL3.out; omega)
    have HN30 := Lib.hid hn30
    clear d1 d2 d3 d4 d5 hsn htn hn30
    go_wp2_with fail
    go_loopw [10, 11, 12, 13] (fun a b d i wr => ∃ k : Nat, k ≤ n ∧ i = .int .i64 k ∧ a = .int .i64 (sumF (entF fs sn) k) ∧ b = .int .i64 (sumF (viaF fs tn) k) ∧ d = .int .i64 (sumF (kyF fs tn) k) ∧ KO w wr L gM (memX fs k) (memY fs k)) (fun _ _ _ i _ => n - (intOf i).toNat)
    case atStart => exact ⟨0, Nat.zero_le _, rfl, rfl, rfl, rfl, H⟩
    case round =>
      clear H
      obtain ⟨k, hk, rfl, rfl, rfl, rfl, H⟩ := hrel
      by_cases hlt : k < n
      · have i1 : (k : Int) < (n : Int) := by omega
        have HW1 := Lib.hid (w64s (k := k) (by have := HN30.out; omega))
        obtain ⟨b, hb⟩ : ∃ b, fs[k]? = some b := ⟨_, List.getElem?_eq_getElem (by have := HN.out; omega)⟩
        obtain ⟨x, hx⟩ : ∃ x, x = memX fs k := ⟨_, rfl⟩
        obtain ⟨y, hy⟩ : ∃ y, y = memY fs k := ⟨_, rfl⟩
        rw [← hx, ← hy] at H
        obtain ⟨gf, off, cf, hv, hgf, rb⟩ := btn_range (by have h := HU.out.later H.bel; rwa [HN.out] at h) HFL.out hb
        obtain ⟨rfl, hnn, rfl⟩ := Value.slice.inj hv
        clear hv hnn
        have HB := Lib.hid hb
        have hbl : b.keys.length = 24 := HFL.out b (List.mem_of_getElem? hb)
        have szB := btn_size hbl
        have hxl : x.keys.length = 24 := by rw [hx]; exact memX_len HFL.out k
        have hyl : y.keys.length = 24 := by rw [hy]; exact memY_len HFL.out k
        have szM := mem_size hxl hyl
        have szN := mem_size hbl hxl
        have HX := Lib.hid hx
        have HY := Lib.hid hy
        clear hb hx hy
        go_upto_region 8 with (fail)
        obtain ⟨wb, hwb⟩ : ∃ wb, wb = wr := ⟨_, rfl⟩
        rw [← hwb] at H rb hgf ⊢
        clear hwb
        obtain ⟨l, hl⟩ : ∃ l, pressL b x y ns ne nc = l := ⟨_, rfl⟩
        have HPL := Lib.hid hl
        clear hl
        refine Code.wp_mono (Q := nq (fun a' W => ∃ v55 v56 v57 v58 v59 v60 v61 v62 v63 v64 v65 v66 v67 v68 v69 v70 : Value, ∃ (Ar : Option Addr) (cr gr : Nat), a' = { tmps := (([.agg L.toArray, .slice (some ⟨gf, off, none⟩) n cu, .int .i64 sn, .int .i64 tn, .pointer (some ⟨w.heap.size, 0, none⟩), undef, undef, undef, .bool false, .pointer (some ⟨gM, 0, none⟩), .int .i64 (sumF (entF fs sn) k), .int .i64 (sumF (viaF fs tn) k), .int .i64 (sumF (kyF fs tn) k), .int .i64 k, .slice Ar l.length cr, .pointer (some ⟨gr, 0, none⟩), u16, undef, undef, undef, undef, undef, .agg L.toArray, .bool false, .bool false, .slice (some ⟨gf, off, none⟩) n cu, .int .i64 n, .bool false, .bool false, .bool false, .int .i64 sn, .bool false, .bool false, .bool false, .int .i64 sn, .pointer (some ⟨w.heap.size, 1, none⟩), .slice A1 nsig c1, .int .i64 nsig, .int .i64 ns, .bool false, .bool false, .bool false, .int .i64 tn, .bool false, .bool false, .bool false, .int .i64 tn, .pointer (some ⟨w.heap.size, 0, none⟩), .slice A nsec c, .int .i64 nsec] ++ ([.int .i64 nc, .bool false, .bool false, undef, .agg (memV deadB deadB).toArray, v55, v56, v57, v58, v59, v60, v61, v62, v63, v64, v65, v66, v67, v68, v69, v70, u71, u72, u73, u74, u75, u76, u77, u78, u79, u80, u81, u82, u83, u84, u85, u86, u87, u88, u89, u90, u91, u92, u93, u94, u95, u96, u97, u98, u99] ++ ([u100, u101, u102, u103, u104, u105, u106, u107, u108, u109, u110, u111, u112, u113, u114, u115, u116, u117, u118, u119, u120, u121, u122, u123, u124, u125, u126, u127, u128, undef, undef, undef, undef, undef, undef, undef, undef, undef, undef, undef, undef, undef, undef, undef, undef, undef, undef, undef, undef, undef] ++ ([undef, undef, undef, undef, undef, undef, undef, undef, undef, undef, undef, undef, undef, undef, undef, undef, undef, undef, undef, undef, undef, undef, undef, undef, undef, undef, undef, undef, undef, undef, undef, undef, undef, undef, undef, undef, undef, undef, undef, undef, undef, undef, undef, undef, undef, undef, undef, undef, undef, undef] ++ ([undef, undef, undef, undef, undef, undef, undef, undef, undef, undef, undef, undef, undef, undef, undef, undef, undef, undef, undef, undef, undef, undef, undef, undef, undef, undef, undef])))) : List Value)).toArray, defers := [] } ∧
          KO w W L gM x y ∧ W.heap[gr]? = some (.cells (memV b x).toArray 35 (0, 0)) ∧ W.ownsRow wb.heap.size 52 3 (.slice Ar l.length cr) l.length (prs l))) (fun e a V9 hR => ?_) ?_
        rotate_left
        · skip
          as_aux_lemma =>
          refine wp_region_held_drew (S := (fun w' => w'.rangeAt w.heap.size 0 L ∧ w'.rangeAt gM 0 (memV x y) ∧ w'.rangeAt gf (off + k * 29) (btnV b))) (by kernel_rfl) ?_ (fun hHeld => ?_)
          · exact ⟨range_of H.l, range_of H.m, rb⟩
          have Bb : Below wb.heap.size wb wb.drew := (Below.refl _ wb).drew
          generalize wb.drew = V at *
          refine wpAnyH_take (i := 0) (v := .agg (L : List Value).toArray) rfl (by kernel_rfl) (by kernel_rfl) (by kernel_rfl) (fun _ _ _ h => h) (yieldsIf_load_mid rfl 29 (.tmp 4) rfl (w.heap.size) 0 rfl L _ (fun w' h => h.1) (by first | exact Try.underlying29) rfl (by first | assumption | (simp only [*]; kernel_rfl))) (by assumption) ?_
          simp only [List.getElem_toArray, List.getElem_cons_succ, List.getElem_cons_zero, Act.put, List.setIfInBounds_toArray, List.set_cons_zero, List.set_cons_succ]
          refine wpAnyH_take (i := 1) (v := .agg ((memV x y) : List Value).toArray) rfl (by kernel_rfl) (by kernel_rfl) (by kernel_rfl) (fun _ _ _ h => h) (yieldsIf_load_mid rfl 35 (.tmp 9) rfl (gM) 0 rfl (memV x y) _ (fun w' h => h.2.1) (by first | exact Try.underlying35) rfl (by first | assumption | (simp only [*]; kernel_rfl))) (by assumption) ?_
          simp only [List.getElem_toArray, List.getElem_cons_succ, List.getElem_cons_zero, Act.put, List.setIfInBounds_toArray, List.set_cons_zero, List.set_cons_succ]
          refine wpAnyH_take (i := 2) (v := ?_) rfl (by kernel_rfl) (by kernel_rfl) (by kernel_rfl) (fun _ _ _ h => h) (Or.inl ⟨by rfl, ?_⟩) (by assumption) ?_
          rotate_left
          · intro w hSw
            try dsimp only at hSw
            go_simp
            try with_reducible rfl
          simp only [List.getElem_toArray, List.getElem_cons_succ, List.getElem_cons_zero, Act.put, List.setIfInBounds_toArray, List.set_cons_zero, List.set_cons_succ]
          refine wpAnyH_take (i := 3) (v := ?_) rfl (by kernel_rfl) (by kernel_rfl) (by kernel_rfl) (fun _ _ _ h => h) (Or.inl ⟨by rfl, ?_⟩) (by assumption) ?_
          rotate_left
          · intro w hSw
            try dsimp only at hSw
            go_simp
            try with_reducible rfl
          simp only [List.getElem_toArray, List.getElem_cons_succ, List.getElem_cons_zero, Act.put, List.setIfInBounds_toArray, List.set_cons_zero, List.set_cons_succ]
          refine wpAnyH_take (i := 4) (v := ?_) rfl (by kernel_rfl) (by kernel_rfl) (by kernel_rfl) (fun _ _ _ h => h) (Or.inl ⟨by rfl, ?_⟩) (by assumption) ?_
          rotate_left
          · intro w hSw
            try dsimp only at hSw
            go_simp
            try with_reducible rfl
          simp only [List.getElem_toArray, List.getElem_cons_succ, List.getElem_cons_zero, Act.put, List.setIfInBounds_toArray, List.set_cons_zero, List.set_cons_succ]
          refine wpAnyH_take (i := 5) (v := .agg ((btnV b) : List Value).toArray) rfl (by kernel_rfl) (by kernel_rfl) (by kernel_rfl) (fun _ _ _ h => h) (yieldsIf_load_mid rfl 33 (.tmp 66) rfl (gf) (off + k * 29) rfl (btnV b) _ (fun w' h => h.2.2) (by first | exact Try.underlying33) rfl (by first | assumption | (simp only [*]; kernel_rfl) | kernel_rfl)) (by assumption) ?_
          simp only [List.getElem_toArray, List.getElem_cons_succ, List.getElem_cons_zero, Act.put, List.setIfInBounds_toArray, List.set_cons_zero, List.set_cons_succ]
          clear hHeld
          refine wpAnyH_ready (rs := [6, 10]) (by kernel_rfl) (by simp) ?_
          refine AllReadyH.cons rfl (fun K hK => ?_) (AllReadyH.cons rfl (fun K hK => ?_) AllReadyH.nil)
          · skip
            refine Node.wp_fn 10 [.tmp 62, .tmp 63, .tmp 67] _ [.agg L.toArray, .agg (memV x y).toArray, .agg (btnV b).toArray] (by rfl) (by rfl) (enters Try.func10 (by kernel_rfl) rfl) (Presses_n L nsec lens nsig nfl A c A1 c1 A3 c3 ve ns ne nc x y b l _ HNS.out HNE.out HNC.out hxl hyl hbl HPL.out (HLw.out.later (below_step H.bel Bb))) ?_
            rintro e V' ⟨bF, Ar, cr, rfl, op⟩
            refine ⟨_, rfl, ?_⟩
            have OP := own_mono op Bb.size
            replace Bb := below_step Bb bF
            try replace GZ := var_later GZ bF
            clear bF op
            generalize V' = V at *
            refine hK.out _ _ ⟨range_of (H.later Bb).l, range_of (H.later Bb).m, World.rangeAt_below rb Bb hgf⟩ (fun _ => ?_)
            clear hK K
            try simp only [List.getElem_toArray, List.getElem_cons_succ, List.getElem_cons_zero, Act.put, List.setIfInBounds_toArray, List.set_cons_zero, List.set_cons_succ]
            have hHeld : V.rangeAt w.heap.size 0 L ∧ V.rangeAt gM 0 (memV x y) ∧ V.rangeAt gf (off + k * 29) (btnV b) := ⟨range_of (H.later Bb).l, range_of (H.later Bb).m, World.rangeAt_below rb Bb hgf⟩
            refine wpAnyH_take (i := 7) (v := ?_) rfl (by kernel_rfl) (by kernel_rfl) (by kernel_rfl) (fun _ _ _ h => h) (Or.inl ⟨by rfl, ?_⟩) (by assumption) ?_
            rotate_left
            · intro w hSw
              try dsimp only at hSw
              go_simp
              try with_reducible rfl
            simp only [List.getElem_toArray, List.getElem_cons_succ, List.getElem_cons_zero, Act.put, List.setIfInBounds_toArray, List.set_cons_zero, List.set_cons_succ]
            refine wpAnyH_take (i := 8) (v := ?_) rfl (by kernel_rfl) (by kernel_rfl) (by kernel_rfl) (fun _ _ _ h => h) (Or.inl ⟨by rfl, ?_⟩) (by assumption) ?_
            rotate_left
            · intro w hSw
              try dsimp only at hSw
              go_simp
              try with_reducible rfl
            simp only [List.getElem_toArray, List.getElem_cons_succ, List.getElem_cons_zero, Act.put, List.setIfInBounds_toArray, List.set_cons_zero, List.set_cons_succ]
            refine wpAnyH_take (i := 9) (v := ?_) rfl (by kernel_rfl) (by kernel_rfl) (by kernel_rfl) (fun _ _ _ h => h) (Or.inl ⟨by rfl, ?_⟩) (by assumption) ?_
            rotate_left
            · intro w hSw
              try dsimp only at hSw
              go_simp
              try with_reducible rfl
            simp only [List.getElem_toArray, List.getElem_cons_succ, List.getElem_cons_zero, Act.put, List.setIfInBounds_toArray, List.set_cons_zero, List.set_cons_succ]
            clear hHeld
            refine wpAnyH_ready (rs := [10]) (by kernel_rfl) (by simp) ?_
            refine AllReadyH.cons rfl (fun K hK => ?_) AllReadyH.nil
            have GZ := new_at (w := V) rfl (.cells zMem 35)
            have bF := kbelow_new V (.cells zMem 35)
            have hgz : wb.heap.size ≤ V.heap.size := Bb.size
            refine Node.wp_new 35 (.agg zMem) zMem (by kernel_rfl) rfl (by rfl) ?_
            replace Bb := below_step Bb bF
            try replace OP := own_bel OP bF
            clear bF
            generalize V.heap.size = gz at *
            generalize V.alloc (.cells zMem 35) = V at *
            refine hK.out _ _ ⟨range_of (H.later Bb).l, range_of (H.later Bb).m, World.rangeAt_below rb Bb hgf⟩ (fun _ => ?_)
            clear hK K
            try simp only [List.getElem_toArray, List.getElem_cons_succ, List.getElem_cons_zero, Act.put, List.setIfInBounds_toArray, List.set_cons_zero, List.set_cons_succ]
            refine wpAnyH_ready (rs := [11]) (by kernel_rfl) (by simp) ?_
            refine AllReadyH.cons rfl (fun K hK => ?_) AllReadyH.nil
            refine Node.wp_set (.slice Ar l.length cr) (.tmp 69) (.inr rfl) (by rfl) ?_
            refine hK.out _ _ ⟨range_of (H.later Bb).l, range_of (H.later Bb).m, World.rangeAt_below rb Bb hgf⟩ (fun _ => ?_)
            clear hK K
            try simp only [List.getElem_toArray, List.getElem_cons_succ, List.getElem_cons_zero, Act.put, List.setIfInBounds_toArray, List.set_cons_zero, List.set_cons_succ]
            refine wpAnyH_ready (rs := [12]) (by kernel_rfl) (by simp) ?_
            refine AllReadyH.cons rfl (fun K hK => ?_) AllReadyH.nil
            obtain ⟨V', hW, F, bF, far, ths⟩ := fill_new (memV b x) GZ (by rw [memV_len hbl hxl]; rfl) Bb hgz
            refine wp_store_mid 35 (.tmp 15) (.tmp 70) (by rfl) gz 0 (memV b x).toArray (by rfl) (by rfl) ths (by simpa using szN) (all_one (memV_one _ _)) ?_
            rw [hW]
            have OP' := own_later (w' := V') OP (fun q hq => far q (fun e => by obtain ⟨cur, hc⟩ := own_type OP hq; rw [e, GZ] at hc; cases hc))
            clear hW ths far GZ OP Bb
            have Bb := bF
            clear bF
            generalize V' = V at *
            refine hK.out _ _ ⟨range_of (H.later Bb).l, range_of (H.later Bb).m, World.rangeAt_below rb Bb hgf⟩ (fun _ => ?_)
            clear hK K
            try simp only [List.getElem_toArray, List.getElem_cons_succ, List.getElem_cons_zero, Act.put, List.setIfInBounds_toArray, List.set_cons_zero, List.set_cons_succ]
            refine wpAnyH_done (by kernel_rfl) ?_ _
            exact ⟨_, _, _, _, _, _, _, _, _, _, _, _, _, _, _, _, _, _, _, rfl, H.later Bb, F, OP'⟩
          · skip
            have GZ := new_at (w := V) rfl (.cells zMem 35)
            have bF := kbelow_new V (.cells zMem 35)
            have hgz : wb.heap.size ≤ V.heap.size := Bb.size
            refine Node.wp_new 35 (.agg zMem) zMem (by kernel_rfl) rfl (by rfl) ?_
            replace Bb := below_step Bb bF
            try replace OP := own_bel OP bF
            clear bF
            generalize V.heap.size = gz at *
            generalize V.alloc (.cells zMem 35) = V at *
            refine hK.out _ _ ⟨range_of (H.later Bb).l, range_of (H.later Bb).m, World.rangeAt_below rb Bb hgf⟩ (fun _ => ?_)
            clear hK K
            try simp only [List.getElem_toArray, List.getElem_cons_succ, List.getElem_cons_zero, Act.put, List.setIfInBounds_toArray, List.set_cons_zero, List.set_cons_succ]
            refine wpAnyH_ready (rs := [6]) (by kernel_rfl) (by simp) ?_
            refine AllReadyH.cons rfl (fun K hK => ?_) AllReadyH.nil
            refine Node.wp_fn 10 [.tmp 62, .tmp 63, .tmp 67] _ [.agg L.toArray, .agg (memV x y).toArray, .agg (btnV b).toArray] (by rfl) (by rfl) (enters Try.func10 (by kernel_rfl) rfl) (Presses_n L nsec lens nsig nfl A c A1 c1 A3 c3 ve ns ne nc x y b l _ HNS.out HNE.out HNC.out hxl hyl hbl HPL.out (HLw.out.later (below_step H.bel Bb))) ?_
            rintro e V' ⟨bF, Ar, cr, rfl, op⟩
            refine ⟨_, rfl, ?_⟩
            have OP := own_mono op Bb.size
            replace Bb := below_step Bb bF
            try replace GZ := var_later GZ bF
            clear bF op
            generalize V' = V at *
            refine hK.out _ _ ⟨range_of (H.later Bb).l, range_of (H.later Bb).m, World.rangeAt_below rb Bb hgf⟩ (fun _ => ?_)
            clear hK K
            try simp only [List.getElem_toArray, List.getElem_cons_succ, List.getElem_cons_zero, Act.put, List.setIfInBounds_toArray, List.set_cons_zero, List.set_cons_succ]
            have hHeld : V.rangeAt w.heap.size 0 L ∧ V.rangeAt gM 0 (memV x y) ∧ V.rangeAt gf (off + k * 29) (btnV b) := ⟨range_of (H.later Bb).l, range_of (H.later Bb).m, World.rangeAt_below rb Bb hgf⟩
            refine wpAnyH_take (i := 7) (v := ?_) rfl (by kernel_rfl) (by kernel_rfl) (by kernel_rfl) (fun _ _ _ h => h) (Or.inl ⟨by rfl, ?_⟩) (by assumption) ?_
            rotate_left
            · intro w hSw
              try dsimp only at hSw
              go_simp
              try with_reducible rfl
            simp only [List.getElem_toArray, List.getElem_cons_succ, List.getElem_cons_zero, Act.put, List.setIfInBounds_toArray, List.set_cons_zero, List.set_cons_succ]
            refine wpAnyH_take (i := 8) (v := ?_) rfl (by kernel_rfl) (by kernel_rfl) (by kernel_rfl) (fun _ _ _ h => h) (Or.inl ⟨by rfl, ?_⟩) (by assumption) ?_
            rotate_left
            · intro w hSw
              try dsimp only at hSw
              go_simp
              try with_reducible rfl
            simp only [List.getElem_toArray, List.getElem_cons_succ, List.getElem_cons_zero, Act.put, List.setIfInBounds_toArray, List.set_cons_zero, List.set_cons_succ]
            refine wpAnyH_take (i := 9) (v := ?_) rfl (by kernel_rfl) (by kernel_rfl) (by kernel_rfl) (fun _ _ _ h => h) (Or.inl ⟨by rfl, ?_⟩) (by assumption) ?_
            rotate_left
            · intro w hSw
              try dsimp only at hSw
              go_simp
              try with_reducible rfl
            simp only [List.getElem_toArray, List.getElem_cons_succ, List.getElem_cons_zero, Act.put, List.setIfInBounds_toArray, List.set_cons_zero, List.set_cons_succ]
            clear hHeld
            refine wpAnyH_ready (rs := [11]) (by kernel_rfl) (by simp) ?_
            refine AllReadyH.cons rfl (fun K hK => ?_) AllReadyH.nil
            refine Node.wp_set (.slice Ar l.length cr) (.tmp 69) (.inr rfl) (by rfl) ?_
            refine hK.out _ _ ⟨range_of (H.later Bb).l, range_of (H.later Bb).m, World.rangeAt_below rb Bb hgf⟩ (fun _ => ?_)
            clear hK K
            try simp only [List.getElem_toArray, List.getElem_cons_succ, List.getElem_cons_zero, Act.put, List.setIfInBounds_toArray, List.set_cons_zero, List.set_cons_succ]
            refine wpAnyH_ready (rs := [12]) (by kernel_rfl) (by simp) ?_
            refine AllReadyH.cons rfl (fun K hK => ?_) AllReadyH.nil
            obtain ⟨V', hW, F, bF, far, ths⟩ := fill_new (memV b x) GZ (by rw [memV_len hbl hxl]; rfl) Bb hgz
            refine wp_store_mid 35 (.tmp 15) (.tmp 70) (by rfl) gz 0 (memV b x).toArray (by rfl) (by rfl) ths (by simpa using szN) (all_one (memV_one _ _)) ?_
            rw [hW]
            have OP' := own_later (w' := V') OP (fun q hq => far q (fun e => by obtain ⟨cur, hc⟩ := own_type OP hq; rw [e, GZ] at hc; cases hc))
            clear hW ths far GZ OP Bb
            have Bb := bF
            clear bF
            generalize V' = V at *
            refine hK.out _ _ ⟨range_of (H.later Bb).l, range_of (H.later Bb).m, World.rangeAt_below rb Bb hgf⟩ (fun _ => ?_)
            clear hK K
            try simp only [List.getElem_toArray, List.getElem_cons_succ, List.getElem_cons_zero, Act.put, List.setIfInBounds_toArray, List.set_cons_zero, List.set_cons_succ]
            refine wpAnyH_done (by kernel_rfl) ?_ _
            exact ⟨_, _, _, _, _, _, _, _, _, _, _, _, _, _, _, _, _, _, _, rfl, H.later Bb, F, OP'⟩
        cases e <;> try exact hR.elim
        obtain ⟨v55, v56, v57, v58, v59, v60, v61, v62, v63, v64, v65, v66, v67, v68, v69, v70, Ar, cr, gr, rfl, H9, GR, OP⟩ := hR
        simp only [List.cons_append, List.nil_append]
        have RN := range_of GR
        have hgw : gM < wb.heap.size := (Array.getElem?_eq_some_iff.1 H.m).1
        obtain ⟨V10, hW, F, bF, far, ths⟩ := fill_new (memV b x) H9.m (by rw [List.size_toArray, memV_len hbl hxl, memV_len hxl hyl]) H9.bel (Nat.le_of_lt H9.hg)
        have H10 : KO w V10 L gM b x := ⟨bF, (far w.heap.size (by have := H9.hg; omega)).trans H9.l, F, H9.hg⟩
        have hp : SliceAt V10 3 (.slice Ar l.length cr) l.length (prs l) := sliceAt_of_own (own_later (w' := V10) OP (fun q hq => far q (by have := (own_base OP hq).1; omega)))
        have szN2 : (Try.prog.info? 35).map (·.size) = some (memV b x).toArray.size := by simpa using szN
        go_upto_region 10 with (first
          | refine wpList_load_g (by rfl) 35 (.tmp 15) (by rfl) gr 0 (by rfl) (memV b x) _ RN Try.underlying35 rfl szN ?_
          | (refine wpList_store_mid rfl 35 (.tmp 9) (.tmp 71) (by rfl) gM 0 (memV b x).toArray (by rfl) (by rfl) ths szN2 (all_one (memV_one _ _)) ?_; rw [hW])
          | fail)
        clear hW far ths bF F RN GR OP H9 H rb hgw
        obtain ⟨E0, hE0⟩ : ∃ E0 : Int, E0 = sumF (entF fs sn) k := ⟨_, rfl⟩
        obtain ⟨E1, hE1⟩ : ∃ E1 : Int, E1 = sumF (viaF fs tn) k := ⟨_, rfl⟩
        obtain ⟨E2, hE2⟩ : ∃ E2 : Int, E2 = sumF (kyF fs tn) k := ⟨_, rfl⟩
        rw [← hE0, ← hE1, ← hE2]
        have k0 : 0 ≤ E0 ∧ E0 ≤ 30 := by have := sumF_le (entF fs sn) k; have := HN30.out; omega
        have k1 : 0 ≤ E1 ∧ E1 ≤ 30 := by have := sumF_le (viaF fs tn) k; have := HN30.out; omega
        have k2 : 0 ≤ E2 ∧ E2 ≤ 30 := by have := sumF_le (kyF fs tn) k; have := HN30.out; omega
        have HE0 := Lib.hid hE0
        have HE1 := Lib.hid hE1
        have HE2 := Lib.hid hE2
        have HLL : Hid (l.length ≤ 100) := Lib.hid (by have := pressL_le b x y ns ne nc; rw [HPL.out] at this; have := HL1.out; have := HL2.out; have := HL3.out; omega)
        have HP10 := Lib.hid hp
        have HH10 := Lib.hid H10
        clear hE0 hE1 hE2 hp H10
        go_wp2_with fail
        go_loopw [10, 11, 12, 16] (fun a1 a2 a3 i wr => ∃ (j : Nat) (za zb zd : Int), j ≤ l.length ∧ i = .int .i64 j ∧ a1 = .int .i64 za ∧ a2 = .int .i64 zb ∧ a3 = .int .i64 zd ∧ Hid (za = E0 + cnt 3 sn (l.take j)) ∧ Hid (zb = E1 + cnt 4 tn (l.take j)) ∧ Hid (zd = E2 + cnt 6 tn (l.take j)) ∧ wr = V10) (fun _ _ _ i _ => l.length - (intOf i).toNat)
        case atStart => exact ⟨0, E0, E1, E2, Nat.zero_le _, rfl, rfl, rfl, rfl, Lib.hid (by simp [cnt]), Lib.hid (by simp [cnt]), Lib.hid (by simp [cnt]), rfl⟩
        case round =>
          obtain ⟨j, za, zb, zd, hj, rfl, rfl, rfl, rfl, HZA, HZB, HZD, rfl⟩ := hrel
          have e0 := HLL.out
          have e1 : 0 ≤ za ∧ za ≤ 200 := by have := HZA.out; have := cnt_le 3 sn (l.take j); rw [List.length_take] at this; omega
          have e2 : 0 ≤ zb ∧ zb ≤ 200 := by have := HZB.out; have := cnt_le 4 tn (l.take j); rw [List.length_take] at this; omega
          have e3 : 0 ≤ zd ∧ zd ≤ 200 := by have := HZD.out; have := cnt_le 6 tn (l.take j); rw [List.length_take] at this; omega
          clear k0 k1 k2
          by_cases hjl : j < l.length
          · have i2 : (j : Int) < (l.length : Int) := by omega
            obtain ⟨p, hpj⟩ : ∃ p, l[j]? = some p := ⟨_, List.getElem?_eq_getElem hjl⟩
            obtain ⟨bp, op, cc, hv, x0, x1, x2⟩ := pr_cells HP10.out hpj
            obtain ⟨rfl, hnn, rfl⟩ := Value.slice.inj hv
            have HJ := Lib.hid hpj
            obtain ⟨p0, p1, p2⟩ := p
            simp only at x0 x1
            clear hv hnn hpj x2
            have hme : l.length - ((j : Int) + 1).toNat < l.length - ((j : Int)).toNat := by omega
            have HME := Lib.hid hme
            have y0 : j ≤ 1000 := by omega
            have y1 : -1000 ≤ za + 1 ∧ za + 1 ≤ 1000 := by omega
            have y2 : -1000 ≤ zb + 1 ∧ zb + 1 ≤ 1000 := by omega
            have y3 : -1000 ≤ zd + 1 ∧ zd + 1 ≤ 1000 := by omega
            have HWJ := w64s (k := j) y0
            have wa := w64i (z := za + 1) y1.1 y1.2
            have wb' := w64i (z := zb + 1) y2.1 y2.2
            have wd := w64i (z := zd + 1) y3.1 y3.2
            clear y0 y1 y2 y3
            have hm : Hid (j + 1 ≤ l.length) := Lib.hid hjl
            clear e0 e1 e2 e3 hme
            by_cases h3 : p0 = 3
            · subst h3
              by_cases hs : p1 = (sn : Int)
              · subst hs
                have DA : (1 : Int) = if ((3 : Int), (sn : Int), p2).1 == 3 && ((3 : Int), (sn : Int), p2).2.1 == (sn : Int) then 1 else 0 := by simp
                have DB : (0 : Int) = if ((3 : Int), (sn : Int), p2).1 == 4 && ((3 : Int), (sn : Int), p2).2.1 == (tn : Int) then 1 else 0 := by simp
                have DD : (0 : Int) = if ((3 : Int), (sn : Int), p2).1 == 6 && ((3 : Int), (sn : Int), p2).2.1 == (tn : Int) then 1 else 0 := by simp
                have HDA := Lib.hid (cnt_step HJ.out HZA.out DA)
                have HDB := Lib.hid (cnt_step HJ.out HZB.out DB)
                have HDD := Lib.hid (cnt_step HJ.out HZD.out DD)
                rw [Int.add_zero] at HDB
                rw [Int.add_zero] at HDD
                clear DA DB DD
                go_wp2
                go_roundw
                case rel => exact ⟨j + 1, za + 1, zb, zd, hm.out, by rw [HWJ]; rfl, by first | rfl | rw [wa], by first | rfl | rw [wb'], by first | rfl | rw [wd], HDA, HDB, HDD, by trivial⟩
                case measure => rw [HWJ]; exact HME.out
              · have g1 : (p1 == (sn : Int)) = false := by simpa using hs
                have DA : (0 : Int) = if ((3 : Int), (p1 : Int), p2).1 == 3 && ((3 : Int), (p1 : Int), p2).2.1 == (sn : Int) then 1 else 0 := by simp [hs]
                have DB : (0 : Int) = if ((3 : Int), (p1 : Int), p2).1 == 4 && ((3 : Int), (p1 : Int), p2).2.1 == (tn : Int) then 1 else 0 := by simp [hs]
                have DD : (0 : Int) = if ((3 : Int), (p1 : Int), p2).1 == 6 && ((3 : Int), (p1 : Int), p2).2.1 == (tn : Int) then 1 else 0 := by simp [hs]
                clear hs
                have HDA := Lib.hid (cnt_step HJ.out HZA.out DA)
                have HDB := Lib.hid (cnt_step HJ.out HZB.out DB)
                have HDD := Lib.hid (cnt_step HJ.out HZD.out DD)
                rw [Int.add_zero] at HDA
                rw [Int.add_zero] at HDB
                rw [Int.add_zero] at HDD
                clear DA DB DD
                go_wp2
                go_roundw
                case rel => exact ⟨j + 1, za, zb, zd, hm.out, by rw [HWJ]; rfl, by first | rfl | rw [wa], by first | rfl | rw [wb'], by first | rfl | rw [wd], HDA, HDB, HDD, by trivial⟩
                case measure => rw [HWJ]; exact HME.out
            · have g3 : (p0 == 3) = false := by simpa using h3
              by_cases h4 : p0 = 4
              · subst h4
                by_cases hs : p1 = (tn : Int)
                · subst hs
                  have DA : (0 : Int) = if ((4 : Int), (tn : Int), p2).1 == 3 && ((4 : Int), (tn : Int), p2).2.1 == (sn : Int) then 1 else 0 := by simp
                  have DB : (1 : Int) = if ((4 : Int), (tn : Int), p2).1 == 4 && ((4 : Int), (tn : Int), p2).2.1 == (tn : Int) then 1 else 0 := by simp
                  have DD : (0 : Int) = if ((4 : Int), (tn : Int), p2).1 == 6 && ((4 : Int), (tn : Int), p2).2.1 == (tn : Int) then 1 else 0 := by simp
                  have HDA := Lib.hid (cnt_step HJ.out HZA.out DA)
                  have HDB := Lib.hid (cnt_step HJ.out HZB.out DB)
                  have HDD := Lib.hid (cnt_step HJ.out HZD.out DD)
                  rw [Int.add_zero] at HDA
                  rw [Int.add_zero] at HDD
                  clear DA DB DD
                  go_wp2
                  go_roundw
                  case rel => exact ⟨j + 1, za, zb + 1, zd, hm.out, by rw [HWJ]; rfl, by first | rfl | rw [wa], by first | rfl | rw [wb'], by first | rfl | rw [wd], HDA, HDB, HDD, by trivial⟩
                  case measure => rw [HWJ]; exact HME.out
                · have g1 : (p1 == (tn : Int)) = false := by simpa using hs
                  have DA : (0 : Int) = if ((4 : Int), (p1 : Int), p2).1 == 3 && ((4 : Int), (p1 : Int), p2).2.1 == (sn : Int) then 1 else 0 := by simp [hs]
                  have DB : (0 : Int) = if ((4 : Int), (p1 : Int), p2).1 == 4 && ((4 : Int), (p1 : Int), p2).2.1 == (tn : Int) then 1 else 0 := by simp [hs]
                  have DD : (0 : Int) = if ((4 : Int), (p1 : Int), p2).1 == 6 && ((4 : Int), (p1 : Int), p2).2.1 == (tn : Int) then 1 else 0 := by simp [hs]
                  clear hs
                  have HDA := Lib.hid (cnt_step HJ.out HZA.out DA)
                  have HDB := Lib.hid (cnt_step HJ.out HZB.out DB)
                  have HDD := Lib.hid (cnt_step HJ.out HZD.out DD)
                  rw [Int.add_zero] at HDA
                  rw [Int.add_zero] at HDB
                  rw [Int.add_zero] at HDD
                  clear DA DB DD
                  go_wp2
                  go_roundw
                  case rel => exact ⟨j + 1, za, zb, zd, hm.out, by rw [HWJ]; rfl, by first | rfl | rw [wa], by first | rfl | rw [wb'], by first | rfl | rw [wd], HDA, HDB, HDD, by trivial⟩
                  case measure => rw [HWJ]; exact HME.out
              · have g4 : (p0 == 4) = false := by simpa using h4
                by_cases h6 : p0 = 6
                · subst h6
                  by_cases hs : p1 = (tn : Int)
                  · subst hs
                    have DA : (0 : Int) = if ((6 : Int), (tn : Int), p2).1 == 3 && ((6 : Int), (tn : Int), p2).2.1 == (sn : Int) then 1 else 0 := by simp
                    have DB : (0 : Int) = if ((6 : Int), (tn : Int), p2).1 == 4 && ((6 : Int), (tn : Int), p2).2.1 == (tn : Int) then 1 else 0 := by simp
                    have DD : (1 : Int) = if ((6 : Int), (tn : Int), p2).1 == 6 && ((6 : Int), (tn : Int), p2).2.1 == (tn : Int) then 1 else 0 := by simp
                    have HDA := Lib.hid (cnt_step HJ.out HZA.out DA)
                    have HDB := Lib.hid (cnt_step HJ.out HZB.out DB)
                    have HDD := Lib.hid (cnt_step HJ.out HZD.out DD)
                    rw [Int.add_zero] at HDA
                    rw [Int.add_zero] at HDB
                    clear DA DB DD
                    go_wp2
                    go_roundw
                    case rel => exact ⟨j + 1, za, zb, zd + 1, hm.out, by rw [HWJ]; rfl, by first | rfl | rw [wa], by first | rfl | rw [wb'], by first | rfl | rw [wd], HDA, HDB, HDD, by trivial⟩
                    case measure => rw [HWJ]; exact HME.out
                  · have g1 : (p1 == (tn : Int)) = false := by simpa using hs
                    have DA : (0 : Int) = if ((6 : Int), (p1 : Int), p2).1 == 3 && ((6 : Int), (p1 : Int), p2).2.1 == (sn : Int) then 1 else 0 := by simp [hs]
                    have DB : (0 : Int) = if ((6 : Int), (p1 : Int), p2).1 == 4 && ((6 : Int), (p1 : Int), p2).2.1 == (tn : Int) then 1 else 0 := by simp [hs]
                    have DD : (0 : Int) = if ((6 : Int), (p1 : Int), p2).1 == 6 && ((6 : Int), (p1 : Int), p2).2.1 == (tn : Int) then 1 else 0 := by simp [hs]
                    clear hs
                    have HDA := Lib.hid (cnt_step HJ.out HZA.out DA)
                    have HDB := Lib.hid (cnt_step HJ.out HZB.out DB)
                    have HDD := Lib.hid (cnt_step HJ.out HZD.out DD)
                    rw [Int.add_zero] at HDA
                    rw [Int.add_zero] at HDB
                    rw [Int.add_zero] at HDD
                    clear DA DB DD
                    go_wp2
                    go_roundw
                    case rel => exact ⟨j + 1, za, zb, zd, hm.out, by rw [HWJ]; rfl, by first | rfl | rw [wa], by first | rfl | rw [wb'], by first | rfl | rw [wd], HDA, HDB, HDD, by trivial⟩
                    case measure => rw [HWJ]; exact HME.out
                · have g6 : (p0 == 6) = false := by simpa using h6
                  have DA : (0 : Int) = if ((p0 : Int), (p1 : Int), p2).1 == 3 && ((p0 : Int), (p1 : Int), p2).2.1 == (sn : Int) then 1 else 0 := by simp [h3, h4, h6]
                  have DB : (0 : Int) = if ((p0 : Int), (p1 : Int), p2).1 == 4 && ((p0 : Int), (p1 : Int), p2).2.1 == (tn : Int) then 1 else 0 := by simp [h3, h4, h6]
                  have DD : (0 : Int) = if ((p0 : Int), (p1 : Int), p2).1 == 6 && ((p0 : Int), (p1 : Int), p2).2.1 == (tn : Int) then 1 else 0 := by simp [h3, h4, h6]
                  clear h3 h4 h6
                  have HDA := Lib.hid (cnt_step HJ.out HZA.out DA)
                  have HDB := Lib.hid (cnt_step HJ.out HZB.out DB)
                  have HDD := Lib.hid (cnt_step HJ.out HZD.out DD)
                  rw [Int.add_zero] at HDA
                  rw [Int.add_zero] at HDB
                  rw [Int.add_zero] at HDD
                  clear DA DB DD
                  go_wp2
                  go_roundw
                  case rel => exact ⟨j + 1, za, zb, zd, hm.out, by rw [HWJ]; rfl, by first | rfl | rw [wa], by first | rfl | rw [wb'], by first | rfl | rw [wd], HDA, HDB, HDD, by trivial⟩
                  case measure => rw [HWJ]; exact HME.out
          · obtain rfl : j = l.length := by omega
            have hgb : fs.getD k deadB = b := by simp [List.getD, HB.out]
            have t0 : za = sumF (entF fs sn) (k + 1) := by
              have he : entF fs sn k = (front b.ent x.ent y.ent).getLsbD sn := by unfold entF; rw [hgb, ← HX.out, ← HY.out]
              show za = sumF (entF fs sn) k + (if entF fs sn k = true then 1 else 0)
              rw [he, ← HE0.out, HZA.out, List.take_length, ← HPL.out, cnt_entrance b x y ns ne nc sn HSN.out]
            have t1 : zb = sumF (viaF fs tn) (k + 1) := by
              have he : viaF fs tn k = (front b.via x.via y.via).getLsbD tn := by unfold viaF; rw [hgb, ← HX.out, ← HY.out]
              show zb = sumF (viaF fs tn) k + (if viaF fs tn k = true then 1 else 0)
              rw [he, ← HE1.out, HZB.out, List.take_length, ← HPL.out, cnt_via b x y ns ne nc tn HTN.out]
            have t2 : zd = sumF (kyF fs tn) (k + 1) := by
              have he : kyF fs tn k = keyOn (b.keys.getD tn 0#8) (x.keys.getD tn 0#8) (y.keys.getD tn 0#8) := by unfold kyF; rw [hgb, ← HX.out, ← HY.out]
              show zd = sumF (kyF fs tn) k + (if kyF fs tn k = true then 1 else 0)
              rw [he, ← HE2.out, HZD.out, List.take_length, ← HPL.out, cnt_key b x y ns ne nc tn HTN.out]
            have HK : Hid (KO w wr L gM (memX fs (k + 1)) (memY fs (k + 1))) := Lib.hid (by rw [memX_succ, memY_succ, hgb, ← HX.out]; exact HH10.out)
            have HT0 := Lib.hid t0
            have HT1 := Lib.hid t1
            have HT2 := Lib.hid t2
            have hkn : k + 1 ≤ n := hlt
            have hme : n - ((k : Int) + 1).toNat < n - ((k : Int)).toNat := by omega
            have HKN := Lib.hid hkn
            have HME := Lib.hid hme
            clear t0 t1 t2 hkn hme hgb
            have hwk := HW1.out
            go_wp2
            go_roundw
            case rel => exact ⟨k + 1, HKN.out, by rw [hwk]; rfl, by rw [← HT0.out], by rw [← HT1.out], by rw [← HT2.out], HK.out⟩
            case measure => rw [hwk]; exact HME.out
      · obtain rfl : k = n := by omega
        have hB := H.bel
        have hk30 := HN30.out
        have s0 := sumF_two (entF_lo fs sn (i := 0) (by have := HSN.out; have := HL1.out; omega) (by omega)) (entF_lo fs sn (i := 1) (by have := HSN.out; have := HL1.out; omega) (by omega))
        have s1 := sumF_two (viaF_lo fs tn (i := 0) (by have := HTN.out; have := HL3.out; omega) (by omega)) (viaF_lo fs tn (i := 1) (by have := HTN.out; have := HL3.out; omega) (by omega))
        have s2 := sumF_two (kyF_lo fs tn (i := 0) (by have := HTN.out; have := HL3.out; omega) (by omega)) (kyF_lo fs tn (i := 1) (by have := HTN.out; have := HL3.out; omega) (by omega))
        obtain ⟨gf, off, cf, hv, hgf, hfr⟩ : ∃ g off c, (Value.slice Au k cu = .slice (some ⟨g, off, none⟩) k c ∨ k = 0) ∧ (k = 0 ∨ g < w.heap.size) ∧ ∀ (W : World), Below w.heap.size w W → ∀ (q : Nat) (b : Btn), fs[q]? = some b → W.rangeAt g (off + q * 29) (btnV b) := by
          rcases Nat.eq_zero_or_pos k with h0 | h0
          · exact ⟨0, 0, 0, .inr h0, .inl h0, fun W _ q b hb => by
              have : q < fs.length := (List.getElem?_eq_some_iff.1 hb).1
              have := HN.out
              omega⟩
          · obtain ⟨g, off, c, hv, _, _, hg, hc⟩ := HU.out.pos h0
            refine ⟨g, off, c, .inl hv, .inr hg, fun W hW q b hb j u hu => ?_⟩
            have hq : (btns fs)[q * 29 + j]? = some u := by
              have hj : j < 29 := by
                have := (List.getElem?_eq_some_iff.1 hu).1
                rw [btnV_len (HFL.out b (List.mem_of_getElem? hb))] at this
                exact this
              rw [btns]
              have fm : ∀ (l : List Btn) (_ : ∀ a ∈ l, (btnV a).length = 29) (q : Nat), (l.flatMap btnV)[q * 29 + j]? = (l[q]?).bind fun a => (btnV a)[j]? := fun l ha q => flatMap_get ha q j hj
              rw [fm fs (fun a ha => btnV_len (HFL.out a ha)) q, hb]
              exact hu
            have := hc _ _ hq
            rw [← Nat.add_assoc] at this
            exact (World.cell?_of_block (a := ⟨g, off + q * 29 + j, none⟩) (hW.block g hg)).trans this
        have HFR := Lib.hid hfr
        have HS := Lib.hid (And.intro s0 (And.intro s1 s2))
        clear s0 s1 s2 hfr hk30 H
        go_wp2_with fail
        go_loopw [10, 11, 12, 17] (fun a1 a2 a3 i wr => ∃ (m : Nat) (za zb zd : Int), 2 ≤ m ∧ (m ≤ k ∨ m = 2) ∧ i = .int .i64 m ∧ a1 = .int .i64 za ∧ a2 = .int .i64 zb ∧ a3 = .int .i64 zd ∧ Hid (za = sumF (entF fs sn) k - sumF (entF fs sn) m) ∧ Hid (zb = sumF (viaF fs tn) k - sumF (viaF fs tn) m) ∧ Hid (zd = sumF (kyF fs tn) k - sumF (kyF fs tn) m) ∧ Below w.heap.size w wr) (fun _ _ _ i _ => k - (intOf i).toNat)
        case atStart => exact ⟨2, _, _, _, Nat.le_refl _, .inr rfl, rfl, rfl, rfl, rfl, Lib.hid (by rw [HS.out.1]; omega), Lib.hid (by rw [HS.out.2.1]; omega), Lib.hid (by rw [HS.out.2.2]; omega), hB⟩
        case round =>
          clear hB
          obtain ⟨m, za, zb, zd, hm2, hmk, rfl, rfl, rfl, rfl, HZA, HZB, HZD, hB⟩ := hrel
          by_cases hlt : m < k
          · have hk30 := HN30.out
            have i2 : (m : Int) < (k : Int) := by omega
            obtain ⟨m1, hm1⟩ : ∃ m1, m1 + 1 = m := ⟨m - 1, by omega⟩
            obtain ⟨m0, hm0⟩ : ∃ m0, m0 + 1 = m1 := ⟨m1 - 1, by omega⟩
            have i1 : (m1 : Int) < (k : Int) := by omega
            have i0 : (m0 : Int) < (k : Int) := by omega
            have hkl := HN.out
            obtain ⟨a0, ha⟩ : ∃ b, fs[m0]? = some b := ⟨_, List.getElem?_eq_getElem (by omega)⟩
            obtain ⟨b0, hb⟩ : ∃ b, fs[m1]? = some b := ⟨_, List.getElem?_eq_getElem (by omega)⟩
            obtain ⟨c0, hc⟩ : ∃ b, fs[m]? = some b := ⟨_, List.getElem?_eq_getElem (by omega)⟩
            have hal := HFL.out a0 (List.mem_of_getElem? ha)
            have hbl := HFL.out b0 (List.mem_of_getElem? hb)
            have hcl := HFL.out c0 (List.mem_of_getElem? hc)
            have szA := btn_size hal
            have szB := btn_size hbl
            have szC := btn_size hcl
            have eA : memY fs m = a0 := by rw [← hm1, ← hm0, memY_succ, memX_succ]; simp [List.getD, ha]
            have eB : memX fs m = b0 := by rw [← hm1, memX_succ]; simp [List.getD, hb]
            have eC : fs.getD m deadB = c0 := by simp [List.getD, hc]
            have E1 : Hid (entF fs sn m = (front c0.ent b0.ent a0.ent).getLsbD sn) := Lib.hid (by unfold entF; rw [eA, eB, eC])
            have E2 : Hid (viaF fs tn m = (front c0.via b0.via a0.via).getLsbD tn) := Lib.hid (by unfold viaF; rw [eA, eB, eC])
            have E3 : Hid (kyF fs tn m = keyOn (c0.keys.getD tn 0#8) (b0.keys.getD tn 0#8) (a0.keys.getD tn 0#8)) := Lib.hid (by unfold kyF; rw [eA, eB, eC])
            have r0 := HFR.out _ hB _ _ ha
            have r1 := HFR.out _ hB _ _ hb
            have r2 := HFR.out _ hB _ _ hc
            clear eA eB eC ha hb hc
            have hmm : m + 1 ≤ k := hlt
            have hme : k - ((m : Int) + 1).toNat < k - ((m : Int)).toNat := by omega
            have HMM := Lib.hid hmm
            have HME := Lib.hid hme
            have z1 : -1000 ≤ za - 1 ∧ za - 1 ≤ 1000 := by have := HZA.out; have := sumF_le (entF fs sn) k; have := sumF_le (entF fs sn) m; omega
            have z2 : -1000 ≤ zb - 1 ∧ zb - 1 ≤ 1000 := by have := HZB.out; have := sumF_le (viaF fs tn) k; have := sumF_le (viaF fs tn) m; omega
            have z3 : -1000 ≤ zd - 1 ∧ zd - 1 ≤ 1000 := by have := HZD.out; have := sumF_le (kyF fs tn) k; have := sumF_le (kyF fs tn) m; omega
            have y0 : m ≤ 1000 := by omega
            have y1 : (m : Int) - 1 = (m1 : Int) ∧ (m : Int) - 2 = (m0 : Int) := by omega
            have y2 : -1000 ≤ (m : Int) - 1 ∧ (m : Int) - 1 ≤ 1000 ∧ -1000 ≤ (m : Int) - 2 ∧ (m : Int) - 2 ≤ 1000 := by omega
            have hv' : Value.slice Au k cu = .slice (some ⟨gf, off, none⟩) k cf := by
              rcases hv with h | h
              · exact h
              · exact absurd hlt (by omega)
            have hgs : gf < wr.heap.size := by have := hB.size; rcases hgf with h | h <;> omega
            obtain ⟨rfl, _, rfl⟩ := Value.slice.inj hv'
            have HMG : Hid (2 ≤ m + 1) := Lib.hid (Nat.le_succ_of_le hm2)
            clear hmm hme hk30 hkl hm2 hmk hlt hm0 hm1
            have HWM := w64s (k := m) y0
            have wa := w64i (z := za - 1) z1.1 z1.2
            have wb' := w64i (z := zb - 1) z2.1 z2.2
            have wd := w64i (z := zd - 1) z3.1 z3.2
            have hA : wrap64 ((m : Int) - 2) = (m0 : Int) := (w64i y2.2.2.1 y2.2.2.2).trans y1.2
            have hB1 : wrap64 ((m : Int) - 1) = (m1 : Int) := (w64i y2.1 y2.2.1).trans y1.1
            clear y0 y1 y2 z1 z2 z3 hv hv'
            have hA2 : IntKind.i64.wrap ((m : Int) - 2) = (m0 : Int) := (IntWalk.i64_left _).trans hA
            have hB2 : IntKind.i64.wrap ((m : Int) - 1) = (m1 : Int) := (IntWalk.i64_left _).trans hB1
            go_upto_region 22 with (fail)
            go_cut [18, 19, 20] from 129 to 213 (fun v18 v19 v20 wx => ∃ ga gb gc : Nat, v18 = .pointer (some ⟨ga, 0, none⟩) ∧ v19 = .pointer (some ⟨gb, 0, none⟩) ∧ v20 = .pointer (some ⟨gc, 0, none⟩) ∧ Below w.heap.size w wx ∧ wx.heap[ga]? = some (.cells (btnV a0).toArray 33 (0, 0)) ∧ wx.heap[gb]? = some (.cells (btnV b0).toArray 33 (0, 0)) ∧ wx.heap[gc]? = some (.cells (btnV c0).toArray 33 (0, 0)))
            case first =>
              as_aux_lemma =>
              refine wp_region_held_drew (S := (fun w' => w'.rangeAt gf (off + m0 * 29) (btnV a0) ∧ w'.rangeAt gf (off + m1 * 29) (btnV b0) ∧ w'.rangeAt gf (off + m * 29) (btnV c0))) (by kernel_rfl) ?_ (fun hHeld => ?_)
              · exact ⟨r0, r1, r2⟩
              have Bb : Below wr.heap.size wr wr.drew := (Below.refl _ wr).drew
              generalize wr.drew = V at *
              refine wpAnyH_take (i := 0) (v := ?_) rfl (by kernel_rfl) (by kernel_rfl) (by kernel_rfl) (fun _ _ _ h => h) (Or.inl ⟨by rfl, ?_⟩) (by assumption) ?_
              rotate_left
              · intro w hSw
                try dsimp only at hSw
                go_simp
                try with_reducible rfl
              simp only [List.getElem_toArray, List.getElem_cons_succ, List.getElem_cons_zero, Act.put, List.setIfInBounds_toArray, List.set_cons_zero, List.set_cons_succ]
              refine wpAnyH_take (i := 1) (v := ?_) rfl (by kernel_rfl) (by kernel_rfl) (by kernel_rfl) (fun _ _ _ h => h) (Or.inl ⟨by rfl, ?_⟩) (by assumption) ?_
              rotate_left
              · intro w hSw
                try dsimp only at hSw
                go_simp
                try with_reducible rfl
              simp only [List.getElem_toArray, List.getElem_cons_succ, List.getElem_cons_zero, Act.put, List.setIfInBounds_toArray, List.set_cons_zero, List.set_cons_succ]
              refine wpAnyH_take (i := 2) (v := ?_) rfl (by kernel_rfl) (by kernel_rfl) (by kernel_rfl) (fun _ _ _ h => h) (Or.inl ⟨by rfl, ?_⟩) (by assumption) ?_
              rotate_left
              · intro w hSw
                try dsimp only at hSw
                go_simp
                try with_reducible rfl
              simp only [List.getElem_toArray, List.getElem_cons_succ, List.getElem_cons_zero, Act.put, List.setIfInBounds_toArray, List.set_cons_zero, List.set_cons_succ]
              refine wpAnyH_take (i := 3) (v := ?_) rfl (by kernel_rfl) (by kernel_rfl) (by kernel_rfl) (fun _ _ _ h => h) (Or.inl ⟨by rfl, ?_⟩) (by assumption) ?_
              rotate_left
              · intro w hSw
                try dsimp only at hSw
                go_simp
                try with_reducible rfl
              simp only [List.getElem_toArray, List.getElem_cons_succ, List.getElem_cons_zero, Act.put, List.setIfInBounds_toArray, List.set_cons_zero, List.set_cons_succ]
              refine wpAnyH_take (i := 4) (v := .agg ((btnV a0) : List Value).toArray) rfl (by kernel_rfl) (by kernel_rfl) (by kernel_rfl) (fun _ _ _ h => h) (yieldsIf_load_mid rfl 33 (.tmp 138) rfl (gf) (off + m0 * 29) rfl (btnV a0) _ (fun w' h => h.1) (by first | exact Try.underlying33) rfl (by first | assumption | (simp only [*]; kernel_rfl) | kernel_rfl)) (by assumption) ?_
              simp only [List.getElem_toArray, List.getElem_cons_succ, List.getElem_cons_zero, Act.put, List.setIfInBounds_toArray, List.set_cons_zero, List.set_cons_succ]
              refine wpAnyH_take (i := 5) (v := ?_) rfl (by kernel_rfl) (by kernel_rfl) (by kernel_rfl) (fun _ _ _ h => h) (Or.inl ⟨by rfl, ?_⟩) (by assumption) ?_
              rotate_left
              · intro w hSw
                try dsimp only at hSw
                go_simp
                try with_reducible rfl
              simp only [List.getElem_toArray, List.getElem_cons_succ, List.getElem_cons_zero, Act.put, List.setIfInBounds_toArray, List.set_cons_zero, List.set_cons_succ]
              refine wpAnyH_take (i := 6) (v := ?_) rfl (by kernel_rfl) (by kernel_rfl) (by kernel_rfl) (fun _ _ _ h => h) (Or.inl ⟨by rfl, ?_⟩) (by assumption) ?_
              rotate_left
              · intro w hSw
                try dsimp only at hSw
                go_simp
                try with_reducible rfl
              simp only [List.getElem_toArray, List.getElem_cons_succ, List.getElem_cons_zero, Act.put, List.setIfInBounds_toArray, List.set_cons_zero, List.set_cons_succ]
              refine wpAnyH_take (i := 7) (v := ?_) rfl (by kernel_rfl) (by kernel_rfl) (by kernel_rfl) (fun _ _ _ h => h) (Or.inl ⟨by rfl, ?_⟩) (by assumption) ?_
              rotate_left
              · intro w hSw
                try dsimp only at hSw
                go_simp
                try with_reducible rfl
              simp only [List.getElem_toArray, List.getElem_cons_succ, List.getElem_cons_zero, Act.put, List.setIfInBounds_toArray, List.set_cons_zero, List.set_cons_succ]
              refine wpAnyH_take (i := 8) (v := ?_) rfl (by kernel_rfl) (by kernel_rfl) (by kernel_rfl) (fun _ _ _ h => h) (Or.inl ⟨by rfl, ?_⟩) (by assumption) ?_
              rotate_left
              · intro w hSw
                try dsimp only at hSw
                go_simp
                try with_reducible rfl
              simp only [List.getElem_toArray, List.getElem_cons_succ, List.getElem_cons_zero, Act.put, List.setIfInBounds_toArray, List.set_cons_zero, List.set_cons_succ]
              refine wpAnyH_take (i := 9) (v := .agg ((btnV b0) : List Value).toArray) rfl (by kernel_rfl) (by kernel_rfl) (by kernel_rfl) (fun _ _ _ h => h) (yieldsIf_load_mid rfl 33 (.tmp 143) rfl (gf) (off + m1 * 29) rfl (btnV b0) _ (fun w' h => h.2.1) (by first | exact Try.underlying33) rfl (by first | assumption | (simp only [*]; kernel_rfl) | kernel_rfl)) (by assumption) ?_
              simp only [List.getElem_toArray, List.getElem_cons_succ, List.getElem_cons_zero, Act.put, List.setIfInBounds_toArray, List.set_cons_zero, List.set_cons_succ]
              refine wpAnyH_take (i := 10) (v := ?_) rfl (by kernel_rfl) (by kernel_rfl) (by kernel_rfl) (fun _ _ _ h => h) (Or.inl ⟨by rfl, ?_⟩) (by assumption) ?_
              rotate_left
              · intro w hSw
                try dsimp only at hSw
                go_simp
                try with_reducible rfl
              simp only [List.getElem_toArray, List.getElem_cons_succ, List.getElem_cons_zero, Act.put, List.setIfInBounds_toArray, List.set_cons_zero, List.set_cons_succ]
              refine wpAnyH_take (i := 11) (v := ?_) rfl (by kernel_rfl) (by kernel_rfl) (by kernel_rfl) (fun _ _ _ h => h) (Or.inl ⟨by rfl, ?_⟩) (by assumption) ?_
              rotate_left
              · intro w hSw
                try dsimp only at hSw
                go_simp
                try with_reducible rfl
              simp only [List.getElem_toArray, List.getElem_cons_succ, List.getElem_cons_zero, Act.put, List.setIfInBounds_toArray, List.set_cons_zero, List.set_cons_succ]
              refine wpAnyH_take (i := 12) (v := ?_) rfl (by kernel_rfl) (by kernel_rfl) (by kernel_rfl) (fun _ _ _ h => h) (Or.inl ⟨by rfl, ?_⟩) (by assumption) ?_
              rotate_left
              · intro w hSw
                try dsimp only at hSw
                go_simp
                try with_reducible rfl
              simp only [List.getElem_toArray, List.getElem_cons_succ, List.getElem_cons_zero, Act.put, List.setIfInBounds_toArray, List.set_cons_zero, List.set_cons_succ]
              refine wpAnyH_take (i := 13) (v := .agg ((btnV c0) : List Value).toArray) rfl (by kernel_rfl) (by kernel_rfl) (by kernel_rfl) (fun _ _ _ h => h) (yieldsIf_load_mid rfl 33 (.tmp 147) rfl (gf) (off + m * 29) rfl (btnV c0) _ (fun w' h => h.2.2) (by first | exact Try.underlying33) rfl (by first | assumption | (simp only [*]; kernel_rfl) | kernel_rfl)) (by assumption) ?_
              simp only [List.getElem_toArray, List.getElem_cons_succ, List.getElem_cons_zero, Act.put, List.setIfInBounds_toArray, List.set_cons_zero, List.set_cons_succ]
              clear hHeld
              refine wpAnyH_ready (rs := [14, 15, 16]) (by kernel_rfl) (by simp) ?_
              refine AllReadyH.cons rfl (fun K hK => ?_) (AllReadyH.cons rfl (fun K hK => ?_) (AllReadyH.cons rfl (fun K hK => ?_) AllReadyH.nil))
              · skip
                have GA := new_at (w := V) rfl (.cells zB 33)
                have bF := kbelow_new V (.cells zB 33)
                have hga : wr.heap.size ≤ V.heap.size := Bb.size
                try have nab : V.heap.size ≠ gb := by have h := (Array.getElem?_eq_some_iff.1 GB).1; omega
                try have nac : V.heap.size ≠ gc := by have h := (Array.getElem?_eq_some_iff.1 GC).1; omega
                refine Node.wp_new 33 (.agg zB) zB (by kernel_rfl) rfl (by rfl) ?_
                replace Bb := below_step Bb bF
                try replace GB := var_later GB bF
                try replace GC := var_later GC bF
                clear bF
                generalize V.heap.size = ga at *
                generalize V.alloc (.cells zB 33) = V at *
                refine hK.out _ _ ⟨World.rangeAt_below r0 Bb hgs, World.rangeAt_below r1 Bb hgs, World.rangeAt_below r2 Bb hgs⟩ (fun _ => ?_)
                clear hK K
                try simp only [List.getElem_toArray, List.getElem_cons_succ, List.getElem_cons_zero, Act.put, List.setIfInBounds_toArray, List.set_cons_zero, List.set_cons_succ]
                refine wpAnyH_ready (rs := [15, 16]) (by kernel_rfl) (by simp) ?_
                refine AllReadyH.cons rfl (fun K hK => ?_) (AllReadyH.cons rfl (fun K hK => ?_) AllReadyH.nil)
                · skip
                  have GB := new_at (w := V) rfl (.cells zB 33)
                  have bF := kbelow_new V (.cells zB 33)
                  have hgb : wr.heap.size ≤ V.heap.size := Bb.size
                  try have nab : ga ≠ V.heap.size := by have h := (Array.getElem?_eq_some_iff.1 GA).1; omega
                  try have nbc : V.heap.size ≠ gc := by have h := (Array.getElem?_eq_some_iff.1 GC).1; omega
                  refine Node.wp_new 33 (.agg zB) zB (by kernel_rfl) rfl (by rfl) ?_
                  replace Bb := below_step Bb bF
                  try replace GA := var_later GA bF
                  try replace GC := var_later GC bF
                  clear bF
                  generalize V.heap.size = gb at *
                  generalize V.alloc (.cells zB 33) = V at *
                  refine hK.out _ _ ⟨World.rangeAt_below r0 Bb hgs, World.rangeAt_below r1 Bb hgs, World.rangeAt_below r2 Bb hgs⟩ (fun _ => ?_)
                  clear hK K
                  try simp only [List.getElem_toArray, List.getElem_cons_succ, List.getElem_cons_zero, Act.put, List.setIfInBounds_toArray, List.set_cons_zero, List.set_cons_succ]
                  refine wpAnyH_ready (rs := [16]) (by kernel_rfl) (by simp) ?_
                  refine AllReadyH.cons rfl (fun K hK => ?_) AllReadyH.nil
                  have GC := new_at (w := V) rfl (.cells zB 33)
                  have bF := kbelow_new V (.cells zB 33)
                  have hgc : wr.heap.size ≤ V.heap.size := Bb.size
                  try have nac : ga ≠ V.heap.size := by have h := (Array.getElem?_eq_some_iff.1 GA).1; omega
                  try have nbc : gb ≠ V.heap.size := by have h := (Array.getElem?_eq_some_iff.1 GB).1; omega
                  refine Node.wp_new 33 (.agg zB) zB (by kernel_rfl) rfl (by rfl) ?_
                  replace Bb := below_step Bb bF
                  try replace GA := var_later GA bF
                  try replace GB := var_later GB bF
                  clear bF
                  generalize V.heap.size = gc at *
                  generalize V.alloc (.cells zB 33) = V at *
                  refine hK.out _ _ ⟨World.rangeAt_below r0 Bb hgs, World.rangeAt_below r1 Bb hgs, World.rangeAt_below r2 Bb hgs⟩ (fun _ => ?_)
                  clear hK K
                  try simp only [List.getElem_toArray, List.getElem_cons_succ, List.getElem_cons_zero, Act.put, List.setIfInBounds_toArray, List.set_cons_zero, List.set_cons_succ]
                  refine wpAnyH_ready (rs := [17]) (by kernel_rfl) (by simp) ?_
                  refine AllReadyH.cons rfl (fun K hK => ?_) AllReadyH.nil
                  obtain ⟨V', hW, FA, bF, far, ths⟩ := fill_new (btnV a0) GA (by rw [btnV_len hal]; rfl) Bb hga
                  refine wp_store_mid 33 (.tmp 18) (.tmp 139) (by rfl) ga 0 (btnV a0).toArray (by rfl) (by rfl) ths (by simpa using szA) (all_one (btnV_one _)) ?_
                  rw [hW]
                  replace GB := (far gb nab.symm).trans GB
                  replace GC := (far gc nac.symm).trans GC
                  replace GA := FA
                  clear hW ths far FA Bb
                  have Bb := bF
                  clear bF
                  generalize V' = V at *
                  refine hK.out _ _ ⟨World.rangeAt_below r0 Bb hgs, World.rangeAt_below r1 Bb hgs, World.rangeAt_below r2 Bb hgs⟩ (fun _ => ?_)
                  clear hK K
                  try simp only [List.getElem_toArray, List.getElem_cons_succ, List.getElem_cons_zero, Act.put, List.setIfInBounds_toArray, List.set_cons_zero, List.set_cons_succ]
                  refine wpAnyH_ready (rs := [18]) (by kernel_rfl) (by simp) ?_
                  refine AllReadyH.cons rfl (fun K hK => ?_) AllReadyH.nil
                  obtain ⟨V', hW, FB, bF, far, ths⟩ := fill_new (btnV b0) GB (by rw [btnV_len hbl]; rfl) Bb hgb
                  refine wp_store_mid 33 (.tmp 19) (.tmp 144) (by rfl) gb 0 (btnV b0).toArray (by rfl) (by rfl) ths (by simpa using szB) (all_one (btnV_one _)) ?_
                  rw [hW]
                  replace GA := (far ga nab).trans GA
                  replace GC := (far gc nbc.symm).trans GC
                  replace GB := FB
                  clear hW ths far FB Bb
                  have Bb := bF
                  clear bF
                  generalize V' = V at *
                  refine hK.out _ _ ⟨World.rangeAt_below r0 Bb hgs, World.rangeAt_below r1 Bb hgs, World.rangeAt_below r2 Bb hgs⟩ (fun _ => ?_)
                  clear hK K
                  try simp only [List.getElem_toArray, List.getElem_cons_succ, List.getElem_cons_zero, Act.put, List.setIfInBounds_toArray, List.set_cons_zero, List.set_cons_succ]
                  refine wpAnyH_ready (rs := [19]) (by kernel_rfl) (by simp) ?_
                  refine AllReadyH.cons rfl (fun K hK => ?_) AllReadyH.nil
                  obtain ⟨V', hW, FC, bF, far, ths⟩ := fill_new (btnV c0) GC (by rw [btnV_len hcl]; rfl) Bb hgc
                  refine wp_store_mid 33 (.tmp 20) (.tmp 148) (by rfl) gc 0 (btnV c0).toArray (by rfl) (by rfl) ths (by simpa using szC) (all_one (btnV_one _)) ?_
                  rw [hW]
                  replace GA := (far ga nac).trans GA
                  replace GB := (far gb nbc).trans GB
                  replace GC := FC
                  clear hW ths far FC Bb
                  have Bb := bF
                  clear bF
                  generalize V' = V at *
                  refine hK.out _ _ ⟨World.rangeAt_below r0 Bb hgs, World.rangeAt_below r1 Bb hgs, World.rangeAt_below r2 Bb hgs⟩ (fun _ => ?_)
                  clear hK K
                  try simp only [List.getElem_toArray, List.getElem_cons_succ, List.getElem_cons_zero, Act.put, List.setIfInBounds_toArray, List.set_cons_zero, List.set_cons_succ]
                  refine wpAnyH_done (by kernel_rfl) ?_ _
                  go_wp2_with fail
                  go_meet
                  exact ⟨_, _, _, rfl, rfl, rfl, below_step hB Bb, GA, GB, GC⟩
                · skip
                  have GC := new_at (w := V) rfl (.cells zB 33)
                  have bF := kbelow_new V (.cells zB 33)
                  have hgc : wr.heap.size ≤ V.heap.size := Bb.size
                  try have nac : ga ≠ V.heap.size := by have h := (Array.getElem?_eq_some_iff.1 GA).1; omega
                  try have nbc : gb ≠ V.heap.size := by have h := (Array.getElem?_eq_some_iff.1 GB).1; omega
                  refine Node.wp_new 33 (.agg zB) zB (by kernel_rfl) rfl (by rfl) ?_
                  replace Bb := below_step Bb bF
                  try replace GA := var_later GA bF
                  try replace GB := var_later GB bF
                  clear bF
                  generalize V.heap.size = gc at *
                  generalize V.alloc (.cells zB 33) = V at *
                  refine hK.out _ _ ⟨World.rangeAt_below r0 Bb hgs, World.rangeAt_below r1 Bb hgs, World.rangeAt_below r2 Bb hgs⟩ (fun _ => ?_)
                  clear hK K
                  try simp only [List.getElem_toArray, List.getElem_cons_succ, List.getElem_cons_zero, Act.put, List.setIfInBounds_toArray, List.set_cons_zero, List.set_cons_succ]
                  refine wpAnyH_ready (rs := [15]) (by kernel_rfl) (by simp) ?_
                  refine AllReadyH.cons rfl (fun K hK => ?_) AllReadyH.nil
                  have GB := new_at (w := V) rfl (.cells zB 33)
                  have bF := kbelow_new V (.cells zB 33)
                  have hgb : wr.heap.size ≤ V.heap.size := Bb.size
                  try have nab : ga ≠ V.heap.size := by have h := (Array.getElem?_eq_some_iff.1 GA).1; omega
                  try have nbc : V.heap.size ≠ gc := by have h := (Array.getElem?_eq_some_iff.1 GC).1; omega
                  refine Node.wp_new 33 (.agg zB) zB (by kernel_rfl) rfl (by rfl) ?_
                  replace Bb := below_step Bb bF
                  try replace GA := var_later GA bF
                  try replace GC := var_later GC bF
                  clear bF
                  generalize V.heap.size = gb at *
                  generalize V.alloc (.cells zB 33) = V at *
                  refine hK.out _ _ ⟨World.rangeAt_below r0 Bb hgs, World.rangeAt_below r1 Bb hgs, World.rangeAt_below r2 Bb hgs⟩ (fun _ => ?_)
                  clear hK K
                  try simp only [List.getElem_toArray, List.getElem_cons_succ, List.getElem_cons_zero, Act.put, List.setIfInBounds_toArray, List.set_cons_zero, List.set_cons_succ]
                  refine wpAnyH_ready (rs := [17]) (by kernel_rfl) (by simp) ?_
                  refine AllReadyH.cons rfl (fun K hK => ?_) AllReadyH.nil
                  obtain ⟨V', hW, FA, bF, far, ths⟩ := fill_new (btnV a0) GA (by rw [btnV_len hal]; rfl) Bb hga
                  refine wp_store_mid 33 (.tmp 18) (.tmp 139) (by rfl) ga 0 (btnV a0).toArray (by rfl) (by rfl) ths (by simpa using szA) (all_one (btnV_one _)) ?_
                  rw [hW]
                  replace GB := (far gb nab.symm).trans GB
                  replace GC := (far gc nac.symm).trans GC
                  replace GA := FA
                  clear hW ths far FA Bb
                  have Bb := bF
                  clear bF
                  generalize V' = V at *
                  refine hK.out _ _ ⟨World.rangeAt_below r0 Bb hgs, World.rangeAt_below r1 Bb hgs, World.rangeAt_below r2 Bb hgs⟩ (fun _ => ?_)
                  clear hK K
                  try simp only [List.getElem_toArray, List.getElem_cons_succ, List.getElem_cons_zero, Act.put, List.setIfInBounds_toArray, List.set_cons_zero, List.set_cons_succ]
                  refine wpAnyH_ready (rs := [18]) (by kernel_rfl) (by simp) ?_
                  refine AllReadyH.cons rfl (fun K hK => ?_) AllReadyH.nil
                  obtain ⟨V', hW, FB, bF, far, ths⟩ := fill_new (btnV b0) GB (by rw [btnV_len hbl]; rfl) Bb hgb
                  refine wp_store_mid 33 (.tmp 19) (.tmp 144) (by rfl) gb 0 (btnV b0).toArray (by rfl) (by rfl) ths (by simpa using szB) (all_one (btnV_one _)) ?_
                  rw [hW]
                  replace GA := (far ga nab).trans GA
                  replace GC := (far gc nbc.symm).trans GC
                  replace GB := FB
                  clear hW ths far FB Bb
                  have Bb := bF
                  clear bF
                  generalize V' = V at *
                  refine hK.out _ _ ⟨World.rangeAt_below r0 Bb hgs, World.rangeAt_below r1 Bb hgs, World.rangeAt_below r2 Bb hgs⟩ (fun _ => ?_)
                  clear hK K
                  try simp only [List.getElem_toArray, List.getElem_cons_succ, List.getElem_cons_zero, Act.put, List.setIfInBounds_toArray, List.set_cons_zero, List.set_cons_succ]
                  refine wpAnyH_ready (rs := [19]) (by kernel_rfl) (by simp) ?_
                  refine AllReadyH.cons rfl (fun K hK => ?_) AllReadyH.nil
                  obtain ⟨V', hW, FC, bF, far, ths⟩ := fill_new (btnV c0) GC (by rw [btnV_len hcl]; rfl) Bb hgc
                  refine wp_store_mid 33 (.tmp 20) (.tmp 148) (by rfl) gc 0 (btnV c0).toArray (by rfl) (by rfl) ths (by simpa using szC) (all_one (btnV_one _)) ?_
                  rw [hW]
                  replace GA := (far ga nac).trans GA
                  replace GB := (far gb nbc).trans GB
                  replace GC := FC
                  clear hW ths far FC Bb
                  have Bb := bF
                  clear bF
                  generalize V' = V at *
                  refine hK.out _ _ ⟨World.rangeAt_below r0 Bb hgs, World.rangeAt_below r1 Bb hgs, World.rangeAt_below r2 Bb hgs⟩ (fun _ => ?_)
                  clear hK K
                  try simp only [List.getElem_toArray, List.getElem_cons_succ, List.getElem_cons_zero, Act.put, List.setIfInBounds_toArray, List.set_cons_zero, List.set_cons_succ]
                  refine wpAnyH_done (by kernel_rfl) ?_ _
                  go_wp2_with fail
                  go_meet
                  exact ⟨_, _, _, rfl, rfl, rfl, below_step hB Bb, GA, GB, GC⟩
              · skip
                have GB := new_at (w := V) rfl (.cells zB 33)
                have bF := kbelow_new V (.cells zB 33)
                have hgb : wr.heap.size ≤ V.heap.size := Bb.size
                try have nab : ga ≠ V.heap.size := by have h := (Array.getElem?_eq_some_iff.1 GA).1; omega
                try have nbc : V.heap.size ≠ gc := by have h := (Array.getElem?_eq_some_iff.1 GC).1; omega
                refine Node.wp_new 33 (.agg zB) zB (by kernel_rfl) rfl (by rfl) ?_
                replace Bb := below_step Bb bF
                try replace GA := var_later GA bF
                try replace GC := var_later GC bF
                clear bF
                generalize V.heap.size = gb at *
                generalize V.alloc (.cells zB 33) = V at *
                refine hK.out _ _ ⟨World.rangeAt_below r0 Bb hgs, World.rangeAt_below r1 Bb hgs, World.rangeAt_below r2 Bb hgs⟩ (fun _ => ?_)
                clear hK K
                try simp only [List.getElem_toArray, List.getElem_cons_succ, List.getElem_cons_zero, Act.put, List.setIfInBounds_toArray, List.set_cons_zero, List.set_cons_succ]
                refine wpAnyH_ready (rs := [14, 16]) (by kernel_rfl) (by simp) ?_
                refine AllReadyH.cons rfl (fun K hK => ?_) (AllReadyH.cons rfl (fun K hK => ?_) AllReadyH.nil)
                · skip
                  have GA := new_at (w := V) rfl (.cells zB 33)
                  have bF := kbelow_new V (.cells zB 33)
                  have hga : wr.heap.size ≤ V.heap.size := Bb.size
                  try have nab : V.heap.size ≠ gb := by have h := (Array.getElem?_eq_some_iff.1 GB).1; omega
                  try have nac : V.heap.size ≠ gc := by have h := (Array.getElem?_eq_some_iff.1 GC).1; omega
                  refine Node.wp_new 33 (.agg zB) zB (by kernel_rfl) rfl (by rfl) ?_
                  replace Bb := below_step Bb bF
                  try replace GB := var_later GB bF
                  try replace GC := var_later GC bF
                  clear bF
                  generalize V.heap.size = ga at *
                  generalize V.alloc (.cells zB 33) = V at *
                  refine hK.out _ _ ⟨World.rangeAt_below r0 Bb hgs, World.rangeAt_below r1 Bb hgs, World.rangeAt_below r2 Bb hgs⟩ (fun _ => ?_)
                  clear hK K
                  try simp only [List.getElem_toArray, List.getElem_cons_succ, List.getElem_cons_zero, Act.put, List.setIfInBounds_toArray, List.set_cons_zero, List.set_cons_succ]
                  refine wpAnyH_ready (rs := [16]) (by kernel_rfl) (by simp) ?_
                  refine AllReadyH.cons rfl (fun K hK => ?_) AllReadyH.nil
                  have GC := new_at (w := V) rfl (.cells zB 33)
                  have bF := kbelow_new V (.cells zB 33)
                  have hgc : wr.heap.size ≤ V.heap.size := Bb.size
                  try have nac : ga ≠ V.heap.size := by have h := (Array.getElem?_eq_some_iff.1 GA).1; omega
                  try have nbc : gb ≠ V.heap.size := by have h := (Array.getElem?_eq_some_iff.1 GB).1; omega
                  refine Node.wp_new 33 (.agg zB) zB (by kernel_rfl) rfl (by rfl) ?_
                  replace Bb := below_step Bb bF
                  try replace GA := var_later GA bF
                  try replace GB := var_later GB bF
                  clear bF
                  generalize V.heap.size = gc at *
                  generalize V.alloc (.cells zB 33) = V at *
                  refine hK.out _ _ ⟨World.rangeAt_below r0 Bb hgs, World.rangeAt_below r1 Bb hgs, World.rangeAt_below r2 Bb hgs⟩ (fun _ => ?_)
                  clear hK K
                  try simp only [List.getElem_toArray, List.getElem_cons_succ, List.getElem_cons_zero, Act.put, List.setIfInBounds_toArray, List.set_cons_zero, List.set_cons_succ]
                  refine wpAnyH_ready (rs := [17]) (by kernel_rfl) (by simp) ?_
                  refine AllReadyH.cons rfl (fun K hK => ?_) AllReadyH.nil
                  obtain ⟨V', hW, FA, bF, far, ths⟩ := fill_new (btnV a0) GA (by rw [btnV_len hal]; rfl) Bb hga
                  refine wp_store_mid 33 (.tmp 18) (.tmp 139) (by rfl) ga 0 (btnV a0).toArray (by rfl) (by rfl) ths (by simpa using szA) (all_one (btnV_one _)) ?_
                  rw [hW]
                  replace GB := (far gb nab.symm).trans GB
                  replace GC := (far gc nac.symm).trans GC
                  replace GA := FA
                  clear hW ths far FA Bb
                  have Bb := bF
                  clear bF
                  generalize V' = V at *
                  refine hK.out _ _ ⟨World.rangeAt_below r0 Bb hgs, World.rangeAt_below r1 Bb hgs, World.rangeAt_below r2 Bb hgs⟩ (fun _ => ?_)
                  clear hK K
                  try simp only [List.getElem_toArray, List.getElem_cons_succ, List.getElem_cons_zero, Act.put, List.setIfInBounds_toArray, List.set_cons_zero, List.set_cons_succ]
                  refine wpAnyH_ready (rs := [18]) (by kernel_rfl) (by simp) ?_
                  refine AllReadyH.cons rfl (fun K hK => ?_) AllReadyH.nil
                  obtain ⟨V', hW, FB, bF, far, ths⟩ := fill_new (btnV b0) GB (by rw [btnV_len hbl]; rfl) Bb hgb
                  refine wp_store_mid 33 (.tmp 19) (.tmp 144) (by rfl) gb 0 (btnV b0).toArray (by rfl) (by rfl) ths (by simpa using szB) (all_one (btnV_one _)) ?_
                  rw [hW]
                  replace GA := (far ga nab).trans GA
                  replace GC := (far gc nbc.symm).trans GC
                  replace GB := FB
                  clear hW ths far FB Bb
                  have Bb := bF
                  clear bF
                  generalize V' = V at *
                  refine hK.out _ _ ⟨World.rangeAt_below r0 Bb hgs, World.rangeAt_below r1 Bb hgs, World.rangeAt_below r2 Bb hgs⟩ (fun _ => ?_)
                  clear hK K
                  try simp only [List.getElem_toArray, List.getElem_cons_succ, List.getElem_cons_zero, Act.put, List.setIfInBounds_toArray, List.set_cons_zero, List.set_cons_succ]
                  refine wpAnyH_ready (rs := [19]) (by kernel_rfl) (by simp) ?_
                  refine AllReadyH.cons rfl (fun K hK => ?_) AllReadyH.nil
                  obtain ⟨V', hW, FC, bF, far, ths⟩ := fill_new (btnV c0) GC (by rw [btnV_len hcl]; rfl) Bb hgc
                  refine wp_store_mid 33 (.tmp 20) (.tmp 148) (by rfl) gc 0 (btnV c0).toArray (by rfl) (by rfl) ths (by simpa using szC) (all_one (btnV_one _)) ?_
                  rw [hW]
                  replace GA := (far ga nac).trans GA
                  replace GB := (far gb nbc).trans GB
                  replace GC := FC
                  clear hW ths far FC Bb
                  have Bb := bF
                  clear bF
                  generalize V' = V at *
                  refine hK.out _ _ ⟨World.rangeAt_below r0 Bb hgs, World.rangeAt_below r1 Bb hgs, World.rangeAt_below r2 Bb hgs⟩ (fun _ => ?_)
                  clear hK K
                  try simp only [List.getElem_toArray, List.getElem_cons_succ, List.getElem_cons_zero, Act.put, List.setIfInBounds_toArray, List.set_cons_zero, List.set_cons_succ]
                  refine wpAnyH_done (by kernel_rfl) ?_ _
                  go_wp2_with fail
                  go_meet
                  exact ⟨_, _, _, rfl, rfl, rfl, below_step hB Bb, GA, GB, GC⟩
                · skip
                  have GC := new_at (w := V) rfl (.cells zB 33)
                  have bF := kbelow_new V (.cells zB 33)
                  have hgc : wr.heap.size ≤ V.heap.size := Bb.size
                  try have nac : ga ≠ V.heap.size := by have h := (Array.getElem?_eq_some_iff.1 GA).1; omega
                  try have nbc : gb ≠ V.heap.size := by have h := (Array.getElem?_eq_some_iff.1 GB).1; omega
                  refine Node.wp_new 33 (.agg zB) zB (by kernel_rfl) rfl (by rfl) ?_
                  replace Bb := below_step Bb bF
                  try replace GA := var_later GA bF
                  try replace GB := var_later GB bF
                  clear bF
                  generalize V.heap.size = gc at *
                  generalize V.alloc (.cells zB 33) = V at *
                  refine hK.out _ _ ⟨World.rangeAt_below r0 Bb hgs, World.rangeAt_below r1 Bb hgs, World.rangeAt_below r2 Bb hgs⟩ (fun _ => ?_)
                  clear hK K
                  try simp only [List.getElem_toArray, List.getElem_cons_succ, List.getElem_cons_zero, Act.put, List.setIfInBounds_toArray, List.set_cons_zero, List.set_cons_succ]
                  refine wpAnyH_ready (rs := [14]) (by kernel_rfl) (by simp) ?_
                  refine AllReadyH.cons rfl (fun K hK => ?_) AllReadyH.nil
                  have GA := new_at (w := V) rfl (.cells zB 33)
                  have bF := kbelow_new V (.cells zB 33)
                  have hga : wr.heap.size ≤ V.heap.size := Bb.size
                  try have nab : V.heap.size ≠ gb := by have h := (Array.getElem?_eq_some_iff.1 GB).1; omega
                  try have nac : V.heap.size ≠ gc := by have h := (Array.getElem?_eq_some_iff.1 GC).1; omega
                  refine Node.wp_new 33 (.agg zB) zB (by kernel_rfl) rfl (by rfl) ?_
                  replace Bb := below_step Bb bF
                  try replace GB := var_later GB bF
                  try replace GC := var_later GC bF
                  clear bF
                  generalize V.heap.size = ga at *
                  generalize V.alloc (.cells zB 33) = V at *
                  refine hK.out _ _ ⟨World.rangeAt_below r0 Bb hgs, World.rangeAt_below r1 Bb hgs, World.rangeAt_below r2 Bb hgs⟩ (fun _ => ?_)
                  clear hK K
                  try simp only [List.getElem_toArray, List.getElem_cons_succ, List.getElem_cons_zero, Act.put, List.setIfInBounds_toArray, List.set_cons_zero, List.set_cons_succ]
                  refine wpAnyH_ready (rs := [17]) (by kernel_rfl) (by simp) ?_
                  refine AllReadyH.cons rfl (fun K hK => ?_) AllReadyH.nil
                  obtain ⟨V', hW, FA, bF, far, ths⟩ := fill_new (btnV a0) GA (by rw [btnV_len hal]; rfl) Bb hga
                  refine wp_store_mid 33 (.tmp 18) (.tmp 139) (by rfl) ga 0 (btnV a0).toArray (by rfl) (by rfl) ths (by simpa using szA) (all_one (btnV_one _)) ?_
                  rw [hW]
                  replace GB := (far gb nab.symm).trans GB
                  replace GC := (far gc nac.symm).trans GC
                  replace GA := FA
                  clear hW ths far FA Bb
                  have Bb := bF
                  clear bF
                  generalize V' = V at *
                  refine hK.out _ _ ⟨World.rangeAt_below r0 Bb hgs, World.rangeAt_below r1 Bb hgs, World.rangeAt_below r2 Bb hgs⟩ (fun _ => ?_)
                  clear hK K
                  try simp only [List.getElem_toArray, List.getElem_cons_succ, List.getElem_cons_zero, Act.put, List.setIfInBounds_toArray, List.set_cons_zero, List.set_cons_succ]
                  refine wpAnyH_ready (rs := [18]) (by kernel_rfl) (by simp) ?_
                  refine AllReadyH.cons rfl (fun K hK => ?_) AllReadyH.nil
                  obtain ⟨V', hW, FB, bF, far, ths⟩ := fill_new (btnV b0) GB (by rw [btnV_len hbl]; rfl) Bb hgb
                  refine wp_store_mid 33 (.tmp 19) (.tmp 144) (by rfl) gb 0 (btnV b0).toArray (by rfl) (by rfl) ths (by simpa using szB) (all_one (btnV_one _)) ?_
                  rw [hW]
                  replace GA := (far ga nab).trans GA
                  replace GC := (far gc nbc.symm).trans GC
                  replace GB := FB
                  clear hW ths far FB Bb
                  have Bb := bF
                  clear bF
                  generalize V' = V at *
                  refine hK.out _ _ ⟨World.rangeAt_below r0 Bb hgs, World.rangeAt_below r1 Bb hgs, World.rangeAt_below r2 Bb hgs⟩ (fun _ => ?_)
                  clear hK K
                  try simp only [List.getElem_toArray, List.getElem_cons_succ, List.getElem_cons_zero, Act.put, List.setIfInBounds_toArray, List.set_cons_zero, List.set_cons_succ]
                  refine wpAnyH_ready (rs := [19]) (by kernel_rfl) (by simp) ?_
                  refine AllReadyH.cons rfl (fun K hK => ?_) AllReadyH.nil
                  obtain ⟨V', hW, FC, bF, far, ths⟩ := fill_new (btnV c0) GC (by rw [btnV_len hcl]; rfl) Bb hgc
                  refine wp_store_mid 33 (.tmp 20) (.tmp 148) (by rfl) gc 0 (btnV c0).toArray (by rfl) (by rfl) ths (by simpa using szC) (all_one (btnV_one _)) ?_
                  rw [hW]
                  replace GA := (far ga nac).trans GA
                  replace GB := (far gb nbc).trans GB
                  replace GC := FC
                  clear hW ths far FC Bb
                  have Bb := bF
                  clear bF
                  generalize V' = V at *
                  refine hK.out _ _ ⟨World.rangeAt_below r0 Bb hgs, World.rangeAt_below r1 Bb hgs, World.rangeAt_below r2 Bb hgs⟩ (fun _ => ?_)
                  clear hK K
                  try simp only [List.getElem_toArray, List.getElem_cons_succ, List.getElem_cons_zero, Act.put, List.setIfInBounds_toArray, List.set_cons_zero, List.set_cons_succ]
                  refine wpAnyH_done (by kernel_rfl) ?_ _
                  go_wp2_with fail
                  go_meet
                  exact ⟨_, _, _, rfl, rfl, rfl, below_step hB Bb, GA, GB, GC⟩
              · skip
                have GC := new_at (w := V) rfl (.cells zB 33)
                have bF := kbelow_new V (.cells zB 33)
                have hgc : wr.heap.size ≤ V.heap.size := Bb.size
                try have nac : ga ≠ V.heap.size := by have h := (Array.getElem?_eq_some_iff.1 GA).1; omega
                try have nbc : gb ≠ V.heap.size := by have h := (Array.getElem?_eq_some_iff.1 GB).1; omega
                refine Node.wp_new 33 (.agg zB) zB (by kernel_rfl) rfl (by rfl) ?_
                replace Bb := below_step Bb bF
                try replace GA := var_later GA bF
                try replace GB := var_later GB bF
                clear bF
                generalize V.heap.size = gc at *
                generalize V.alloc (.cells zB 33) = V at *
                refine hK.out _ _ ⟨World.rangeAt_below r0 Bb hgs, World.rangeAt_below r1 Bb hgs, World.rangeAt_below r2 Bb hgs⟩ (fun _ => ?_)
                clear hK K
                try simp only [List.getElem_toArray, List.getElem_cons_succ, List.getElem_cons_zero, Act.put, List.setIfInBounds_toArray, List.set_cons_zero, List.set_cons_succ]
                refine wpAnyH_ready (rs := [14, 15]) (by kernel_rfl) (by simp) ?_
                refine AllReadyH.cons rfl (fun K hK => ?_) (AllReadyH.cons rfl (fun K hK => ?_) AllReadyH.nil)
                · skip
                  have GA := new_at (w := V) rfl (.cells zB 33)
                  have bF := kbelow_new V (.cells zB 33)
                  have hga : wr.heap.size ≤ V.heap.size := Bb.size
                  try have nab : V.heap.size ≠ gb := by have h := (Array.getElem?_eq_some_iff.1 GB).1; omega
                  try have nac : V.heap.size ≠ gc := by have h := (Array.getElem?_eq_some_iff.1 GC).1; omega
                  refine Node.wp_new 33 (.agg zB) zB (by kernel_rfl) rfl (by rfl) ?_
                  replace Bb := below_step Bb bF
                  try replace GB := var_later GB bF
                  try replace GC := var_later GC bF
                  clear bF
                  generalize V.heap.size = ga at *
                  generalize V.alloc (.cells zB 33) = V at *
                  refine hK.out _ _ ⟨World.rangeAt_below r0 Bb hgs, World.rangeAt_below r1 Bb hgs, World.rangeAt_below r2 Bb hgs⟩ (fun _ => ?_)
                  clear hK K
                  try simp only [List.getElem_toArray, List.getElem_cons_succ, List.getElem_cons_zero, Act.put, List.setIfInBounds_toArray, List.set_cons_zero, List.set_cons_succ]
                  refine wpAnyH_ready (rs := [15]) (by kernel_rfl) (by simp) ?_
                  refine AllReadyH.cons rfl (fun K hK => ?_) AllReadyH.nil
                  have GB := new_at (w := V) rfl (.cells zB 33)
                  have bF := kbelow_new V (.cells zB 33)
                  have hgb : wr.heap.size ≤ V.heap.size := Bb.size
                  try have nab : ga ≠ V.heap.size := by have h := (Array.getElem?_eq_some_iff.1 GA).1; omega
                  try have nbc : V.heap.size ≠ gc := by have h := (Array.getElem?_eq_some_iff.1 GC).1; omega
                  refine Node.wp_new 33 (.agg zB) zB (by kernel_rfl) rfl (by rfl) ?_
                  replace Bb := below_step Bb bF
                  try replace GA := var_later GA bF
                  try replace GC := var_later GC bF
                  clear bF
                  generalize V.heap.size = gb at *
                  generalize V.alloc (.cells zB 33) = V at *
                  refine hK.out _ _ ⟨World.rangeAt_below r0 Bb hgs, World.rangeAt_below r1 Bb hgs, World.rangeAt_below r2 Bb hgs⟩ (fun _ => ?_)
                  clear hK K
                  try simp only [List.getElem_toArray, List.getElem_cons_succ, List.getElem_cons_zero, Act.put, List.setIfInBounds_toArray, List.set_cons_zero, List.set_cons_succ]
                  refine wpAnyH_ready (rs := [17]) (by kernel_rfl) (by simp) ?_
                  refine AllReadyH.cons rfl (fun K hK => ?_) AllReadyH.nil
                  obtain ⟨V', hW, FA, bF, far, ths⟩ := fill_new (btnV a0) GA (by rw [btnV_len hal]; rfl) Bb hga
                  refine wp_store_mid 33 (.tmp 18) (.tmp 139) (by rfl) ga 0 (btnV a0).toArray (by rfl) (by rfl) ths (by simpa using szA) (all_one (btnV_one _)) ?_
                  rw [hW]
                  replace GB := (far gb nab.symm).trans GB
                  replace GC := (far gc nac.symm).trans GC
                  replace GA := FA
                  clear hW ths far FA Bb
                  have Bb := bF
                  clear bF
                  generalize V' = V at *
                  refine hK.out _ _ ⟨World.rangeAt_below r0 Bb hgs, World.rangeAt_below r1 Bb hgs, World.rangeAt_below r2 Bb hgs⟩ (fun _ => ?_)
                  clear hK K
                  try simp only [List.getElem_toArray, List.getElem_cons_succ, List.getElem_cons_zero, Act.put, List.setIfInBounds_toArray, List.set_cons_zero, List.set_cons_succ]
                  refine wpAnyH_ready (rs := [18]) (by kernel_rfl) (by simp) ?_
                  refine AllReadyH.cons rfl (fun K hK => ?_) AllReadyH.nil
                  obtain ⟨V', hW, FB, bF, far, ths⟩ := fill_new (btnV b0) GB (by rw [btnV_len hbl]; rfl) Bb hgb
                  refine wp_store_mid 33 (.tmp 19) (.tmp 144) (by rfl) gb 0 (btnV b0).toArray (by rfl) (by rfl) ths (by simpa using szB) (all_one (btnV_one _)) ?_
                  rw [hW]
                  replace GA := (far ga nab).trans GA
                  replace GC := (far gc nbc.symm).trans GC
                  replace GB := FB
                  clear hW ths far FB Bb
                  have Bb := bF
                  clear bF
                  generalize V' = V at *
                  refine hK.out _ _ ⟨World.rangeAt_below r0 Bb hgs, World.rangeAt_below r1 Bb hgs, World.rangeAt_below r2 Bb hgs⟩ (fun _ => ?_)
                  clear hK K
                  try simp only [List.getElem_toArray, List.getElem_cons_succ, List.getElem_cons_zero, Act.put, List.setIfInBounds_toArray, List.set_cons_zero, List.set_cons_succ]
                  refine wpAnyH_ready (rs := [19]) (by kernel_rfl) (by simp) ?_
                  refine AllReadyH.cons rfl (fun K hK => ?_) AllReadyH.nil
                  obtain ⟨V', hW, FC, bF, far, ths⟩ := fill_new (btnV c0) GC (by rw [btnV_len hcl]; rfl) Bb hgc
                  refine wp_store_mid 33 (.tmp 20) (.tmp 148) (by rfl) gc 0 (btnV c0).toArray (by rfl) (by rfl) ths (by simpa using szC) (all_one (btnV_one _)) ?_
                  rw [hW]
                  replace GA := (far ga nac).trans GA
                  replace GB := (far gb nbc).trans GB
                  replace GC := FC
                  clear hW ths far FC Bb
                  have Bb := bF
                  clear bF
                  generalize V' = V at *
                  refine hK.out _ _ ⟨World.rangeAt_below r0 Bb hgs, World.rangeAt_below r1 Bb hgs, World.rangeAt_below r2 Bb hgs⟩ (fun _ => ?_)
                  clear hK K
                  try simp only [List.getElem_toArray, List.getElem_cons_succ, List.getElem_cons_zero, Act.put, List.setIfInBounds_toArray, List.set_cons_zero, List.set_cons_succ]
                  refine wpAnyH_done (by kernel_rfl) ?_ _
                  go_wp2_with fail
                  go_meet
                  exact ⟨_, _, _, rfl, rfl, rfl, below_step hB Bb, GA, GB, GC⟩
                · skip
                  have GB := new_at (w := V) rfl (.cells zB 33)
                  have bF := kbelow_new V (.cells zB 33)
                  have hgb : wr.heap.size ≤ V.heap.size := Bb.size
                  try have nab : ga ≠ V.heap.size := by have h := (Array.getElem?_eq_some_iff.1 GA).1; omega
                  try have nbc : V.heap.size ≠ gc := by have h := (Array.getElem?_eq_some_iff.1 GC).1; omega
                  refine Node.wp_new 33 (.agg zB) zB (by kernel_rfl) rfl (by rfl) ?_
                  replace Bb := below_step Bb bF
                  try replace GA := var_later GA bF
                  try replace GC := var_later GC bF
                  clear bF
                  generalize V.heap.size = gb at *
                  generalize V.alloc (.cells zB 33) = V at *
                  refine hK.out _ _ ⟨World.rangeAt_below r0 Bb hgs, World.rangeAt_below r1 Bb hgs, World.rangeAt_below r2 Bb hgs⟩ (fun _ => ?_)
                  clear hK K
                  try simp only [List.getElem_toArray, List.getElem_cons_succ, List.getElem_cons_zero, Act.put, List.setIfInBounds_toArray, List.set_cons_zero, List.set_cons_succ]
                  refine wpAnyH_ready (rs := [14]) (by kernel_rfl) (by simp) ?_
                  refine AllReadyH.cons rfl (fun K hK => ?_) AllReadyH.nil
                  have GA := new_at (w := V) rfl (.cells zB 33)
                  have bF := kbelow_new V (.cells zB 33)
                  have hga : wr.heap.size ≤ V.heap.size := Bb.size
                  try have nab : V.heap.size ≠ gb := by have h := (Array.getElem?_eq_some_iff.1 GB).1; omega
                  try have nac : V.heap.size ≠ gc := by have h := (Array.getElem?_eq_some_iff.1 GC).1; omega
                  refine Node.wp_new 33 (.agg zB) zB (by kernel_rfl) rfl (by rfl) ?_
                  replace Bb := below_step Bb bF
                  try replace GB := var_later GB bF
                  try replace GC := var_later GC bF
                  clear bF
                  generalize V.heap.size = ga at *
                  generalize V.alloc (.cells zB 33) = V at *
                  refine hK.out _ _ ⟨World.rangeAt_below r0 Bb hgs, World.rangeAt_below r1 Bb hgs, World.rangeAt_below r2 Bb hgs⟩ (fun _ => ?_)
                  clear hK K
                  try simp only [List.getElem_toArray, List.getElem_cons_succ, List.getElem_cons_zero, Act.put, List.setIfInBounds_toArray, List.set_cons_zero, List.set_cons_succ]
                  refine wpAnyH_ready (rs := [17]) (by kernel_rfl) (by simp) ?_
                  refine AllReadyH.cons rfl (fun K hK => ?_) AllReadyH.nil
                  obtain ⟨V', hW, FA, bF, far, ths⟩ := fill_new (btnV a0) GA (by rw [btnV_len hal]; rfl) Bb hga
                  refine wp_store_mid 33 (.tmp 18) (.tmp 139) (by rfl) ga 0 (btnV a0).toArray (by rfl) (by rfl) ths (by simpa using szA) (all_one (btnV_one _)) ?_
                  rw [hW]
                  replace GB := (far gb nab.symm).trans GB
                  replace GC := (far gc nac.symm).trans GC
                  replace GA := FA
                  clear hW ths far FA Bb
                  have Bb := bF
                  clear bF
                  generalize V' = V at *
                  refine hK.out _ _ ⟨World.rangeAt_below r0 Bb hgs, World.rangeAt_below r1 Bb hgs, World.rangeAt_below r2 Bb hgs⟩ (fun _ => ?_)
                  clear hK K
                  try simp only [List.getElem_toArray, List.getElem_cons_succ, List.getElem_cons_zero, Act.put, List.setIfInBounds_toArray, List.set_cons_zero, List.set_cons_succ]
                  refine wpAnyH_ready (rs := [18]) (by kernel_rfl) (by simp) ?_
                  refine AllReadyH.cons rfl (fun K hK => ?_) AllReadyH.nil
                  obtain ⟨V', hW, FB, bF, far, ths⟩ := fill_new (btnV b0) GB (by rw [btnV_len hbl]; rfl) Bb hgb
                  refine wp_store_mid 33 (.tmp 19) (.tmp 144) (by rfl) gb 0 (btnV b0).toArray (by rfl) (by rfl) ths (by simpa using szB) (all_one (btnV_one _)) ?_
                  rw [hW]
                  replace GA := (far ga nab).trans GA
                  replace GC := (far gc nbc.symm).trans GC
                  replace GB := FB
                  clear hW ths far FB Bb
                  have Bb := bF
                  clear bF
                  generalize V' = V at *
                  refine hK.out _ _ ⟨World.rangeAt_below r0 Bb hgs, World.rangeAt_below r1 Bb hgs, World.rangeAt_below r2 Bb hgs⟩ (fun _ => ?_)
                  clear hK K
                  try simp only [List.getElem_toArray, List.getElem_cons_succ, List.getElem_cons_zero, Act.put, List.setIfInBounds_toArray, List.set_cons_zero, List.set_cons_succ]
                  refine wpAnyH_ready (rs := [19]) (by kernel_rfl) (by simp) ?_
                  refine AllReadyH.cons rfl (fun K hK => ?_) AllReadyH.nil
                  obtain ⟨V', hW, FC, bF, far, ths⟩ := fill_new (btnV c0) GC (by rw [btnV_len hcl]; rfl) Bb hgc
                  refine wp_store_mid 33 (.tmp 20) (.tmp 148) (by rfl) gc 0 (btnV c0).toArray (by rfl) (by rfl) ths (by simpa using szC) (all_one (btnV_one _)) ?_
                  rw [hW]
                  replace GA := (far ga nac).trans GA
                  replace GB := (far gb nbc).trans GB
                  replace GC := FC
                  clear hW ths far FC Bb
                  have Bb := bF
                  clear bF
                  generalize V' = V at *
                  refine hK.out _ _ ⟨World.rangeAt_below r0 Bb hgs, World.rangeAt_below r1 Bb hgs, World.rangeAt_below r2 Bb hgs⟩ (fun _ => ?_)
                  clear hK K
                  try simp only [List.getElem_toArray, List.getElem_cons_succ, List.getElem_cons_zero, Act.put, List.setIfInBounds_toArray, List.set_cons_zero, List.set_cons_succ]
                  refine wpAnyH_done (by kernel_rfl) ?_ _
                  go_wp2_with fail
                  go_meet
                  exact ⟨_, _, _, rfl, rfl, rfl, below_step hB Bb, GA, GB, GC⟩
            case rest =>
              clear hA2 hB2
              obtain ⟨ga, gb, gc, rfl, rfl, rfl, hB2, GA, GB, GC⟩ := hcut
              clear hA hB1 r0 r1 r2 hB
              generalize wc = V at *
              obtain ⟨xe, _, xv, _, _⟩ := btn_at GC
              obtain ⟨ye, _, yv, _, _⟩ := btn_at GB
              obtain ⟨ze, _, zv, _, _⟩ := btn_at GA
              have f1 := front_bit c0.ent b0.ent a0.ent sn
              have f2 := front_bit c0.via b0.via a0.via tn
              rw [← E1.out] at f1
              rw [← E2.out] at f2
              generalize (c0.ent.toNat : Int) = ec at *
              generalize (b0.ent.toNat : Int) = eb at *
              generalize (a0.ent.toNat : Int) = ea at *
              generalize (c0.via.toNat : Int) = vc at *
              generalize (b0.via.toNat : Int) = vb at *
              generalize (a0.via.toNat : Int) = va at *
              obtain ⟨d0, hd0⟩ : ∃ d0, entF fs sn m = d0 := ⟨_, rfl⟩
              obtain ⟨d1, hd1⟩ : ∃ d1, viaF fs tn m = d1 := ⟨_, rfl⟩
              rw [hd0] at f1
              rw [hd1] at f2
              have HD0 := Lib.hid hd0
              have HD1 := Lib.hid hd1
              clear hd0 hd1
              obtain ⟨z1, hz1⟩ : ∃ z, Go.bits .and .u32 ec eb = z := ⟨_, rfl⟩
              rw [hz1] at f1
              obtain ⟨z2, hz2⟩ : ∃ z, Go.bits .andNot .u32 z1 ea = z := ⟨_, rfl⟩
              rw [hz2] at f1
              obtain ⟨z3, hz3⟩ : ∃ z, Go.bits .and .u32 vc vb = z := ⟨_, rfl⟩
              rw [hz3] at f2
              obtain ⟨z4, hz4⟩ : ∃ z, Go.bits .andNot .u32 z3 va = z := ⟨_, rfl⟩
              rw [hz4] at f2
              obtain ⟨za', hza'⟩ : ∃ z : Int, z = za - (if d0 then 1 else 0) := ⟨_, rfl⟩
              obtain ⟨zb', hzb'⟩ : ∃ z : Int, z = zb - (if d1 then 1 else 0) := ⟨_, rfl⟩
              have KZA := Lib.hid hza'
              have KZB := Lib.hid hzb'
              have HZA' : Hid (za' = sumF (entF fs sn) k - sumF (entF fs sn) (m + 1)) := Lib.hid (sum_step HZA.out hza' (by have e : sumF (entF fs sn) (m + 1) = sumF (entF fs sn) m + (if entF fs sn m = true then 1 else 0) := rfl; rw [e, HD0.out]))
              have HZB' : Hid (zb' = sumF (viaF fs tn) k - sumF (viaF fs tn) (m + 1)) := Lib.hid (sum_step HZB.out hzb' (by have e : sumF (viaF fs tn) (m + 1) = sumF (viaF fs tn) m + (if viaF fs tn m = true then 1 else 0) := rfl; rw [e, HD1.out]))
              clear hza' hzb'
              go_upto_if 161 with fail
              go_cut [10] from 129 to 213 (fun v wx => v = .int .i64 za' ∧ wx = V)
              case first =>
                cases d0
                · go_wp2
                  go_meet
                  exact ⟨by rw [KZA.out]; simp, rfl⟩
                · go_wp2
                  go_meet
                  exact ⟨by rw [KZA.out]; simp, rfl⟩
              case rest =>
                obtain ⟨rfl, rfl⟩ := hcut
                clear f1 hz1 hz2 xe ye ze wa
                go_upto_if 176 with fail
                go_cut [11] from 129 to 213 (fun v wx => v = .int .i64 zb' ∧ wx = wc)
                case first =>
                  cases d1
                  · go_wp2
                    go_meet
                    exact ⟨by rw [KZB.out]; simp, rfl⟩
                  · go_wp2
                    go_meet
                    exact ⟨by rw [KZB.out]; simp, rfl⟩
                case rest =>
                  obtain ⟨rfl, rfl⟩ := hcut
                  clear f2 hz3 hz4 xv yv zv wb'
                  obtain ⟨d2, hd2⟩ : ∃ d2, kyF fs tn m = d2 := ⟨_, rfl⟩
                  have HON : Hid (onI ((c0.keys.getD tn 0#8).toNat : Int) ((b0.keys.getD tn 0#8).toNat : Int) ((a0.keys.getD tn 0#8).toNat : Int) = d2) := Lib.hid (by rw [on_eq, ← hd2, E3.out])
                  obtain ⟨zd', hzd'⟩ : ∃ z : Int, z = zd - (if d2 then 1 else 0) := ⟨_, rfl⟩
                  have HZD' : Hid (zd' = sumF (kyF fs tn) k - sumF (kyF fs tn) (m + 1)) := Lib.hid (sum_step HZD.out hzd' (by have e : sumF (kyF fs tn) (m + 1) = sumF (kyF fs tn) m + (if kyF fs tn m = true then 1 else 0) := rfl; rw [e, hd2]))
                  have KZD := Lib.hid hzd'
                  clear hzd' hd2
                  have i3 : (tn : Int) < 24 := HT24i.out
                  have kc := cell_list GC (btnV_key (b := c0) (i := tn) (by rw [hcl]; exact HT24.out))
                  have kb := cell_list GB (btnV_key (b := b0) (i := tn) (by rw [hbl]; exact HT24.out))
                  have ka := cell_list GA (btnV_key (b := a0) (i := tn) (by rw [hal]; exact HT24.out))
                  generalize ((c0.keys.getD tn 0#8).toNat : Int) = ic at *
                  generalize ((b0.keys.getD tn 0#8).toNat : Int) = ib at *
                  generalize ((a0.keys.getD tn 0#8).toNat : Int) = ia at *
                  go_upto_region 28 with (fail)
                  go_cut [211] from 129 to 213 (fun v wx => v = .bool d2 ∧ wx = wc)
                  case first =>
                    by_cases b1 : ic = 1
                    · subst b1
                      by_cases bx : ib = 1
                      · subst bx
                        by_cases bz : ia = 1
                        · subst bz
                          go_wp2
                          go_meet
                          exact ⟨by rw [← HON.out]; rfl, rfl⟩
                        · have g1 : (ia == 1) = false := by simpa using bz
                          have g2 : (ia != 1) = true := by simp [bne, g1]
                          clear bz
                          by_cases b3 : ia = 3
                          · subst b3
                            go_wp2
                            go_meet
                            exact ⟨by rw [← HON.out]; rfl, rfl⟩
                          · have g3 : (ia == 3) = false := by simpa using b3
                            have g4 : (ia != 3) = true := by simp [bne, g3]
                            clear b3
                            go_wp2
                            go_meet
                            exact ⟨by rw [← HON.out]; simp [onI, g2, g4], rfl⟩
                      · have g1 : (ib == 1) = false := by simpa using bx
                        clear bx
                        go_wp2
                        go_meet
                        exact ⟨by rw [← HON.out]; simp [onI, g1], rfl⟩
                    · have g5 : (ic == 1) = false := by simpa using b1
                      by_cases b2 : ic = 2
                      · subst b2
                        clear b1
                        by_cases bx : ib = 2
                        · subst bx
                          by_cases bz : ia = 2
                          · subst bz
                            go_wp2
                            go_meet
                            exact ⟨by rw [← HON.out]; rfl, rfl⟩
                          · have g1 : (ia == 2) = false := by simpa using bz
                            have g2 : (ia != 2) = true := by simp [bne, g1]
                            clear bz
                            by_cases b3 : ia = 3
                            · subst b3
                              go_wp2
                              go_meet
                              exact ⟨by rw [← HON.out]; rfl, rfl⟩
                            · have g3 : (ia == 3) = false := by simpa using b3
                              have g4 : (ia != 3) = true := by simp [bne, g3]
                              clear b3
                              go_wp2
                              go_meet
                              exact ⟨by rw [← HON.out]; simp [onI, g2, g4], rfl⟩
                        · have g1 : (ib == 2) = false := by simpa using bx
                          clear bx
                          go_wp2
                          go_meet
                          exact ⟨by rw [← HON.out]; simp [onI, g1], rfl⟩
                      · have g6 : (ic == 2) = false := by simpa using b2
                        clear b1 b2
                        go_wp2
                        go_meet
                        exact ⟨by rw [← HON.out]; simp [onI, g5, g6], rfl⟩
                  case rest =>
                    obtain ⟨rfl, rfl⟩ := hcut
                    clear ka kb kc
                    cases d2
                    · go_wp2_with fail
                      go_roundw
                      case rel => exact ⟨m + 1, za', zb', zd, HMG.out, .inl HMM.out, by rw [HWM]; rfl, rfl, rfl, by first | rfl | rw [wd], HZA', HZB', by have := HZD'; rw [KZD.out] at this; simpa using this, hB2⟩
                      case measure => rw [HWM]; exact HME.out
                    · go_wp2_with fail
                      go_roundw
                      case rel => exact ⟨m + 1, za', zb', zd - 1, HMG.out, .inl HMM.out, by rw [HWM]; rfl, rfl, rfl, by first | rfl | rw [wd], HZA', HZB', by have := HZD'; rw [KZD.out] at this; simpa using this, hB2⟩
                      case measure => rw [HWM]; exact HME.out
          · have u0 : za = 0 := by
              rw [HZA.out]
              rcases hmk with h | h
              · obtain rfl : m = k := by omega
                omega
              · subst h
                rw [HS.out.1, sumF_small HS.out.1 (by omega)]; rfl
            have u1 : zb = 0 := by
              rw [HZB.out]
              rcases hmk with h | h
              · obtain rfl : m = k := by omega
                omega
              · subst h
                rw [HS.out.2.1, sumF_small HS.out.2.1 (by omega)]; rfl
            have u2 : zd = 0 := by
              rw [HZD.out]
              rcases hmk with h | h
              · obtain rfl : m = k := by omega
                omega
              · subst h
                rw [HS.out.2.2, sumF_small HS.out.2.2 (by omega)]; rfl
            subst u0 u1 u2
            have i2 : ¬ (m : Int) < (k : Int) := by omega
            clear HZA HZB HZD hmk hv hgf hlt
            go_wp2_with fail
            refine (wakes_c _).mono ?_
            rintro e V2 ⟨rfl, b2⟩
            have B2 := below_step hB b2
            go_wp2
            go_ret
            exact ⟨rfl, B2⟩

theorem own : ownKnob Try.prog.godebug = none := by kernel_rfl
theorem laidOut : laidOutB Try.prog = true := by kernel_rfl
noncomputable def wit (os : Os) : World := World.holding Try.prog os ⟨#[], #[], []⟩
set_option maxRecDepth 100000 in
theorem lifted (os : Os) (started : os.Started) (H : Type) (enc : TypeId × Value → H) (F : Stop.Interp) :
    ReturnsInHanded {} Try.checked os 4 .any ((OpenSpec.ofChange Rows.keysOnceSpec).preRow enc Try.prog Try.f4 Rows.keysOnceRow.domain false Rows.keysOnceRow.laid) (((OpenSpec.ofChange Rows.keysOnceSpec).at F).post enc Try.prog Try.f4 false true false false) := by
  obtain ⟨x, hx⟩ : ∃ x, DataW.whole enc Try.prog ((wit os).forCall (fun _ _ => 0) ⟨#[], #[.agg zL, .slice none 0 0, .int .i64 0, .int .i64 0], []⟩).memory Try.f4.params.toList Rows.keysOnceSpec.vars false (#[.agg zL, .slice none 0 0, .int .i64 0, .int .i64 0] : Array Value).toList 8 = some x := Option.isSome_iff_exists.1 (by kernel_rfl)
  refine Fr.lift (C := Try.checked) (s := OpenSpec.ofChange Rows.keysOnceSpec) own started (by kernel_rfl) Try.func4
    (witness_row_at (enc := enc) (C := Try.checked) false (wit os) #[.agg zL, .slice none 0 0, .int .i64 0, .int .i64 0] rfl (by kernel_rfl) (by kernel_rfl) (by kernel_rfl)
      (OpenSpec.preRow_of_cond 8 hx rfl (fun k hk => by cases hk) (by kernel_rfl) (laidMet_of_run' 8 (by kernel_rfl) (by kernel_rfl))))
    laidOut (by kernel_rfl) rfl Try.underlying4 rfl rfl ?_ ?_
  · intro ds hds
    match ds, hds with
    | [_, _, _, _], _ => rfl
  · intro W base args ds before hval hA hlt _ hz hL
    rw [Try.params4] at hA hval
    obtain ⟨v0, vs0, d0, ds0, p0, q0, hargs, rfl, rfl, h0, r0⟩ := trodAll_cons hA
    obtain ⟨v1, vs1, d1, ds1, p1, q1, rfl, rfl, rfl, h1, r1⟩ := trodAll_cons r0
    obtain ⟨v2, vs2, d2, ds2, p2, q2, rfl, rfl, rfl, h2, r2⟩ := trodAll_cons r1
    obtain ⟨v3, vs3, d3, ds3, p3, q3, rfl, rfl, rfl, h3, r3⟩ := trodAll_cons r2
    obtain ⟨rfl, rfl, rfl⟩ := trodAll_nil r3
    obtain rfl : args = #[v0, v1, v2, v3] := by cases args; simp_all
    obtain ⟨L, nsec, lens, nsig, nfl, A, c, A1, c1, A3, c3, ve, rfl, hLA⟩ := open_layN (hval 0 _ v0 rfl rfl) h0
    obtain ⟨fs, hfs, hfl⟩ := open_btns (t := 0) (hval 1 _ v1 rfl rfl) h1
    obtain ⟨s, rfl, rfl, rfl, w2⟩ := open_int Try.underlying3 (hval 2 _ v2 rfl rfl) h2
    obtain ⟨t, rfl, rfl, rfl, w3⟩ := open_int Try.underlying3 (hval 3 _ v3 rfl rfl) h3
    exact walk L nsec lens nsig nfl A c A1 c1 A3 c3 ve v1 fs s t W hfl hLA hfs

theorem said : Rows.KeysOnceSaid :=
  OpenClaim.holds_of_cond 4 Try.f4 rfl rfl rfl rfl rfl rfl rfl ⟨rfl, rfl, rfl, rfl, rfl⟩ rfl rfl rfl rfl rfl (by kernel_rfl) Try.func4 (by kernel_rfl)
    (of_decide_eq_true (by kernel_rfl)) (by unfold Func.isWrapper; first | (rw [if_pos (by decide +kernel)]; kernel_rfl) | (rw [if_neg (by decide +kernel)]; exact ⟨rfl, rfl⟩))
    (fun os started H enc _ F => by rw [OpenClaim.pre_eq_preRow]; exact lifted os started H enc F)
#print axioms said
end Go.Proofs.Ytdnimdpnejjjlaa.keysOnce
