/- Keys: the law's cut. Nothing that was there is turned. -/
import Derived.Test.YtdnimdpnejjjlaaKeyO
namespace Go.Proofs.Ytdnimdpnejjjlaa
open Go.RowKit Rf Mem KM Bits Bv
attribute [local go_sem ↓] run_max2 run_min2
def mask (n : Nat) : BitVec 32 := BitVec.ofNat 32 (2 ^ n - 1)
def cutK (ks : List (BitVec 8)) (nc j : Nat) : List (BitVec 8) := (List.range 24).map fun i => if i < j then (if i < nc then BitVec.ofNat 8 ((ks.getD i 0#8).toNat % 4) else 0#8) else ks.getD i 0#8
def cutB (b : Btn) (ns ne nc : Nat) : Btn := ⟨b.ent &&& mask ns, b.exi &&& mask ne, b.via &&& mask nc, b.can, b.aut, cutK b.keys nc 24⟩
theorem and_mask (x : BitVec 32) (n : Nat) (hn : n < 32) : Go.bits .and .u32 (x.toNat : Int) ((2 ^ n - 1) % 4294967296) = ((x &&& mask n).toNat : Int) := by
  have hp : (2 : Nat) ^ n < 2 ^ 32 := Nat.pow_lt_pow_right (by omega) hn
  have h1 : 1 ≤ (2 : Nat) ^ n := Nat.one_le_two_pow
  have hm : ((2 : Int) ^ n - 1) % 4294967296 = ((mask n).toNat : Int) := by
    unfold mask
    rw [BitVec.toNat_ofNat, Nat.mod_eq_of_lt (by omega)]
    have e : ((2 : Int) ^ n) = (((2 : Nat) ^ n : Nat) : Int) := by simp
    rw [e]
    omega
  rw [hm]
  exact Bv.bits_and .u32 rfl x (mask n)
theorem cutK_len (ks : List (BitVec 8)) (nc j : Nat) : (cutK ks nc j).length = 24 := by simp [cutK]
theorem cutK_zero (ks : List (BitVec 8)) (nc : Nat) (h : ks.length = 24) : cutK ks nc 0 = ks := by
  apply List.ext_getElem?
  intro i
  by_cases hi : i < 24
  · simp [cutK, hi, List.getD, List.getElem?_eq_getElem (show i < ks.length by omega)]
  · rw [List.getElem?_eq_none (by rw [cutK_len]; omega), List.getElem?_eq_none (by omega)]
theorem cutK_get (ks : List (BitVec 8)) (nc : Nat) {j : Nat} (hj : j < 24) : (cutK ks nc j).getD j 0#8 = ks.getD j 0#8 := by
  simp [cutK, List.getD, hj]
theorem cutK_succ (ks : List (BitVec 8)) (nc j : Nat) (hj : j < 24) (z : BitVec 8) (hz : z = if j < nc then BitVec.ofNat 8 ((ks.getD j 0#8).toNat % 4) else 0#8) : (cutK ks nc j).set j z = cutK ks nc (j + 1) := by
  subst hz
  apply List.ext_getElem?
  intro i
  rw [List.getElem?_set]
  by_cases hi : i < 24
  · by_cases e : j = i
    · subst e; simp [cutK, hi]
    · simp only [if_neg e, cutK, List.getElem?_map, List.getElem?_range hi, Option.map_some]
      congr 1
      by_cases h1 : i < j
      · rw [if_pos h1, if_pos (show i < j + 1 by omega)]
      · rw [if_neg h1, if_neg (show ¬ i < j + 1 by omega)]
  · simp [cutK, hi]
    intro h; omega
theorem mod4_8 (x : BitVec 8) : (x.toNat : Int).tmod 4 = ((BitVec.ofNat 8 (x.toNat % 4)).toNat : Int) := by
  rw [BitVec.toNat_ofNat, Int.tmod_eq_emod_of_nonneg (by omega)]; omega
set_option maxHeartbeats 1000000 in
set_option maxRecDepth 100000 in
theorem cut_c (L : List Value) (nsec : Nat) (lens : List Nat) (nsig nfl : Nat) (A : Option Addr) (c : Nat) (B1 : Option Addr) (c1 : Nat) (B3 : Option Addr) (c3 : Nat) (ve : Value) (ns ne nc : Nat) (b : Btn) (w : World) (hns : min nsig 12 = ns) (hne : min lens.length 12 = ne) (hnc : min nsec 24 = nc)
    (hb : b.keys.length = 24) (hL : LayN w L nsec lens nsig nfl A c B1 c1 B3 c3 ve) :
    Calls Try.prog 19 #[.agg L.toArray, .agg (btnV b).toArray] w fun e w' => e = .returned (.agg (btnV (cutB b ns ne nc)).toArray) ∧ Below w.heap.size w w' := by
  obtain ⟨W0, hW0⟩ : ∃ W0, ((w.alloc (.cells L.toArray 29)).alloc (.cells (btnV b).toArray 33)).alloc (.cells zB 33) = W0 := ⟨_, rfl⟩
  have B0 : Below w.heap.size w W0 := by rw [← hW0]; exact below_step (below_step (kbelow_new _ _) (kbelow_new _ _)) (kbelow_new _ _)
  have VL : W0.heap[w.heap.size]? = some (.cells L.toArray 29 (0, 0)) := by rw [← hW0]; exact old_at (old_at (new_at rfl _) _) _
  have VB : W0.heap[w.heap.size + 1]? = some (.cells (btnV b).toArray 33 (0, 0)) := by rw [← hW0]; exact old_at (new_at (by simp) _) _
  have VZ : W0.heap[w.heap.size + 1 + 1]? = some (.cells zB 33 (0, 0)) := by rw [← hW0]; exact new_at (by simp) _
  have l1 : ns ≤ 12 := by omega
  have l2 : ne ≤ 12 := by omega
  have l3 : nc ≤ 24 := by omega
  obtain ⟨Ae, ce, rfl, _⟩ := hL.ea
  have x0 := cell_list VL hL.sec
  have x1 := cell_list VL hL.sig
  have x2 := cell_list VL hL.ex
  have q1 : min (nsig : Int) 12 = (ns : Int) := m12 hns
  have q2 : min (lens.length : Int) 12 = (ne : Int) := m12 hne
  have q3 : min (nsec : Int) 24 = (nc : Int) := m24 hnc
  have y0 := cell_list VB (i := 0) rfl
  have f0 := free_at VB 0
  clear hns hne hnc
  go_enter Try.func19, Try.ntmps19
  go_upto_region 1 with (fail)
  clear hW0
  obtain ⟨z0, hz0⟩ : ∃ z : BitVec 32, z = b.ent &&& mask ns := ⟨_, rfl⟩
  obtain ⟨z1, hz1⟩ : ∃ z : BitVec 32, z = b.exi &&& mask ne := ⟨_, rfl⟩
  obtain ⟨z2, hz2⟩ : ∃ z : BitVec 32, z = b.via &&& mask nc := ⟨_, rfl⟩
  have m0 : Go.bits .and .u32 (b.ent.toNat : Int) ((2 ^ ns - 1) % 4294967296) = (z0.toNat : Int) := by rw [hz0]; exact and_mask b.ent ns (by omega)
  have m1 : Go.bits .and .u32 (b.exi.toNat : Int) ((2 ^ ne - 1) % 4294967296) = (z1.toNat : Int) := by rw [hz1]; exact and_mask b.exi ne (by omega)
  have m2 : Go.bits .and .u32 (b.via.toNat : Int) ((2 ^ nc - 1) % 4294967296) = (z2.toNat : Int) := by rw [hz2]; exact and_mask b.via nc (by omega)
  have HC : Hid (cutB b ns ne nc = ⟨z0, z1, z2, b.can, b.aut, cutK b.keys nc 24⟩) := Lib.hid (by rw [hz0, hz1, hz2]; rfl)
  clear hz0 hz1 hz2
  have s0 := set_at VB 0 (.int .u32 ((z0).toNat : Int))
  rw [btn_set0 b (z0)] at s0
  have VL1 := set_far (p := ⟨w.heap.size + 1, 0, none⟩) VL (by simp only; omega) (.int .u32 ((z0).toNat : Int))
  have VZ1 := set_far (p := ⟨w.heap.size + 1, 0, none⟩) VZ (by simp only; omega) (.int .u32 ((z0).toNat : Int))
  have B1' := B0.setCell (p := ⟨w.heap.size + 1, 0, none⟩) (by simp only; omega) (.int .u32 ((z0).toNat : Int))
  go_upto_region 3 with (fail)
  clear VB VL VZ B0 x0 x1 x2 y0 f0 m0
  generalize W0.setCell ⟨w.heap.size + 1, 0, none⟩ (.int .u32 ((z0).toNat : Int)) = W1 at *
  have x0 := cell_list VL1 hL.sec
  have x2 := cell_list VL1 hL.ex
  have y1 := cell_list s0 (i := 1) rfl
  have f1 := free_at s0 1
  have s1 := set_at s0 1 (.int .u32 ((z1).toNat : Int))
  rw [btn_set1 _ (z1)] at s1
  have VL2 := set_far (p := ⟨w.heap.size + 1, 1, none⟩) VL1 (by simp only; omega) (.int .u32 ((z1).toNat : Int))
  have VZ2 := set_far (p := ⟨w.heap.size + 1, 1, none⟩) VZ1 (by simp only; omega) (.int .u32 ((z1).toNat : Int))
  have B2' := B1'.setCell (p := ⟨w.heap.size + 1, 1, none⟩) (by simp only; omega) (.int .u32 ((z1).toNat : Int))
  go_upto_region 4 with (fail)
  clear s0 VL1 VZ1 B1' x0 x2 y1 f1 m1
  generalize W1.setCell ⟨w.heap.size + 1, 1, none⟩ (.int .u32 ((z1).toNat : Int)) = W2 at *
  have y2 := cell_list s1 (i := 2) rfl
  have f2 := free_at s1 2
  have s2 := set_at s1 2 (.int .u32 ((z2).toNat : Int))
  rw [btn_set2 _ (z2)] at s2
  have VZ3 := set_far (p := ⟨w.heap.size + 1, 2, none⟩) VZ2 (by simp only; omega) (.int .u32 ((z2).toNat : Int))
  have B3' := B2'.setCell (p := ⟨w.heap.size + 1, 2, none⟩) (by simp only; omega) (.int .u32 ((z2).toNat : Int))
  go_upto_region 5 with (fail)
  clear s1 VL2 VZ2 B2' y2 f2 m2
  generalize W2.setCell ⟨w.heap.size + 1, 2, none⟩ (.int .u32 ((z2).toNat : Int)) = W3 at *
  have HI0 : W3.heap[w.heap.size + 1]? = some (.cells (btnV ⟨z0, z1, z2, b.can, b.aut, cutK b.keys nc 0⟩).toArray 33 (0, 0)) := by rw [cutK_zero _ _ hb]; exact s2
  clear s2
  have Hb := Lib.hid hb
  clear hb q1 q2 q3
  go_wp2
  go_loopw [6] (fun i wr => ∃ k : Nat, k ≤ 24 ∧ i = .int .i64 k ∧ wr.heap[w.heap.size + 1]? = some (.cells (btnV ⟨z0, z1, z2, b.can, b.aut, cutK b.keys nc k⟩).toArray 33 (0, 0)) ∧ wr.heap[w.heap.size + 1 + 1]? = some (.cells zB 33 (0, 0)) ∧ Below w.heap.size w wr) (fun i _ => 24 - (intOf i).toNat)
  case atStart => exact ⟨0, Nat.zero_le _, rfl, HI0, VZ3, B3'⟩
  case round =>
    clear HI0 VZ3 B3'
    obtain ⟨k, hk, rfl, h1, h2, hB⟩ := hrel
    by_cases hlt : k < 24
    · have i1 : (k : Int) < 24 := by omega
      have x0 := cell_list h1 (btnV_key (b := ⟨z0, z1, z2, b.can, b.aut, cutK b.keys nc k⟩) (i := k) (by simp only [cutK_len]; exact hlt))
      simp only [cutK_get b.keys nc hlt] at x0
      have f0 := free_at h1 (5 + k)
      have m4 := mod4_8 (b.keys.getD k 0#8)
      obtain ⟨z, hz⟩ : ∃ z : BitVec 8, z = BitVec.ofNat 8 ((b.keys.getD k 0#8).toNat % 4) := ⟨_, rfl⟩
      rw [← hz] at m4
      have s1 := set_at h1 (5 + k) (.int .u8 (z.toNat : Int))
      rw [btn_setk _ k z] at s1
      have t1 := set_far (p := ⟨w.heap.size + 1, 5 + k, none⟩) h2 (by simp only; omega) (.int .u8 (z.toNat : Int))
      have B1 := hB.setCell (p := ⟨w.heap.size + 1, 5 + k, none⟩) (by simp only; omega) (.int .u8 (z.toNat : Int))
      have HZ := Lib.hid hz
      clear hz
      generalize ((b.keys.getD k 0#8).toNat : Int) = y at x0 m4
      by_cases hkn : k < nc
      · have c1 : decide ((nc : Int) ≤ (k : Int)) = false := decide_eq_false (by omega)
        simp only at s1
        rw [cutK_succ b.keys nc k hlt z (by rw [if_pos hkn]; exact HZ.out)] at s1
        have S1 := Lib.hid (And.intro s1 (And.intro t1 B1))
        clear s1 t1 B1 h1 h2 hB
        go_wp2
        go_roundw
        case rel => exact ⟨k + 1, by omega, by go_num, S1.out.1, S1.out.2.1, S1.out.2.2⟩
        case measure => simp [intOf]; omega
      · have c1 : decide ((nc : Int) ≤ (k : Int)) = true := decide_eq_true (by omega)
        have x1 := cell_list s1 (btnV_key (b := { (⟨z0, z1, z2, b.can, b.aut, cutK b.keys nc k⟩ : Btn) with keys := (cutK b.keys nc k).set k z }) (i := k) (by simp only [List.length_set, cutK_len]; exact hlt))
        have f1 := free_at s1 (5 + k)
        have s2 := set_at s1 (5 + k) (.int .u8 ((0#8).toNat : Int))
        rw [btn_setk _ k 0#8] at s2
        simp only [List.set_set] at s2
        rw [cutK_succ b.keys nc k hlt 0#8 (by rw [if_neg hkn])] at s2
        have t2 := set_far (p := ⟨w.heap.size + 1, 5 + k, none⟩) t1 (by simp only; omega) (.int .u8 ((0#8).toNat : Int))
        have B2 := B1.setCell (p := ⟨w.heap.size + 1, 5 + k, none⟩) (by simp only; omega) (.int .u8 ((0#8).toNat : Int))
        have S2 := Lib.hid (And.intro s2 (And.intro t2 B2))
        clear s2 t2 B2 s1 t1 B1 h1 h2 hB
        generalize (((({ (⟨z0, z1, z2, b.can, b.aut, cutK b.keys nc k⟩ : Btn) with keys := (cutK b.keys nc k).set k z } : Btn).keys.getD k 0#8).toNat : Nat) : Int) = y1 at x1
        go_wp2
        go_roundw
        case rel => exact ⟨k + 1, by omega, by go_num, S2.out.1, S2.out.2.1, S2.out.2.2⟩
        case measure => simp [intOf]; omega
    · obtain rfl : k = 24 := by omega
      rw [← HC.out] at h1
      have RB := range_of h1
      have hlen : (cutB b ns ne nc).keys.length = 24 := cutK_len _ _ _
      have szB := btn_size hlen
      have th := there_of h2 0 (btnV (cutB b ns ne nc)).toArray.size (by rw [List.size_toArray, btnV_len hlen]; decide)
      have szB2 : (Try.prog.info? 33).map (·.size) = some (btnV (cutB b ns ne nc)).toArray.size := by simpa using szB
      have k3 : (wr.setCells (w.heap.size + 1 + 1) 0 (btnV (cutB b ns ne nc)).toArray.toList).heap[w.heap.size + 1 + 1]? = some (.cells (btnV (cutB b ns ne nc)).toArray 33 (0, 0)) := by rw [setCells_at _ _ h2, setL_all (by rw [List.toList_toArray, btnV_len hlen]; rfl)]
      have k4 : Below w.heap.size w (wr.setCells (w.heap.size + 1 + 1) 0 (btnV (cutB b ns ne nc)).toArray.toList) := below_setCells (by omega) _ _ hB
      have K := Lib.hid (And.intro k3 k4)
      clear k3 k4 h1 h2 hB
      go_wp2_with (first
        | refine wpList_load_g (by rfl) 33 (.tmp 3) (by rfl) (w.heap.size + 1) 0 (by rfl) (btnV (cutB b ns ne nc)) _ RB Try.underlying33 rfl szB ?_
        | (refine wpList_store_mid rfl 33 (.tmp 4) (.tmp 59) (by rfl) (w.heap.size + 1 + 1) 0 (btnV (cutB b ns ne nc)).toArray (by rfl) (by rfl) th szB2 (all_one (btnV_one _)) ?_; generalize hWs : wr.setCells (w.heap.size + 1 + 1) 0 (btnV (cutB b ns ne nc)).toArray.toList = Ws at *)
        | fail)
      exact bodyPost_ret (res_mid (t := 4) (M := btnV (cutB b ns ne nc)) Try.underlying33 rfl rfl szB rfl K.out.1) rfl ⟨rfl, K.out.2⟩
end Go.Proofs.Ytdnimdpnejjjlaa
