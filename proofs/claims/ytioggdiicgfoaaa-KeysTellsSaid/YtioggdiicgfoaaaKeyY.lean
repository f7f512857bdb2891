/- Keys: the document's Dead, rows. Nothing that was there is turned. -/
import Derived.Test.YtioggdiicgfoaaaKeyDoc
namespace Go.Proofs.Ytioggdiicgfoaaa
open Go.RowKit Rf Mem KM Bits Bv Str
attribute [local go_sem ↓] run_max2 run_min2
set_option maxHeartbeats 1000000 in
set_option maxRecDepth 100000 in
theorem refall_c (w : World) : Calls Try.prog 40 #[] w fun e w' => e = .returned (.agg (btnV deadB).toArray) ∧ Below w.heap.size w w' := by
  have G0 : (w.alloc (.cells zB 33)).heap[w.heap.size]? = some (.cells zB 33 (0, 0)) := new_at rfl _
  have b0 := kbelow_new w (.cells zB 33)
  go_enter Try.func40, Try.ntmps40
  go_upto_region 1 with (fail)
  have s0 : (w.alloc (.cells zB 33)).heap.size = w.heap.size + 1 := by simp
  generalize w.alloc (.cells zB 33) = W0 at *
  have hbd := build_dead W0
  have G1 : (W0.alloc (.cells zB 33)).heap[w.heap.size + 1]? = some (.cells zB 33 (0, 0)) := new_at s0 _
  have g0 := old_at G0 (.cells zB 33)
  have b1 := below_step b0 (kbelow_new W0 (.cells zB 33))
  have szB : (Try.prog.info? 33).map (·.size) = some (btnV (deadK 0)).toArray.size := by kernel_rfl
  have oneB : (btnV (deadK 0)).toArray.all (·.oneCell') = true := all_one (btnV_one _)
  have th := there_of G1 0 (btnV (deadK 0)).toArray.size (by decide)
  clear G0
  go_upto_region 2 with (first
    | refine wpList_build5 rfl 33 _ _ _ _ _ (by rfl) _ hbd ?_
    | refine wpList_store_mid rfl 33 (.tmp 1) (.tmp 3) (by rfl) (w.heap.size + 1) 0 (btnV (deadK 0)).toArray (by rfl) (by rfl) th szB oneB ?_)
  have k1 : ((W0.alloc (.cells zB 33)).setCells (w.heap.size + 1) 0 (btnV (deadK 0))).heap[w.heap.size + 1]? = some (.cells (btnV (deadK 0)).toArray 33 (0, 0)) := by rw [setCells_at _ _ G1, setL_all (by rfl)]
  have k0 : ((W0.alloc (.cells zB 33)).setCells (w.heap.size + 1) 0 (btnV (deadK 0))).heap[w.heap.size]? = some (.cells zB 33 (0, 0)) := (setCells_far _ _ (by omega)).trans g0
  have b2 := below_setCells (g := w.heap.size + 1) (by omega) (btnV (deadK 0)) 0 b1
  clear g0 G1 b1 th hbd
  generalize (W0.alloc (.cells zB 33)).setCells (w.heap.size + 1) 0 (btnV (deadK 0)) = W1 at *
  clear b0 s0
  go_wp2
  go_loopw [2] (fun i wr => ∃ k : Nat, k ≤ 24 ∧ i = .int .i64 k ∧ wr.heap[w.heap.size + 1]? = some (.cells (btnV (deadK k)).toArray 33 (0, 0)) ∧ wr.heap[w.heap.size]? = some (.cells zB 33 (0, 0)) ∧ Below w.heap.size w wr) (fun i _ => 24 - (intOf i).toNat)
  case atStart => exact ⟨0, Nat.zero_le _, rfl, k1, k0, b2⟩
  case round =>
    obtain ⟨k, hk, rfl, h1, h0, hb⟩ := hrel
    by_cases hlt : k < 24
    · have i1 : (k : Int) < 24 := by omega
      have hset := set_at h1 (5 + k) (.int .u8 3)
      have f0 := free_at h1 (5 + k)
      have c0 := cell_list h1 (btnV_key (b := deadK k) (i := k) (by rw [deadK_len hk]; exact hlt))
      rw [deadK_succ hlt] at hset
      have h0' := set_far (p := ⟨w.heap.size + 1, 5 + k, none⟩) h0 (by simp only; omega) (.int .u8 3)
      have hb' := hb.setCell (p := ⟨w.heap.size + 1, 5 + k, none⟩) (by simp only; omega) (.int .u8 3)
      go_wp2
      go_roundw
      case rel => exact ⟨k + 1, by omega, by go_num, hset, h0', hb'⟩
      case measure => simp [intOf]; omega
    · obtain rfl : k = 24 := by omega
      rw [deadK_done] at h1
      have RB := range_of h1
      have szD : (Try.prog.info? 33).map (·.size) = some (btnV deadB).length := by kernel_rfl
      have szD2 : (Try.prog.info? 33).map (·.size) = some (btnV deadB).toArray.size := by kernel_rfl
      have thM := there_of h0 0 (btnV deadB).toArray.size (by decide)
      have oneM : (btnV deadB).toArray.all (·.oneCell') = true := all_one (btnV_one deadB)
      have k3 : (wr.setCells w.heap.size 0 (btnV deadB).toArray.toList).heap[w.heap.size]? = some (.cells (btnV deadB).toArray 33 (0, 0)) := by rw [setCells_at _ _ h0, setL_all (by rfl)]
      have k4 : Below w.heap.size w (wr.setCells w.heap.size 0 (btnV deadB).toArray.toList) := below_setCells (by omega) _ _ hb
      have K34 := Lib.hid (And.intro k3 k4)
      clear k3 k4 h0 h1
      go_wp2_with (first
        | refine wpList_load_g (by rfl) 33 (.tmp 1) (by rfl) (w.heap.size + 1) 0 (by rfl) (btnV deadB) _ RB Try.underlying33 rfl szD ?_
        | (refine wpList_store_mid rfl 33 (.tmp 0) (.tmp 11) (by rfl) w.heap.size 0 (btnV deadB).toArray (by rfl) (by rfl) thM szD2 oneM ?_; generalize hWs : wr.setCells w.heap.size 0 (btnV deadB).toArray.toList = Ws at *))
      exact bodyPost_ret (res_mid (t := 0) (M := btnV deadB) Try.underlying33 rfl rfl szD rfl K34.out.1) rfl ⟨rfl, K34.out.2⟩
set_option maxRecDepth 100000 in
theorem refDead_c (w : World) : Calls Try.prog 15 #[] w fun e w' => e = .returned (.agg (memV deadB deadB).toArray) ∧ Below w.heap.size w w' := by
  have G0 : (w.alloc (.cells zMem 35)).heap[w.heap.size]? = some (.cells zMem 35 (0, 0)) := new_at rfl _
  have b0 := kbelow_new w (.cells zMem 35)
  go_enter Try.func15, Try.ntmps15
  go_upto_region 1 with (fail)
  generalize w.alloc (.cells zMem 35) = W0 at *
  go_wp2_with fail
  refine (refall_c _).mono ?_
  rintro e W1 ⟨rfl, b1⟩
  go_wp2_with fail
  refine (refall_c _).mono ?_
  rintro e W2 ⟨rfl, b2⟩
  have h0 := var_later (var_later G0 b1) b2
  have hb := below_step (below_step b0 b1) b2
  clear G0 b0 b1 b2
  have hbm := build_mem (btnV deadB) (btnV deadB) rfl rfl W2
  have thM := there_of h0 0 (memV deadB deadB).toArray.size (by decide)
  have szM : (Try.prog.info? 35).map (·.size) = some (memV deadB deadB).toArray.size := by kernel_rfl
  have szM2 : (Try.prog.info? 35).map (·.size) = some (memV deadB deadB).length := by kernel_rfl
  have oneM : (memV deadB deadB).toArray.all (·.oneCell') = true := all_one fun v hv => by
    rcases List.mem_append.1 hv with h | h
    · exact btnV_one deadB v h
    · exact btnV_one deadB v h
  have k3 : (W2.setCells w.heap.size 0 (memV deadB deadB).toArray.toList).heap[w.heap.size]? = some (.cells (memV deadB deadB).toArray 35 (0, 0)) := by rw [setCells_at _ _ h0, setL_all (by rfl)]
  have k4 : Below w.heap.size w (W2.setCells w.heap.size 0 (memV deadB deadB).toArray.toList) := below_setCells (by omega) _ _ hb
  have K34 := Lib.hid (And.intro k3 k4)
  clear k3 k4 h0
  go_wp2_with (first
    | refine wpList_build2 rfl 35 (.tmp 1) (.tmp 2) (by rfl) _ _ (.agg (memV deadB deadB).toArray) (by rfl) (by rfl) hbm ?_
    | (refine wpList_store_mid rfl 35 (.tmp 0) (.tmp 3) (by rfl) w.heap.size 0 (memV deadB deadB).toArray (by rfl) (by rfl) thM szM oneM ?_; generalize hWs : W2.setCells w.heap.size 0 (memV deadB deadB).toArray.toList = Ws at *)
    | fail)
  exact bodyPost_ret (res_mid (t := 0) (M := memV deadB deadB) Try.underlying35 rfl rfl szM2 rfl K34.out.1) rfl ⟨rfl, K34.out.2⟩
theorem front_bit (a b c : BitVec 32) (j : Nat) : (Go.bits .and .u32 (Go.bits .andNot .u32 (Go.bits .and .u32 (a.toNat : Int) (b.toNat : Int)) (c.toNat : Int) / 2 ^ j) 1 == 1) = (front a b c).getLsbD j := by
  have e1 : Go.bits .and .u32 (a.toNat : Int) (b.toNat : Int) = ((a &&& b).toNat : Int) := Bv.bits_and .u32 rfl a b
  have e2 : Go.bits .andNot .u32 ((a &&& b).toNat : Int) (c.toNat : Int) = (((a &&& b) &&& ~~~ c).toNat : Int) := Bv.bits_andNot .u32 rfl (a &&& b) c
  rw [e1, e2]
  exact low32f _ _
set_option maxHeartbeats 1000000 in
set_option maxRecDepth 100000 in
theorem refrows_c (kd : Int) (p q r : BitVec 32) (n : Nat) (w : World) (hn : n ≤ 24) :
    Calls Try.prog 30 #[.int .u8 kd, .int .u32 p.toNat, .int .u32 q.toNat, .int .u32 r.toNat, .int .i64 n] w fun e w' => Below w.heap.size w w' ∧ ∃ v, e = .returned v ∧ w'.ownsRow w.heap.size 57 3 v (rowP kd (front p q r) n).length (prs (rowP kd (front p q r) n)) := by
  obtain ⟨i0, hi, hz0, hz1, hz2⟩ := info_parts info_press
  have HF := Lib.hid (front_bit p q r)
  generalize hfr : front p q r = z at *
  clear hfr
  generalize (p.toNat : Int) = p' at *
  generalize (q.toNat : Int) = q' at *
  generalize (r.toNat : Int) = r' at *
  have O0 := own_nil w w.heap.size 57 3
  go_enter Try.func30, Try.ntmps30
  go_wp2
  go_loopw [11, 12] (fun out i wr => ∃ k : Nat, k ≤ n ∧ i = .int .i64 k ∧ Below w.heap.size w wr ∧ wr.ownsRow w.heap.size 57 3 out (rowP kd z k).length (prs (rowP kd z k))) (fun _ i _ => n - (intOf i).toNat)
  case atStart => exact ⟨0, Nat.zero_le _, rfl, Below.refl _ _, by simpa [prs, rowP] using O0⟩
  case round =>
    obtain ⟨k, hk, rfl, hb, ho⟩ := hrel
    clear O0
    have hle := rowP_le kd z k
    obtain ⟨l0, hl0⟩ : ∃ l0, rowP kd z k = l0 := ⟨_, rfl⟩
    rw [hl0] at ho hle
    by_cases hlt : k < n
    · have i1 : (k : Int) < (n : Int) := by omega
      have i2 : (k : Int) ≤ 24 := by omega
      have hf := HF.out k
      have hs := rowP_succ kd z k
      rw [hl0] at hs
      obtain ⟨A0, c0, rfl, _, _⟩ := (sliceAt_of_own ho).form
      by_cases hbit : z.getLsbD k = true
      · rw [hbit] at hf
        rw [if_pos hbit] at hs
        have HS := Lib.hid hs
        clear hs hbit hl0
        have hown := own_later (w' := wr.alloc (.cells #[.int .u8 kd, .int .i64 k, .int .i64 0] 57)) ho (fun q hq => Below.heap_alloc _ _ _ (own_base ho hq).2)
        have hsrc := sliceAt_blk3 (w := wr.alloc (.cells #[.int .u8 kd, .int .i64 k, .int .i64 0] 57)) (cs := [.int .u8 kd, .int .i64 k, .int .i64 0]) (new_at rfl _) rfl
        have hbs : w.heap.size ≤ wr.heap.size := hb.size
        go_wp2_with (at_builtin; go_loud (refine wpList_append_src (by rfl) (.tmp 28) (.tmp 32) _ (by rfl) w.heap.size 57 i0 _ 3 24 Try.underlying42 hi hz0 hz1 hz2 rfl (by omega) (.slice A0 l0.length c0) l0.length (prs l0) (by rfl) hown (.slice (some ⟨wr.heap.size, 0, none⟩) 1 1) 1 [.int .u8 kd, .int .i64 k, .int .i64 0] (by rfl) hsrc (by simp [Value.oneCell']) (by simp only [maxLen]; omega) (by omega) (by simp; omega) ?_; intro v1 w1 ho1 hg1 hw1; obtain ⟨A1, k1, rfl, p1, p2⟩ := (sliceAt_of_own ho1).form))
        have hb3 := below_own (below_step hb (kbelow_new wr (.cells #[.int .u8 kd, .int .i64 k, .int .i64 0] 57))) hg1 (by simp; omega) (fun q hq => (own_base hown hq).1)
        go_roundw
        case rel => exact ⟨k + 1, by omega, by go_num, hb3, by rw [HS.out, prs_succ, List.length_append]; exact ho1⟩
        case measure => simp [intOf]; omega
      · have hbf : z.getLsbD k = false := by simpa using hbit
        rw [hbf] at hf
        rw [if_neg hbit, List.append_nil] at hs
        have HS := Lib.hid hs
        clear hs hbit hbf hl0
        go_wp2
        go_roundw
        case rel => exact ⟨k + 1, by omega, by go_num, hb, by rw [HS.out]; exact ho⟩
        case measure => simp [intOf]; omega
    · obtain rfl : k = n := by omega
      have HL0 := Lib.hid hl0
      clear hl0
      obtain ⟨A, c, rfl, _, _⟩ := (sliceAt_of_own ho).form
      go_wp2
      go_ret
      exact ⟨hb, _, rfl, by rw [HL0.out]; exact ho⟩
end Go.Proofs.Ytioggdiicgfoaaa
