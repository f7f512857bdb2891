/- Keys: the contract of Dead. Nothing that was there is turned. -/
import Derived.Test.YtioggdiicgfoaaaKeyH
namespace Go.Proofs.Ytioggdiicgfoaaa
open Go.RowKit Rf Mem KM
attribute [local go_sem ↓] run_max2 run_min2
/-- all down, the first k keys alone -/
def deadK (k : Nat) : Btn := ⟨BitVec.allOnes 32, BitVec.allOnes 32, BitVec.allOnes 32, true, true, List.replicate k 3#8 ++ List.replicate (24 - k) 0#8⟩
theorem deadK_len {k : Nat} (h : k ≤ 24) : (deadK k).keys.length = 24 := by simp [deadK]; omega
theorem deadK_done : deadK 24 = deadB := rfl
theorem deadK_succ {k : Nat} (h : k < 24) : (btnV (deadK k)).toArray.setIfInBounds (5 + k) (.int .u8 3) = (btnV (deadK (k + 1))).toArray := by
  apply Array.ext'
  rw [Array.toList_setIfInBounds]
  simp only [List.toList_toArray]
  have : k = 0 ∨ k = 1 ∨ k = 2 ∨ k = 3 ∨ k = 4 ∨ k = 5 ∨ k = 6 ∨ k = 7 ∨ k = 8 ∨ k = 9 ∨ k = 10 ∨ k = 11 ∨ k = 12 ∨ k = 13 ∨ k = 14 ∨ k = 15 ∨ k = 16 ∨ k = 17 ∨ k = 18 ∨ k = 19 ∨ k = 20 ∨ k = 21 ∨ k = 22 ∨ k = 23 := by omega
  rcases this with rfl | rfl | rfl | rfl | rfl | rfl | rfl | rfl | rfl | rfl | rfl | rfl | rfl | rfl | rfl | rfl | rfl | rfl | rfl | rfl | rfl | rfl | rfl | rfl <;> rfl
theorem wpList_build5 {w : World} {ops : Array Oper} {rest : List Oper} {o : Oper} {a : Act} {Q : Exit → Act → World → Prop} (hgd : o.guard = none) (T : TypeId) (v0 v1 v2 v3 v4 : Value) (ho : o.op = .build T #[(0, .const v0), (1, .const v1), (2, .const v2), (3, .const v3), (4, .const v4)]) (cs : Value)
    (hr : (Instr.build T #[(0, v0), (1, v1), (2, v2), (3, v3), (4, v4)]).run Try.prog w = .ok cs w) (h : wpList Try.prog ops Q rest (a.put o.dst cs) w) : wpList Try.prog ops Q (o :: rest) a w := by
  refine wpList_plain hgd fun K hK => ?_
  unfold Oper.wp execOp
  simp [ho, Act.eval, hr]
  exact hK _ _ h
theorem build_dead (w : World) : (Instr.build 33 #[(0, .int .u32 4294967295), (1, .int .u32 4294967295), (2, .int .u32 4294967295), (3, .bool true), (4, .bool true)]).run Try.prog w = .ok (.agg (btnV (deadK 0)).toArray) w :=
  run_build w _ _ _ (by kernel_rfl)
set_option maxRecDepth 100000 in
theorem Dead_c (w : World) : Calls Try.prog 14 #[] w fun e w' => e = .returned (.agg (memV deadB deadB).toArray) ∧ Below w.heap.size w w' := by
  have G0 : (w.alloc (.cells zMem 35)).heap[w.heap.size]? = some (.cells zMem 35 (0, 0)) := new_at rfl _
  have b0 := kbelow_new w (.cells zMem 35)
  go_enter Try.func14, Try.ntmps14
  go_upto_region 1 with (fail)
  have s0 : (w.alloc (.cells zMem 35)).heap.size = w.heap.size + 1 := by simp
  generalize w.alloc (.cells zMem 35) = W0 at *
  have hbd := build_dead W0
  have G1 : (W0.alloc (.cells zB 33)).heap[w.heap.size + 1]? = some (.cells zB 33 (0, 0)) := new_at s0 _
  have g0 := old_at G0 (.cells zB 33)
  have b1 := below_step b0 (kbelow_new W0 (.cells zB 33))
  have szB : (Try.prog.info? 33).map (·.size) = some (btnV (deadK 0)).toArray.size := by kernel_rfl
  have oneB : (btnV (deadK 0)).toArray.all (·.oneCell') = true := all_one (btnV_one _)
  have th := there_of G1 0 (btnV (deadK 0)).toArray.size (by decide)
  clear G0
  go_upto_region 2 with (first
    | refine wpList_build5 rfl 33 _ _ _ _ _ (by rfl) _ hbd ?_
    | refine wpList_store_mid rfl 33 (.tmp 1) (.tmp 3) (by rfl) (w.heap.size + 1) 0 (btnV (deadK 0)).toArray (by rfl) (by rfl) th szB oneB ?_)
  have k1 : ((W0.alloc (.cells zB 33)).setCells (w.heap.size + 1) 0 (btnV (deadK 0))).heap[w.heap.size + 1]? = some (.cells (btnV (deadK 0)).toArray 33 (0, 0)) := by rw [setCells_at _ _ G1, setL_all (by rfl)]
  have k0 : ((W0.alloc (.cells zB 33)).setCells (w.heap.size + 1) 0 (btnV (deadK 0))).heap[w.heap.size]? = some (.cells zMem 35 (0, 0)) := (setCells_far _ _ (by omega)).trans g0
  have b2 := below_setCells (g := w.heap.size + 1) (by omega) (btnV (deadK 0)) 0 b1
  clear g0 G1 b1 th hbd
  generalize (W0.alloc (.cells zB 33)).setCells (w.heap.size + 1) 0 (btnV (deadK 0)) = W1 at *
  clear b0 s0
  go_wp2
  go_loopw [4] (fun i wr => ∃ k : Nat, k ≤ 24 ∧ i = .int .i64 k ∧ wr.heap[w.heap.size + 1]? = some (.cells (btnV (deadK k)).toArray 33 (0, 0)) ∧ wr.heap[w.heap.size]? = some (.cells zMem 35 (0, 0)) ∧ Below w.heap.size w wr) (fun i _ => 24 - (intOf i).toNat)
  case atStart => exact ⟨0, Nat.zero_le _, rfl, k1, k0, b2⟩
  case round =>
    obtain ⟨k, hk, rfl, h1, h0, hb⟩ := hrel
    by_cases hlt : k < 24
    · have i1 : (k : Int) < 24 := by omega
      have hset := set_at h1 (5 + k) (.int .u8 3)
      have f0 := free_at h1 (5 + k)
      have c0 := cell_list h1 (btnV_key (b := deadK k) (i := k) (by rw [deadK_len hk]; exact hlt))
      rw [deadK_succ hlt] at hset
      have h0' := set_far (p := ⟨w.heap.size + 1, 5 + k, none⟩) h0 (by simp only; omega) (.int .u8 3)
      have hb' := hb.setCell (p := ⟨w.heap.size + 1, 5 + k, none⟩) (by simp only; omega) (.int .u8 3)
      go_wp2
      go_roundw
      case rel => exact ⟨k + 1, by omega, by go_num, hset, h0', hb'⟩
      case measure => simp [intOf]; omega
    · obtain rfl : k = 24 := by omega
      rw [deadK_done] at h1
      have RB := range_of h1
      have szD : (Try.prog.info? 33).map (·.size) = some (btnV deadB).length := by kernel_rfl
      have hbm := build_mem (btnV deadB) (btnV deadB) rfl rfl wr
      have thM := there_of h0 0 (memV deadB deadB).toArray.size (by decide)
      have szM : (Try.prog.info? 35).map (·.size) = some (memV deadB deadB).toArray.size := by kernel_rfl
      have szM2 : (Try.prog.info? 35).map (·.size) = some (memV deadB deadB).length := by kernel_rfl
      have oneM : (memV deadB deadB).toArray.all (·.oneCell') = true := all_one fun v hv => by
        rcases List.mem_append.1 hv with h | h
        · exact btnV_one deadB v h
        · exact btnV_one deadB v h
      have k3 : (wr.setCells w.heap.size 0 (memV deadB deadB).toArray.toList).heap[w.heap.size]? = some (.cells (memV deadB deadB).toArray 35 (0, 0)) := by rw [setCells_at _ _ h0, setL_all (by rfl)]
      have k4 : Below w.heap.size w (wr.setCells w.heap.size 0 (memV deadB deadB).toArray.toList) := below_setCells (by omega) _ _ hb
      have K34 := Lib.hid (And.intro k3 k4)
      clear k3 k4 h0 h1
      go_wp2_with (first
        | refine wpList_load_g (by rfl) 33 (.tmp 1) (by rfl) (w.heap.size + 1) 0 (by rfl) (btnV deadB) _ RB Try.underlying33 rfl szD ?_
        | refine wpList_build2 rfl 35 (.tmp 11) (.tmp 12) (by rfl) _ _ (.agg (memV deadB deadB).toArray) (by rfl) (by rfl) hbm ?_
        | (refine wpList_store_mid rfl 35 (.tmp 0) (.tmp 13) (by rfl) w.heap.size 0 (memV deadB deadB).toArray (by rfl) (by rfl) thM szM oneM ?_; generalize hWs : wr.setCells w.heap.size 0 (memV deadB deadB).toArray.toList = Ws at *))
      exact bodyPost_ret (res_mid (t := 0) (M := memV deadB deadB) Try.underlying35 rfl rfl szM2 rfl K34.out.1) rfl ⟨rfl, K34.out.2⟩
end Go.Proofs.Ytioggdiicgfoaaa
