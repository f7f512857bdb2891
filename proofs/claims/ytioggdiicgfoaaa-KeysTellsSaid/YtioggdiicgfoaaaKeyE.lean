/- Keys: the contract of with. Nothing that was there is turned. -/
import Derived.Test.YtioggdiicgfoaaaKeySet
namespace Go.Proofs.Ytioggdiicgfoaaa
open Go.RowKit Rf Mem KM
attribute [local go_sem ↓] run_max2 run_min2
abbrev zB : Array Value := #[.int .u32 0, .int .u32 0, .int .u32 0, .bool false, .bool false, .int .u8 0, .int .u8 0, .int .u8 0, .int .u8 0, .int .u8 0, .int .u8 0, .int .u8 0, .int .u8 0, .int .u8 0, .int .u8 0, .int .u8 0, .int .u8 0, .int .u8 0, .int .u8 0, .int .u8 0, .int .u8 0, .int .u8 0, .int .u8 0, .int .u8 0, .int .u8 0, .int .u8 0, .int .u8 0, .int .u8 0, .int .u8 0]
abbrev zMem : Array Value := #[.int .u32 0, .int .u32 0, .int .u32 0, .bool false, .bool false, .int .u8 0, .int .u8 0, .int .u8 0, .int .u8 0, .int .u8 0, .int .u8 0, .int .u8 0, .int .u8 0, .int .u8 0, .int .u8 0, .int .u8 0, .int .u8 0, .int .u8 0, .int .u8 0, .int .u8 0, .int .u8 0, .int .u8 0, .int .u8 0, .int .u8 0, .int .u8 0, .int .u8 0, .int .u8 0, .int .u8 0, .int .u8 0, .int .u32 0, .int .u32 0, .int .u32 0, .bool false, .bool false, .int .u8 0, .int .u8 0, .int .u8 0, .int .u8 0, .int .u8 0, .int .u8 0, .int .u8 0, .int .u8 0, .int .u8 0, .int .u8 0, .int .u8 0, .int .u8 0, .int .u8 0, .int .u8 0, .int .u8 0, .int .u8 0, .int .u8 0, .int .u8 0, .int .u8 0, .int .u8 0, .int .u8 0, .int .u8 0, .int .u8 0, .int .u8 0]
theorem setCells_at {g : Nat} {t : TypeId} {f : Nat × Nat} : ∀ (vs : List Value) (o : Nat) {w : World} {cs : Array Value}, w.heap[g]? = some (.cells cs t f) → (w.setCells g o vs).heap[g]? = some (.cells (setL cs o vs) t f)
  | [], _, _, _, h => h
  | v :: r, o, w, cs, h => by rw [World.setCells, setL]; exact setCells_at r (o + 1) (set_at h o v)
theorem below_setCells {B g : Nat} {a : World} (hB : B ≤ g) : ∀ (vs : List Value) (o : Nat) {w : World}, Below B a w → Below B a (w.setCells g o vs)
  | [], _, _, h => h
  | v :: r, o, w, h => by rw [World.setCells]; exact below_setCells hB r (o + 1) (h.setCell hB v)
theorem setL_all {cs : Array Value} {vs : List Value} (h : vs.length = cs.size) : setL cs 0 vs = vs.toArray := by
  apply Array.ext'
  rw [setL_list _ _ _ (by omega)]
  simp [List.drop_of_length_le (show cs.toList.length ≤ 0 + vs.length by simp; omega)]
  omega
theorem there_of {W : World} {g : Nat} {cs : Array Value} {t : TypeId} (h : W.heap[g]? = some (.cells cs t (0, 0))) (o n : Nat) (hn : o + n ≤ cs.size) : W.there g o n := fun j hj =>
  ⟨by rw [cell_at h, Array.getElem?_eq_getElem (by omega)]; rfl, free_at h _⟩
theorem wpList_build2 {w : World} {ops : Array Oper} {rest : List Oper} {o : Oper} {a : Act} {Q : Exit → Act → World → Prop} (hgd : o.guard = none) (T : TypeId) (x y : Operand) (ho : o.op = .build T #[(0, x), (1, y)]) (l m cs : Value) (hx : a.eval x = l) (hy : a.eval y = m)
    (hr : (Instr.build T #[(0, l), (1, m)]).run Try.prog w = .ok cs w) (h : wpList Try.prog ops Q rest (a.put o.dst cs) w) : wpList Try.prog ops Q (o :: rest) a w := by
  refine wpList_plain hgd fun K hK => ?_
  unfold Oper.wp execOp
  simp [ho, hx, hy, hr]
  exact hK _ _ h
set_option maxRecDepth 100000 in
theorem with_c (x y b : Btn) (w : World) (hx : x.keys.length = 24) (hy : y.keys.length = 24) (hb : b.keys.length = 24) : Calls Try.prog 29 #[.agg (memV x y).toArray, .agg (btnV b).toArray] w fun e w' => e = .returned (.agg (memV b x).toArray) ∧ Below w.heap.size w w' := by
  have szB := btn_size hb
  have szX := btn_size hx
  have G0 : (((w.alloc (.cells (memV x y).toArray 74)).alloc (.cells (btnV b).toArray 33)).alloc (.cells zMem 74)).heap[w.heap.size]? = some (.cells (memV x y).toArray 74 (0, 0)) := old_at (old_at (new_at rfl _) _) _
  have G1 : (((w.alloc (.cells (memV x y).toArray 74)).alloc (.cells (btnV b).toArray 33)).alloc (.cells zMem 74)).heap[w.heap.size + 1]? = some (.cells (btnV b).toArray 33 (0, 0)) := old_at (new_at (by simp) _) _
  have G2 : (((w.alloc (.cells (memV x y).toArray 74)).alloc (.cells (btnV b).toArray 33)).alloc (.cells zMem 74)).heap[w.heap.size + 1 + 1]? = some (.cells zMem 74 (0, 0)) := new_at (by simp) _
  have bz : Below w.heap.size w (((w.alloc (.cells (memV x y).toArray 74)).alloc (.cells (btnV b).toArray 33)).alloc (.cells zMem 74)) := below_step (below_step (kbelow_new _ _) (kbelow_new _ _)) (kbelow_new _ _)
  have RX := mem_x G0
  have RB := range_of G1
  go_enter Try.func29, Try.ntmps29
  go_upto_region 1 with (fail)
  generalize ((w.alloc (.cells (memV x y).toArray 74)).alloc (.cells (btnV b).toArray 33)).alloc (.cells zMem 74) = W0 at *
  have hbd := build_with (btnV b) (btnV x) (btnV_len hb) (btnV_len hx) W0
  have szm : (Try.prog.info? 74).map (·.size) = some (memV b x).toArray.size := by rw [List.size_toArray, memV_len hb hx]; kernel_rfl
  have szl : (Try.prog.info? 74).map (·.size) = some (memV b x).length := by rw [memV_len hb hx]; kernel_rfl
  have oneM : (memV b x).toArray.all (·.oneCell') = true := by
    rw [List.all_toArray, List.all_eq_true]
    intro v hv
    rcases List.mem_append.1 hv with h | h
    · exact btnV_one b v h
    · exact btnV_one x v h
  have ths : W0.there (w.heap.size + 1 + 1) 0 (memV b x).toArray.size := there_of G2 0 _ (by rw [List.size_toArray, memV_len hb hx]; decide)
  have k3 : (W0.setCells (w.heap.size + 1 + 1) 0 (memV b x).toArray.toList).heap[w.heap.size + 1 + 1]? = some (.cells (memV b x).toArray 74 (0, 0)) := by rw [setCells_at _ _ G2, setL_all (by rw [List.toList_toArray, memV_len hb hx]; rfl)]
  have k4 : Below w.heap.size w (W0.setCells (w.heap.size + 1 + 1) 0 (memV b x).toArray.toList) := below_setCells (by omega) _ _ bz
  have K34 := Lib.hid (And.intro k3 k4)
  clear k3 k4
  go_wp2_with (first
    | refine wpList_load_g (by rfl) 33 (.tmp 3) (by rfl) (w.heap.size + 1) 0 (by rfl) (btnV b) _ RB Try.underlying33 rfl szB ?_
    | refine wpList_load_g (by rfl) 33 (.tmp 6) (by rfl) w.heap.size 0 (by rfl) (btnV x) _ RX Try.underlying33 rfl szX ?_
    | refine wpList_build2 rfl 74 (.tmp 5) (.tmp 7) (by rfl) _ _ (.agg (memV b x).toArray) (by rfl) (by rfl) hbd ?_
    | (refine wpList_store_mid rfl 74 (.tmp 4) (.tmp 8) (by rfl) (w.heap.size + 1 + 1) 0 (memV b x).toArray (by rfl) (by rfl) ths szm oneM ?_; generalize hWs : W0.setCells (w.heap.size + 1 + 1) 0 (memV b x).toArray.toList = Ws at *))
  exact bodyPost_ret (res_mid (t := 4) (M := memV b x) Try.underlying74 rfl rfl szl rfl K34.out.1) rfl ⟨rfl, K34.out.2⟩
end Go.Proofs.Ytioggdiicgfoaaa
