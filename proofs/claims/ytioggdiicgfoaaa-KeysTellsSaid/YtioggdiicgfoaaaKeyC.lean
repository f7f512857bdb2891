/- Keys: the contract of Size; buttons as cells. Nothing that was there is turned. -/
import Derived.Test.YtioggdiicgfoaaaKeyB
namespace Go.Proofs.Ytioggdiicgfoaaa
open Go.RowKit Rf Mem KM
attribute [local go_sem ↓] run_max2 run_min2
theorem lay_size {L : List Value} (h : L.length = 11) : (Try.prog.info? 29).map (·.size) = some L.length := by rw [h]; kernel_rfl
theorem wpList_load_g {P : Program} {w : World} {a : Act} {Q : Exit → Act → World → Prop} {ops : Array Oper} {rest : List Oper} {op : Oper} (hw : Region.wanted op (yielded ops a.tmps) = true) (ty : TypeId) (x : Operand) (ho : op.op = .load ty x)
    (b o : Nat) (hx : a.eval x = .pointer (some ⟨b, o, none⟩)) (cs : List Value) (d : TypeDesc) (hc : w.rangeAt b o cs)
    (hu : P.underlying ty = some d) (hd : d.isRow = true) (hi : (P.info? ty).map (·.size) = some cs.length)
    (h : wpList P ops Q rest (a.put op.dst (.agg cs.toArray)) w) : wpList P ops Q (op :: rest) a w :=
  wpList_step fun K hK => by rw [if_pos hw]; exact wp_load_mid ty x ho b o hx cs d hc hu hd hi (hK _ _ h)
theorem var_later {W W' : World} {g : Nat} {o : Obj} (h : W.heap[g]? = some o) (b : Below W.heap.size W W') : W'.heap[g]? = some o := below_at b h (Array.getElem?_eq_some_iff.1 h).1
theorem w64 {a : Nat} (h : a ≤ 10000) : IntKind.i64.wrap (a : Int) = (a : Int) := IntWalk.i64_in _ (by omega)
set_option maxRecDepth 100000 in
theorem Size_c (L : List Value) (nsec : Nat) (lens : List Nat) (nsig nfl : Nat) (A : Option Addr) (c : Nat) (A1 : Option Addr) (c1 : Nat) (A3 : Option Addr) (c3 : Nat) (ve : Value) (ns ne nc : Nat) (sz : Int) (w : World) (hns : min nsig 12 = ns) (hne : min lens.length 12 = ne) (hnc : min nsec 24 = nc) (hsz : sz = sizeK ns ne nc)
    (hL : LayN w L nsec lens nsig nfl A c A1 c1 A3 c3 ve) : Calls Try.prog 12 #[.agg L.toArray] w fun e w' => e = .returned (.int .i64 sz) ∧ Below w.heap.size w w' := by
  have b0 := kbelow_new w (.cells L.toArray 29)
  have G0 : (w.alloc (.cells L.toArray 29)).heap[w.heap.size]? = some (.cells L.toArray 29 (0, 0)) := new_at rfl _
  have szL := lay_size hL.len
  have hL1 := hL.later b0
  have l1 : ns ≤ 12 := by omega
  have l2 : ne ≤ 12 := by omega
  have l3 : nc ≤ 24 := by omega
  have q1 : IntKind.i64.wrap ((ns : Int) + (ne : Int)) = (ns : Int) + (ne : Int) := IntWalk.i64_in _ (by omega)
  have q2 : IntKind.i64.wrap (3 * (nc : Int)) = 3 * (nc : Int) := IntWalk.i64_in _ (by omega)
  have q3 : IntKind.i64.wrap ((ns : Int) + (ne : Int) + 3 * (nc : Int)) = (ns : Int) + (ne : Int) + 3 * (nc : Int) := IntWalk.i64_in _ (by omega)
  have q4 : IntKind.i64.wrap ((ns : Int) + (ne : Int) + 3 * (nc : Int) + 2) = (ns : Int) + (ne : Int) + 3 * (nc : Int) + 2 := IntWalk.i64_in _ (by omega)
  have q5 : IntKind.i64.wrap ((ns : Int) + (ne : Int) + 3 * (nc : Int) + 2 + 7) = (ns : Int) + (ne : Int) + 3 * (nc : Int) + 2 + 7 := IntWalk.i64_in _ (by omega)
  have HNS := Lib.hid hns
  have HNE := Lib.hid hne
  have HNC := Lib.hid hnc
  have HSZ := Lib.hid hsz
  clear hns hne hnc hsz
  go_enter Try.func12, Try.ntmps12
  go_upto_region 1 with (fail)
  generalize w.alloc (.cells L.toArray 29) = W0 at *
  have RL := range_of G0
  go_wp2_with (first
    | refine wpList_load_g (by rfl) 29 (.tmp 1) (by rfl) w.heap.size 0 (by rfl) L _ RL Try.underlying29 rfl szL ?_)
  refine (of_c L nsec lens nsig nfl A c A1 c1 A3 c3 ve ns ne nc _ HNS.out HNE.out HNC.out hL1).mono ?_
  rintro e W1 ⟨rfl, b1⟩
  clear RL G0
  have b2 := below_step (below_step b0 b1) (kbelow_new W1 (.cells #[.int .i64 ns, .int .i64 ne, .int .i64 nc] 59))
  go_wp2
  go_ret
  have e : ((ns : Int) + (ne : Int) + 3 * (nc : Int) + 2 + 7) / 8 = ((sizeK ns ne nc : Nat) : Int) := by unfold sizeK; omega
  exact ⟨by rw [HSZ.out]; exact congrArg (fun z => Ending.returned (Value.int .i64 z)) e, b2⟩
/-- buttons as cells -/
def btnV (b : Btn) : List Value := [.int .u32 b.ent.toNat, .int .u32 b.exi.toNat, .int .u32 b.via.toNat, .bool b.can, .bool b.aut] ++ b.keys.map (fun k => Value.int .u8 (k.toNat : Int))
theorem btnV_len {b : Btn} (h : b.keys.length = 24) : (btnV b).length = 29 := by simp [btnV, h]
theorem btnV_key {b : Btn} {i : Nat} (h : i < b.keys.length) : (btnV b)[5 + i]? = some (.int .u8 ((b.keys.getD i 0#8).toNat : Int)) := by
  unfold btnV
  rw [List.getElem?_append_right (by simp), show 5 + i - [Value.int .u32 (b.ent.toNat : Int), .int .u32 b.exi.toNat, .int .u32 b.via.toNat, .bool b.can, .bool b.aut].length = i by simp, List.getElem?_map, List.getElem?_eq_getElem h]
  simp [List.getD, List.getElem?_eq_getElem h]
theorem btnV_one (b : Btn) : ∀ v ∈ btnV b, v.oneCell' = true := by
  intro v hv
  simp only [btnV, List.mem_append, List.mem_cons, List.not_mem_nil, or_false, List.mem_map] at hv
  rcases hv with (rfl | rfl | rfl | rfl | rfl) | ⟨k, _, rfl⟩ <;> rfl
theorem btn_size {b : Btn} (h : b.keys.length = 24) : (Try.prog.info? 33).map (·.size) = some (btnV b).length := by rw [btnV_len h]; kernel_rfl
/-- a memory as cells: the last frame, the one ahead of it -/
def memV (x y : Btn) : List Value := btnV x ++ btnV y
theorem memV_len {x y : Btn} (hx : x.keys.length = 24) (hy : y.keys.length = 24) : (memV x y).length = 58 := by simp [memV, btnV_len hx, btnV_len hy]
theorem mem_size {x y : Btn} (hx : x.keys.length = 24) (hy : y.keys.length = 24) : (Try.prog.info? 35).map (·.size) = some (memV x y).length := by rw [memV_len hx hy]; kernel_rfl
theorem mem_x {W : World} {g : Nat} {x y : Btn} {t : TypeId} {f : Nat × Nat} (h : W.heap[g]? = some (.cells (memV x y).toArray t f)) : W.rangeAt g 0 (btnV x) := fun j v hv => by
  rw [Nat.zero_add]
  exact cell_list h (by unfold memV; rw [List.getElem?_append_left (List.getElem?_eq_some_iff.1 hv).1]; exact hv)
theorem mem_y {W : World} {g : Nat} {x y : Btn} {t : TypeId} {f : Nat × Nat} (hx : x.keys.length = 24) (h : W.heap[g]? = some (.cells (memV x y).toArray t f)) : W.rangeAt g 29 (btnV y) := fun j v hv =>
  cell_list h (by unfold memV; rw [List.getElem?_append_right (by rw [btnV_len hx]; omega), btnV_len hx, show 29 + j - 29 = j by omega]; exact hv)
set_option maxRecDepth 100000 in
theorem presses_c (ns ne nc : Nat) (x y b : Btn) (w : World) : Calls Try.prog 28 #[.agg #[.int .i64 ns, .int .i64 ne, .int .i64 nc], .agg (memV x y).toArray, .agg (btnV b).toArray] w fun e W' =>
    e = .returned (.func (.func 44) #[] #[.pointer (some ⟨w.heap.size + 1, 0, none⟩), .pointer (some ⟨w.heap.size + 1 + 1, 0, none⟩), .pointer (some ⟨w.heap.size, 0, none⟩)]) ∧
      ((w.alloc (.cells #[.int .i64 ns, .int .i64 ne, .int .i64 nc] 59)).alloc (.cells (memV x y).toArray 35)).alloc (.cells (btnV b).toArray 33) = W' := by
  go_enter Try.func28, Try.ntmps28
  go_wp2
  go_ret
  exact ⟨rfl, rfl⟩
end Go.Proofs.Ytioggdiicgfoaaa
