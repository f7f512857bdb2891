/- Keys: steps that several walks share. No condition. -/
import Derived.Test.YtioggdiicgfoaaaKeyO
import Derived.Test.YtioggdiicgfoaaaNode
namespace Go.Proofs.Ytioggdiicgfoaaa
open Go.RowKit Rf Mem KM Bits Bv
theorem wp_app {P : Program} {w : World} {o : Oper} {a : Act} {K : Act → World → Prop} {Q : Exit → Act → World → Prop} (s x : Operand) (t : TypeId)
    (ho : o.op = .call { callee := .builtin .append, args := #[s, x], argTypes := #[t, t] })
    (base : Nat) (e : TypeId) (i : TypeInfo) (z : Value) (size byt : Nat) (ht : P.underlying t = some (.slice e)) (hi : P.info? e = some i) (hz : i.zero = some z)
    (hsize : i.size = size) (hby : i.bytes = byt) (hzs : z.cells.size = size) (hsz : 0 < size)
    (v : Value) (n : Nat) (xs : List Value) (hs : a.eval s = v) (hown : w.ownsRow base e size v n xs) (src : Value) (m : Nat) (news : List Value) (hx : a.eval x = src) (hsrc : SliceAt w size src m news) (h1 : ∀ u ∈ news, u.oneCell' = true)
    (h63 : n + m ≤ maxLen) (hbytes : (n + m) * byt ≤ 140737488355328) (hbase : base ≤ w.heap.size)
    (h : ∀ v' w', w'.ownsRow base e size v' (n + m) (xs ++ news) → w.grownBy w' v.ownBlock → (v'.ownBlock = v.ownBlock ∨ v'.ownBlock = some w.heap.size) → K (a.put o.dst v') w') :
    o.wp P a w K Q := by
  obtain ⟨v', w', hr, h2, h3, h4⟩ := run_append_src (P := P) w base t o.type e i z size byt ht hi hz hsize hby hzs hsz v n xs hown src m news hsrc h1 h63 hbytes hbase
  unfold Oper.wp execOp
  simp only [ho, resolve, invoke, builtin, Sem.run_bind, Sem.run_pure, Result.andThen_ok, List.map_toArray, List.map_cons, List.map_nil, hs, hx, hr]
  exact h v' w' h2 h3 h4
theorem run_bs0 (w : World) : (Instr.buildSlice 36 0 #[]).run Try.prog w = .ok (.slice (some ⟨w.heap.size, 0, none⟩) 0 0) (w.alloc (.cells #[] 5)) := by go_simp
theorem run_bs1 (w : World) : (Instr.buildSlice 36 1 #[(0, .int .u8 0)]).run Try.prog w = .ok (.slice (some ⟨w.heap.size, 0, none⟩) 1 1) (w.alloc (.cells ([.int .u8 0] : List Value).toArray 5)) := by go_simp
theorem newv {V : World} (M : List Value) (zs : Array Value) (T : TypeId) (hl : M.length = zs.size) : ∃ V', (V.alloc (.cells zs T)).setCells V.heap.size 0 M.toArray.toList = V' ∧ V'.heap[V.heap.size]? = some (.cells M.toArray T (0, 0)) ∧ Below V.heap.size V V' ∧ (V.alloc (.cells zs T)).there V.heap.size 0 M.toArray.size := by
  obtain ⟨V', h1, h2, h3, _, h5⟩ := fill_new M (new_at (w := V) rfl (.cells zs T)) hl (kbelow_new V _) (Nat.le_refl _)
  exact ⟨V', h1, h2, h3, h5⟩
theorem memV_one (x y : Btn) : ∀ v ∈ memV x y, v.oneCell' = true := fun v hv => by
  rcases List.mem_append.1 hv with h | h
  · exact btnV_one x v h
  · exact btnV_one y v h
theorem wpList_buildc2 {w : World} {ops : Array Oper} {rest : List Oper} {o : Oper} {a : Act} {Q : Exit → Act → World → Prop} (hgd : o.guard = none) (T : TypeId) (i j : Nat) (v0 v1 : Value) (ho : o.op = .build T #[(i, .const v0), (j, .const v1)]) (cs : Value)
    (hr : (Instr.build T #[(i, v0), (j, v1)]).run Try.prog w = .ok cs w) (h : wpList Try.prog ops Q rest (a.put o.dst cs) w) : wpList Try.prog ops Q (o :: rest) a w := by
  refine wpList_plain hgd fun K hK => ?_
  unfold Oper.wp execOp
  simp [ho, Act.eval, hr]
  exact hK _ _ h
theorem wpList_build2g {w : World} {ops : Array Oper} {rest : List Oper} {o : Oper} {a : Act} {Q : Exit → Act → World → Prop} (hw : Region.wanted o (yielded ops a.tmps) = true) (T : TypeId) (x y : Operand) (ho : o.op = .build T #[(0, x), (1, y)]) (l m cs : Value) (hx : a.eval x = l) (hy : a.eval y = m)
    (hr : (Instr.build T #[(0, l), (1, m)]).run Try.prog w = .ok cs w) (h : wpList Try.prog ops Q rest (a.put o.dst cs) w) : wpList Try.prog ops Q (o :: rest) a w :=
  wpList_step fun K hK => by
    rw [if_pos hw]
    unfold Oper.wp execOp
    simp [ho, hx, hy, hr]
    exact hK _ _ h
end Go.Proofs.Ytioggdiicgfoaaa
