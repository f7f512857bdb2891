/- Equality of buttons and of memories. No condition. -/
import Derived.Test.YtioggdiicgfoaaaKeyL
import Derived.DeepKeys
namespace Go.Proofs.Ytioggdiicgfoaaa
open Go.RowKit Rf Mem KM Bits Bv
instance : DecidableEq Btn := fun a b => decidable_of_iff (a.ent = b.ent ∧ a.exi = b.exi ∧ a.via = b.via ∧ a.can = b.can ∧ a.aut = b.aut ∧ a.keys = b.keys) (by cases a; cases b; simp)
def litB (b : Btn) : List Lit := [.int .u32 b.ent.toNat, .int .u32 b.exi.toNat, .int .u32 b.via.toNat, .bool b.can, .bool b.aut] ++ b.keys.map (fun k => Lit.int .u8 (k.toNat : Int))
theorem map_u8_inj : ∀ {a b : List (BitVec 8)}, (a.map fun k => Lit.int .u8 (k.toNat : Int)) = (b.map fun k => Lit.int .u8 (k.toNat : Int)) → a = b
  | [], [], _ => rfl
  | [], _ :: _, h => by simp at h
  | _ :: _, [], h => by simp at h
  | x :: a, y :: b, h => by
    simp only [List.map_cons, List.cons.injEq, Lit.int.injEq, true_and] at h
    have e : x = y := BitVec.eq_of_toNat_eq (by omega)
    rw [e, map_u8_inj h.2]
theorem litB_inj {a b : Btn} (h : litB a = litB b) : a = b := by
  obtain ⟨e1, x1, v1, c1, a1, k1⟩ := a
  obtain ⟨e2, x2, v2, c2, a2, k2⟩ := b
  simp only [litB, List.cons_append, List.nil_append, List.cons.injEq, Lit.int.injEq, Lit.bool.injEq, true_and] at h
  obtain ⟨h1, h2, h3, h4, h5, h6⟩ := h
  have := map_u8_inj h6
  have q1 : e1 = e2 := BitVec.eq_of_toNat_eq (by omega)
  have q2 : x1 = x2 := BitVec.eq_of_toNat_eq (by omega)
  have q3 : v1 = v2 := BitVec.eq_of_toNat_eq (by omega)
  subst q1 q2 q3 h4 h5 this
  rfl
theorem wf_u8 (x : BitVec 8) : (Lit.int .u8 (x.toNat : Int)).wf = true := by
  have h := x.isLt
  have h1 : IntKind.u8.min = 0 := rfl
  have h2 : IntKind.u8.max = 255 := rfl
  simp only [Lit.wf, h1, h2, Bool.and_eq_true, decide_eq_true_eq]
  omega
theorem wf_u32 (x : BitVec 32) : (Lit.int .u32 (x.toNat : Int)).wf = true := by
  have h := x.isLt
  have h1 : IntKind.u32.min = 0 := rfl
  have h2 : IntKind.u32.max = 4294967295 := rfl
  simp only [Lit.wf, h1, h2, Bool.and_eq_true, decide_eq_true_eq]
  omega
theorem key_int {t : TypeId} {k : IntKind} {n : Int} (D : Nat) (ht : Try.prog.underlying t = some (.int k)) (hw : (Lit.int k n).wf = true) : Try.prog.keyLits (D + 1) t [.int k n] = some [.int k n] := by
  unfold Program.keyLits
  rw [ht]
  simp [hw]
theorem key_bool {t : TypeId} {b : Bool} (D : Nat) (ht : Try.prog.underlying t = some .bool) : Try.prog.keyLits (D + 1) t [.bool b] = some [.bool b] := by
  unfold Program.keyLits
  rw [ht]
theorem mapM_some {α β : Type} {f : α → Option β} {g : α → β} : ∀ (l : List α), (∀ a ∈ l, f a = some (g a)) → l.mapM f = some (l.map g)
  | [], _ => rfl
  | a :: l, h => by
    rw [List.mapM_cons, h a (by simp), mapM_some l (fun b hb => h b (by simp [hb]))]
    rfl
theorem key_keys (ks : List (BitVec 8)) (D : Nat) (h : ks.length = 24) : Try.prog.keyLits (D + 1 + 1) 31 (ks.map fun k => Value.int .u8 (k.toNat : Int)) = some (ks.map fun k => Lit.int .u8 (k.toNat : Int)) := by
  unfold Program.keyLits
  rw [Try.underlying31]
  simp only [List.length_map, h, show Try.prog.cellsOf 31 = 24 by kernel_rfl, show Try.prog.cellsOf 5 = 1 by kernel_rfl, if_true]
  rw [mapM_some (g := fun i => [Lit.int .u8 ((ks.getD i 0#8).toNat : Int)])]
  · simp only [Option.map_some]
    congr 1
    have : ∀ n, n ≤ ks.length → ((List.range n).map fun i => [Lit.int .u8 ((ks.getD i 0#8).toNat : Int)]).flatten = (ks.take n).map fun k => Lit.int .u8 (k.toNat : Int) := by
      intro n
      induction n with
      | zero => intro _; simp
      | succ n ih =>
        intro hn
        rw [List.range_succ, List.map_append, List.flatten_append, ih (by omega), List.take_add_one, List.getElem?_eq_getElem (show n < ks.length by omega), List.map_append]
        congr 1
        simp [List.getD, List.getElem?_eq_getElem (show n < ks.length by omega)]
    rw [this 24 (by omega), List.take_of_length_le (by omega)]
  · intro i hi
    have hi' : i < ks.length := by simp at hi; omega
    have : ((ks.map fun k => Value.int .u8 (k.toNat : Int)).drop (i * 1)).take 1 = [.int .u8 ((ks.getD i 0#8).toNat : Int)] := by
      rw [Nat.mul_one, List.drop_eq_getElem_cons (by simpa using hi')]
      simp [List.getD, List.getElem?_eq_getElem hi']
    rw [this]
    exact key_int D Try.underlying5 (wf_u8 _)
theorem key_btn (b : Btn) (D : Nat) (h : b.keys.length = 24) : Try.prog.keyLits (D + 1 + 1 + 1) 33 (btnV b) = some (litB b) := by
  unfold Program.keyLits
  rw [Try.underlying33]
  have hl := btnV_len h
  simp only [hl, show Try.prog.cellsOf 33 = 29 by kernel_rfl]
  rw [if_pos ⟨trivial, by kernel_rfl⟩]
  have c1 : Try.prog.cellsOf 30 = 1 := by kernel_rfl
  have c2 : Try.prog.cellsOf 4 = 1 := by kernel_rfl
  have c3 : Try.prog.cellsOf 31 = 24 := by kernel_rfl
  have e0 : ((btnV b).drop 0).take 1 = [.int .u32 b.ent.toNat] := rfl
  have e1 : ((btnV b).drop 1).take 1 = [.int .u32 b.exi.toNat] := rfl
  have e2 : ((btnV b).drop 2).take 1 = [.int .u32 b.via.toNat] := rfl
  have e3 : ((btnV b).drop 3).take 1 = [.bool b.can] := rfl
  have e4 : ((btnV b).drop 4).take 1 = [.bool b.aut] := rfl
  have e5 : ((btnV b).drop 5).take 24 = b.keys.map fun k => Value.int .u8 (k.toNat : Int) := List.take_of_length_le (by simp [btnV, h])
  simp only [List.mapM_cons, List.mapM_nil, c1, c2, c3, e0, e1, e2, e3, e4, e5, key_keys b.keys D h, key_int (D + 1) Try.underlying30 (wf_u32 _), key_bool (D + 1) Try.underlying4]
  simp [litB]
theorem key_mem (x y : Btn) (D : Nat) (hx : x.keys.length = 24) (hy : y.keys.length = 24) : Try.prog.keyLits (D + 1 + 1 + 1 + 1) 35 (memV x y) = some (litB x ++ litB y) := by
  unfold Program.keyLits
  rw [Try.underlying35]
  have e0 : ((memV x y).drop (0 * 29)).take 29 = btnV x := by rw [Nat.zero_mul, List.drop_zero, memV, List.take_left' (btnV_len hx)]
  have e1 : ((memV x y).drop (1 * 29)).take 29 = btnV y := by rw [Nat.one_mul, memV, List.drop_left' (btnV_len hx), List.take_of_length_le (by rw [btnV_len hy]; omega)]
  simp only [memV_len hx hy, show Try.prog.cellsOf 35 = 58 by kernel_rfl, if_true, show List.range 2 = [0, 1] from rfl, List.mapM_cons, List.mapM_nil, show Try.prog.cellsOf 33 = 29 by kernel_rfl, e0, e1, key_btn x D hx, key_btn y D hy]
  simp
theorem litB_len {b : Btn} (h : b.keys.length = 24) : (litB b).length = 29 := by simp [litB, h]
theorem eq_btn (b c : Btn) (hb : b.keys.length = 24) (hc : c.keys.length = 24) (w : World) : (Op.equalIn 10000 33 (.agg (btnV b).toArray) (.agg (btnV c).toArray)).run Try.prog w = .ok (decide (b = c)) w := by
  obtain ⟨r, hr, hiff⟩ := run_equalIn_deep (P := Try.prog) 9997 3 33 (by kernel_rfl) w _ _ (.agg (btnV b).toArray) (.agg (btnV c).toArray) _ _ (by simp [Value.formed, Try.underlying33, btnV_len hb, show Try.prog.cellsOf 33 = 29 by kernel_rfl]) (by simp [Value.formed, Try.underlying33, btnV_len hc, show Try.prog.cellsOf 33 = 29 by kernel_rfl]) (key_btn b 0 hb) (key_btn c 0 hc)
  have e : r = decide (b = c) := by
    rw [Bool.eq_iff_iff, hiff, decide_eq_true_eq]
    exact ⟨litB_inj, fun h => by rw [h]⟩
  rw [← e]
  exact hr
theorem eq_mem (x y x' y' : Btn) (hx : x.keys.length = 24) (hy : y.keys.length = 24) (hx' : x'.keys.length = 24) (hy' : y'.keys.length = 24) (w : World) : (Op.equalIn 10000 35 (.agg (memV x y).toArray) (.agg (memV x' y').toArray)).run Try.prog w = .ok (decide (x = x' ∧ y = y')) w := by
  obtain ⟨r, hr, hiff⟩ := run_equalIn_deep (P := Try.prog) 9996 4 35 (by kernel_rfl) w _ _ (.agg (memV x y).toArray) (.agg (memV x' y').toArray) _ _ (by simp [Value.formed, Try.underlying35, memV_len hx hy, show Try.prog.cellsOf 35 = 58 by kernel_rfl]) (by simp [Value.formed, Try.underlying35, memV_len hx' hy', show Try.prog.cellsOf 35 = 58 by kernel_rfl]) (key_mem x y 0 hx hy) (key_mem x' y' 0 hx' hy')
  have e : r = decide (x = x' ∧ y = y') := by
    rw [Bool.eq_iff_iff, hiff, decide_eq_true_eq]
    constructor
    · intro h
      have := List.append_inj h (by rw [litB_len hx, litB_len hx'])
      exact ⟨litB_inj this.1, litB_inj this.2⟩
    · rintro ⟨rfl, rfl⟩; rfl
  rw [← e]
  exact hr
end Go.Proofs.Ytioggdiicgfoaaa
