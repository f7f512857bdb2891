/- Images: words for the walks of laws. Nothing that was there is turned. -/
import Derived.Test.YtlcahkkpbikccaaDoorImgS
import Derived.Test.YtlcahkkpbikccaaDoorLay
import Derived.Lib.LaidTab
namespace Go.Proofs.YtlcahkkpbikccaaDoor
open Go.RowKit Rf Mem Go.ChangeAt
theorem tops_of_laid {W : World} (h : laidMetH Tryd.prog [("lockbar/tick.tops", Rows.laid_lockbar_tick_tops)] W) : Tops W := by
  have hg : Tryd.prog.globalNamed "lockbar/tick.tops" = some 0 := by kernel_rfl
  have t : Lib.TabIs Tryd.prog W "lockbar/tick.tops" .i64 [1073741824, 65535] := Lib.tabIs_of_head (rest := []) hg (t := 61) (by kernel_rfl) Tryd.underlying61 Tryd.underlying3 (by kernel_rfl) (by kernel_rfl) h
  have c0 := t.cell hg 0 (by decide)
  refine ⟨c0, t.cell hg 1 (by decide), ?_⟩
  unfold World.cell? at c0
  cases ho : W.heap[0]? with
  | none => simp [ho] at c0
  | some o => exact (Array.getElem?_eq_some_iff.1 ho).1
/-- three variables: a layout, an image, what comes in -/
structure TV (w W : World) (L M : List Value) (I : Array Value) : Prop where
  l : W.heap[w.heap.size]? = some (.cells L.toArray 29 (0, 0))
  m : W.heap[w.heap.size + 1]? = some (.cells M.toArray 39 (0, 0))
  i : W.heap[w.heap.size + 1 + 1]? = some (.cells I 37 (0, 0))
  bb : Below w.heap.size w W
  t0 : Tops w
theorem TV.t {w W : World} {L M : List Value} {I : Array Value} (h : TV w W L M I) : Tops W := h.t0.below h.bb
theorem TV.new (w : World) (L M : List Value) (I : Array Value) (hT : Tops w) : TV w (((w.alloc (.cells L.toArray 29)).alloc (.cells M.toArray 39)).alloc (.cells I 37)) L M I :=
  have b := below_step (below_step (below_new w (.cells L.toArray 29)) (below_new _ (.cells M.toArray 39))) (below_new _ (.cells I 37))
  ⟨old_at (old_at (new_at rfl _) _) _, old_at (new_at (by simp) _) _, new_at (by simp) _, b, hT⟩
theorem TV.later {w W W' : World} {L M : List Value} {I : Array Value} (h : TV w W L M I) (b : Below W.heap.size W W') : TV w W' L M I :=
  ⟨var_later h.l b, var_later h.m b, var_later h.i b, below_step h.bb b, h.t0⟩
theorem TV.drew {w W : World} {L M : List Value} {I : Array Value} (h : TV w W L M I) : TV w W.drew L M I := h.later (Below.refl _ W).drew
theorem TV.lt {w W : World} {L M : List Value} {I : Array Value} (h : TV w W L M I) : w.heap.size + 3 ≤ W.heap.size := by have := (Array.getElem?_eq_some_iff.1 h.i).1; omega
theorem TV.set {w W : World} {L M : List Value} {I : Array Value} (h : TV w W L M I) {p : Nat} (hp : w.heap.size + 3 ≤ p) (vs : List Value) : TV w (W.setCells p 0 vs) L M I :=
  ⟨setCells_far (by omega) _ _ h.l, setCells_far (by omega) _ _ h.m, setCells_far (by omega) _ _ h.i, below_setCells (by omega) _ _ h.bb, h.t0⟩
theorem Great_g (L : List Value) (ns nsig nfl : Nat) (lens : List Nat) (A A1 A3 : Option Addr) (c c1 c3 : Nat) (v : Value) (g : Bool) (w : World) (hg : g = greatV ns nsig nfl lens) (h0 : L[0]? = some (.slice A ns c)) (h1 : L[1]? = some (.slice A1 nsig c1)) (h2 : L[2]? = some v) (h3 : L[3]? = some (.slice A3 nfl c3)) (hE : ExsAt w v lens) :
    Calls Tryd.prog 5 #[.agg L.toArray] w fun e w' => e = .returned (.bool g) ∧ Below w.heap.size w w' := by subst hg; exact Great_c L ns nsig nfl lens A A1 A3 c c1 c3 v w h0 h1 h2 h3 hE
theorem refRight_g (M : List Value) (age : Int) (free : List Int) (occ nor rev lam : BitVec 32) (r : Bool) (w : World) (hr : r = rightI free age) (hM : ImgF M age free occ nor rev lam) :
    Calls Tryd.prog 12 #[.agg M.toArray] w fun e w' => e = .returned (.bool r) ∧ Below w.heap.size w w' := by subst hr; exact refRight_c M age free occ nor rev lam w hM
theorem isCount_iff (z : Int) : isCount z = true ↔ 0 ≤ z ∧ z ≤ 65535 := by
  unfold isCount clamp
  rw [beq_iff_eq]; omega
theorem rowV_count (b : Bool) (z : Int) : isCount (rowV b z) = true := by
  rw [isCount_iff]
  cases b
  · simp [rowV]
  · simp only [rowV, onV, clamp, if_pos]; omega
theorem rowL_right (o : BitVec 32) (s : Bool) (f : List Int) (k : Nat) : (rowL o s f k).all isCount = true := by
  rw [List.all_eq_true]
  intro z hz
  simp only [rowL, List.mem_map] at hz
  obtain ⟨i, _, rfl⟩ := hz
  exact rowV_count _ _
theorem rowL_at (o : BitVec 32) (s : Bool) (f : List Int) {k : Nat} (h : k < 24) (hf : f.length = 24) : (rowL o s f 24)[k]? = some (rowV (!s && !bitV o k) (f.getD k 0)) := by
  simp [rowL, h]
theorem rowV_val {b : Bool} {z : Int} (h : 0 ≤ z ∧ z ≤ 65535) : rowV b z = if b then min (z + 1) 65535 else 0 := by
  cases b
  · rfl
  · simp only [rowV, onV, clamp, if_pos]; omega
theorem onV_val {z : Int} (h : 0 ≤ z ∧ z ≤ 65535) : onV z 1 65535 = min (z + 1) 65535 := by
  simp only [onV, clamp]; omega
theorem in_range {W : World} {g : Nat} {M : List Value} {t : TypeId} {f : Nat × Nat} {age : Int} {free : List Int} {o n r l : BitVec 32} (h : W.heap[g]? = some (.cells M.toArray t f)) (hM : ImgF M age free o n r l) :
    W.rangeAt g 25 [Value.int .u32 o.toNat, .int .u32 n.toNat, .int .u32 r.toNat, .int .u32 l.toNat] := fun j v hv => by
  have hj := (List.getElem?_eq_some_iff.1 hv).1
  match j, hj, hv with
  | 0, _, hv => obtain rfl := Option.some.inj hv; exact cell_list h hM.occ
  | 1, _, hv => obtain rfl := Option.some.inj hv; exact cell_list h hM.nor
  | 2, _, hv => obtain rfl := Option.some.inj hv; exact cell_list h hM.rev
  | 3, _, hv => obtain rfl := Option.some.inj hv; exact cell_list h hM.lam
theorem low32 (b : BitVec 32) (j : Nat) : (bits .and .u32 ((b.toNat : Int) / 2 ^ j) 1 == 1) = b.getLsbD j := by
  have e1 : ((b.toNat : Int) / 2 ^ j) = ((b >>> j).toNat : Int) := by
    rw [BitVec.toNat_ushiftRight, Nat.shiftRight_eq_div_pow]; norm_cast
  have e2 : bits .and .u32 ((b >>> j).toNat : Int) 1 = (((b >>> j) &&& 1#32).toNat : Int) := Bv.bits_and .u32 rfl (b >>> j) 1#32
  rw [e1, e2]
  have e3 : (b >>> j) &&& 1#32 = if b.getLsbD j then 1#32 else 0#32 := by
    rw [BitVec.and_one_eq_setWidth_ofBool_getLsbD]
    simp only [BitVec.getLsbD_ushiftRight, Nat.add_zero]
    cases b.getLsbD j <;> rfl
  rw [e3]
  cases b.getLsbD j <;> rfl
theorem low32i (b : BitVec 32) (j : Nat) : bits .and .u32 ((b.toNat : Int) / 2 ^ j) 1 = if b.getLsbD j then 1 else 0 := by
  have e1 : ((b.toNat : Int) / 2 ^ j) = ((b >>> j).toNat : Int) := by
    rw [BitVec.toNat_ushiftRight, Nat.shiftRight_eq_div_pow]; norm_cast
  have e2 : bits .and .u32 ((b >>> j).toNat : Int) 1 = (((b >>> j) &&& 1#32).toNat : Int) := Bv.bits_and .u32 rfl (b >>> j) 1#32
  rw [e1, e2]
  have e3 : (b >>> j) &&& 1#32 = if b.getLsbD j then 1#32 else 0#32 := by
    rw [BitVec.and_one_eq_setWidth_ofBool_getLsbD]
    simp only [BitVec.getLsbD_ushiftRight, Nat.add_zero]
    cases b.getLsbD j <;> rfl
  rw [e3]
  cases b.getLsbD j <;> rfl
theorem and31 : ∀ k : Nat, k < 32 → bits .and .i64 (k : Int) 31 = (k : Int) := by decide
theorem bitV_nat (x : BitVec 32) {k : Nat} (h : k < 32) : bitV x k = x.getLsbD k := by
  unfold bitV
  rw [decide_eq_true (by omega : (0 : Int) ≤ k), decide_eq_true (by omega : (k : Int) < 32)]
  simp
end Go.Proofs.YtlcahkkpbikccaaDoor
