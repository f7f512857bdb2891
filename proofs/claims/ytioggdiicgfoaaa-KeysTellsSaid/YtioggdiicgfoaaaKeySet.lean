/- A value built of two parts. No condition. -/
import Derived.Test.YtioggdiicgfoaaaKeyD
namespace Go.Proofs.Ytioggdiicgfoaaa
open Go.RowKit Rf Mem
/-- cells of a row, set one by one -/
def setL (cs : Array Value) : Nat → List Value → Array Value
  | _, [] => cs
  | o, v :: r => setL (cs.setIfInBounds o v) (o + 1) r
theorem setL_size : ∀ (vs : List Value) (cs : Array Value) (o : Nat), (setL cs o vs).size = cs.size
  | [], _, _ => rfl
  | v :: r, cs, o => by rw [setL, setL_size r]; simp
theorem setL_list : ∀ (vs : List Value) (cs : Array Value) (o : Nat), o + vs.length ≤ cs.size → (setL cs o vs).toList = cs.toList.take o ++ vs ++ cs.toList.drop (o + vs.length)
  | [], cs, o, _ => by simp [setL]
  | v :: r, cs, o, h => by
    simp only [List.length_cons] at h
    rw [setL, setL_list r _ _ (by simp; omega), Array.toList_setIfInBounds]
    have h1 : (cs.toList.set o v).take (o + 1) = cs.toList.take o ++ [v] := by
      rw [List.take_add_one, List.take_set_of_le (Nat.le_refl _), List.getElem?_set_self (by simp; omega)]; rfl
    rw [h1, List.drop_set_of_lt (by omega)]
    simp [Nat.add_assoc, Nat.add_comm 1]
theorem fold_set : ∀ (l : List Value) (off k : Nat) (z : Array Value), (l.zipIdx k).foldl (fun cs p => cs.setIfInBounds (off + p.2) p.1) z = setL z (off + k) l
  | [], _, _, _ => rfl
  | v :: r, off, k, z => by
    rw [List.zipIdx_cons, List.foldl_cons, fold_set r off (k + 1), setL]; rfl
theorem fold_arr (a : Array Value) (off : Nat) (z : Array Value) : (a.zipIdx.foldl (fun cs (c, j) => cs.setIfInBounds (off + j) c) z) = setL z off a.toList := by
  rw [← Array.foldl_toList, Array.toList_zipIdx]
  exact fold_set a.toList off 0 z
theorem fill_two {place : Nat → Option (Nat × Nat)} {z : Array Value} {l m : List Value} {p q : Nat} (h0 : place 0 = some (0, p)) (h1 : place 1 = some (p, q)) (hl : l.length = p) (hm : m.length = q) (hz : z.size = p + q) :
    Instr.fill place z [(0, .agg l.toArray), (1, .agg m.toArray)] = some (l ++ m).toArray := by
  subst hl hm
  have s1 : (setL z 0 l).size = z.size := setL_size _ _ _
  simp only [Instr.fill, h0, h1, Value.cells, List.size_toArray]
  rw [if_neg (by simp; omega)]
  rw [fold_arr]
  rw [if_neg (by simp [s1]; omega), fold_arr]
  congr 1
  apply Array.ext'
  rw [setL_list _ _ _ (by rw [s1]; simp; omega), setL_list _ _ _ (by simp; omega)]
  simp
  omega
theorem build_two {T E : TypeId} (hu : Try.prog.underlying T = some (.array 2 E)) (hT : (Try.prog.info? T).map (fun i => i.zero.map (fun z => z.cells.size)) = some (some 58)) (hE : (Try.prog.info? E).map (·.size) = some 29)
    (l m : List Value) (hl : l.length = 29) (hm : m.length = 29) (w : World) : (Instr.build T #[(0, .agg l.toArray), (1, .agg m.toArray)]).run Try.prog w = .ok (.agg (l ++ m).toArray) w := by
  refine run_build w _ _ _ ?_
  obtain ⟨i0, hi, hz⟩ := Option.map_eq_some_iff.1 hT
  obtain ⟨z, hz1, hz2⟩ := Option.map_eq_some_iff.1 hz
  obtain ⟨i1, hi1, hs1⟩ := Option.map_eq_some_iff.1 hE
  unfold Program.built
  rw [hi, hu]
  simp only [hz1, hi1, hs1]
  exact fill_two (p := 29) (q := 29) (by rfl) (by rfl) hl hm hz2
theorem build_mem (l m : List Value) (hl : l.length = 29) (hm : m.length = 29) (w : World) : (Instr.build 35 #[(0, .agg l.toArray), (1, .agg m.toArray)]).run Try.prog w = .ok (.agg (l ++ m).toArray) w :=
  build_two Try.underlying35 (by kernel_rfl) (by kernel_rfl) l m hl hm w
theorem build_with (l m : List Value) (hl : l.length = 29) (hm : m.length = 29) (w : World) : (Instr.build 74 #[(0, .agg l.toArray), (1, .agg m.toArray)]).run Try.prog w = .ok (.agg (l ++ m).toArray) w :=
  build_two Try.underlying74 (by kernel_rfl) (by kernel_rfl) l m hl hm w
end Go.Proofs.Ytioggdiicgfoaaa
