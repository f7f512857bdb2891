/- Bytes as strings: what string(b) gives, and when two such are the same. No condition. -/
import Derived.Test.YtppcdmbpbbjecaaGreatBv
import Derived.Laws.BytesArg
import Derived.Lib.Bytes
namespace Go.Proofs.YtppcdmbpbbjecaaGreat.Str
open Go.RowKit Mem Bv
def strOf (bs : List (BitVec 8)) : ByteArray := strOfNums (bs.map fun b => (b.toNat : Int))
theorem strOf_toList (bs : List (BitVec 8)) : (strOf bs).toList = bs.map fun b => UInt8.ofNat b.toNat := by
  unfold strOf
  rw [Lib.toList_data, strOfNums_data, List.map_map]
  rfl
theorem map_inj : ∀ {a b : List (BitVec 8)}, (a.map fun x => UInt8.ofNat x.toNat) = (b.map fun x => UInt8.ofNat x.toNat) → a = b
  | [], [], _ => rfl
  | [], _ :: _, h => by simp at h
  | _ :: _, [], h => by simp at h
  | x :: a, y :: b, h => by
    simp only [List.map_cons, List.cons.injEq] at h
    rw [map_inj h.2]
    congr 1
    have h1 := congrArg UInt8.toNat h.1
    have hx := x.isLt
    have hy := y.isLt
    simp only [UInt8.toNat_ofNat'] at h1
    apply BitVec.eq_of_toNat_eq
    omega
theorem str_beq (a b : List (BitVec 8)) : ((strOf a).toList == (strOf b).toList) = decide (a = b) := by
  rw [strOf_toList, strOf_toList]
  by_cases h : a = b
  · subst h; simp
  · rw [decide_eq_false h]
    exact beq_eq_false_iff_ne.2 (fun e => h (map_inj e))
theorem conv_str {P : Program} {w : World} {src e dst : TypeId} {v : Value} {bs : List (BitVec 8)} (h : SliceAt w 1 v bs.length (u8s bs)) (hs : P.underlying src = some (.slice e)) (he : P.underlying e = some (.int .u8)) (hd : P.underlying dst = some .string) :
    (convert src dst v).run P w = .ok (.string (strOf bs)) w := by
  obtain ⟨A, c, rfl, _, _, _, h4⟩ := h
  cases A with
  | none =>
    have h0 : bs = [] := by
      rcases h4 with h | ⟨_, _, h, _⟩
      · exact List.eq_nil_of_length_eq_zero h
      · cases h
    subst h0
    exact run_convert_bytes_nil (P := P) w src e hs he _ c dst hd
  | some ad =>
    rcases Nat.eq_zero_or_pos bs.length with h0 | h0
    · obtain rfl : bs = [] := List.eq_nil_of_length_eq_zero h0
      rw [run_convert_bytes_string w src dst e _ _ c hs he hd]
      simp [Conv.bytesToString, strOf, strOfNums, loadCells, loadCellsFrom, Result.andThen]
      rfl
    · rcases h4 with h | ⟨b, off, h, _, hc⟩
      · omega
      cases h
      refine run_convert_bytes_arg (P := P) w src e hs he b off bs.length c _ (by simp) (fun i hi => ?_) dst hd
      have := hc i (.int .u8 ((bs[i]'hi).toNat : Int)) (by simp [u8s, hi])
      rw [this]; simp [hi]
end Go.Proofs.YtppcdmbpbbjecaaGreat.Str
