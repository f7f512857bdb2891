/- What the panel shows, in plain words: numbers side by side. No condition. -/
import Derived.WalkKit
namespace Go.Proofs.YtppcdmbpbbjecaaGreat.SM
structure ShowM where
  clear : BitVec 32
  held : BitVec 32
  normal : BitVec 32
  reverse : BitVec 32
  locked : BitVec 32
  off : BitVec 32
  steady : BitVec 32
  flash : BitVec 32
  autos : BitVec 32
  code : Int
  waiting : Int
  errors : Int
/-- a number, and in how many bits it stands -/
abbrev Fld := Nat × Nat
def bitN (x : BitVec 32) (i : Nat) : Nat := (x.getLsbD i).toNat
/-- which of two is there alone -/
def lampN (a b : BitVec 32) (i : Nat) : Nat := if a.getLsbD i && !b.getLsbD i then 1 else if b.getLsbD i && !a.getLsbD i then 2 else 0
def flashM (s : ShowM) : BitVec 32 := s.flash &&& ~~~ s.steady
def secF (s : ShowM) (kinds : List Int) (i : Nat) : List Fld := [(bitN s.clear i, 1), (bitN s.held i, 1)] ++ (if kinds.getD i 0 == 2 then [(lampN s.normal s.reverse i, 2), (bitN s.locked i, 1)] else [])
def sigF (s : ShowM) (i : Nat) : List Fld := [(bitN s.off i, 1), (lampN s.steady (flashM s) i, 2), (bitN s.autos i, 1)]
def endF (s : ShowM) : List Fld := [((min s.code 7).toNat, 3), ((min (max s.waiting 0) 7).toNat, 3), ((max s.errors 0 % 256).toNat, 8)]
def secsF (s : ShowM) (kinds : List Int) (k : Nat) : List Fld := (List.range k).flatMap (secF s kinds)
def sigsF (s : ShowM) (k : Nat) : List Fld := (List.range k).flatMap (sigF s)
def flds (s : ShowM) (kinds : List Int) (nsig : Nat) : List Fld := secsF s kinds (min kinds.length 24) ++ (sigsF s (min nsig 12) ++ endF s)
theorem secsF_succ (s : ShowM) (kinds : List Int) (k : Nat) : secsF s kinds (k + 1) = secsF s kinds k ++ secF s kinds k := by simp [secsF, List.range_succ]
theorem sigsF_succ (s : ShowM) (k : Nat) : sigsF s (k + 1) = sigsF s k ++ sigF s k := by simp [sigsF, List.range_succ]
/-- a row of some steps: what lies behind them -/
theorem flat_at {α : Type} {f : Nat → List α} {k n j : Nat} {v : α} (hk : k < n) (hv : (f k)[j]? = some v) : ((List.range n).flatMap f)[((List.range k).flatMap f).length + j]? = some v := by
  obtain ⟨m, rfl⟩ : ∃ m, n = k + 1 + m := ⟨n - (k + 1), by omega⟩
  rw [List.range_add, List.range_succ, List.flatMap_append, List.flatMap_append, List.append_assoc, List.getElem?_append_right (by omega), Nat.add_sub_cancel_left, List.getElem?_append_left]
  · simpa using hv
  · have := (List.getElem?_eq_some_iff.1 hv).1; simpa using this
theorem secs_at {s : ShowM} {kinds : List Int} {nsig k j : Nat} {v : Fld} (hk : k < min kinds.length 24) (hv : (secF s kinds k)[j]? = some v) : (flds s kinds nsig)[(secsF s kinds k).length + j]? = some v := by
  have h := flat_at hk hv
  unfold flds
  rw [List.getElem?_append_left]
  · exact h
  · exact (List.getElem?_eq_some_iff.1 h).1
theorem sigs_at {s : ShowM} {kinds : List Int} {nsig k j : Nat} {v : Fld} (hk : k < min nsig 12) (hv : (sigF s k)[j]? = some v) : (flds s kinds nsig)[(secsF s kinds (min kinds.length 24)).length + ((sigsF s k).length + j)]? = some v := by
  have h := flat_at hk hv
  unfold flds
  rw [List.getElem?_append_right (by omega), Nat.add_sub_cancel_left, List.getElem?_append_left]
  · exact h
  · exact (List.getElem?_eq_some_iff.1 h).1
theorem end_at {s : ShowM} {kinds : List Int} {nsig j : Nat} {v : Fld} (hv : (endF s)[j]? = some v) : (flds s kinds nsig)[(secsF s kinds (min kinds.length 24)).length + (sigsF s (min nsig 12)).length + j]? = some v := by
  unfold flds
  rw [Nat.add_assoc, List.getElem?_append_right (by omega), Nat.add_sub_cancel_left, List.getElem?_append_right (by omega), Nat.add_sub_cancel_left]
  exact hv
theorem flds_len (s : ShowM) (kinds : List Int) (nsig : Nat) : (flds s kinds nsig).length = (secsF s kinds (min kinds.length 24)).length + (sigsF s (min nsig 12)).length + 3 := by
  simp only [flds, List.length_append, endF, List.length_cons, List.length_nil]; omega
end Go.Proofs.YtppcdmbpbbjecaaGreat.SM
