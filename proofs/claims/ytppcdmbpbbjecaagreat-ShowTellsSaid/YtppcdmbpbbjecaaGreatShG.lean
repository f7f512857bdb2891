/- Shows: what is told by so many bits, in plain words: positions, lengths; a number that was put is the one that is read. No condition. -/
import Derived.Test.YtppcdmbpbbjecaaGreatShF
namespace Go.Proofs.YtppcdmbpbbjecaaGreat
open Go.RowKit Rf Mem Bv AM SM Bits
abbrev TSt := ShowM × Nat
def dSec (l : List Bool) (kinds : List Int) (i : Nat) (p : TSt) : TSt :=
  if kinds.getD i 0 == 2 then
    ({ p.1 with clear := orB p.1.clear i (rd l p.2 1 == 1), held := orB p.1.held i (rd l (p.2 + 1) 1 == 1), normal := orB p.1.normal i (rd l (p.2 + 1 + 1) 2 == 1), reverse := orB p.1.reverse i (rd l (p.2 + 1 + 1) 2 == 2), locked := orB p.1.locked i (rd l (p.2 + 1 + 1 + 2) 1 == 1) }, p.2 + 1 + 1 + 2 + 1)
  else ({ p.1 with clear := orB p.1.clear i (rd l p.2 1 == 1), held := orB p.1.held i (rd l (p.2 + 1) 1 == 1) }, p.2 + 1 + 1)
def dSecs (l : List Bool) (kinds : List Int) : Nat → TSt
  | 0 => (s0, 0)
  | n + 1 => dSec l kinds n (dSecs l kinds n)
def dSig (l : List Bool) (i : Nat) (p : TSt) : TSt :=
  ({ p.1 with off := orB p.1.off i (rd l p.2 1 == 1), steady := orB p.1.steady i (rd l (p.2 + 1) 2 == 1), flash := orB p.1.flash i (rd l (p.2 + 1) 2 == 2), autos := orB p.1.autos i (rd l (p.2 + 1 + 2) 1 == 1) }, p.2 + 1 + 2 + 1)
def dSigs (l : List Bool) (p : TSt) : Nat → TSt
  | 0 => p
  | n + 1 => dSig l n (dSigs l p n)
def dEnd (l : List Bool) (p : TSt) : ShowM := { p.1 with code := (rd l p.2 3 : Int), waiting := (rd l (p.2 + 3) 3 : Int), errors := (rd l (p.2 + 3 + 3) 8 : Int) }
/-- the show that so many bits tell -/
def dec (l : List Bool) (kinds : List Int) (nsig : Nat) : ShowM := dEnd l (dSigs l (dSecs l kinds (min kinds.length 24)) (min nsig 12))
theorem sumW_append (a b : List Fld) : sumW (a ++ b) = sumW a + sumW b := by simp [sumW]
theorem secF_w (s : ShowM) (kinds : List Int) (i : Nat) : sumW (secF s kinds i) = if kinds.getD i 0 == 2 then 5 else 2 := by unfold secF; split <;> rfl
theorem dSec_pos (l : List Bool) (kinds : List Int) (i : Nat) (p : TSt) : (dSec l kinds i p).2 = p.2 + if kinds.getD i 0 == 2 then 5 else 2 := by unfold dSec; split <;> rfl
theorem dSecs_pos (l : List Bool) (kinds : List Int) (s : ShowM) (n : Nat) : (dSecs l kinds n).2 = sumW (secsF s kinds n) := by
  induction n with
  | zero => rfl
  | succ n ih => rw [secsF_succ, sumW_append, ← ih, secF_w, dSecs, dSec_pos]
theorem dSigs_pos (l : List Bool) (p : TSt) (n : Nat) : (dSigs l p n).2 = p.2 + 4 * n := by
  induction n with
  | zero => rfl
  | succ n ih => show (dSigs l p n).2 + 4 = _; rw [ih]; omega
theorem sigsF_w (s : ShowM) (n : Nat) : sumW (sigsF s n) = 4 * n := by
  induction n with
  | zero => rfl
  | succ n ih => rw [sigsF_succ, sumW_append, ih]; show 4 * n + 4 = _; omega
/-- how many bits a show has -/
theorem flds_w (s : ShowM) (l : List Bool) (kinds : List Int) (nsig : Nat) : sumW (flds s kinds nsig) = (dSecs l kinds (min kinds.length 24)).2 + 4 * min nsig 12 + 14 := by
  unfold flds
  rw [sumW_append, sumW_append, sigsF_w, ← dSecs_pos l kinds s]
  show _ + (_ + 14) = _
  omega
theorem dSecs_mono (l : List Bool) (kinds : List Int) {i n : Nat} (h : i < n) : (dSecs l kinds i).2 + (if kinds.getD i 0 == 2 then 5 else 2) ≤ (dSecs l kinds n).2 := by
  induction n with
  | zero => omega
  | succ n ih =>
    rw [dSecs, dSec_pos]
    rcases Nat.lt_or_eq_of_le (Nat.lt_succ_iff.1 h) with h1 | rfl
    · have := ih h1; omega
    · exact Nat.le_refl _
/-- what Take tells -/
def TakeR (pl : List (BitVec 8)) (kinds : List Int) (nsig : Nat) (s : ShowM) (e : Int) : Prop :=
  (pl.length = (sumW (flds s0 kinds nsig) + 7) / 8 ∧ Bits.Holds pl (fbits (flds (dec (bitsOf pl) kinds nsig) kinds nsig)) ∧ s = dec (bitsOf pl) kinds nsig ∧ e = 0) ∨
  (¬ (pl.length = (sumW (flds s0 kinds nsig) + 7) / 8 ∧ Bits.Holds pl (fbits (flds (dec (bitsOf pl) kinds nsig) kinds nsig))) ∧ s = s0 ∧ e = 41)
end Go.Proofs.YtppcdmbpbbjecaaGreat
