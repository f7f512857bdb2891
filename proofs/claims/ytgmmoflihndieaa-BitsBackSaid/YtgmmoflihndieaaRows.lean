/-
  No cell of these rows narrows 'for every input' (looked for: loops, veiled, ifaces, maps, wideKeys, modest, calm, conditions, laid).
  DERIVED. THE GIVEN ROWS OF THIS SEAT. 5 by the template 'for every input the law returns true; each argument reads behind the call as it read before'; 0 by the template 'total and deterministic' (their statements: YtgmmoflihndieaaTotals.lean).
  GIVEN WITH THE SEED: the statements are not yours to turn. If you find one false, say at which input.
  Laid BY PROGRAM, IN A SANDBOX (cutbox-rows.mjs): the forced cells as the released guide's own fill.sh prints them over the translation 859cb5bc9e33c61c… (all of the seat's roots in one cut). By AI agents, Wed Nov 11 2026. No macro, syntax, notation, axiom, sorry.
-/
import Derived.Test.YtgmmoflihndieaaChecked
import GoSem.Claim
import GoSem.ClaimJoined
import GoSem.ClaimMapViews
import Derived.JoinedTies
import Derived.KernelRfl
namespace Go.Proofs.Ytgmmoflihndieaa
/- THE CELL 'sum', in the pinned program and in every row, IS THE sha256 OF THE DUMP (.gsa) THAT YtgmmoflihndieaaProg.lean LOADS. Nothing in Lean hashes anything: it is a label: what it is worth is what the hold of that sum in a sandbox is worth. -/
noncomputable def Try.pinned : Pinned := { name := "ytgmmoflihndieaa", sum := "859cb5bc9e33c61cdf2ab8ac7a378aa52f36afd7f533ac5565c48cced917311a", checked := Try.checked }
namespace Rows
def none {H : Type} : Left H := { results := [], args := [] }

/-- 'lockbarlaw01.BitsTells': WHATEVER THE INPUT: true; the input reads as it did. -/
def bitsTellsSpec : ChangeSpec := { name := "bitsTells", fn := fun _ => fun
  | [d1, d2, d3, d4, d5, d6] => { results := [.lit (.bool true)], args := [d1, d2, d3, d4, d5, d6] }
  | _ => none }
def bitsTellsRow : OpenClaim := { program := "ytgmmoflihndieaa", sum := "859cb5bc9e33c61cdf2ab8ac7a378aa52f36afd7f533ac5565c48cced917311a", func := "lockbar/lockbarlaw01.BitsTells", spec := "bitsTells", unfollowed := true, recurses := true, apart := false }
def BitsTellsSaid : Prop := bitsTellsRow.holds Try.pinned (OpenSpec.ofChange bitsTellsSpec)

/-- ITS FALSE NEIGHBOUR: 'it returns false'. Refute it at one input. -/
def bitsTellsWrong : ChangeSpec := { name := "bitsTells", fn := fun _ => fun
  | [d1, d2, d3, d4, d5, d6] => { results := [.lit (.bool false)], args := [d1, d2, d3, d4, d5, d6] }
  | _ => none }
def BitsTellsWrongFalsely : Prop := bitsTellsRow.holds Try.pinned (OpenSpec.ofChange bitsTellsWrong)

/-- 'lockbarlaw01.BitsBack': WHATEVER THE INPUT: true; the input reads as it did. -/
def bitsBackSpec : ChangeSpec := { name := "bitsBack", fn := fun _ => fun
  | [d1, d2] => { results := [.lit (.bool true)], args := [d1, d2] }
  | _ => none }
def bitsBackRow : OpenClaim := { program := "ytgmmoflihndieaa", sum := "859cb5bc9e33c61cdf2ab8ac7a378aa52f36afd7f533ac5565c48cced917311a", func := "lockbar/lockbarlaw01.BitsBack", spec := "bitsBack", unfollowed := true, recurses := true, apart := false }
def BitsBackSaid : Prop := bitsBackRow.holds Try.pinned (OpenSpec.ofChange bitsBackSpec)

/-- ITS FALSE NEIGHBOUR: 'it returns false'. Refute it at one input. -/
def bitsBackWrong : ChangeSpec := { name := "bitsBack", fn := fun _ => fun
  | [d1, d2] => { results := [.lit (.bool false)], args := [d1, d2] }
  | _ => none }
def BitsBackWrongFalsely : Prop := bitsBackRow.holds Try.pinned (OpenSpec.ofChange bitsBackWrong)

/-- 'lockbarlaw01.BitsTold': WHATEVER THE INPUT: true; the input reads as it did. -/
def bitsToldSpec : ChangeSpec := { name := "bitsTold", fn := fun _ => fun
  | [d1, d2, d3, d4, d5] => { results := [.lit (.bool true)], args := [d1, d2, d3, d4, d5] }
  | _ => none }
def bitsToldRow : OpenClaim := { program := "ytgmmoflihndieaa", sum := "859cb5bc9e33c61cdf2ab8ac7a378aa52f36afd7f533ac5565c48cced917311a", func := "lockbar/lockbarlaw01.BitsTold", spec := "bitsTold", unfollowed := true, recurses := true, apart := false }
def BitsToldSaid : Prop := bitsToldRow.holds Try.pinned (OpenSpec.ofChange bitsToldSpec)

/-- ITS FALSE NEIGHBOUR: 'it returns false'. Refute it at one input. -/
def bitsToldWrong : ChangeSpec := { name := "bitsTold", fn := fun _ => fun
  | [d1, d2, d3, d4, d5] => { results := [.lit (.bool false)], args := [d1, d2, d3, d4, d5] }
  | _ => none }
def BitsToldWrongFalsely : Prop := bitsToldRow.holds Try.pinned (OpenSpec.ofChange bitsToldWrong)

/-- 'lockbarlaw01.BitsFlags': WHATEVER THE INPUT: true; the input reads as it did. -/
def bitsFlagsSpec : ChangeSpec := { name := "bitsFlags", fn := fun _ => fun
  | [d1, d2] => { results := [.lit (.bool true)], args := [d1, d2] }
  | _ => none }
def bitsFlagsRow : OpenClaim := { program := "ytgmmoflihndieaa", sum := "859cb5bc9e33c61cdf2ab8ac7a378aa52f36afd7f533ac5565c48cced917311a", func := "lockbar/lockbarlaw01.BitsFlags", spec := "bitsFlags", unfollowed := true, recurses := true, apart := false }
def BitsFlagsSaid : Prop := bitsFlagsRow.holds Try.pinned (OpenSpec.ofChange bitsFlagsSpec)

/-- ITS FALSE NEIGHBOUR: 'it returns false'. Refute it at one input. -/
def bitsFlagsWrong : ChangeSpec := { name := "bitsFlags", fn := fun _ => fun
  | [d1, d2] => { results := [.lit (.bool false)], args := [d1, d2] }
  | _ => none }
def BitsFlagsWrongFalsely : Prop := bitsFlagsRow.holds Try.pinned (OpenSpec.ofChange bitsFlagsWrong)

/-- 'lockbarlaw01.BitsBad': WHATEVER THE INPUT: true; the input reads as it did. -/
def bitsBadSpec : ChangeSpec := { name := "bitsBad", fn := fun _ => fun
  | [d1, d2, d3, d4, d5] => { results := [.lit (.bool true)], args := [d1, d2, d3, d4, d5] }
  | _ => none }
def bitsBadRow : OpenClaim := { program := "ytgmmoflihndieaa", sum := "859cb5bc9e33c61cdf2ab8ac7a378aa52f36afd7f533ac5565c48cced917311a", func := "lockbar/lockbarlaw01.BitsBad", spec := "bitsBad", unfollowed := true, recurses := true, apart := false }
def BitsBadSaid : Prop := bitsBadRow.holds Try.pinned (OpenSpec.ofChange bitsBadSpec)

/-- ITS FALSE NEIGHBOUR: 'it returns false'. Refute it at one input. -/
def bitsBadWrong : ChangeSpec := { name := "bitsBad", fn := fun _ => fun
  | [d1, d2, d3, d4, d5] => { results := [.lit (.bool false)], args := [d1, d2, d3, d4, d5] }
  | _ => none }
def BitsBadWrongFalsely : Prop := bitsBadRow.holds Try.pinned (OpenSpec.ofChange bitsBadWrong)

/- THE SECOND FORM. 'bulk': how many values and letters a reading holds, each counted each time it is reached (what is shared counts as often as it is met; a slice's spare places count too). A statement '..UptoSaid' is the law's where the arguments, and the package variables that the reading takes, are together of bulk at most 1048576: NARROWER than '..Said'. Prove '..Said' where nothing that the law and all that it calls make is longer than what came in: it says more and counts as full. Else prove '..UptoSaid'. A law counts once. -/
mutual
def uptoBulk {H : Type} : DataW H → Nat
  | .lit (.string bytes) => bytes.length + 1
  | .lit _ => 1
  | .nil => 1
  | .ptr d => uptoBulk d + 1
  | .slice elems spare => uptoBulkAll elems + uptoBulkAll spare + 1
  | .agg parts => uptoBulkAll parts + 1
  | .iface _ d => uptoBulk d + 1
  | .map entries => uptoBulkEntries entries + 1
  | .held _ => 1
def uptoBulkAll {H : Type} : List (DataW H) → Nat
  | [] => 0
  | d :: r => uptoBulk d + uptoBulkAll r
def uptoBulkEntries {H : Type} : List (Lit × DataW H) → Nat
  | [] => 0
  | x :: r => uptoBulkEntry x + uptoBulkEntries r
def uptoBulkEntry {H : Type} : Lit × DataW H → Nat
  | (.string bytes, d) => bytes.length + uptoBulk d + 1
  | (_, d) => uptoBulk d + 1
 end
def uptoSmall : (H : Type) → List (DataW H) → Bool := fun _ ds => decide (uptoBulkAll ds ≤ 1048576)
def OpenSpec.upto (s : _root_.Go.ChangeSpec) : _root_.Go.OpenSpec := { _root_.Go.OpenSpec.ofChange s with cond := some uptoSmall }

/-- 'lockbarlaw01.BitsTells', WHERE WHAT IT READS IS OF BULK AT MOST 1048576: true; the input reads as it did. -/
def bitsTellsUptoRow : OpenClaim := { program := "ytgmmoflihndieaa", sum := "859cb5bc9e33c61cdf2ab8ac7a378aa52f36afd7f533ac5565c48cced917311a", func := "lockbar/lockbarlaw01.BitsTells", spec := "bitsTells", unfollowed := true, recurses := true, apart := false, narrowed := true }
def BitsTellsUptoSaid : Prop := bitsTellsUptoRow.holds Try.pinned (OpenSpec.upto bitsTellsSpec)

/-- 'lockbarlaw01.BitsBack', WHERE WHAT IT READS IS OF BULK AT MOST 1048576: true; the input reads as it did. -/
def bitsBackUptoRow : OpenClaim := { program := "ytgmmoflihndieaa", sum := "859cb5bc9e33c61cdf2ab8ac7a378aa52f36afd7f533ac5565c48cced917311a", func := "lockbar/lockbarlaw01.BitsBack", spec := "bitsBack", unfollowed := true, recurses := true, apart := false, narrowed := true }
def BitsBackUptoSaid : Prop := bitsBackUptoRow.holds Try.pinned (OpenSpec.upto bitsBackSpec)

/-- 'lockbarlaw01.BitsTold', WHERE WHAT IT READS IS OF BULK AT MOST 1048576: true; the input reads as it did. -/
def bitsToldUptoRow : OpenClaim := { program := "ytgmmoflihndieaa", sum := "859cb5bc9e33c61cdf2ab8ac7a378aa52f36afd7f533ac5565c48cced917311a", func := "lockbar/lockbarlaw01.BitsTold", spec := "bitsTold", unfollowed := true, recurses := true, apart := false, narrowed := true }
def BitsToldUptoSaid : Prop := bitsToldUptoRow.holds Try.pinned (OpenSpec.upto bitsToldSpec)

/-- 'lockbarlaw01.BitsFlags', WHERE WHAT IT READS IS OF BULK AT MOST 1048576: true; the input reads as it did. -/
def bitsFlagsUptoRow : OpenClaim := { program := "ytgmmoflihndieaa", sum := "859cb5bc9e33c61cdf2ab8ac7a378aa52f36afd7f533ac5565c48cced917311a", func := "lockbar/lockbarlaw01.BitsFlags", spec := "bitsFlags", unfollowed := true, recurses := true, apart := false, narrowed := true }
def BitsFlagsUptoSaid : Prop := bitsFlagsUptoRow.holds Try.pinned (OpenSpec.upto bitsFlagsSpec)

/-- 'lockbarlaw01.BitsBad', WHERE WHAT IT READS IS OF BULK AT MOST 1048576: true; the input reads as it did. -/
def bitsBadUptoRow : OpenClaim := { program := "ytgmmoflihndieaa", sum := "859cb5bc9e33c61cdf2ab8ac7a378aa52f36afd7f533ac5565c48cced917311a", func := "lockbar/lockbarlaw01.BitsBad", spec := "bitsBad", unfollowed := true, recurses := true, apart := false, narrowed := true }
def BitsBadUptoSaid : Prop := bitsBadUptoRow.holds Try.pinned (OpenSpec.upto bitsBadSpec)

end Rows
end Go.Proofs.Ytgmmoflihndieaa
