/-
  No cell of these rows narrows 'for every input' (looked for: loops, veiled, ifaces, maps, wideKeys, modest, calm, conditions, laid).
  DERIVED. THE GIVEN ROWS OF THIS SEAT. 3 by the template 'for every input the law returns true; each argument reads behind the call as it read before'; 0 by the template 'total and deterministic' (their statements: YtghnpjmdadnnkaaTotals.lean).
  GIVEN WITH THE SEED: the statements are not yours to turn. If you find one false, say at which input.
  Laid BY PROGRAM, IN A SANDBOX (cutbox-rows.mjs): the forced cells as the released guide's own fill.sh prints them over the translation 0646dbfb7af7f31e… (all of the seat's roots in one cut). By AI agents, Wed Nov 11 2026. No macro, syntax, notation, axiom, sorry.
-/
import Derived.Test.YtghnpjmdadnnkaaChecked
import GoSem.Claim
import GoSem.ClaimJoined
import GoSem.ClaimMapViews
import Derived.JoinedTies
import Derived.KernelRfl
namespace Go.Proofs.Ytghnpjmdadnnkaa
/- THE CELL 'sum', in the pinned program and in every row, IS THE sha256 OF THE DUMP (.gsa) THAT YtghnpjmdadnnkaaProg.lean LOADS. Nothing in Lean hashes anything: it is a label: what it is worth is what the hold of that sum in a sandbox is worth. -/
noncomputable def Try.pinned : Pinned := { name := "ytghnpjmdadnnkaa", sum := "0646dbfb7af7f31e99f18e6a13aec42e73970abae688f053d0d6619735fb913b", checked := Try.checked }
namespace Rows
def none {H : Type} : Left H := { results := [], args := [] }

/-- 'lockbarlaw20.AspectSafe': WHATEVER THE INPUT: true; the input reads as it did. -/
def aspectSafeSpec : ChangeSpec := { name := "aspectSafe", fn := fun _ => fun
  | [d1, d2, d3] => { results := [.lit (.bool true)], args := [d1, d2, d3] }
  | _ => none }
def aspectSafeRow : OpenClaim := { program := "ytghnpjmdadnnkaa", sum := "0646dbfb7af7f31e99f18e6a13aec42e73970abae688f053d0d6619735fb913b", func := "lockbar/lockbarlaw20.AspectSafe", spec := "aspectSafe", unfollowed := true, recurses := true, apart := false }
def AspectSafeSaid : Prop := aspectSafeRow.holds Try.pinned (OpenSpec.ofChange aspectSafeSpec)

/-- ITS FALSE NEIGHBOUR: 'it returns false'. Refute it at one input. -/
def aspectSafeWrong : ChangeSpec := { name := "aspectSafe", fn := fun _ => fun
  | [d1, d2, d3] => { results := [.lit (.bool false)], args := [d1, d2, d3] }
  | _ => none }
def AspectSafeWrongFalsely : Prop := aspectSafeRow.holds Try.pinned (OpenSpec.ofChange aspectSafeWrong)

/-- 'lockbarlaw20.AspectFails': WHATEVER THE INPUT: true; the input reads as it did. -/
def aspectFailsSpec : ChangeSpec := { name := "aspectFails", fn := fun _ => fun
  | [d1, d2, d3, d4] => { results := [.lit (.bool true)], args := [d1, d2, d3, d4] }
  | _ => none }
def aspectFailsRow : OpenClaim := { program := "ytghnpjmdadnnkaa", sum := "0646dbfb7af7f31e99f18e6a13aec42e73970abae688f053d0d6619735fb913b", func := "lockbar/lockbarlaw20.AspectFails", spec := "aspectFails", unfollowed := true, recurses := true, apart := false }
def AspectFailsSaid : Prop := aspectFailsRow.holds Try.pinned (OpenSpec.ofChange aspectFailsSpec)

/-- ITS FALSE NEIGHBOUR: 'it returns false'. Refute it at one input. -/
def aspectFailsWrong : ChangeSpec := { name := "aspectFails", fn := fun _ => fun
  | [d1, d2, d3, d4] => { results := [.lit (.bool false)], args := [d1, d2, d3, d4] }
  | _ => none }
def AspectFailsWrongFalsely : Prop := aspectFailsRow.holds Try.pinned (OpenSpec.ofChange aspectFailsWrong)

/-- 'lockbarlaw20.AspectStale': WHATEVER THE INPUT: true; the input reads as it did. -/
def aspectStaleSpec : ChangeSpec := { name := "aspectStale", fn := fun _ => fun
  | [d1, d2, d3] => { results := [.lit (.bool true)], args := [d1, d2, d3] }
  | _ => none }
def aspectStaleRow : OpenClaim := { program := "ytghnpjmdadnnkaa", sum := "0646dbfb7af7f31e99f18e6a13aec42e73970abae688f053d0d6619735fb913b", func := "lockbar/lockbarlaw20.AspectStale", spec := "aspectStale", unfollowed := true, recurses := true, apart := false }
def AspectStaleSaid : Prop := aspectStaleRow.holds Try.pinned (OpenSpec.ofChange aspectStaleSpec)

/-- ITS FALSE NEIGHBOUR: 'it returns false'. Refute it at one input. -/
def aspectStaleWrong : ChangeSpec := { name := "aspectStale", fn := fun _ => fun
  | [d1, d2, d3] => { results := [.lit (.bool false)], args := [d1, d2, d3] }
  | _ => none }
def AspectStaleWrongFalsely : Prop := aspectStaleRow.holds Try.pinned (OpenSpec.ofChange aspectStaleWrong)

/- THE SECOND FORM. 'bulk': how many values and letters a reading holds, each counted each time it is reached (what is shared counts as often as it is met; a slice's spare places count too). A statement '..UptoSaid' is the law's where the arguments, and the package variables that the reading takes, are together of bulk at most 1048576: NARROWER than '..Said'. Prove '..Said' where nothing that the law and all that it calls make is longer than what came in: it says more and counts as full. Else prove '..UptoSaid'. A law counts once. -/
mutual
def uptoBulk {H : Type} : DataW H → Nat
  | .lit (.string bytes) => bytes.length + 1
  | .lit _ => 1
  | .nil => 1
  | .ptr d => uptoBulk d + 1
  | .slice elems spare => uptoBulkAll elems + uptoBulkAll spare + 1
  | .agg parts => uptoBulkAll parts + 1
  | .iface _ d => uptoBulk d + 1
  | .map entries => uptoBulkEntries entries + 1
  | .held _ => 1
def uptoBulkAll {H : Type} : List (DataW H) → Nat
  | [] => 0
  | d :: r => uptoBulk d + uptoBulkAll r
def uptoBulkEntries {H : Type} : List (Lit × DataW H) → Nat
  | [] => 0
  | x :: r => uptoBulkEntry x + uptoBulkEntries r
def uptoBulkEntry {H : Type} : Lit × DataW H → Nat
  | (.string bytes, d) => bytes.length + uptoBulk d + 1
  | (_, d) => uptoBulk d + 1
 end
def uptoSmall : (H : Type) → List (DataW H) → Bool := fun _ ds => decide (uptoBulkAll ds ≤ 1048576)
def OpenSpec.upto (s : _root_.Go.ChangeSpec) : _root_.Go.OpenSpec := { _root_.Go.OpenSpec.ofChange s with cond := some uptoSmall }

/-- 'lockbarlaw20.AspectSafe', WHERE WHAT IT READS IS OF BULK AT MOST 1048576: true; the input reads as it did. -/
def aspectSafeUptoRow : OpenClaim := { program := "ytghnpjmdadnnkaa", sum := "0646dbfb7af7f31e99f18e6a13aec42e73970abae688f053d0d6619735fb913b", func := "lockbar/lockbarlaw20.AspectSafe", spec := "aspectSafe", unfollowed := true, recurses := true, apart := false, narrowed := true }
def AspectSafeUptoSaid : Prop := aspectSafeUptoRow.holds Try.pinned (OpenSpec.upto aspectSafeSpec)

/-- 'lockbarlaw20.AspectFails', WHERE WHAT IT READS IS OF BULK AT MOST 1048576: true; the input reads as it did. -/
def aspectFailsUptoRow : OpenClaim := { program := "ytghnpjmdadnnkaa", sum := "0646dbfb7af7f31e99f18e6a13aec42e73970abae688f053d0d6619735fb913b", func := "lockbar/lockbarlaw20.AspectFails", spec := "aspectFails", unfollowed := true, recurses := true, apart := false, narrowed := true }
def AspectFailsUptoSaid : Prop := aspectFailsUptoRow.holds Try.pinned (OpenSpec.upto aspectFailsSpec)

/-- 'lockbarlaw20.AspectStale', WHERE WHAT IT READS IS OF BULK AT MOST 1048576: true; the input reads as it did. -/
def aspectStaleUptoRow : OpenClaim := { program := "ytghnpjmdadnnkaa", sum := "0646dbfb7af7f31e99f18e6a13aec42e73970abae688f053d0d6619735fb913b", func := "lockbar/lockbarlaw20.AspectStale", spec := "aspectStale", unfollowed := true, recurses := true, apart := false, narrowed := true }
def AspectStaleUptoSaid : Prop := aspectStaleUptoRow.holds Try.pinned (OpenSpec.upto aspectStaleSpec)

end Rows
end Go.Proofs.Ytghnpjmdadnnkaa
