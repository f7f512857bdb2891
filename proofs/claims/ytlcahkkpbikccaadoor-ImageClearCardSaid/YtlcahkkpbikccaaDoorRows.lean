/-
  NARROWER THAN 'FOR EVERY INPUT', by the rows' own cells (each row's printed sentence says how): ImageClear: laid · ImageTicks: laid.
  DERIVED. THE GIVEN ROWS OF THIS SEAT. 2 by the template 'for every input the law returns true; each argument reads behind the call as it read before'; 0 by the template 'total and deterministic' (their statements: YtlcahkkpbikccaaDoorTotals.lean).
  GIVEN WITH THE SEED: the statements are not yours to turn. If you find one false, say at which input.
  Laid BY PROGRAM, IN A SANDBOX (cutbox-rows.mjs): the forced cells as the released guide's own fill.sh prints them over the translation 924e862ac50c2e7c… (all of the seat's roots in one cut). By AI agents, Wed Nov 11 2026. No macro, syntax, notation, axiom, sorry.
-/
import Derived.Test.YtlcahkkpbikccaaDoorChecked
import GoSem.Claim
import GoSem.ClaimJoined
import GoSem.ClaimMapViews
import Derived.JoinedTies
import Derived.KernelRfl
namespace Go.Proofs.YtlcahkkpbikccaaDoor
/- THE CELL 'sum', in the pinned program and in every row, IS THE sha256 OF THE DUMP (.gsa) THAT YtlcahkkpbikccaaDoorProg.lean LOADS. Nothing in Lean hashes anything: it is a label: what it is worth is what the hold of that sum in a sandbox is worth. -/
noncomputable def Tryd.pinned : Pinned := { name := "ytlcahkkpbikccaadoor", sum := "924e862ac50c2e7cc74fc361ad5cf7f2c181b37b5cc7badb4b34c5f4321e781a", checked := Tryd.checked }
namespace Rows
def none {H : Type} : Left H := { results := [], args := [] }

/- WHAT THE LISTED PACKAGE-LEVEL VARIABLES READ AS WHEN THE CALL BEGINS. Each datum BY PROGRAM (the guide's laid-datum.mjs) off the statement by which the dump's own 'gosem.cut.vars' lays the variable. In a bare row this is a premise. The card (YtlcahkkpbikccaaDoorCards.lean) ties it to the program's text. -/
def laid_lockbar_tick_tops {H : Type} : DataW H := .agg [.lit (.int .i64 1073741824), .lit (.int .i64 65535)]

/-- 'lockbarlaw15.ImageClear': WHATEVER THE INPUT: true; the input reads as it did. -/
def imageClearSpec : ChangeSpec := { name := "imageClear", fn := fun _ => fun
  | [d1, d2, d3, d4] => { results := [.lit (.bool true)], args := [d1, d2, d3, d4] }
  | _ => none }
def imageClearRow : OpenClaim := { program := "ytlcahkkpbikccaadoor", sum := "924e862ac50c2e7cc74fc361ad5cf7f2c181b37b5cc7badb4b34c5f4321e781a", func := "lockbar/lockbarlaw15.ImageClear", spec := "imageClear", unfollowed := true, recurses := true, named := ["lockbar/tick.tops"], apart := false, laid := [("lockbar/tick.tops", laid_lockbar_tick_tops)] }
def ImageClearSaid : Prop := imageClearRow.holds Tryd.pinned (OpenSpec.ofChange imageClearSpec)

/-- ITS FALSE NEIGHBOUR: 'it returns false'. Refute it at one input. -/
def imageClearWrong : ChangeSpec := { name := "imageClear", fn := fun _ => fun
  | [d1, d2, d3, d4] => { results := [.lit (.bool false)], args := [d1, d2, d3, d4] }
  | _ => none }
def ImageClearWrongFalsely : Prop := imageClearRow.holds Tryd.pinned (OpenSpec.ofChange imageClearWrong)

/-- 'lockbarlaw15.ImageTicks': WHATEVER THE INPUT: true; the input reads as it did. -/
def imageTicksSpec : ChangeSpec := { name := "imageTicks", fn := fun _ => fun
  | [d1, d2, d3] => { results := [.lit (.bool true)], args := [d1, d2, d3] }
  | _ => none }
def imageTicksRow : OpenClaim := { program := "ytlcahkkpbikccaadoor", sum := "924e862ac50c2e7cc74fc361ad5cf7f2c181b37b5cc7badb4b34c5f4321e781a", func := "lockbar/lockbarlaw15.ImageTicks", spec := "imageTicks", unfollowed := true, recurses := true, named := ["lockbar/tick.tops"], apart := false, laid := [("lockbar/tick.tops", laid_lockbar_tick_tops)] }
def ImageTicksSaid : Prop := imageTicksRow.holds Tryd.pinned (OpenSpec.ofChange imageTicksSpec)

/-- ITS FALSE NEIGHBOUR: 'it returns false'. Refute it at one input. -/
def imageTicksWrong : ChangeSpec := { name := "imageTicks", fn := fun _ => fun
  | [d1, d2, d3] => { results := [.lit (.bool false)], args := [d1, d2, d3] }
  | _ => none }
def ImageTicksWrongFalsely : Prop := imageTicksRow.holds Tryd.pinned (OpenSpec.ofChange imageTicksWrong)

/- THE SECOND FORM. 'bulk': how many values and letters a reading holds, each counted each time it is reached (what is shared counts as often as it is met; a slice's spare places count too). A statement '..UptoSaid' is the law's where the arguments, and the package variables that the reading takes, are together of bulk at most 1048576: NARROWER than '..Said'. Prove '..Said' where nothing that the law and all that it calls make is longer than what came in: it says more and counts as full. Else prove '..UptoSaid'. A law counts once. -/
mutual
def uptoBulk {H : Type} : DataW H → Nat
  | .lit (.string bytes) => bytes.length + 1
  | .lit _ => 1
  | .nil => 1
  | .ptr d => uptoBulk d + 1
  | .slice elems spare => uptoBulkAll elems + uptoBulkAll spare + 1
  | .agg parts => uptoBulkAll parts + 1
  | .iface _ d => uptoBulk d + 1
  | .map entries => uptoBulkEntries entries + 1
  | .held _ => 1
def uptoBulkAll {H : Type} : List (DataW H) → Nat
  | [] => 0
  | d :: r => uptoBulk d + uptoBulkAll r
def uptoBulkEntries {H : Type} : List (Lit × DataW H) → Nat
  | [] => 0
  | x :: r => uptoBulkEntry x + uptoBulkEntries r
def uptoBulkEntry {H : Type} : Lit × DataW H → Nat
  | (.string bytes, d) => bytes.length + uptoBulk d + 1
  | (_, d) => uptoBulk d + 1
 end
def uptoSmall : (H : Type) → List (DataW H) → Bool := fun _ ds => decide (uptoBulkAll ds ≤ 1048576)
def OpenSpec.upto (s : _root_.Go.ChangeSpec) : _root_.Go.OpenSpec := { _root_.Go.OpenSpec.ofChange s with cond := some uptoSmall }

/-- 'lockbarlaw15.ImageClear', WHERE WHAT IT READS IS OF BULK AT MOST 1048576: true; the input reads as it did. -/
def imageClearUptoRow : OpenClaim := { program := "ytlcahkkpbikccaadoor", sum := "924e862ac50c2e7cc74fc361ad5cf7f2c181b37b5cc7badb4b34c5f4321e781a", func := "lockbar/lockbarlaw15.ImageClear", spec := "imageClear", unfollowed := true, recurses := true, named := ["lockbar/tick.tops"], apart := false, laid := [("lockbar/tick.tops", laid_lockbar_tick_tops)], narrowed := true }
def ImageClearUptoSaid : Prop := imageClearUptoRow.holds Tryd.pinned (OpenSpec.upto imageClearSpec)

/-- 'lockbarlaw15.ImageTicks', WHERE WHAT IT READS IS OF BULK AT MOST 1048576: true; the input reads as it did. -/
def imageTicksUptoRow : OpenClaim := { program := "ytlcahkkpbikccaadoor", sum := "924e862ac50c2e7cc74fc361ad5cf7f2c181b37b5cc7badb4b34c5f4321e781a", func := "lockbar/lockbarlaw15.ImageTicks", spec := "imageTicks", unfollowed := true, recurses := true, named := ["lockbar/tick.tops"], apart := false, laid := [("lockbar/tick.tops", laid_lockbar_tick_tops)], narrowed := true }
def ImageTicksUptoSaid : Prop := imageTicksUptoRow.holds Tryd.pinned (OpenSpec.upto imageTicksSpec)

end Rows
end Go.Proofs.YtlcahkkpbikccaaDoor
