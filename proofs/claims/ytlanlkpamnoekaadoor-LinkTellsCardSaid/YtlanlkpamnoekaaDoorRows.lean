/-
  NARROWER THAN 'FOR EVERY INPUT', by the rows' own cells (each row's printed sentence says how): LinkTells: laid · LinkOnce: laid · LinkAll: laid · LinkDead: laid · LinkFields: laid.
  DERIVED. THE GIVEN ROWS OF THIS SEAT. 5 by the template 'for every input the law returns true; each argument reads behind the call as it read before'; 0 by the template 'total and deterministic' (their statements: YtlanlkpamnoekaaDoorTotals.lean).
  GIVEN WITH THE SEED: the statements are not yours to turn. If you find one false, say at which input.
  Laid BY PROGRAM, IN A SANDBOX (cutbox-rows.mjs): the forced cells as the released guide's own fill.sh prints them over the translation 6720902ba3c09d39… (all of the seat's roots in one cut). By AI agents, Wed Nov 11 2026. No macro, syntax, notation, axiom, sorry.
-/
import Derived.Test.YtlanlkpamnoekaaDoorChecked
import GoSem.Claim
import GoSem.ClaimJoined
import GoSem.ClaimMapViews
import Derived.JoinedTies
import Derived.KernelRfl
namespace Go.Proofs.YtlanlkpamnoekaaDoor
/- THE CELL 'sum', in the pinned program and in every row, IS THE sha256 OF THE DUMP (.gsa) THAT YtlanlkpamnoekaaDoorProg.lean LOADS. Nothing in Lean hashes anything: it is a label: what it is worth is what the hold of that sum in a sandbox is worth. -/
noncomputable def Tryd.pinned : Pinned := { name := "ytlanlkpamnoekaadoor", sum := "6720902ba3c09d3962d1dfb1a8ef9679eaa613e618109dfae9d97a5678a87a00", checked := Tryd.checked }
namespace Rows
def none {H : Type} : Left H := { results := [], args := [] }

/- WHAT THE LISTED PACKAGE-LEVEL VARIABLES READ AS WHEN THE CALL BEGINS. Each datum BY PROGRAM (the guide's laid-datum.mjs) off the statement by which the dump's own 'gosem.cut.vars' lays the variable. In a bare row this is a premise. The card (YtlanlkpamnoekaaDoorCards.lean) ties it to the program's text. -/
def laid_lockbar_tick_tops {H : Type} : DataW H := .agg [.lit (.int .i64 1073741824), .lit (.int .i64 65535)]

/-- 'lockbarlaw29.LinkTells': WHATEVER THE INPUT: true; the input reads as it did. -/
def linkTellsSpec : ChangeSpec := { name := "linkTells", fn := fun _ => fun
  | [d1, d2, d3, d4, d5, d6] => { results := [.lit (.bool true)], args := [d1, d2, d3, d4, d5, d6] }
  | _ => none }
def linkTellsRow : OpenClaim := { program := "ytlanlkpamnoekaadoor", sum := "6720902ba3c09d3962d1dfb1a8ef9679eaa613e618109dfae9d97a5678a87a00", func := "lockbar/lockbarlaw29.LinkTells", spec := "linkTells", unfollowed := true, recurses := true, named := ["lockbar/tick.tops"], leaving := true, apart := false, laid := [("lockbar/tick.tops", laid_lockbar_tick_tops)] }
def LinkTellsSaid : Prop := linkTellsRow.holds Tryd.pinned (OpenSpec.ofChange linkTellsSpec)

/-- ITS FALSE NEIGHBOUR: 'it returns false'. Refute it at one input. -/
def linkTellsWrong : ChangeSpec := { name := "linkTells", fn := fun _ => fun
  | [d1, d2, d3, d4, d5, d6] => { results := [.lit (.bool false)], args := [d1, d2, d3, d4, d5, d6] }
  | _ => none }
def LinkTellsWrongFalsely : Prop := linkTellsRow.holds Tryd.pinned (OpenSpec.ofChange linkTellsWrong)

/-- 'lockbarlaw29.LinkOnce': WHATEVER THE INPUT: true; the input reads as it did. -/
def linkOnceSpec : ChangeSpec := { name := "linkOnce", fn := fun _ => fun
  | [d1, d2, d3] => { results := [.lit (.bool true)], args := [d1, d2, d3] }
  | _ => none }
def linkOnceRow : OpenClaim := { program := "ytlanlkpamnoekaadoor", sum := "6720902ba3c09d3962d1dfb1a8ef9679eaa613e618109dfae9d97a5678a87a00", func := "lockbar/lockbarlaw29.LinkOnce", spec := "linkOnce", unfollowed := true, recurses := true, named := ["lockbar/tick.tops"], leaving := true, apart := false, laid := [("lockbar/tick.tops", laid_lockbar_tick_tops)] }
def LinkOnceSaid : Prop := linkOnceRow.holds Tryd.pinned (OpenSpec.ofChange linkOnceSpec)

/-- ITS FALSE NEIGHBOUR: 'it returns false'. Refute it at one input. -/
def linkOnceWrong : ChangeSpec := { name := "linkOnce", fn := fun _ => fun
  | [d1, d2, d3] => { results := [.lit (.bool false)], args := [d1, d2, d3] }
  | _ => none }
def LinkOnceWrongFalsely : Prop := linkOnceRow.holds Tryd.pinned (OpenSpec.ofChange linkOnceWrong)

/-- 'lockbarlaw29.LinkAll': WHATEVER THE INPUT: true; the input reads as it did. -/
def linkAllSpec : ChangeSpec := { name := "linkAll", fn := fun _ => fun
  | [d1, d2, d3] => { results := [.lit (.bool true)], args := [d1, d2, d3] }
  | _ => none }
def linkAllRow : OpenClaim := { program := "ytlanlkpamnoekaadoor", sum := "6720902ba3c09d3962d1dfb1a8ef9679eaa613e618109dfae9d97a5678a87a00", func := "lockbar/lockbarlaw29.LinkAll", spec := "linkAll", unfollowed := true, recurses := true, named := ["lockbar/tick.tops"], leaving := true, apart := false, laid := [("lockbar/tick.tops", laid_lockbar_tick_tops)] }
def LinkAllSaid : Prop := linkAllRow.holds Tryd.pinned (OpenSpec.ofChange linkAllSpec)

/-- ITS FALSE NEIGHBOUR: 'it returns false'. Refute it at one input. -/
def linkAllWrong : ChangeSpec := { name := "linkAll", fn := fun _ => fun
  | [d1, d2, d3] => { results := [.lit (.bool false)], args := [d1, d2, d3] }
  | _ => none }
def LinkAllWrongFalsely : Prop := linkAllRow.holds Tryd.pinned (OpenSpec.ofChange linkAllWrong)

/-- 'lockbarlaw29.LinkDead': WHATEVER THE INPUT: true; the input reads as it did. -/
def linkDeadSpec : ChangeSpec := { name := "linkDead", fn := fun _ => fun
  | [d1, d2, d3] => { results := [.lit (.bool true)], args := [d1, d2, d3] }
  | _ => none }
def linkDeadRow : OpenClaim := { program := "ytlanlkpamnoekaadoor", sum := "6720902ba3c09d3962d1dfb1a8ef9679eaa613e618109dfae9d97a5678a87a00", func := "lockbar/lockbarlaw29.LinkDead", spec := "linkDead", unfollowed := true, recurses := true, named := ["lockbar/tick.tops"], leaving := true, apart := false, laid := [("lockbar/tick.tops", laid_lockbar_tick_tops)] }
def LinkDeadSaid : Prop := linkDeadRow.holds Tryd.pinned (OpenSpec.ofChange linkDeadSpec)

/-- ITS FALSE NEIGHBOUR: 'it returns false'. Refute it at one input. -/
def linkDeadWrong : ChangeSpec := { name := "linkDead", fn := fun _ => fun
  | [d1, d2, d3] => { results := [.lit (.bool false)], args := [d1, d2, d3] }
  | _ => none }
def LinkDeadWrongFalsely : Prop := linkDeadRow.holds Tryd.pinned (OpenSpec.ofChange linkDeadWrong)

/-- 'lockbarlaw29.LinkFields': WHATEVER THE INPUT: true; the input reads as it did. -/
def linkFieldsSpec : ChangeSpec := { name := "linkFields", fn := fun _ => fun
  | [d1, d2] => { results := [.lit (.bool true)], args := [d1, d2] }
  | _ => none }
def linkFieldsRow : OpenClaim := { program := "ytlanlkpamnoekaadoor", sum := "6720902ba3c09d3962d1dfb1a8ef9679eaa613e618109dfae9d97a5678a87a00", func := "lockbar/lockbarlaw29.LinkFields", spec := "linkFields", unfollowed := true, recurses := true, named := ["lockbar/tick.tops"], leaving := true, apart := false, laid := [("lockbar/tick.tops", laid_lockbar_tick_tops)] }
def LinkFieldsSaid : Prop := linkFieldsRow.holds Tryd.pinned (OpenSpec.ofChange linkFieldsSpec)

/-- ITS FALSE NEIGHBOUR: 'it returns false'. Refute it at one input. -/
def linkFieldsWrong : ChangeSpec := { name := "linkFields", fn := fun _ => fun
  | [d1, d2] => { results := [.lit (.bool false)], args := [d1, d2] }
  | _ => none }
def LinkFieldsWrongFalsely : Prop := linkFieldsRow.holds Tryd.pinned (OpenSpec.ofChange linkFieldsWrong)

/- THE SECOND FORM. 'bulk': how many values and letters a reading holds, each counted each time it is reached (what is shared counts as often as it is met; a slice's spare places count too). A statement '..UptoSaid' is the law's where the arguments, and the package variables that the reading takes, are together of bulk at most 1048576: NARROWER than '..Said'. Prove '..Said' where nothing that the law and all that it calls make is longer than what came in: it says more and counts as full. Else prove '..UptoSaid'. A law counts once. -/
mutual
def uptoBulk {H : Type} : DataW H → Nat
  | .lit (.string bytes) => bytes.length + 1
  | .lit _ => 1
  | .nil => 1
  | .ptr d => uptoBulk d + 1
  | .slice elems spare => uptoBulkAll elems + uptoBulkAll spare + 1
  | .agg parts => uptoBulkAll parts + 1
  | .iface _ d => uptoBulk d + 1
  | .map entries => uptoBulkEntries entries + 1
  | .held _ => 1
def uptoBulkAll {H : Type} : List (DataW H) → Nat
  | [] => 0
  | d :: r => uptoBulk d + uptoBulkAll r
def uptoBulkEntries {H : Type} : List (Lit × DataW H) → Nat
  | [] => 0
  | x :: r => uptoBulkEntry x + uptoBulkEntries r
def uptoBulkEntry {H : Type} : Lit × DataW H → Nat
  | (.string bytes, d) => bytes.length + uptoBulk d + 1
  | (_, d) => uptoBulk d + 1
 end
def uptoSmall : (H : Type) → List (DataW H) → Bool := fun _ ds => decide (uptoBulkAll ds ≤ 1048576)
def OpenSpec.upto (s : _root_.Go.ChangeSpec) : _root_.Go.OpenSpec := { _root_.Go.OpenSpec.ofChange s with cond := some uptoSmall }

/-- 'lockbarlaw29.LinkTells', WHERE WHAT IT READS IS OF BULK AT MOST 1048576: true; the input reads as it did. -/
def linkTellsUptoRow : OpenClaim := { program := "ytlanlkpamnoekaadoor", sum := "6720902ba3c09d3962d1dfb1a8ef9679eaa613e618109dfae9d97a5678a87a00", func := "lockbar/lockbarlaw29.LinkTells", spec := "linkTells", unfollowed := true, recurses := true, named := ["lockbar/tick.tops"], leaving := true, apart := false, laid := [("lockbar/tick.tops", laid_lockbar_tick_tops)], narrowed := true }
def LinkTellsUptoSaid : Prop := linkTellsUptoRow.holds Tryd.pinned (OpenSpec.upto linkTellsSpec)

/-- 'lockbarlaw29.LinkOnce', WHERE WHAT IT READS IS OF BULK AT MOST 1048576: true; the input reads as it did. -/
def linkOnceUptoRow : OpenClaim := { program := "ytlanlkpamnoekaadoor", sum := "6720902ba3c09d3962d1dfb1a8ef9679eaa613e618109dfae9d97a5678a87a00", func := "lockbar/lockbarlaw29.LinkOnce", spec := "linkOnce", unfollowed := true, recurses := true, named := ["lockbar/tick.tops"], leaving := true, apart := false, laid := [("lockbar/tick.tops", laid_lockbar_tick_tops)], narrowed := true }
def LinkOnceUptoSaid : Prop := linkOnceUptoRow.holds Tryd.pinned (OpenSpec.upto linkOnceSpec)

/-- 'lockbarlaw29.LinkAll', WHERE WHAT IT READS IS OF BULK AT MOST 1048576: true; the input reads as it did. -/
def linkAllUptoRow : OpenClaim := { program := "ytlanlkpamnoekaadoor", sum := "6720902ba3c09d3962d1dfb1a8ef9679eaa613e618109dfae9d97a5678a87a00", func := "lockbar/lockbarlaw29.LinkAll", spec := "linkAll", unfollowed := true, recurses := true, named := ["lockbar/tick.tops"], leaving := true, apart := false, laid := [("lockbar/tick.tops", laid_lockbar_tick_tops)], narrowed := true }
def LinkAllUptoSaid : Prop := linkAllUptoRow.holds Tryd.pinned (OpenSpec.upto linkAllSpec)

/-- 'lockbarlaw29.LinkDead', WHERE WHAT IT READS IS OF BULK AT MOST 1048576: true; the input reads as it did. -/
def linkDeadUptoRow : OpenClaim := { program := "ytlanlkpamnoekaadoor", sum := "6720902ba3c09d3962d1dfb1a8ef9679eaa613e618109dfae9d97a5678a87a00", func := "lockbar/lockbarlaw29.LinkDead", spec := "linkDead", unfollowed := true, recurses := true, named := ["lockbar/tick.tops"], leaving := true, apart := false, laid := [("lockbar/tick.tops", laid_lockbar_tick_tops)], narrowed := true }
def LinkDeadUptoSaid : Prop := linkDeadUptoRow.holds Tryd.pinned (OpenSpec.upto linkDeadSpec)

/-- 'lockbarlaw29.LinkFields', WHERE WHAT IT READS IS OF BULK AT MOST 1048576: true; the input reads as it did. -/
def linkFieldsUptoRow : OpenClaim := { program := "ytlanlkpamnoekaadoor", sum := "6720902ba3c09d3962d1dfb1a8ef9679eaa613e618109dfae9d97a5678a87a00", func := "lockbar/lockbarlaw29.LinkFields", spec := "linkFields", unfollowed := true, recurses := true, named := ["lockbar/tick.tops"], leaving := true, apart := false, laid := [("lockbar/tick.tops", laid_lockbar_tick_tops)], narrowed := true }
def LinkFieldsUptoSaid : Prop := linkFieldsUptoRow.holds Tryd.pinned (OpenSpec.upto linkFieldsSpec)

end Rows
end Go.Proofs.YtlanlkpamnoekaaDoor
