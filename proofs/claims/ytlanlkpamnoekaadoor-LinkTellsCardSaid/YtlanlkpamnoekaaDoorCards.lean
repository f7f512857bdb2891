/-
  DERIVED. GIVEN WITH THE SEED: THE CARDS: each row of YtlanlkpamnoekaaDoorRows.lean that lists a variable, with what it lists TIED to the program's text (the seventh form; the later family's looks); each row that meets fmt, with fmt's text TOLD by the authors' own Lean function (tested against real Go, not proved from fmt's source: count such statements apart). THE CARD IS WHAT COUNTS. Prove the row's statement (the work); the ties are given (YtlanlkpamnoekaaDoorTie.lean); close each card by the builder's one call (the guide's Derived/Test/ToyasCard.lean, 'card_holds'). Laid BY PROGRAM, IN A SANDBOX (cutbox-door.mjs). By AI agents, Wed Nov 11 2026. No macro, syntax, notation, axiom, sorry.
-/
import Derived.Test.YtlanlkpamnoekaaDoorRows
import GoSem.ClaimSeven
namespace Go.Proofs.YtlanlkpamnoekaaDoor
namespace Rows

/-- THE TIED CARD OF 'lockbarlaw29.LinkTells'. -/
def linkTellsCard : Claim7 := { stood := { row := linkTellsRow, standIns := [], harness := (true, "cda50028ea30f6e1f8bf81441b139cc398e5f83aa2f2e17fc655c9602841f3a5"), looks := false }, kinds := [], alts := [], goes := true, laidByText := true, laidKinds := [.data], laidTests := true, laidLooks := .later }
def LinkTellsCardSaid : Prop := Claim7.holds Tryd.pinned (.plain (OpenSpec.ofChange linkTellsSpec)) linkTellsCard

/-- THE TIED CARD OF 'lockbarlaw29.LinkOnce'. -/
def linkOnceCard : Claim7 := { stood := { row := linkOnceRow, standIns := [], harness := (true, "cda50028ea30f6e1f8bf81441b139cc398e5f83aa2f2e17fc655c9602841f3a5"), looks := false }, kinds := [], alts := [], goes := true, laidByText := true, laidKinds := [.data], laidTests := true, laidLooks := .later }
def LinkOnceCardSaid : Prop := Claim7.holds Tryd.pinned (.plain (OpenSpec.ofChange linkOnceSpec)) linkOnceCard

/-- THE TIED CARD OF 'lockbarlaw29.LinkAll'. -/
def linkAllCard : Claim7 := { stood := { row := linkAllRow, standIns := [], harness := (true, "cda50028ea30f6e1f8bf81441b139cc398e5f83aa2f2e17fc655c9602841f3a5"), looks := false }, kinds := [], alts := [], goes := true, laidByText := true, laidKinds := [.data], laidTests := true, laidLooks := .later }
def LinkAllCardSaid : Prop := Claim7.holds Tryd.pinned (.plain (OpenSpec.ofChange linkAllSpec)) linkAllCard

/-- THE TIED CARD OF 'lockbarlaw29.LinkDead'. -/
def linkDeadCard : Claim7 := { stood := { row := linkDeadRow, standIns := [], harness := (true, "cda50028ea30f6e1f8bf81441b139cc398e5f83aa2f2e17fc655c9602841f3a5"), looks := false }, kinds := [], alts := [], goes := true, laidByText := true, laidKinds := [.data], laidTests := true, laidLooks := .later }
def LinkDeadCardSaid : Prop := Claim7.holds Tryd.pinned (.plain (OpenSpec.ofChange linkDeadSpec)) linkDeadCard

/-- THE TIED CARD OF 'lockbarlaw29.LinkFields'. -/
def linkFieldsCard : Claim7 := { stood := { row := linkFieldsRow, standIns := [], harness := (true, "cda50028ea30f6e1f8bf81441b139cc398e5f83aa2f2e17fc655c9602841f3a5"), looks := false }, kinds := [], alts := [], goes := true, laidByText := true, laidKinds := [.data], laidTests := true, laidLooks := .later }
def LinkFieldsCardSaid : Prop := Claim7.holds Tryd.pinned (.plain (OpenSpec.ofChange linkFieldsSpec)) linkFieldsCard

/-- THE SECOND FORM's CARD OF 'lockbarlaw29.LinkTells'. -/
def linkTellsUptoCard : Claim7 := { stood := { row := linkTellsUptoRow, standIns := [], harness := (true, "cda50028ea30f6e1f8bf81441b139cc398e5f83aa2f2e17fc655c9602841f3a5"), looks := false }, kinds := [], alts := [], goes := true, laidByText := true, laidKinds := [.data], laidTests := true, laidLooks := .later }
def LinkTellsUptoCardSaid : Prop := Claim7.holds Tryd.pinned (.plain (OpenSpec.upto linkTellsSpec)) linkTellsUptoCard

/-- THE SECOND FORM's CARD OF 'lockbarlaw29.LinkOnce'. -/
def linkOnceUptoCard : Claim7 := { stood := { row := linkOnceUptoRow, standIns := [], harness := (true, "cda50028ea30f6e1f8bf81441b139cc398e5f83aa2f2e17fc655c9602841f3a5"), looks := false }, kinds := [], alts := [], goes := true, laidByText := true, laidKinds := [.data], laidTests := true, laidLooks := .later }
def LinkOnceUptoCardSaid : Prop := Claim7.holds Tryd.pinned (.plain (OpenSpec.upto linkOnceSpec)) linkOnceUptoCard

/-- THE SECOND FORM's CARD OF 'lockbarlaw29.LinkAll'. -/
def linkAllUptoCard : Claim7 := { stood := { row := linkAllUptoRow, standIns := [], harness := (true, "cda50028ea30f6e1f8bf81441b139cc398e5f83aa2f2e17fc655c9602841f3a5"), looks := false }, kinds := [], alts := [], goes := true, laidByText := true, laidKinds := [.data], laidTests := true, laidLooks := .later }
def LinkAllUptoCardSaid : Prop := Claim7.holds Tryd.pinned (.plain (OpenSpec.upto linkAllSpec)) linkAllUptoCard

/-- THE SECOND FORM's CARD OF 'lockbarlaw29.LinkDead'. -/
def linkDeadUptoCard : Claim7 := { stood := { row := linkDeadUptoRow, standIns := [], harness := (true, "cda50028ea30f6e1f8bf81441b139cc398e5f83aa2f2e17fc655c9602841f3a5"), looks := false }, kinds := [], alts := [], goes := true, laidByText := true, laidKinds := [.data], laidTests := true, laidLooks := .later }
def LinkDeadUptoCardSaid : Prop := Claim7.holds Tryd.pinned (.plain (OpenSpec.upto linkDeadSpec)) linkDeadUptoCard

/-- THE SECOND FORM's CARD OF 'lockbarlaw29.LinkFields'. -/
def linkFieldsUptoCard : Claim7 := { stood := { row := linkFieldsUptoRow, standIns := [], harness := (true, "cda50028ea30f6e1f8bf81441b139cc398e5f83aa2f2e17fc655c9602841f3a5"), looks := false }, kinds := [], alts := [], goes := true, laidByText := true, laidKinds := [.data], laidTests := true, laidLooks := .later }
def LinkFieldsUptoCardSaid : Prop := Claim7.holds Tryd.pinned (.plain (OpenSpec.upto linkFieldsSpec)) linkFieldsUptoCard
end Rows
end Go.Proofs.YtlanlkpamnoekaaDoor
