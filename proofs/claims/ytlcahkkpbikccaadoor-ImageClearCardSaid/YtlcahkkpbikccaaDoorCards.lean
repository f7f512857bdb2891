/-
  DERIVED. GIVEN WITH THE SEED: THE CARDS: each row of YtlcahkkpbikccaaDoorRows.lean that lists a variable, with what it lists TIED to the program's text (the seventh form; the later family's looks); each row that meets fmt, with fmt's text TOLD by the authors' own Lean function (tested against real Go, not proved from fmt's source: count such statements apart). THE CARD IS WHAT COUNTS. Prove the row's statement (the work); the ties are given (YtlcahkkpbikccaaDoorTie.lean); close each card by the builder's one call (the guide's Derived/Test/ToyasCard.lean, 'card_holds'). Laid BY PROGRAM, IN A SANDBOX (cutbox-door.mjs). By AI agents, Wed Nov 11 2026. No macro, syntax, notation, axiom, sorry.
-/
import Derived.Test.YtlcahkkpbikccaaDoorRows
import GoSem.ClaimSeven
namespace Go.Proofs.YtlcahkkpbikccaaDoor
namespace Rows

/-- THE TIED CARD OF 'lockbarlaw15.ImageClear'. -/
def imageClearCard : Claim7 := { stood := { row := imageClearRow, standIns := [], harness := (true, "81aaf1e9ef4c28e5610943b50c87f549e080b7ff22441ef0147ab6c9f9416e5a"), looks := false }, kinds := [], alts := [], laidByText := true, laidKinds := [.data], laidTests := true, laidLooks := .later }
def ImageClearCardSaid : Prop := Claim7.holds Tryd.pinned (.plain (OpenSpec.ofChange imageClearSpec)) imageClearCard

/-- THE TIED CARD OF 'lockbarlaw15.ImageTicks'. -/
def imageTicksCard : Claim7 := { stood := { row := imageTicksRow, standIns := [], harness := (true, "81aaf1e9ef4c28e5610943b50c87f549e080b7ff22441ef0147ab6c9f9416e5a"), looks := false }, kinds := [], alts := [], laidByText := true, laidKinds := [.data], laidTests := true, laidLooks := .later }
def ImageTicksCardSaid : Prop := Claim7.holds Tryd.pinned (.plain (OpenSpec.ofChange imageTicksSpec)) imageTicksCard

/-- THE SECOND FORM's CARD OF 'lockbarlaw15.ImageClear'. -/
def imageClearUptoCard : Claim7 := { stood := { row := imageClearUptoRow, standIns := [], harness := (true, "81aaf1e9ef4c28e5610943b50c87f549e080b7ff22441ef0147ab6c9f9416e5a"), looks := false }, kinds := [], alts := [], laidByText := true, laidKinds := [.data], laidTests := true, laidLooks := .later }
def ImageClearUptoCardSaid : Prop := Claim7.holds Tryd.pinned (.plain (OpenSpec.upto imageClearSpec)) imageClearUptoCard

/-- THE SECOND FORM's CARD OF 'lockbarlaw15.ImageTicks'. -/
def imageTicksUptoCard : Claim7 := { stood := { row := imageTicksUptoRow, standIns := [], harness := (true, "81aaf1e9ef4c28e5610943b50c87f549e080b7ff22441ef0147ab6c9f9416e5a"), looks := false }, kinds := [], alts := [], laidByText := true, laidKinds := [.data], laidTests := true, laidLooks := .later }
def ImageTicksUptoCardSaid : Prop := Claim7.holds Tryd.pinned (.plain (OpenSpec.upto imageTicksSpec)) imageTicksUptoCard
end Rows
end Go.Proofs.YtlcahkkpbikccaaDoor
