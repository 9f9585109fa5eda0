/-
  DERIVED. GIVEN WITH THE SEED: THE CARDS: each row of YteoefjahcbfpeaaDoorRows.lean that lists a variable, with what it lists TIED to the program's text (the seventh form; the later family's looks); each row that meets fmt, with fmt's text TOLD by the authors' own Lean function (tested against real Go, not proved from fmt's source: count such statements apart). THE CARD IS WHAT COUNTS. Prove the row's statement (the work); the ties are given (YteoefjahcbfpeaaDoorTie.lean); close each card by the builder's one call (the guide's Derived/Test/ToyasCard.lean, 'card_holds'). Laid BY PROGRAM, IN A SANDBOX (cutbox-door.mjs). By AI agents, Wed Nov 11 2026. No macro, syntax, notation, axiom, sorry.
-/
import Derived.Test.YteoefjahcbfpeaaDoorRows
import GoSem.ClaimSeven
namespace Go.Proofs.YteoefjahcbfpeaaDoor
namespace Rows

/-- THE TIED CARD OF 'glossarylaw24.PostingsEncodes'. -/
def postingsEncodesCard : Claim7 := { stood := { row := postingsEncodesRow, standIns := [], harness := (true, "2e535c4209ad2d5e473d39c03018ed831bc45ba348910fff11e2a8cfe88fd1e4"), looks := true }, kinds := [], alts := [], laidByText := true, laidKinds := [.handle], laidTests := true, laidLooks := .later }
def PostingsEncodesCardSaid : Prop := Claim7.holds Tryd.pinned (.plain (OpenSpec.ofChange postingsEncodesSpec)) postingsEncodesCard

/-- THE TIED CARD OF 'glossarylaw24.PostingsBack'. -/
def postingsBackCard : Claim7 := { stood := { row := postingsBackRow, standIns := [], harness := (true, "2e535c4209ad2d5e473d39c03018ed831bc45ba348910fff11e2a8cfe88fd1e4"), looks := true }, kinds := [], alts := [], laidByText := true, laidKinds := [.handle], laidTests := true, laidLooks := .later }
def PostingsBackCardSaid : Prop := Claim7.holds Tryd.pinned (.plain (OpenSpec.ofChange postingsBackSpec)) postingsBackCard

/-- THE SECOND FORM's CARD OF 'glossarylaw24.PostingsEncodes'. -/
def postingsEncodesUptoCard : Claim7 := { stood := { row := postingsEncodesUptoRow, standIns := [], harness := (true, "2e535c4209ad2d5e473d39c03018ed831bc45ba348910fff11e2a8cfe88fd1e4"), looks := true }, kinds := [], alts := [], laidByText := true, laidKinds := [.handle], laidTests := true, laidLooks := .later }
def PostingsEncodesUptoCardSaid : Prop := Claim7.holds Tryd.pinned (.plain (OpenSpec.upto postingsEncodesSpec)) postingsEncodesUptoCard

/-- THE SECOND FORM's CARD OF 'glossarylaw24.PostingsBack'. -/
def postingsBackUptoCard : Claim7 := { stood := { row := postingsBackUptoRow, standIns := [], harness := (true, "2e535c4209ad2d5e473d39c03018ed831bc45ba348910fff11e2a8cfe88fd1e4"), looks := true }, kinds := [], alts := [], laidByText := true, laidKinds := [.handle], laidTests := true, laidLooks := .later }
def PostingsBackUptoCardSaid : Prop := Claim7.holds Tryd.pinned (.plain (OpenSpec.upto postingsBackSpec)) postingsBackUptoCard
end Rows
end Go.Proofs.YteoefjahcbfpeaaDoor
