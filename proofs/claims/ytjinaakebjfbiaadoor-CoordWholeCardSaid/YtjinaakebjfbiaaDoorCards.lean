/-
  DERIVED. GIVEN WITH THE SEED: THE CARDS: each row of YtjinaakebjfbiaaDoorRows.lean that lists a variable, with what it lists TIED to the program's text (the seventh form; the later family's looks); each row that meets fmt, with fmt's text TOLD by the authors' own Lean function (tested against real Go, not proved from fmt's source: count such statements apart). THE CARD IS WHAT COUNTS. Prove the row's statement (the work); the ties are given (YtjinaakebjfbiaaDoorTie.lean); close each card by the builder's one call (the guide's Derived/Test/ToyasCard.lean, 'card_holds'). Laid BY PROGRAM, IN A SANDBOX (cutbox-door.mjs). By AI agents, Wed Nov 11 2026. No macro, syntax, notation, axiom, sorry.
-/
import Derived.Test.YtjinaakebjfbiaaDoorRows
import GoSem.ClaimSeven
namespace Go.Proofs.YtjinaakebjfbiaaDoor
namespace Rows

/-- THE TIED CARD OF 'porismlaw25.CoordWhole'. -/
def coordWholeCard : Claim7 := { stood := { row := coordWholeRow, standIns := [], harness := (true, "3fc573e06959f789db15d5923eaf34ff6bfa0835d8e47f77a25b3d75272c64a5"), looks := false }, kinds := [], alts := [], laidByText := true, laidKinds := [.data, .listed, .data, .pinned], laidTests := true, laidLooks := .later }
def CoordWholeCardSaid : Prop := Claim7.holds Tryd.pinned (.plain (OpenSpec.ofChange coordWholeSpec)) coordWholeCard

/-- THE SECOND FORM's CARD OF 'porismlaw25.CoordWhole'. -/
def coordWholeUptoCard : Claim7 := { stood := { row := coordWholeUptoRow, standIns := [], harness := (true, "3fc573e06959f789db15d5923eaf34ff6bfa0835d8e47f77a25b3d75272c64a5"), looks := false }, kinds := [], alts := [], laidByText := true, laidKinds := [.data, .listed, .data, .pinned], laidTests := true, laidLooks := .later }
def CoordWholeUptoCardSaid : Prop := Claim7.holds Tryd.pinned (.plain (OpenSpec.upto coordWholeSpec)) coordWholeUptoCard
end Rows
end Go.Proofs.YtjinaakebjfbiaaDoor
