/-
  DERIVED. GIVEN WITH THE SEED: THE CARDS: each row of YtcbdfmmiigpddaaDoorRows.lean that lists a variable, with what it lists TIED to the program's text (the seventh form; the later family's looks); each row that meets fmt, with fmt's text TOLD by the authors' own Lean function (tested against real Go, not proved from fmt's source: count such statements apart). THE CARD IS WHAT COUNTS. Prove the row's statement (the work); the ties are given (YtcbdfmmiigpddaaDoorTie.lean); close each card by the builder's one call (the guide's Derived/Test/ToyasCard.lean, 'card_holds'). Laid BY PROGRAM, IN A SANDBOX (cutbox-door.mjs). By AI agents, Wed Nov 11 2026. No macro, syntax, notation, axiom, sorry.
-/
import Derived.Test.YtcbdfmmiigpddaaDoorRows
import GoSem.ClaimSeven
namespace Go.Proofs.YtcbdfmmiigpddaaDoor
namespace Rows

/-- THE TIED CARD OF 'porismlaw21.FigureTables'. -/
def figureTablesCard : Claim7 := { stood := { row := figureTablesRow, standIns := [], harness := (true, "718869257b53365d3d8c24afda7e408179937010f6315e48fa767adcf38ca3bb"), looks := false }, kinds := [], alts := [], laidByText := true, laidKinds := [.data, .listed, .data, .pinned], laidTests := true, laidLooks := .later }
def FigureTablesCardSaid : Prop := Claim7.holds Tryd.pinned (.plain (OpenSpec.ofChange figureTablesSpec)) figureTablesCard

/-- THE SECOND FORM's CARD OF 'porismlaw21.FigureTables'. -/
def figureTablesUptoCard : Claim7 := { stood := { row := figureTablesUptoRow, standIns := [], harness := (true, "718869257b53365d3d8c24afda7e408179937010f6315e48fa767adcf38ca3bb"), looks := false }, kinds := [], alts := [], laidByText := true, laidKinds := [.data, .listed, .data, .pinned], laidTests := true, laidLooks := .later }
def FigureTablesUptoCardSaid : Prop := Claim7.holds Tryd.pinned (.plain (OpenSpec.upto figureTablesSpec)) figureTablesUptoCard
end Rows
end Go.Proofs.YtcbdfmmiigpddaaDoor
