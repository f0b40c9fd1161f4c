/-
  DERIVED. GIVEN WITH THE SEED: THE CARDS: each row of YtpodjhapjcncdaaDoorRows.lean that lists a variable, with what it lists TIED to the program's text (the seventh form; the later family's looks); each row that meets fmt, with fmt's text TOLD by the authors' own Lean function (tested against real Go, not proved from fmt's source: count such statements apart). THE CARD IS WHAT COUNTS. Prove the row's statement (the work); the ties are given (YtpodjhapjcncdaaDoorTie.lean); close each card by the builder's one call (the guide's Derived/Test/ToyasCard.lean, 'card_holds'). Laid BY PROGRAM, IN A SANDBOX (cutbox-door.mjs). By AI agents, Wed Nov 11 2026. No macro, syntax, notation, axiom, sorry.
-/
import Derived.Test.YtpodjhapjcncdaaDoorRows
import GoSem.ClaimSeven
namespace Go.Proofs.YtpodjhapjcncdaaDoor
namespace Rows

/-- THE TIED CARD OF 'porismlaw21.FigureTables'. -/
def figureTablesCard : Claim7 := { stood := { row := figureTablesRow, standIns := [], harness := (true, "9791c967a4f1f8805b646267dd176ee12701fbc16ebb5e3bc8eb87eebfde377f"), looks := false }, kinds := [], alts := [], laidByText := true, laidKinds := [.data, .listed, .data, .pinned], laidTests := true, laidLooks := .later }
def FigureTablesCardSaid : Prop := Claim7.holds Tryd.pinned (.plain (OpenSpec.ofChange figureTablesSpec)) figureTablesCard

/-- THE TIED CARD OF 'porismlaw21.FigureFits'. -/
def figureFitsCard : Claim7 := { stood := { row := figureFitsRow, standIns := [], harness := (true, "9791c967a4f1f8805b646267dd176ee12701fbc16ebb5e3bc8eb87eebfde377f"), looks := false }, kinds := [], alts := [], laidByText := true, laidKinds := [.data, .listed, .data, .pinned], laidTests := true, laidLooks := .later }
def FigureFitsCardSaid : Prop := Claim7.holds Tryd.pinned (.plain (OpenSpec.ofChange figureFitsSpec)) figureFitsCard

/-- THE TIED CARD OF 'porismlaw21.FigureWords'. -/
def figureWordsCard : Claim7 := { stood := { row := figureWordsRow, standIns := [], harness := (true, "9791c967a4f1f8805b646267dd176ee12701fbc16ebb5e3bc8eb87eebfde377f"), looks := false }, kinds := [], alts := [], laidByText := true, laidKinds := [.data, .listed, .data, .pinned], laidTests := true, laidLooks := .later }
def FigureWordsCardSaid : Prop := Claim7.holds Tryd.pinned (.plain (OpenSpec.ofChange figureWordsSpec)) figureWordsCard

/-- THE TIED CARD OF 'porismlaw21.FigureBuilt'. -/
def figureBuiltCard : Claim7 := { stood := { row := figureBuiltRow, standIns := [], harness := (true, "9791c967a4f1f8805b646267dd176ee12701fbc16ebb5e3bc8eb87eebfde377f"), looks := false }, kinds := [], alts := [], laidByText := true, laidKinds := [.data, .listed, .data, .pinned], laidTests := true, laidLooks := .later }
def FigureBuiltCardSaid : Prop := Claim7.holds Tryd.pinned (.plain (OpenSpec.ofChange figureBuiltSpec)) figureBuiltCard

/-- THE SECOND FORM's CARD OF 'porismlaw21.FigureTables'. -/
def figureTablesUptoCard : Claim7 := { stood := { row := figureTablesUptoRow, standIns := [], harness := (true, "9791c967a4f1f8805b646267dd176ee12701fbc16ebb5e3bc8eb87eebfde377f"), looks := false }, kinds := [], alts := [], laidByText := true, laidKinds := [.data, .listed, .data, .pinned], laidTests := true, laidLooks := .later }
def FigureTablesUptoCardSaid : Prop := Claim7.holds Tryd.pinned (.plain (OpenSpec.upto figureTablesSpec)) figureTablesUptoCard

/-- THE SECOND FORM's CARD OF 'porismlaw21.FigureFits'. -/
def figureFitsUptoCard : Claim7 := { stood := { row := figureFitsUptoRow, standIns := [], harness := (true, "9791c967a4f1f8805b646267dd176ee12701fbc16ebb5e3bc8eb87eebfde377f"), looks := false }, kinds := [], alts := [], laidByText := true, laidKinds := [.data, .listed, .data, .pinned], laidTests := true, laidLooks := .later }
def FigureFitsUptoCardSaid : Prop := Claim7.holds Tryd.pinned (.plain (OpenSpec.upto figureFitsSpec)) figureFitsUptoCard

/-- THE SECOND FORM's CARD OF 'porismlaw21.FigureWords'. -/
def figureWordsUptoCard : Claim7 := { stood := { row := figureWordsUptoRow, standIns := [], harness := (true, "9791c967a4f1f8805b646267dd176ee12701fbc16ebb5e3bc8eb87eebfde377f"), looks := false }, kinds := [], alts := [], laidByText := true, laidKinds := [.data, .listed, .data, .pinned], laidTests := true, laidLooks := .later }
def FigureWordsUptoCardSaid : Prop := Claim7.holds Tryd.pinned (.plain (OpenSpec.upto figureWordsSpec)) figureWordsUptoCard

/-- THE SECOND FORM's CARD OF 'porismlaw21.FigureBuilt'. -/
def figureBuiltUptoCard : Claim7 := { stood := { row := figureBuiltUptoRow, standIns := [], harness := (true, "9791c967a4f1f8805b646267dd176ee12701fbc16ebb5e3bc8eb87eebfde377f"), looks := false }, kinds := [], alts := [], laidByText := true, laidKinds := [.data, .listed, .data, .pinned], laidTests := true, laidLooks := .later }
def FigureBuiltUptoCardSaid : Prop := Claim7.holds Tryd.pinned (.plain (OpenSpec.upto figureBuiltSpec)) figureBuiltUptoCard
end Rows
end Go.Proofs.YtpodjhapjcncdaaDoor
