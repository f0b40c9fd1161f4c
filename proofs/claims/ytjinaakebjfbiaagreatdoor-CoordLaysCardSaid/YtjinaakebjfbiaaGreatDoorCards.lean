/-
  DERIVED. GIVEN WITH THE SEED: THE CARDS: each row of YtjinaakebjfbiaaGreatDoorRows.lean that lists a variable, with what it lists TIED to the program's text (the seventh form; the later family's looks); each row that meets fmt, with fmt's text TOLD by the authors' own Lean function (tested against real Go, not proved from fmt's source: count such statements apart). THE CARD IS WHAT COUNTS. Prove the row's statement (the work); the ties are given (YtjinaakebjfbiaaGreatDoorTie.lean); close each card by the builder's one call (the guide's Derived/Test/ToyasCard.lean, 'card_holds'). Laid BY PROGRAM, IN A SANDBOX (cutbox-door.mjs). By AI agents, Wed Nov 11 2026. No macro, syntax, notation, axiom, sorry.
-/
import Derived.Test.YtjinaakebjfbiaaGreatDoorRows
import GoSem.ClaimSeven
namespace Go.Proofs.YtjinaakebjfbiaaGreatDoor
namespace Rows

/-- THE TIED CARD OF 'porismlaw25.CoordLays'. -/
def coordLaysCard : Claim7 := { stood := { row := coordLaysRow, standIns := [], harness := (true, "eb3a3e9229d26e1ce7d96655b2bf62ebb88b6836920cdf65ffaf872bebaf0e26"), looks := true }, kinds := [], alts := [], laidByText := true, laidKinds := [.data, .listed, .data, .pinned], laidTests := true, laidLooks := .later }
def CoordLaysCardSaid : Prop := Claim7.holds Tryz.pinned (.plain (OpenSpec.ofChange coordLaysSpec)) coordLaysCard

/-- THE TIED CARD OF 'porismlaw25.CoordKinds'. -/
def coordKindsCard : Claim7 := { stood := { row := coordKindsRow, standIns := [], harness := (true, "eb3a3e9229d26e1ce7d96655b2bf62ebb88b6836920cdf65ffaf872bebaf0e26"), looks := true }, kinds := [], alts := [], laidByText := true, laidKinds := [.data, .listed, .data, .pinned], laidTests := true, laidLooks := .later }
def CoordKindsCardSaid : Prop := Claim7.holds Tryz.pinned (.plain (OpenSpec.ofChange coordKindsSpec)) coordKindsCard

/-- THE TIED CARD OF 'porismlaw23.PrinterLines'. -/
def printerLinesCard : Claim7 := { stood := { row := printerLinesRow, standIns := [], harness := (true, "eb3a3e9229d26e1ce7d96655b2bf62ebb88b6836920cdf65ffaf872bebaf0e26"), looks := true }, kinds := [], alts := [], laidByText := true, laidKinds := [.data, .data, .data, .data, .sentinel, .sentinel, .listed, .data, .pinned], laidTests := true, laidLooks := .later }
def PrinterLinesCardSaid : Prop := Claim7.holds Tryz.pinned (.plain (OpenSpec.ofChange printerLinesSpec)) printerLinesCard

/-- THE TIED CARD OF 'porismlaw23.PrinterPrints'. -/
def printerPrintsCard : Claim7 := { stood := { row := printerPrintsRow, standIns := [], harness := (true, "eb3a3e9229d26e1ce7d96655b2bf62ebb88b6836920cdf65ffaf872bebaf0e26"), looks := true }, kinds := [], alts := [], laidByText := true, laidKinds := [.data, .data, .data, .data, .sentinel, .sentinel, .listed, .data, .pinned], laidTests := true, laidLooks := .later }
def PrinterPrintsCardSaid : Prop := Claim7.holds Tryz.pinned (.plain (OpenSpec.ofChange printerPrintsSpec)) printerPrintsCard

/-- THE TIED CARD OF 'porismlaw23.PrinterBack'. -/
def printerBackCard : Claim7 := { stood := { row := printerBackRow, standIns := [], harness := (true, "eb3a3e9229d26e1ce7d96655b2bf62ebb88b6836920cdf65ffaf872bebaf0e26"), looks := true }, kinds := [], alts := [], laidByText := true, laidKinds := [.data, .data, .data, .data, .sentinel, .sentinel, .listed, .data, .pinned], laidTests := true, laidLooks := .later }
def PrinterBackCardSaid : Prop := Claim7.holds Tryz.pinned (.plain (OpenSpec.ofChange printerBackSpec)) printerBackCard

/-- THE TIED CARD OF 'porismlaw23.PrinterSame'. -/
def printerSameCard : Claim7 := { stood := { row := printerSameRow, standIns := [], harness := (true, "eb3a3e9229d26e1ce7d96655b2bf62ebb88b6836920cdf65ffaf872bebaf0e26"), looks := true }, kinds := [], alts := [], laidByText := true, laidKinds := [.data, .data, .data, .data, .sentinel, .sentinel, .listed, .data, .pinned], laidTests := true, laidLooks := .later }
def PrinterSameCardSaid : Prop := Claim7.holds Tryz.pinned (.plain (OpenSpec.ofChange printerSameSpec)) printerSameCard

/-- THE TIED CARD OF 'porismlaw22.ShapeScripts'. -/
def shapeScriptsCard : Claim7 := { stood := { row := shapeScriptsRow, standIns := [], harness := (true, "eb3a3e9229d26e1ce7d96655b2bf62ebb88b6836920cdf65ffaf872bebaf0e26"), looks := true }, kinds := [], alts := [], laidByText := true, laidKinds := [.data, .data, .data, .data, .sentinel, .sentinel, .listed, .data, .pinned], laidTests := true, laidLooks := .later }
def ShapeScriptsCardSaid : Prop := Claim7.holds Tryz.pinned (.plain (OpenSpec.ofChange shapeScriptsSpec)) shapeScriptsCard

/-- THE TIED CARD OF 'porismlaw22.ShapeKeeps'. -/
def shapeKeepsCard : Claim7 := { stood := { row := shapeKeepsRow, standIns := [], harness := (true, "eb3a3e9229d26e1ce7d96655b2bf62ebb88b6836920cdf65ffaf872bebaf0e26"), looks := true }, kinds := [], alts := [], laidByText := true, laidKinds := [.data, .data, .data, .data, .sentinel, .sentinel, .listed, .data, .pinned], laidTests := true, laidLooks := .later }
def ShapeKeepsCardSaid : Prop := Claim7.holds Tryz.pinned (.plain (OpenSpec.ofChange shapeKeepsSpec)) shapeKeepsCard

/-- THE TIED CARD OF 'porismlaw22.ShapePoints'. -/
def shapePointsCard : Claim7 := { stood := { row := shapePointsRow, standIns := [], harness := (true, "eb3a3e9229d26e1ce7d96655b2bf62ebb88b6836920cdf65ffaf872bebaf0e26"), looks := true }, kinds := [], alts := [], laidByText := true, laidKinds := [.data, .data, .data, .data, .sentinel, .sentinel, .listed, .data, .pinned], laidTests := true, laidLooks := .later }
def ShapePointsCardSaid : Prop := Claim7.holds Tryz.pinned (.plain (OpenSpec.ofChange shapePointsSpec)) shapePointsCard

/-- THE SECOND FORM's CARD OF 'porismlaw25.CoordLays'. -/
def coordLaysUptoCard : Claim7 := { stood := { row := coordLaysUptoRow, standIns := [], harness := (true, "eb3a3e9229d26e1ce7d96655b2bf62ebb88b6836920cdf65ffaf872bebaf0e26"), looks := true }, kinds := [], alts := [], laidByText := true, laidKinds := [.data, .listed, .data, .pinned], laidTests := true, laidLooks := .later }
def CoordLaysUptoCardSaid : Prop := Claim7.holds Tryz.pinned (.plain (OpenSpec.upto coordLaysSpec)) coordLaysUptoCard

/-- THE SECOND FORM's CARD OF 'porismlaw25.CoordKinds'. -/
def coordKindsUptoCard : Claim7 := { stood := { row := coordKindsUptoRow, standIns := [], harness := (true, "eb3a3e9229d26e1ce7d96655b2bf62ebb88b6836920cdf65ffaf872bebaf0e26"), looks := true }, kinds := [], alts := [], laidByText := true, laidKinds := [.data, .listed, .data, .pinned], laidTests := true, laidLooks := .later }
def CoordKindsUptoCardSaid : Prop := Claim7.holds Tryz.pinned (.plain (OpenSpec.upto coordKindsSpec)) coordKindsUptoCard

/-- THE SECOND FORM's CARD OF 'porismlaw23.PrinterLines'. -/
def printerLinesUptoCard : Claim7 := { stood := { row := printerLinesUptoRow, standIns := [], harness := (true, "eb3a3e9229d26e1ce7d96655b2bf62ebb88b6836920cdf65ffaf872bebaf0e26"), looks := true }, kinds := [], alts := [], laidByText := true, laidKinds := [.data, .data, .data, .data, .sentinel, .sentinel, .listed, .data, .pinned], laidTests := true, laidLooks := .later }
def PrinterLinesUptoCardSaid : Prop := Claim7.holds Tryz.pinned (.plain (OpenSpec.upto printerLinesSpec)) printerLinesUptoCard

/-- THE SECOND FORM's CARD OF 'porismlaw23.PrinterPrints'. -/
def printerPrintsUptoCard : Claim7 := { stood := { row := printerPrintsUptoRow, standIns := [], harness := (true, "eb3a3e9229d26e1ce7d96655b2bf62ebb88b6836920cdf65ffaf872bebaf0e26"), looks := true }, kinds := [], alts := [], laidByText := true, laidKinds := [.data, .data, .data, .data, .sentinel, .sentinel, .listed, .data, .pinned], laidTests := true, laidLooks := .later }
def PrinterPrintsUptoCardSaid : Prop := Claim7.holds Tryz.pinned (.plain (OpenSpec.upto printerPrintsSpec)) printerPrintsUptoCard

/-- THE SECOND FORM's CARD OF 'porismlaw23.PrinterBack'. -/
def printerBackUptoCard : Claim7 := { stood := { row := printerBackUptoRow, standIns := [], harness := (true, "eb3a3e9229d26e1ce7d96655b2bf62ebb88b6836920cdf65ffaf872bebaf0e26"), looks := true }, kinds := [], alts := [], laidByText := true, laidKinds := [.data, .data, .data, .data, .sentinel, .sentinel, .listed, .data, .pinned], laidTests := true, laidLooks := .later }
def PrinterBackUptoCardSaid : Prop := Claim7.holds Tryz.pinned (.plain (OpenSpec.upto printerBackSpec)) printerBackUptoCard

/-- THE SECOND FORM's CARD OF 'porismlaw23.PrinterSame'. -/
def printerSameUptoCard : Claim7 := { stood := { row := printerSameUptoRow, standIns := [], harness := (true, "eb3a3e9229d26e1ce7d96655b2bf62ebb88b6836920cdf65ffaf872bebaf0e26"), looks := true }, kinds := [], alts := [], laidByText := true, laidKinds := [.data, .data, .data, .data, .sentinel, .sentinel, .listed, .data, .pinned], laidTests := true, laidLooks := .later }
def PrinterSameUptoCardSaid : Prop := Claim7.holds Tryz.pinned (.plain (OpenSpec.upto printerSameSpec)) printerSameUptoCard

/-- THE SECOND FORM's CARD OF 'porismlaw22.ShapeScripts'. -/
def shapeScriptsUptoCard : Claim7 := { stood := { row := shapeScriptsUptoRow, standIns := [], harness := (true, "eb3a3e9229d26e1ce7d96655b2bf62ebb88b6836920cdf65ffaf872bebaf0e26"), looks := true }, kinds := [], alts := [], laidByText := true, laidKinds := [.data, .data, .data, .data, .sentinel, .sentinel, .listed, .data, .pinned], laidTests := true, laidLooks := .later }
def ShapeScriptsUptoCardSaid : Prop := Claim7.holds Tryz.pinned (.plain (OpenSpec.upto shapeScriptsSpec)) shapeScriptsUptoCard

/-- THE SECOND FORM's CARD OF 'porismlaw22.ShapeKeeps'. -/
def shapeKeepsUptoCard : Claim7 := { stood := { row := shapeKeepsUptoRow, standIns := [], harness := (true, "eb3a3e9229d26e1ce7d96655b2bf62ebb88b6836920cdf65ffaf872bebaf0e26"), looks := true }, kinds := [], alts := [], laidByText := true, laidKinds := [.data, .data, .data, .data, .sentinel, .sentinel, .listed, .data, .pinned], laidTests := true, laidLooks := .later }
def ShapeKeepsUptoCardSaid : Prop := Claim7.holds Tryz.pinned (.plain (OpenSpec.upto shapeKeepsSpec)) shapeKeepsUptoCard

/-- THE SECOND FORM's CARD OF 'porismlaw22.ShapePoints'. -/
def shapePointsUptoCard : Claim7 := { stood := { row := shapePointsUptoRow, standIns := [], harness := (true, "eb3a3e9229d26e1ce7d96655b2bf62ebb88b6836920cdf65ffaf872bebaf0e26"), looks := true }, kinds := [], alts := [], laidByText := true, laidKinds := [.data, .data, .data, .data, .sentinel, .sentinel, .listed, .data, .pinned], laidTests := true, laidLooks := .later }
def ShapePointsUptoCardSaid : Prop := Claim7.holds Tryz.pinned (.plain (OpenSpec.upto shapePointsSpec)) shapePointsUptoCard
end Rows
end Go.Proofs.YtjinaakebjfbiaaGreatDoor
