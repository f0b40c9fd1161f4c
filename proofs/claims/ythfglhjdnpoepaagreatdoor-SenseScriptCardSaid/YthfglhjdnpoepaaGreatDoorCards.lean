/-
  DERIVED. GIVEN WITH THE SEED: THE CARDS: each row of YthfglhjdnpoepaaGreatDoorRows.lean that lists a variable, with what it lists TIED to the program's text (the seventh form; the later family's looks); each row that meets fmt, with fmt's text TOLD by the authors' own Lean function (tested against real Go, not proved from fmt's source: count such statements apart). THE CARD IS WHAT COUNTS. Prove the row's statement (the work); the ties are given (YthfglhjdnpoepaaGreatDoorTie.lean); close each card by the builder's one call (the guide's Derived/Test/ToyasCard.lean, 'card_holds'). Laid BY PROGRAM, IN A SANDBOX (cutbox-door.mjs). By AI agents, Wed Nov 11 2026. No macro, syntax, notation, axiom, sorry.
-/
import Derived.Test.YthfglhjdnpoepaaGreatDoorRows
import GoSem.ClaimSeven
namespace Go.Proofs.YthfglhjdnpoepaaGreatDoor
namespace Rows

/-- THE TIED CARD OF 'porismlaw24.SenseValues'. -/
def senseValuesCard : Claim7 := { stood := { row := senseValuesRow, standIns := [], harness := (true, "7c5a2116fd876c8c86f93c44c7ec7ed6c59c411c564b1a95135931ab85ac4691"), looks := false }, kinds := [], alts := [], laidByText := true, laidKinds := [.data, .listed, .data, .pinned], laidTests := true, laidLooks := .later }
def SenseValuesCardSaid : Prop := Claim7.holds Tryz.pinned (.plain (OpenSpec.ofChange senseValuesSpec)) senseValuesCard

/-- THE TIED CARD OF 'porismlaw24.SenseConditions'. -/
def senseConditionsCard : Claim7 := { stood := { row := senseConditionsRow, standIns := [], harness := (true, "7c5a2116fd876c8c86f93c44c7ec7ed6c59c411c564b1a95135931ab85ac4691"), looks := false }, kinds := [], alts := [], laidByText := true, laidKinds := [.data, .listed, .data, .pinned], laidTests := true, laidLooks := .later }
def SenseConditionsCardSaid : Prop := Claim7.holds Tryz.pinned (.plain (OpenSpec.ofChange senseConditionsSpec)) senseConditionsCard

/-- THE TIED CARD OF 'porismlaw24.SenseScript'. -/
def senseScriptCard : Claim7 := { stood := { row := senseScriptRow, standIns := [], harness := (true, "7c5a2116fd876c8c86f93c44c7ec7ed6c59c411c564b1a95135931ab85ac4691"), looks := false }, kinds := [], alts := [], laidByText := true, laidKinds := [.data, .listed, .data, .pinned], laidTests := true, laidLooks := .later }
def SenseScriptCardSaid : Prop := Claim7.holds Tryz.pinned (.plain (OpenSpec.ofChange senseScriptSpec)) senseScriptCard

/-- THE TIED CARD OF 'porismlaw24.SenseMoves'. -/
def senseMovesCard : Claim7 := { stood := { row := senseMovesRow, standIns := [], harness := (true, "7c5a2116fd876c8c86f93c44c7ec7ed6c59c411c564b1a95135931ab85ac4691"), looks := false }, kinds := [], alts := [], laidByText := true, laidKinds := [.data, .listed, .data, .pinned], laidTests := true, laidLooks := .later }
def SenseMovesCardSaid : Prop := Claim7.holds Tryz.pinned (.plain (OpenSpec.ofChange senseMovesSpec)) senseMovesCard

/-- THE SECOND FORM's CARD OF 'porismlaw24.SenseValues'. -/
def senseValuesUptoCard : Claim7 := { stood := { row := senseValuesUptoRow, standIns := [], harness := (true, "7c5a2116fd876c8c86f93c44c7ec7ed6c59c411c564b1a95135931ab85ac4691"), looks := false }, kinds := [], alts := [], laidByText := true, laidKinds := [.data, .listed, .data, .pinned], laidTests := true, laidLooks := .later }
def SenseValuesUptoCardSaid : Prop := Claim7.holds Tryz.pinned (.plain (OpenSpec.upto senseValuesSpec)) senseValuesUptoCard

/-- THE SECOND FORM's CARD OF 'porismlaw24.SenseConditions'. -/
def senseConditionsUptoCard : Claim7 := { stood := { row := senseConditionsUptoRow, standIns := [], harness := (true, "7c5a2116fd876c8c86f93c44c7ec7ed6c59c411c564b1a95135931ab85ac4691"), looks := false }, kinds := [], alts := [], laidByText := true, laidKinds := [.data, .listed, .data, .pinned], laidTests := true, laidLooks := .later }
def SenseConditionsUptoCardSaid : Prop := Claim7.holds Tryz.pinned (.plain (OpenSpec.upto senseConditionsSpec)) senseConditionsUptoCard

/-- THE SECOND FORM's CARD OF 'porismlaw24.SenseScript'. -/
def senseScriptUptoCard : Claim7 := { stood := { row := senseScriptUptoRow, standIns := [], harness := (true, "7c5a2116fd876c8c86f93c44c7ec7ed6c59c411c564b1a95135931ab85ac4691"), looks := false }, kinds := [], alts := [], laidByText := true, laidKinds := [.data, .listed, .data, .pinned], laidTests := true, laidLooks := .later }
def SenseScriptUptoCardSaid : Prop := Claim7.holds Tryz.pinned (.plain (OpenSpec.upto senseScriptSpec)) senseScriptUptoCard

/-- THE SECOND FORM's CARD OF 'porismlaw24.SenseMoves'. -/
def senseMovesUptoCard : Claim7 := { stood := { row := senseMovesUptoRow, standIns := [], harness := (true, "7c5a2116fd876c8c86f93c44c7ec7ed6c59c411c564b1a95135931ab85ac4691"), looks := false }, kinds := [], alts := [], laidByText := true, laidKinds := [.data, .listed, .data, .pinned], laidTests := true, laidLooks := .later }
def SenseMovesUptoCardSaid : Prop := Claim7.holds Tryz.pinned (.plain (OpenSpec.upto senseMovesSpec)) senseMovesUptoCard
end Rows
end Go.Proofs.YthfglhjdnpoepaaGreatDoor
