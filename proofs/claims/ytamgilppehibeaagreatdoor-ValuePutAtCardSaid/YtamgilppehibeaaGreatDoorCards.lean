/-
  DERIVED. GIVEN WITH THE SEED: THE CARDS: each row of YtamgilppehibeaaGreatDoorRows.lean that lists a variable, with what it lists TIED to the program's text (the seventh form; the later family's looks); each row that meets fmt, with fmt's text TOLD by the authors' own Lean function (tested against real Go, not proved from fmt's source: count such statements apart). THE CARD IS WHAT COUNTS. Prove the row's statement (the work); the ties are given (YtamgilppehibeaaGreatDoorTie.lean); close each card by the builder's one call (the guide's Derived/Test/ToyasCard.lean, 'card_holds'). Laid BY PROGRAM, IN A SANDBOX (cutbox-door.mjs). By AI agents, Wed Nov 11 2026. No macro, syntax, notation, axiom, sorry.
-/
import Derived.Test.YtamgilppehibeaaGreatDoorRows
import GoSem.ClaimSeven
namespace Go.Proofs.YtamgilppehibeaaGreatDoor
namespace Rows

/-- THE TIED CARD OF 'porismlaw10.ValueTexts'. -/
def valueTextsCard : Claim7 := { stood := { row := valueTextsRow, standIns := [], harness := (true, "7ff5c982b867766a7d7c9c242b23931b45c92fb2f6f987859752170156d3e481"), looks := true }, kinds := [], alts := [], laidByText := true, laidKinds := [.data, .data, .data, .data, .sentinel, .sentinel, .pinned], laidTests := true, laidLooks := .later }
def ValueTextsCardSaid : Prop := Claim7.holds Tryz.pinned (.plain (OpenSpec.ofChange valueTextsSpec)) valueTextsCard

/-- THE TIED CARD OF 'porismlaw10.ValueOne'. -/
def valueOneCard : Claim7 := { stood := { row := valueOneRow, standIns := [], harness := (true, "7ff5c982b867766a7d7c9c242b23931b45c92fb2f6f987859752170156d3e481"), looks := true }, kinds := [], alts := [], laidByText := true, laidKinds := [.data, .data, .data, .data, .sentinel, .sentinel, .pinned], laidTests := true, laidLooks := .later }
def ValueOneCardSaid : Prop := Claim7.holds Tryz.pinned (.plain (OpenSpec.ofChange valueOneSpec)) valueOneCard

/-- THE TIED CARD OF 'porismlaw10.ValueAt'. -/
def valueAtCard : Claim7 := { stood := { row := valueAtRow, standIns := [], harness := (true, "7ff5c982b867766a7d7c9c242b23931b45c92fb2f6f987859752170156d3e481"), looks := true }, kinds := [], alts := [], laidByText := true, laidKinds := [.data, .data, .data, .data, .sentinel, .sentinel, .pinned], laidTests := true, laidLooks := .later }
def ValueAtCardSaid : Prop := Claim7.holds Tryz.pinned (.plain (OpenSpec.ofChange valueAtSpec)) valueAtCard

/-- THE TIED CARD OF 'porismlaw10.ValueRing'. -/
def valueRingCard : Claim7 := { stood := { row := valueRingRow, standIns := [], harness := (true, "7ff5c982b867766a7d7c9c242b23931b45c92fb2f6f987859752170156d3e481"), looks := true }, kinds := [], alts := [], laidByText := true, laidKinds := [.data, .data, .data, .data, .sentinel, .sentinel, .pinned], laidTests := true, laidLooks := .later }
def ValueRingCardSaid : Prop := Claim7.holds Tryz.pinned (.plain (OpenSpec.ofChange valueRingSpec)) valueRingCard

/-- THE TIED CARD OF 'porismlaw10.ValuePutAt'. -/
def valuePutAtCard : Claim7 := { stood := { row := valuePutAtRow, standIns := [], harness := (true, "7ff5c982b867766a7d7c9c242b23931b45c92fb2f6f987859752170156d3e481"), looks := true }, kinds := [], alts := [], laidByText := true, laidKinds := [.data, .data, .data, .data, .sentinel, .sentinel, .pinned], laidTests := true, laidLooks := .later }
def ValuePutAtCardSaid : Prop := Claim7.holds Tryz.pinned (.plain (OpenSpec.ofChange valuePutAtSpec)) valuePutAtCard

/-- THE SECOND FORM's CARD OF 'porismlaw10.ValueTexts'. -/
def valueTextsUptoCard : Claim7 := { stood := { row := valueTextsUptoRow, standIns := [], harness := (true, "7ff5c982b867766a7d7c9c242b23931b45c92fb2f6f987859752170156d3e481"), looks := true }, kinds := [], alts := [], laidByText := true, laidKinds := [.data, .data, .data, .data, .sentinel, .sentinel, .pinned], laidTests := true, laidLooks := .later }
def ValueTextsUptoCardSaid : Prop := Claim7.holds Tryz.pinned (.plain (OpenSpec.upto valueTextsSpec)) valueTextsUptoCard

/-- THE SECOND FORM's CARD OF 'porismlaw10.ValueOne'. -/
def valueOneUptoCard : Claim7 := { stood := { row := valueOneUptoRow, standIns := [], harness := (true, "7ff5c982b867766a7d7c9c242b23931b45c92fb2f6f987859752170156d3e481"), looks := true }, kinds := [], alts := [], laidByText := true, laidKinds := [.data, .data, .data, .data, .sentinel, .sentinel, .pinned], laidTests := true, laidLooks := .later }
def ValueOneUptoCardSaid : Prop := Claim7.holds Tryz.pinned (.plain (OpenSpec.upto valueOneSpec)) valueOneUptoCard

/-- THE SECOND FORM's CARD OF 'porismlaw10.ValueAt'. -/
def valueAtUptoCard : Claim7 := { stood := { row := valueAtUptoRow, standIns := [], harness := (true, "7ff5c982b867766a7d7c9c242b23931b45c92fb2f6f987859752170156d3e481"), looks := true }, kinds := [], alts := [], laidByText := true, laidKinds := [.data, .data, .data, .data, .sentinel, .sentinel, .pinned], laidTests := true, laidLooks := .later }
def ValueAtUptoCardSaid : Prop := Claim7.holds Tryz.pinned (.plain (OpenSpec.upto valueAtSpec)) valueAtUptoCard

/-- THE SECOND FORM's CARD OF 'porismlaw10.ValueRing'. -/
def valueRingUptoCard : Claim7 := { stood := { row := valueRingUptoRow, standIns := [], harness := (true, "7ff5c982b867766a7d7c9c242b23931b45c92fb2f6f987859752170156d3e481"), looks := true }, kinds := [], alts := [], laidByText := true, laidKinds := [.data, .data, .data, .data, .sentinel, .sentinel, .pinned], laidTests := true, laidLooks := .later }
def ValueRingUptoCardSaid : Prop := Claim7.holds Tryz.pinned (.plain (OpenSpec.upto valueRingSpec)) valueRingUptoCard

/-- THE SECOND FORM's CARD OF 'porismlaw10.ValuePutAt'. -/
def valuePutAtUptoCard : Claim7 := { stood := { row := valuePutAtUptoRow, standIns := [], harness := (true, "7ff5c982b867766a7d7c9c242b23931b45c92fb2f6f987859752170156d3e481"), looks := true }, kinds := [], alts := [], laidByText := true, laidKinds := [.data, .data, .data, .data, .sentinel, .sentinel, .pinned], laidTests := true, laidLooks := .later }
def ValuePutAtUptoCardSaid : Prop := Claim7.holds Tryz.pinned (.plain (OpenSpec.upto valuePutAtSpec)) valuePutAtUptoCard
end Rows
end Go.Proofs.YtamgilppehibeaaGreatDoor
