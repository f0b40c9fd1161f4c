/-
  DERIVED. GIVEN WITH THE SEED: THE CARDS: each row of YtgbmanmcioailaaDoorRows.lean that lists a variable, with what it lists TIED to the program's text (the seventh form; the later family's looks); each row that meets fmt, with fmt's text TOLD by the authors' own Lean function (tested against real Go, not proved from fmt's source: count such statements apart). THE CARD IS WHAT COUNTS. Prove the row's statement (the work); the ties are given (YtgbmanmcioailaaDoorTie.lean); close each card by the builder's one call (the guide's Derived/Test/ToyasCard.lean, 'card_holds'). Laid BY PROGRAM, IN A SANDBOX (cutbox-door.mjs). By AI agents, Wed Nov 11 2026. No macro, syntax, notation, axiom, sorry.
-/
import Derived.Test.YtgbmanmcioailaaDoorRows
import GoSem.ClaimSeven
namespace Go.Proofs.YtgbmanmcioailaaDoor
namespace Rows

/-- THE TIED CARD OF 'porismlaw21.FigureTables'. -/
def figureTablesCard : Claim7 := { stood := { row := figureTablesRow, standIns := [], harness := (true, "a810421e73d2303fb4b7a98e96f63b3e2a04cc26e30df6d111425f3e14ab6bad"), looks := true }, kinds := [], alts := [], laidByText := true, laidKinds := [.data, .listed, .data, .pinned], laidTests := true, laidLooks := .later }
def FigureTablesCardSaid : Prop := Claim7.holds Tryd.pinned (.plain (OpenSpec.ofChange figureTablesSpec)) figureTablesCard

/-- THE TIED CARD OF 'porismlaw21.FigureFits'. -/
def figureFitsCard : Claim7 := { stood := { row := figureFitsRow, standIns := [], harness := (true, "a810421e73d2303fb4b7a98e96f63b3e2a04cc26e30df6d111425f3e14ab6bad"), looks := true }, kinds := [], alts := [], laidByText := true, laidKinds := [.data, .listed, .data, .pinned], laidTests := true, laidLooks := .later }
def FigureFitsCardSaid : Prop := Claim7.holds Tryd.pinned (.plain (OpenSpec.ofChange figureFitsSpec)) figureFitsCard

/-- THE TIED CARD OF 'porismlaw21.FigureWords'. -/
def figureWordsCard : Claim7 := { stood := { row := figureWordsRow, standIns := [], harness := (true, "a810421e73d2303fb4b7a98e96f63b3e2a04cc26e30df6d111425f3e14ab6bad"), looks := true }, kinds := [], alts := [], laidByText := true, laidKinds := [.data, .listed, .data, .pinned], laidTests := true, laidLooks := .later }
def FigureWordsCardSaid : Prop := Claim7.holds Tryd.pinned (.plain (OpenSpec.ofChange figureWordsSpec)) figureWordsCard

/-- THE TIED CARD OF 'porismlaw21.FigureBuilt'. -/
def figureBuiltCard : Claim7 := { stood := { row := figureBuiltRow, standIns := [], harness := (true, "a810421e73d2303fb4b7a98e96f63b3e2a04cc26e30df6d111425f3e14ab6bad"), looks := true }, kinds := [], alts := [], laidByText := true, laidKinds := [.data, .listed, .data, .pinned], laidTests := true, laidLooks := .later }
def FigureBuiltCardSaid : Prop := Claim7.holds Tryd.pinned (.plain (OpenSpec.ofChange figureBuiltSpec)) figureBuiltCard

/-- THE TIED CARD OF 'porismlaw19.LexerLines'. -/
def lexerLinesCard : Claim7 := { stood := { row := lexerLinesRow, standIns := [], harness := (true, "a810421e73d2303fb4b7a98e96f63b3e2a04cc26e30df6d111425f3e14ab6bad"), looks := true }, kinds := [], alts := [], laidByText := true, laidKinds := [.data, .data, .data, .data, .sentinel, .sentinel, .pinned], laidTests := true, laidLooks := .later }
def LexerLinesCardSaid : Prop := Claim7.holds Tryd.pinned (.plain (OpenSpec.ofChange lexerLinesSpec)) lexerLinesCard

/-- THE TIED CARD OF 'porismlaw19.LexerJoins'. -/
def lexerJoinsCard : Claim7 := { stood := { row := lexerJoinsRow, standIns := [], harness := (true, "a810421e73d2303fb4b7a98e96f63b3e2a04cc26e30df6d111425f3e14ab6bad"), looks := true }, kinds := [], alts := [], laidByText := true, laidKinds := [.data, .data, .data, .data, .sentinel, .sentinel, .pinned], laidTests := true, laidLooks := .later }
def LexerJoinsCardSaid : Prop := Claim7.holds Tryd.pinned (.plain (OpenSpec.ofChange lexerJoinsSpec)) lexerJoinsCard

/-- THE TIED CARD OF 'porismlaw19.LexerBack'. -/
def lexerBackCard : Claim7 := { stood := { row := lexerBackRow, standIns := [], harness := (true, "a810421e73d2303fb4b7a98e96f63b3e2a04cc26e30df6d111425f3e14ab6bad"), looks := true }, kinds := [], alts := [], laidByText := true, laidKinds := [.data, .data, .data, .data, .sentinel, .sentinel, .pinned], laidTests := true, laidLooks := .later }
def LexerBackCardSaid : Prop := Claim7.holds Tryd.pinned (.plain (OpenSpec.ofChange lexerBackSpec)) lexerBackCard

/-- THE TIED CARD OF 'porismlaw20.ParserParses'. -/
def parserParsesCard : Claim7 := { stood := { row := parserParsesRow, standIns := [], harness := (true, "a810421e73d2303fb4b7a98e96f63b3e2a04cc26e30df6d111425f3e14ab6bad"), looks := true }, kinds := [], alts := [], laidByText := true, laidKinds := [.data, .data, .data, .data, .sentinel, .sentinel, .pinned], laidTests := true, laidLooks := .later }
def ParserParsesCardSaid : Prop := Claim7.holds Tryd.pinned (.plain (OpenSpec.ofChange parserParsesSpec)) parserParsesCard

/-- THE TIED CARD OF 'porismlaw20.ParserFirst'. -/
def parserFirstCard : Claim7 := { stood := { row := parserFirstRow, standIns := [], harness := (true, "a810421e73d2303fb4b7a98e96f63b3e2a04cc26e30df6d111425f3e14ab6bad"), looks := true }, kinds := [], alts := [], laidByText := true, laidKinds := [.data, .data, .data, .data, .sentinel, .sentinel, .pinned], laidTests := true, laidLooks := .later }
def ParserFirstCardSaid : Prop := Claim7.holds Tryd.pinned (.plain (OpenSpec.ofChange parserFirstSpec)) parserFirstCard

/-- THE TIED CARD OF 'porismlaw20.ParserPlaces'. -/
def parserPlacesCard : Claim7 := { stood := { row := parserPlacesRow, standIns := [], harness := (true, "a810421e73d2303fb4b7a98e96f63b3e2a04cc26e30df6d111425f3e14ab6bad"), looks := true }, kinds := [], alts := [], laidByText := true, laidKinds := [.data, .data, .data, .data, .sentinel, .sentinel, .pinned], laidTests := true, laidLooks := .later }
def ParserPlacesCardSaid : Prop := Claim7.holds Tryd.pinned (.plain (OpenSpec.ofChange parserPlacesSpec)) parserPlacesCard

/-- THE TIED CARD OF 'porismlaw19.LexerWord'. -/
def lexerWordCard : Claim7 := { stood := { row := lexerWordRow, standIns := [], harness := (true, "a810421e73d2303fb4b7a98e96f63b3e2a04cc26e30df6d111425f3e14ab6bad"), looks := true }, kinds := [], alts := [], laidByText := true, laidKinds := [.data, .data, .data, .data, .sentinel, .sentinel, .pinned], laidTests := true, laidLooks := .later }
def LexerWordCardSaid : Prop := Claim7.holds Tryd.pinned (.plain (OpenSpec.ofChange lexerWordSpec)) lexerWordCard

/-- THE TIED CARD OF 'porismlaw20.ParserBlanks'. -/
def parserBlanksCard : Claim7 := { stood := { row := parserBlanksRow, standIns := [], harness := (true, "a810421e73d2303fb4b7a98e96f63b3e2a04cc26e30df6d111425f3e14ab6bad"), looks := true }, kinds := [], alts := [], laidByText := true, laidKinds := [.data, .data, .data, .data, .sentinel, .sentinel, .pinned], laidTests := true, laidLooks := .later }
def ParserBlanksCardSaid : Prop := Claim7.holds Tryd.pinned (.plain (OpenSpec.ofChange parserBlanksSpec)) parserBlanksCard

/-- THE TIED CARD OF 'porismlaw20.ParserLines'. -/
def parserLinesCard : Claim7 := { stood := { row := parserLinesRow, standIns := [], harness := (true, "a810421e73d2303fb4b7a98e96f63b3e2a04cc26e30df6d111425f3e14ab6bad"), looks := true }, kinds := [], alts := [], laidByText := true, laidKinds := [.data, .data, .data, .data, .sentinel, .sentinel, .pinned], laidTests := true, laidLooks := .later }
def ParserLinesCardSaid : Prop := Claim7.holds Tryd.pinned (.plain (OpenSpec.ofChange parserLinesSpec)) parserLinesCard

/-- THE SECOND FORM's CARD OF 'porismlaw21.FigureTables'. -/
def figureTablesUptoCard : Claim7 := { stood := { row := figureTablesUptoRow, standIns := [], harness := (true, "a810421e73d2303fb4b7a98e96f63b3e2a04cc26e30df6d111425f3e14ab6bad"), looks := true }, kinds := [], alts := [], laidByText := true, laidKinds := [.data, .listed, .data, .pinned], laidTests := true, laidLooks := .later }
def FigureTablesUptoCardSaid : Prop := Claim7.holds Tryd.pinned (.plain (OpenSpec.upto figureTablesSpec)) figureTablesUptoCard

/-- THE SECOND FORM's CARD OF 'porismlaw21.FigureFits'. -/
def figureFitsUptoCard : Claim7 := { stood := { row := figureFitsUptoRow, standIns := [], harness := (true, "a810421e73d2303fb4b7a98e96f63b3e2a04cc26e30df6d111425f3e14ab6bad"), looks := true }, kinds := [], alts := [], laidByText := true, laidKinds := [.data, .listed, .data, .pinned], laidTests := true, laidLooks := .later }
def FigureFitsUptoCardSaid : Prop := Claim7.holds Tryd.pinned (.plain (OpenSpec.upto figureFitsSpec)) figureFitsUptoCard

/-- THE SECOND FORM's CARD OF 'porismlaw21.FigureWords'. -/
def figureWordsUptoCard : Claim7 := { stood := { row := figureWordsUptoRow, standIns := [], harness := (true, "a810421e73d2303fb4b7a98e96f63b3e2a04cc26e30df6d111425f3e14ab6bad"), looks := true }, kinds := [], alts := [], laidByText := true, laidKinds := [.data, .listed, .data, .pinned], laidTests := true, laidLooks := .later }
def FigureWordsUptoCardSaid : Prop := Claim7.holds Tryd.pinned (.plain (OpenSpec.upto figureWordsSpec)) figureWordsUptoCard

/-- THE SECOND FORM's CARD OF 'porismlaw21.FigureBuilt'. -/
def figureBuiltUptoCard : Claim7 := { stood := { row := figureBuiltUptoRow, standIns := [], harness := (true, "a810421e73d2303fb4b7a98e96f63b3e2a04cc26e30df6d111425f3e14ab6bad"), looks := true }, kinds := [], alts := [], laidByText := true, laidKinds := [.data, .listed, .data, .pinned], laidTests := true, laidLooks := .later }
def FigureBuiltUptoCardSaid : Prop := Claim7.holds Tryd.pinned (.plain (OpenSpec.upto figureBuiltSpec)) figureBuiltUptoCard

/-- THE SECOND FORM's CARD OF 'porismlaw19.LexerLines'. -/
def lexerLinesUptoCard : Claim7 := { stood := { row := lexerLinesUptoRow, standIns := [], harness := (true, "a810421e73d2303fb4b7a98e96f63b3e2a04cc26e30df6d111425f3e14ab6bad"), looks := true }, kinds := [], alts := [], laidByText := true, laidKinds := [.data, .data, .data, .data, .sentinel, .sentinel, .pinned], laidTests := true, laidLooks := .later }
def LexerLinesUptoCardSaid : Prop := Claim7.holds Tryd.pinned (.plain (OpenSpec.upto lexerLinesSpec)) lexerLinesUptoCard

/-- THE SECOND FORM's CARD OF 'porismlaw19.LexerJoins'. -/
def lexerJoinsUptoCard : Claim7 := { stood := { row := lexerJoinsUptoRow, standIns := [], harness := (true, "a810421e73d2303fb4b7a98e96f63b3e2a04cc26e30df6d111425f3e14ab6bad"), looks := true }, kinds := [], alts := [], laidByText := true, laidKinds := [.data, .data, .data, .data, .sentinel, .sentinel, .pinned], laidTests := true, laidLooks := .later }
def LexerJoinsUptoCardSaid : Prop := Claim7.holds Tryd.pinned (.plain (OpenSpec.upto lexerJoinsSpec)) lexerJoinsUptoCard

/-- THE SECOND FORM's CARD OF 'porismlaw19.LexerBack'. -/
def lexerBackUptoCard : Claim7 := { stood := { row := lexerBackUptoRow, standIns := [], harness := (true, "a810421e73d2303fb4b7a98e96f63b3e2a04cc26e30df6d111425f3e14ab6bad"), looks := true }, kinds := [], alts := [], laidByText := true, laidKinds := [.data, .data, .data, .data, .sentinel, .sentinel, .pinned], laidTests := true, laidLooks := .later }
def LexerBackUptoCardSaid : Prop := Claim7.holds Tryd.pinned (.plain (OpenSpec.upto lexerBackSpec)) lexerBackUptoCard

/-- THE SECOND FORM's CARD OF 'porismlaw20.ParserParses'. -/
def parserParsesUptoCard : Claim7 := { stood := { row := parserParsesUptoRow, standIns := [], harness := (true, "a810421e73d2303fb4b7a98e96f63b3e2a04cc26e30df6d111425f3e14ab6bad"), looks := true }, kinds := [], alts := [], laidByText := true, laidKinds := [.data, .data, .data, .data, .sentinel, .sentinel, .pinned], laidTests := true, laidLooks := .later }
def ParserParsesUptoCardSaid : Prop := Claim7.holds Tryd.pinned (.plain (OpenSpec.upto parserParsesSpec)) parserParsesUptoCard

/-- THE SECOND FORM's CARD OF 'porismlaw20.ParserFirst'. -/
def parserFirstUptoCard : Claim7 := { stood := { row := parserFirstUptoRow, standIns := [], harness := (true, "a810421e73d2303fb4b7a98e96f63b3e2a04cc26e30df6d111425f3e14ab6bad"), looks := true }, kinds := [], alts := [], laidByText := true, laidKinds := [.data, .data, .data, .data, .sentinel, .sentinel, .pinned], laidTests := true, laidLooks := .later }
def ParserFirstUptoCardSaid : Prop := Claim7.holds Tryd.pinned (.plain (OpenSpec.upto parserFirstSpec)) parserFirstUptoCard

/-- THE SECOND FORM's CARD OF 'porismlaw20.ParserPlaces'. -/
def parserPlacesUptoCard : Claim7 := { stood := { row := parserPlacesUptoRow, standIns := [], harness := (true, "a810421e73d2303fb4b7a98e96f63b3e2a04cc26e30df6d111425f3e14ab6bad"), looks := true }, kinds := [], alts := [], laidByText := true, laidKinds := [.data, .data, .data, .data, .sentinel, .sentinel, .pinned], laidTests := true, laidLooks := .later }
def ParserPlacesUptoCardSaid : Prop := Claim7.holds Tryd.pinned (.plain (OpenSpec.upto parserPlacesSpec)) parserPlacesUptoCard

/-- THE SECOND FORM's CARD OF 'porismlaw19.LexerWord'. -/
def lexerWordUptoCard : Claim7 := { stood := { row := lexerWordUptoRow, standIns := [], harness := (true, "a810421e73d2303fb4b7a98e96f63b3e2a04cc26e30df6d111425f3e14ab6bad"), looks := true }, kinds := [], alts := [], laidByText := true, laidKinds := [.data, .data, .data, .data, .sentinel, .sentinel, .pinned], laidTests := true, laidLooks := .later }
def LexerWordUptoCardSaid : Prop := Claim7.holds Tryd.pinned (.plain (OpenSpec.upto lexerWordSpec)) lexerWordUptoCard

/-- THE SECOND FORM's CARD OF 'porismlaw20.ParserBlanks'. -/
def parserBlanksUptoCard : Claim7 := { stood := { row := parserBlanksUptoRow, standIns := [], harness := (true, "a810421e73d2303fb4b7a98e96f63b3e2a04cc26e30df6d111425f3e14ab6bad"), looks := true }, kinds := [], alts := [], laidByText := true, laidKinds := [.data, .data, .data, .data, .sentinel, .sentinel, .pinned], laidTests := true, laidLooks := .later }
def ParserBlanksUptoCardSaid : Prop := Claim7.holds Tryd.pinned (.plain (OpenSpec.upto parserBlanksSpec)) parserBlanksUptoCard

/-- THE SECOND FORM's CARD OF 'porismlaw20.ParserLines'. -/
def parserLinesUptoCard : Claim7 := { stood := { row := parserLinesUptoRow, standIns := [], harness := (true, "a810421e73d2303fb4b7a98e96f63b3e2a04cc26e30df6d111425f3e14ab6bad"), looks := true }, kinds := [], alts := [], laidByText := true, laidKinds := [.data, .data, .data, .data, .sentinel, .sentinel, .pinned], laidTests := true, laidLooks := .later }
def ParserLinesUptoCardSaid : Prop := Claim7.holds Tryd.pinned (.plain (OpenSpec.upto parserLinesSpec)) parserLinesUptoCard
end Rows
end Go.Proofs.YtgbmanmcioailaaDoor
