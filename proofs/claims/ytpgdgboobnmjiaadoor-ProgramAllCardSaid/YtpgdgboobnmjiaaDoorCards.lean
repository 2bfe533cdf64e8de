/-
  DERIVED. GIVEN WITH THE SEED: THE CARDS: each row of YtpgdgboobnmjiaaDoorRows.lean that lists a variable, with what it lists TIED to the program's text (the seventh form; the later family's looks); each row that meets fmt, with fmt's text TOLD by the authors' own Lean function (tested against real Go, not proved from fmt's source: count such statements apart). THE CARD IS WHAT COUNTS. Prove the row's statement (the work); the ties are given (YtpgdgboobnmjiaaDoorTie.lean); close each card by the builder's one call (the guide's Derived/Test/ToyasCard.lean, 'card_holds'). Laid BY PROGRAM, IN A SANDBOX (cutbox-door.mjs). By AI agents, Wed Nov 11 2026. No macro, syntax, notation, axiom, sorry.
-/
import Derived.Test.YtpgdgboobnmjiaaDoorRows
import GoSem.ClaimSeven
namespace Go.Proofs.YtpgdgboobnmjiaaDoor
namespace Rows

/-- THE TIED CARD OF 'hourglasslaw30.ScriptParses'. -/
def scriptParsesCard : Claim7 := { stood := { row := scriptParsesRow, standIns := [], harness := (true, "0c50fb2ef2d3b266d5b0483010240137747ce2ef0422f6fd3a928e2bece90b3e"), looks := true }, kinds := [], alts := [], laidByText := true, laidKinds := [.data, .data, .data, .data, .sentinel, .sentinel, .pinned], laidTests := true, laidLooks := .later }
def ScriptParsesCardSaid : Prop := Claim7.holds Tryd.pinned (.plain (OpenSpec.ofChange scriptParsesSpec)) scriptParsesCard

/-- THE TIED CARD OF 'hourglasslaw30.ScriptReads'. -/
def scriptReadsCard : Claim7 := { stood := { row := scriptReadsRow, standIns := [], harness := (true, "0c50fb2ef2d3b266d5b0483010240137747ce2ef0422f6fd3a928e2bece90b3e"), looks := true }, kinds := [], alts := [], laidByText := true, laidKinds := [.data, .data, .data, .data, .sentinel, .sentinel, .pinned], laidTests := true, laidLooks := .later }
def ScriptReadsCardSaid : Prop := Claim7.holds Tryd.pinned (.plain (OpenSpec.ofChange scriptReadsSpec)) scriptReadsCard

/-- THE TIED CARD OF 'hourglasslaw30.ScriptBack'. -/
def scriptBackCard : Claim7 := { stood := { row := scriptBackRow, standIns := [], harness := (true, "0c50fb2ef2d3b266d5b0483010240137747ce2ef0422f6fd3a928e2bece90b3e"), looks := true }, kinds := [], alts := [], laidByText := true, laidKinds := [.data, .data, .data, .data, .sentinel, .sentinel, .pinned], laidTests := true, laidLooks := .later }
def ScriptBackCardSaid : Prop := Claim7.holds Tryd.pinned (.plain (OpenSpec.ofChange scriptBackSpec)) scriptBackCard

/-- THE TIED CARD OF 'hourglasslaw30.ScriptLines'. -/
def scriptLinesCard : Claim7 := { stood := { row := scriptLinesRow, standIns := [], harness := (true, "0c50fb2ef2d3b266d5b0483010240137747ce2ef0422f6fd3a928e2bece90b3e"), looks := true }, kinds := [], alts := [], laidByText := true, laidKinds := [.data, .data, .data, .data, .sentinel, .sentinel, .pinned], laidTests := true, laidLooks := .later }
def ScriptLinesCardSaid : Prop := Claim7.holds Tryd.pinned (.plain (OpenSpec.ofChange scriptLinesSpec)) scriptLinesCard

/-- THE TIED CARD OF 'hourglasslaw22.ProgramTells'. -/
def programTellsCard : Claim7 := { stood := { row := programTellsRow, standIns := [], harness := (true, "0c50fb2ef2d3b266d5b0483010240137747ce2ef0422f6fd3a928e2bece90b3e"), looks := true }, kinds := [], alts := [], laidByText := true, laidKinds := [.data, .data, .data, .data, .sentinel, .sentinel, .pinned], laidTests := true, laidLooks := .later }
def ProgramTellsCardSaid : Prop := Claim7.holds Tryd.pinned (.plain (OpenSpec.ofChange programTellsSpec)) programTellsCard

/-- THE TIED CARD OF 'hourglasslaw22.ProgramParses'. -/
def programParsesCard : Claim7 := { stood := { row := programParsesRow, standIns := [], harness := (true, "0c50fb2ef2d3b266d5b0483010240137747ce2ef0422f6fd3a928e2bece90b3e"), looks := true }, kinds := [], alts := [], laidByText := true, laidKinds := [.data, .data, .data, .data, .sentinel, .sentinel, .pinned], laidTests := true, laidLooks := .later }
def ProgramParsesCardSaid : Prop := Claim7.holds Tryd.pinned (.plain (OpenSpec.ofChange programParsesSpec)) programParsesCard

/-- THE TIED CARD OF 'hourglasslaw22.ProgramBack'. -/
def programBackCard : Claim7 := { stood := { row := programBackRow, standIns := [], harness := (true, "0c50fb2ef2d3b266d5b0483010240137747ce2ef0422f6fd3a928e2bece90b3e"), looks := true }, kinds := [], alts := [], laidByText := true, laidKinds := [.data, .data, .data, .data, .sentinel, .sentinel, .pinned], laidTests := true, laidLooks := .later }
def ProgramBackCardSaid : Prop := Claim7.holds Tryd.pinned (.plain (OpenSpec.ofChange programBackSpec)) programBackCard

/-- THE TIED CARD OF 'hourglasslaw22.ProgramJoins'. -/
def programJoinsCard : Claim7 := { stood := { row := programJoinsRow, standIns := [], harness := (true, "0c50fb2ef2d3b266d5b0483010240137747ce2ef0422f6fd3a928e2bece90b3e"), looks := true }, kinds := [], alts := [], laidByText := true, laidKinds := [.data, .data, .data, .data, .sentinel, .sentinel, .pinned], laidTests := true, laidLooks := .later }
def ProgramJoinsCardSaid : Prop := Claim7.holds Tryd.pinned (.plain (OpenSpec.ofChange programJoinsSpec)) programJoinsCard

/-- THE TIED CARD OF 'hourglasslaw22.ProgramAll'. -/
def programAllCard : Claim7 := { stood := { row := programAllRow, standIns := [], harness := (true, "0c50fb2ef2d3b266d5b0483010240137747ce2ef0422f6fd3a928e2bece90b3e"), looks := true }, kinds := [], alts := [], laidByText := true, laidKinds := [.data, .data, .data, .data, .sentinel, .sentinel, .pinned], laidTests := true, laidLooks := .later }
def ProgramAllCardSaid : Prop := Claim7.holds Tryd.pinned (.plain (OpenSpec.ofChange programAllSpec)) programAllCard

/-- THE SECOND FORM's CARD OF 'hourglasslaw30.ScriptParses'. -/
def scriptParsesUptoCard : Claim7 := { stood := { row := scriptParsesUptoRow, standIns := [], harness := (true, "0c50fb2ef2d3b266d5b0483010240137747ce2ef0422f6fd3a928e2bece90b3e"), looks := true }, kinds := [], alts := [], laidByText := true, laidKinds := [.data, .data, .data, .data, .sentinel, .sentinel, .pinned], laidTests := true, laidLooks := .later }
def ScriptParsesUptoCardSaid : Prop := Claim7.holds Tryd.pinned (.plain (OpenSpec.upto scriptParsesSpec)) scriptParsesUptoCard

/-- THE SECOND FORM's CARD OF 'hourglasslaw30.ScriptReads'. -/
def scriptReadsUptoCard : Claim7 := { stood := { row := scriptReadsUptoRow, standIns := [], harness := (true, "0c50fb2ef2d3b266d5b0483010240137747ce2ef0422f6fd3a928e2bece90b3e"), looks := true }, kinds := [], alts := [], laidByText := true, laidKinds := [.data, .data, .data, .data, .sentinel, .sentinel, .pinned], laidTests := true, laidLooks := .later }
def ScriptReadsUptoCardSaid : Prop := Claim7.holds Tryd.pinned (.plain (OpenSpec.upto scriptReadsSpec)) scriptReadsUptoCard

/-- THE SECOND FORM's CARD OF 'hourglasslaw30.ScriptBack'. -/
def scriptBackUptoCard : Claim7 := { stood := { row := scriptBackUptoRow, standIns := [], harness := (true, "0c50fb2ef2d3b266d5b0483010240137747ce2ef0422f6fd3a928e2bece90b3e"), looks := true }, kinds := [], alts := [], laidByText := true, laidKinds := [.data, .data, .data, .data, .sentinel, .sentinel, .pinned], laidTests := true, laidLooks := .later }
def ScriptBackUptoCardSaid : Prop := Claim7.holds Tryd.pinned (.plain (OpenSpec.upto scriptBackSpec)) scriptBackUptoCard

/-- THE SECOND FORM's CARD OF 'hourglasslaw30.ScriptLines'. -/
def scriptLinesUptoCard : Claim7 := { stood := { row := scriptLinesUptoRow, standIns := [], harness := (true, "0c50fb2ef2d3b266d5b0483010240137747ce2ef0422f6fd3a928e2bece90b3e"), looks := true }, kinds := [], alts := [], laidByText := true, laidKinds := [.data, .data, .data, .data, .sentinel, .sentinel, .pinned], laidTests := true, laidLooks := .later }
def ScriptLinesUptoCardSaid : Prop := Claim7.holds Tryd.pinned (.plain (OpenSpec.upto scriptLinesSpec)) scriptLinesUptoCard

/-- THE SECOND FORM's CARD OF 'hourglasslaw22.ProgramTells'. -/
def programTellsUptoCard : Claim7 := { stood := { row := programTellsUptoRow, standIns := [], harness := (true, "0c50fb2ef2d3b266d5b0483010240137747ce2ef0422f6fd3a928e2bece90b3e"), looks := true }, kinds := [], alts := [], laidByText := true, laidKinds := [.data, .data, .data, .data, .sentinel, .sentinel, .pinned], laidTests := true, laidLooks := .later }
def ProgramTellsUptoCardSaid : Prop := Claim7.holds Tryd.pinned (.plain (OpenSpec.upto programTellsSpec)) programTellsUptoCard

/-- THE SECOND FORM's CARD OF 'hourglasslaw22.ProgramParses'. -/
def programParsesUptoCard : Claim7 := { stood := { row := programParsesUptoRow, standIns := [], harness := (true, "0c50fb2ef2d3b266d5b0483010240137747ce2ef0422f6fd3a928e2bece90b3e"), looks := true }, kinds := [], alts := [], laidByText := true, laidKinds := [.data, .data, .data, .data, .sentinel, .sentinel, .pinned], laidTests := true, laidLooks := .later }
def ProgramParsesUptoCardSaid : Prop := Claim7.holds Tryd.pinned (.plain (OpenSpec.upto programParsesSpec)) programParsesUptoCard

/-- THE SECOND FORM's CARD OF 'hourglasslaw22.ProgramBack'. -/
def programBackUptoCard : Claim7 := { stood := { row := programBackUptoRow, standIns := [], harness := (true, "0c50fb2ef2d3b266d5b0483010240137747ce2ef0422f6fd3a928e2bece90b3e"), looks := true }, kinds := [], alts := [], laidByText := true, laidKinds := [.data, .data, .data, .data, .sentinel, .sentinel, .pinned], laidTests := true, laidLooks := .later }
def ProgramBackUptoCardSaid : Prop := Claim7.holds Tryd.pinned (.plain (OpenSpec.upto programBackSpec)) programBackUptoCard

/-- THE SECOND FORM's CARD OF 'hourglasslaw22.ProgramJoins'. -/
def programJoinsUptoCard : Claim7 := { stood := { row := programJoinsUptoRow, standIns := [], harness := (true, "0c50fb2ef2d3b266d5b0483010240137747ce2ef0422f6fd3a928e2bece90b3e"), looks := true }, kinds := [], alts := [], laidByText := true, laidKinds := [.data, .data, .data, .data, .sentinel, .sentinel, .pinned], laidTests := true, laidLooks := .later }
def ProgramJoinsUptoCardSaid : Prop := Claim7.holds Tryd.pinned (.plain (OpenSpec.upto programJoinsSpec)) programJoinsUptoCard

/-- THE SECOND FORM's CARD OF 'hourglasslaw22.ProgramAll'. -/
def programAllUptoCard : Claim7 := { stood := { row := programAllUptoRow, standIns := [], harness := (true, "0c50fb2ef2d3b266d5b0483010240137747ce2ef0422f6fd3a928e2bece90b3e"), looks := true }, kinds := [], alts := [], laidByText := true, laidKinds := [.data, .data, .data, .data, .sentinel, .sentinel, .pinned], laidTests := true, laidLooks := .later }
def ProgramAllUptoCardSaid : Prop := Claim7.holds Tryd.pinned (.plain (OpenSpec.upto programAllSpec)) programAllUptoCard
end Rows
end Go.Proofs.YtpgdgboobnmjiaaDoor
