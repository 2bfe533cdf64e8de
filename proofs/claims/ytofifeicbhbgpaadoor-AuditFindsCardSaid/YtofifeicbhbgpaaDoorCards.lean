/-
  DERIVED. GIVEN WITH THE SEED: THE CARDS: each row of YtofifeicbhbgpaaDoorRows.lean that lists a variable, with what it lists TIED to the program's text (the seventh form; the later family's looks); each row that meets fmt, with fmt's text TOLD by the authors' own Lean function (tested against real Go, not proved from fmt's source: count such statements apart). THE CARD IS WHAT COUNTS. Prove the row's statement (the work); the ties are given (YtofifeicbhbgpaaDoorTie.lean); close each card by the builder's one call (the guide's Derived/Test/ToyasCard.lean, 'card_holds'). Laid BY PROGRAM, IN A SANDBOX (cutbox-door.mjs). By AI agents, Wed Nov 11 2026. No macro, syntax, notation, axiom, sorry.
-/
import Derived.Test.YtofifeicbhbgpaaDoorRows
import GoSem.ClaimSeven
namespace Go.Proofs.YtofifeicbhbgpaaDoor
namespace Rows

/-- THE TIED CARD OF 'hourglasslaw32.AuditFinds'. -/
def auditFindsCard : Claim7 := { stood := { row := auditFindsRow, standIns := [], harness := (true, "4ab0abe7ef4815c314c926ffc6b221b5e6fb596e84ece493dc20e5ed163a4f81"), looks := false }, kinds := [], alts := [], laidByText := true, laidKinds := [.data, .data, .data], laidTests := true, laidLooks := .later }
def AuditFindsCardSaid : Prop := Claim7.holds Tryd.pinned (.plain (OpenSpec.ofChange auditFindsSpec)) auditFindsCard

/-- THE TIED CARD OF 'hourglasslaw31.ForestTells'. -/
def forestTellsCard : Claim7 := { stood := { row := forestTellsRow, standIns := [], harness := (true, "4ab0abe7ef4815c314c926ffc6b221b5e6fb596e84ece493dc20e5ed163a4f81"), looks := false }, kinds := [], alts := [], laidByText := true, laidKinds := [.data, .data, .data], laidTests := true, laidLooks := .later }
def ForestTellsCardSaid : Prop := Claim7.holds Tryd.pinned (.plain (OpenSpec.ofChange forestTellsSpec)) forestTellsCard

/-- THE SECOND FORM's CARD OF 'hourglasslaw32.AuditFinds'. -/
def auditFindsUptoCard : Claim7 := { stood := { row := auditFindsUptoRow, standIns := [], harness := (true, "4ab0abe7ef4815c314c926ffc6b221b5e6fb596e84ece493dc20e5ed163a4f81"), looks := false }, kinds := [], alts := [], laidByText := true, laidKinds := [.data, .data, .data], laidTests := true, laidLooks := .later }
def AuditFindsUptoCardSaid : Prop := Claim7.holds Tryd.pinned (.plain (OpenSpec.upto auditFindsSpec)) auditFindsUptoCard

/-- THE SECOND FORM's CARD OF 'hourglasslaw31.ForestTells'. -/
def forestTellsUptoCard : Claim7 := { stood := { row := forestTellsUptoRow, standIns := [], harness := (true, "4ab0abe7ef4815c314c926ffc6b221b5e6fb596e84ece493dc20e5ed163a4f81"), looks := false }, kinds := [], alts := [], laidByText := true, laidKinds := [.data, .data, .data], laidTests := true, laidLooks := .later }
def ForestTellsUptoCardSaid : Prop := Claim7.holds Tryd.pinned (.plain (OpenSpec.upto forestTellsSpec)) forestTellsUptoCard
end Rows
end Go.Proofs.YtofifeicbhbgpaaDoor
