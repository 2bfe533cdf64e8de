/-
  DERIVED. GIVEN WITH THE SEED: THE CARDS: each row of YtpgdgboobnmjiaaGreatDoorRows.lean that lists a variable, with what it lists TIED to the program's text (the seventh form; the later family's looks); each row that meets fmt, with fmt's text TOLD by the authors' own Lean function (tested against real Go, not proved from fmt's source: count such statements apart). THE CARD IS WHAT COUNTS. Prove the row's statement (the work); the ties are given (YtpgdgboobnmjiaaGreatDoorTie.lean); close each card by the builder's one call (the guide's Derived/Test/ToyasCard.lean, 'card_holds'). Laid BY PROGRAM, IN A SANDBOX (cutbox-door.mjs). By AI agents, Wed Nov 11 2026. No macro, syntax, notation, axiom, sorry.
-/
import Derived.Test.YtpgdgboobnmjiaaGreatDoorRows
import GoSem.ClaimSeven
namespace Go.Proofs.YtpgdgboobnmjiaaGreatDoor
namespace Rows

/-- THE TIED CARD OF 'hourglasslaw29.SetupTells'. -/
def setupTellsCard : Claim7 := { stood := { row := setupTellsRow, standIns := [], harness := (true, "90dabf6fcab15e3ca294452956bba64195eb7b5f49edfc30364fd433d23be9b2"), looks := true }, kinds := [], alts := [], laidByText := true, laidKinds := [.data, .data, .data, .data, .sentinel, .sentinel, .pinned], laidTests := true, laidLooks := .later }
def SetupTellsCardSaid : Prop := Claim7.holds Tryz.pinned (.plain (OpenSpec.ofChange setupTellsSpec)) setupTellsCard

/-- THE TIED CARD OF 'hourglasslaw29.SetupBack'. -/
def setupBackCard : Claim7 := { stood := { row := setupBackRow, standIns := [], harness := (true, "90dabf6fcab15e3ca294452956bba64195eb7b5f49edfc30364fd433d23be9b2"), looks := true }, kinds := [], alts := [], laidByText := true, laidKinds := [.data, .data, .data, .data, .sentinel, .sentinel, .pinned], laidTests := true, laidLooks := .later }
def SetupBackCardSaid : Prop := Claim7.holds Tryz.pinned (.plain (OpenSpec.ofChange setupBackSpec)) setupBackCard

/-- THE TIED CARD OF 'hourglasslaw29.SetupOrder'. -/
def setupOrderCard : Claim7 := { stood := { row := setupOrderRow, standIns := [], harness := (true, "90dabf6fcab15e3ca294452956bba64195eb7b5f49edfc30364fd433d23be9b2"), looks := true }, kinds := [], alts := [], laidByText := true, laidKinds := [.data, .data, .data, .data, .sentinel, .sentinel, .pinned], laidTests := true, laidLooks := .later }
def SetupOrderCardSaid : Prop := Claim7.holds Tryz.pinned (.plain (OpenSpec.ofChange setupOrderSpec)) setupOrderCard

/-- THE SECOND FORM's CARD OF 'hourglasslaw29.SetupTells'. -/
def setupTellsUptoCard : Claim7 := { stood := { row := setupTellsUptoRow, standIns := [], harness := (true, "90dabf6fcab15e3ca294452956bba64195eb7b5f49edfc30364fd433d23be9b2"), looks := true }, kinds := [], alts := [], laidByText := true, laidKinds := [.data, .data, .data, .data, .sentinel, .sentinel, .pinned], laidTests := true, laidLooks := .later }
def SetupTellsUptoCardSaid : Prop := Claim7.holds Tryz.pinned (.plain (OpenSpec.upto setupTellsSpec)) setupTellsUptoCard

/-- THE SECOND FORM's CARD OF 'hourglasslaw29.SetupBack'. -/
def setupBackUptoCard : Claim7 := { stood := { row := setupBackUptoRow, standIns := [], harness := (true, "90dabf6fcab15e3ca294452956bba64195eb7b5f49edfc30364fd433d23be9b2"), looks := true }, kinds := [], alts := [], laidByText := true, laidKinds := [.data, .data, .data, .data, .sentinel, .sentinel, .pinned], laidTests := true, laidLooks := .later }
def SetupBackUptoCardSaid : Prop := Claim7.holds Tryz.pinned (.plain (OpenSpec.upto setupBackSpec)) setupBackUptoCard

/-- THE SECOND FORM's CARD OF 'hourglasslaw29.SetupOrder'. -/
def setupOrderUptoCard : Claim7 := { stood := { row := setupOrderUptoRow, standIns := [], harness := (true, "90dabf6fcab15e3ca294452956bba64195eb7b5f49edfc30364fd433d23be9b2"), looks := true }, kinds := [], alts := [], laidByText := true, laidKinds := [.data, .data, .data, .data, .sentinel, .sentinel, .pinned], laidTests := true, laidLooks := .later }
def SetupOrderUptoCardSaid : Prop := Claim7.holds Tryz.pinned (.plain (OpenSpec.upto setupOrderSpec)) setupOrderUptoCard
end Rows
end Go.Proofs.YtpgdgboobnmjiaaGreatDoor
