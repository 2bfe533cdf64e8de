/-
  DERIVED. GIVEN WITH THE SEED: THE CARDS: each row of YtmpjjmilodjecaaGreatDoorRows.lean that lists a variable, with what it lists TIED to the program's text (the seventh form; the later family's looks); each row that meets fmt, with fmt's text TOLD by the authors' own Lean function (tested against real Go, not proved from fmt's source: count such statements apart). THE CARD IS WHAT COUNTS. Prove the row's statement (the work); the ties are given (YtmpjjmilodjecaaGreatDoorTie.lean); close each card by the builder's one call (the guide's Derived/Test/ToyasCard.lean, 'card_holds'). Laid BY PROGRAM, IN A SANDBOX (cutbox-door.mjs). By AI agents, Wed Nov 11 2026. No macro, syntax, notation, axiom, sorry.
-/
import Derived.Test.YtmpjjmilodjecaaGreatDoorRows
import GoSem.ClaimSeven
namespace Go.Proofs.YtmpjjmilodjecaaGreatDoor
namespace Rows

/-- THE TIED CARD OF 'hourglasslaw29.SetupOrder'. -/
def setupOrderCard : Claim7 := { stood := { row := setupOrderRow, standIns := [], harness := (true, "44ad80ed005d94144daa18cc7ed65f6be1abb2b854f688196847f0cab12f87d6"), looks := true }, kinds := [], alts := [], laidByText := true, laidKinds := [.data, .data, .data, .data, .sentinel, .sentinel, .pinned], laidTests := true, laidLooks := .later }
def SetupOrderCardSaid : Prop := Claim7.holds Tryz.pinned (.plain (OpenSpec.ofChange setupOrderSpec)) setupOrderCard

/-- THE TIED CARD OF 'hourglasslaw27.NodeIssues'. -/
def nodeIssuesCard : Claim7 := { stood := { row := nodeIssuesRow, standIns := [], harness := (true, "44ad80ed005d94144daa18cc7ed65f6be1abb2b854f688196847f0cab12f87d6"), looks := true }, kinds := [], alts := [], laidByText := true, laidKinds := [.data, .data, .data], laidTests := true, laidLooks := .later }
def NodeIssuesCardSaid : Prop := Claim7.holds Tryz.pinned (.plain (OpenSpec.ofChange nodeIssuesSpec)) nodeIssuesCard

/-- THE TIED CARD OF 'hourglasslaw27.NodeOnce'. -/
def nodeOnceCard : Claim7 := { stood := { row := nodeOnceRow, standIns := [], harness := (true, "44ad80ed005d94144daa18cc7ed65f6be1abb2b854f688196847f0cab12f87d6"), looks := true }, kinds := [], alts := [], laidByText := true, laidKinds := [.data, .data, .data], laidTests := true, laidLooks := .later }
def NodeOnceCardSaid : Prop := Claim7.holds Tryz.pinned (.plain (OpenSpec.ofChange nodeOnceSpec)) nodeOnceCard

/-- THE TIED CARD OF 'hourglasslaw27.NodeSends'. -/
def nodeSendsCard : Claim7 := { stood := { row := nodeSendsRow, standIns := [], harness := (true, "44ad80ed005d94144daa18cc7ed65f6be1abb2b854f688196847f0cab12f87d6"), looks := true }, kinds := [], alts := [], laidByText := true, laidKinds := [.data, .data, .data], laidTests := true, laidLooks := .later }
def NodeSendsCardSaid : Prop := Claim7.holds Tryz.pinned (.plain (OpenSpec.ofChange nodeSendsSpec)) nodeSendsCard

/-- THE TIED CARD OF 'hourglasslaw27.NodeRoots'. -/
def nodeRootsCard : Claim7 := { stood := { row := nodeRootsRow, standIns := [], harness := (true, "44ad80ed005d94144daa18cc7ed65f6be1abb2b854f688196847f0cab12f87d6"), looks := true }, kinds := [], alts := [], laidByText := true, laidKinds := [.data, .data, .data], laidTests := true, laidLooks := .later }
def NodeRootsCardSaid : Prop := Claim7.holds Tryz.pinned (.plain (OpenSpec.ofChange nodeRootsSpec)) nodeRootsCard

/-- THE TIED CARD OF 'hourglasslaw27.NodeRefused'. -/
def nodeRefusedCard : Claim7 := { stood := { row := nodeRefusedRow, standIns := [], harness := (true, "44ad80ed005d94144daa18cc7ed65f6be1abb2b854f688196847f0cab12f87d6"), looks := true }, kinds := [], alts := [], laidByText := true, laidKinds := [.data, .data, .data], laidTests := true, laidLooks := .later }
def NodeRefusedCardSaid : Prop := Claim7.holds Tryz.pinned (.plain (OpenSpec.ofChange nodeRefusedSpec)) nodeRefusedCard

/-- THE TIED CARD OF 'hourglasslaw27.NodeStops'. -/
def nodeStopsCard : Claim7 := { stood := { row := nodeStopsRow, standIns := [], harness := (true, "44ad80ed005d94144daa18cc7ed65f6be1abb2b854f688196847f0cab12f87d6"), looks := true }, kinds := [], alts := [], laidByText := true, laidKinds := [.data, .data, .data], laidTests := true, laidLooks := .later }
def NodeStopsCardSaid : Prop := Claim7.holds Tryz.pinned (.plain (OpenSpec.ofChange nodeStopsSpec)) nodeStopsCard

/-- THE TIED CARD OF 'hourglasslaw27.NodeAhead'. -/
def nodeAheadCard : Claim7 := { stood := { row := nodeAheadRow, standIns := [], harness := (true, "44ad80ed005d94144daa18cc7ed65f6be1abb2b854f688196847f0cab12f87d6"), looks := true }, kinds := [], alts := [], laidByText := true, laidKinds := [.data, .data, .data], laidTests := true, laidLooks := .later }
def NodeAheadCardSaid : Prop := Claim7.holds Tryz.pinned (.plain (OpenSpec.ofChange nodeAheadSpec)) nodeAheadCard

/-- THE TIED CARD OF 'hourglasslaw27.NodeTimer'. -/
def nodeTimerCard : Claim7 := { stood := { row := nodeTimerRow, standIns := [], harness := (true, "44ad80ed005d94144daa18cc7ed65f6be1abb2b854f688196847f0cab12f87d6"), looks := true }, kinds := [], alts := [], laidByText := true, laidKinds := [.data, .data, .data], laidTests := true, laidLooks := .later }
def NodeTimerCardSaid : Prop := Claim7.holds Tryz.pinned (.plain (OpenSpec.ofChange nodeTimerSpec)) nodeTimerCard

/-- THE TIED CARD OF 'hourglasslaw27.NodeRests'. -/
def nodeRestsCard : Claim7 := { stood := { row := nodeRestsRow, standIns := [], harness := (true, "44ad80ed005d94144daa18cc7ed65f6be1abb2b854f688196847f0cab12f87d6"), looks := true }, kinds := [], alts := [], laidByText := true, laidKinds := [.data, .data, .data], laidTests := true, laidLooks := .later }
def NodeRestsCardSaid : Prop := Claim7.holds Tryz.pinned (.plain (OpenSpec.ofChange nodeRestsSpec)) nodeRestsCard

/-- THE TIED CARD OF 'hourglasslaw27.NodePlays'. -/
def nodePlaysCard : Claim7 := { stood := { row := nodePlaysRow, standIns := [], harness := (true, "44ad80ed005d94144daa18cc7ed65f6be1abb2b854f688196847f0cab12f87d6"), looks := true }, kinds := [], alts := [], laidByText := true, laidKinds := [.data, .data, .data], laidTests := true, laidLooks := .later }
def NodePlaysCardSaid : Prop := Claim7.holds Tryz.pinned (.plain (OpenSpec.ofChange nodePlaysSpec)) nodePlaysCard

/-- THE TIED CARD OF 'hourglasslaw27.NodeNone'. -/
def nodeNoneCard : Claim7 := { stood := { row := nodeNoneRow, standIns := [], harness := (true, "44ad80ed005d94144daa18cc7ed65f6be1abb2b854f688196847f0cab12f87d6"), looks := true }, kinds := [], alts := [], laidByText := true, laidKinds := [.data, .data, .data], laidTests := true, laidLooks := .later }
def NodeNoneCardSaid : Prop := Claim7.holds Tryz.pinned (.plain (OpenSpec.ofChange nodeNoneSpec)) nodeNoneCard

/-- THE SECOND FORM's CARD OF 'hourglasslaw29.SetupOrder'. -/
def setupOrderUptoCard : Claim7 := { stood := { row := setupOrderUptoRow, standIns := [], harness := (true, "44ad80ed005d94144daa18cc7ed65f6be1abb2b854f688196847f0cab12f87d6"), looks := true }, kinds := [], alts := [], laidByText := true, laidKinds := [.data, .data, .data, .data, .sentinel, .sentinel, .pinned], laidTests := true, laidLooks := .later }
def SetupOrderUptoCardSaid : Prop := Claim7.holds Tryz.pinned (.plain (OpenSpec.upto setupOrderSpec)) setupOrderUptoCard

/-- THE SECOND FORM's CARD OF 'hourglasslaw27.NodeIssues'. -/
def nodeIssuesUptoCard : Claim7 := { stood := { row := nodeIssuesUptoRow, standIns := [], harness := (true, "44ad80ed005d94144daa18cc7ed65f6be1abb2b854f688196847f0cab12f87d6"), looks := true }, kinds := [], alts := [], laidByText := true, laidKinds := [.data, .data, .data], laidTests := true, laidLooks := .later }
def NodeIssuesUptoCardSaid : Prop := Claim7.holds Tryz.pinned (.plain (OpenSpec.upto nodeIssuesSpec)) nodeIssuesUptoCard

/-- THE SECOND FORM's CARD OF 'hourglasslaw27.NodeOnce'. -/
def nodeOnceUptoCard : Claim7 := { stood := { row := nodeOnceUptoRow, standIns := [], harness := (true, "44ad80ed005d94144daa18cc7ed65f6be1abb2b854f688196847f0cab12f87d6"), looks := true }, kinds := [], alts := [], laidByText := true, laidKinds := [.data, .data, .data], laidTests := true, laidLooks := .later }
def NodeOnceUptoCardSaid : Prop := Claim7.holds Tryz.pinned (.plain (OpenSpec.upto nodeOnceSpec)) nodeOnceUptoCard

/-- THE SECOND FORM's CARD OF 'hourglasslaw27.NodeSends'. -/
def nodeSendsUptoCard : Claim7 := { stood := { row := nodeSendsUptoRow, standIns := [], harness := (true, "44ad80ed005d94144daa18cc7ed65f6be1abb2b854f688196847f0cab12f87d6"), looks := true }, kinds := [], alts := [], laidByText := true, laidKinds := [.data, .data, .data], laidTests := true, laidLooks := .later }
def NodeSendsUptoCardSaid : Prop := Claim7.holds Tryz.pinned (.plain (OpenSpec.upto nodeSendsSpec)) nodeSendsUptoCard

/-- THE SECOND FORM's CARD OF 'hourglasslaw27.NodeRoots'. -/
def nodeRootsUptoCard : Claim7 := { stood := { row := nodeRootsUptoRow, standIns := [], harness := (true, "44ad80ed005d94144daa18cc7ed65f6be1abb2b854f688196847f0cab12f87d6"), looks := true }, kinds := [], alts := [], laidByText := true, laidKinds := [.data, .data, .data], laidTests := true, laidLooks := .later }
def NodeRootsUptoCardSaid : Prop := Claim7.holds Tryz.pinned (.plain (OpenSpec.upto nodeRootsSpec)) nodeRootsUptoCard

/-- THE SECOND FORM's CARD OF 'hourglasslaw27.NodeRefused'. -/
def nodeRefusedUptoCard : Claim7 := { stood := { row := nodeRefusedUptoRow, standIns := [], harness := (true, "44ad80ed005d94144daa18cc7ed65f6be1abb2b854f688196847f0cab12f87d6"), looks := true }, kinds := [], alts := [], laidByText := true, laidKinds := [.data, .data, .data], laidTests := true, laidLooks := .later }
def NodeRefusedUptoCardSaid : Prop := Claim7.holds Tryz.pinned (.plain (OpenSpec.upto nodeRefusedSpec)) nodeRefusedUptoCard

/-- THE SECOND FORM's CARD OF 'hourglasslaw27.NodeStops'. -/
def nodeStopsUptoCard : Claim7 := { stood := { row := nodeStopsUptoRow, standIns := [], harness := (true, "44ad80ed005d94144daa18cc7ed65f6be1abb2b854f688196847f0cab12f87d6"), looks := true }, kinds := [], alts := [], laidByText := true, laidKinds := [.data, .data, .data], laidTests := true, laidLooks := .later }
def NodeStopsUptoCardSaid : Prop := Claim7.holds Tryz.pinned (.plain (OpenSpec.upto nodeStopsSpec)) nodeStopsUptoCard

/-- THE SECOND FORM's CARD OF 'hourglasslaw27.NodeAhead'. -/
def nodeAheadUptoCard : Claim7 := { stood := { row := nodeAheadUptoRow, standIns := [], harness := (true, "44ad80ed005d94144daa18cc7ed65f6be1abb2b854f688196847f0cab12f87d6"), looks := true }, kinds := [], alts := [], laidByText := true, laidKinds := [.data, .data, .data], laidTests := true, laidLooks := .later }
def NodeAheadUptoCardSaid : Prop := Claim7.holds Tryz.pinned (.plain (OpenSpec.upto nodeAheadSpec)) nodeAheadUptoCard

/-- THE SECOND FORM's CARD OF 'hourglasslaw27.NodeTimer'. -/
def nodeTimerUptoCard : Claim7 := { stood := { row := nodeTimerUptoRow, standIns := [], harness := (true, "44ad80ed005d94144daa18cc7ed65f6be1abb2b854f688196847f0cab12f87d6"), looks := true }, kinds := [], alts := [], laidByText := true, laidKinds := [.data, .data, .data], laidTests := true, laidLooks := .later }
def NodeTimerUptoCardSaid : Prop := Claim7.holds Tryz.pinned (.plain (OpenSpec.upto nodeTimerSpec)) nodeTimerUptoCard

/-- THE SECOND FORM's CARD OF 'hourglasslaw27.NodeRests'. -/
def nodeRestsUptoCard : Claim7 := { stood := { row := nodeRestsUptoRow, standIns := [], harness := (true, "44ad80ed005d94144daa18cc7ed65f6be1abb2b854f688196847f0cab12f87d6"), looks := true }, kinds := [], alts := [], laidByText := true, laidKinds := [.data, .data, .data], laidTests := true, laidLooks := .later }
def NodeRestsUptoCardSaid : Prop := Claim7.holds Tryz.pinned (.plain (OpenSpec.upto nodeRestsSpec)) nodeRestsUptoCard

/-- THE SECOND FORM's CARD OF 'hourglasslaw27.NodePlays'. -/
def nodePlaysUptoCard : Claim7 := { stood := { row := nodePlaysUptoRow, standIns := [], harness := (true, "44ad80ed005d94144daa18cc7ed65f6be1abb2b854f688196847f0cab12f87d6"), looks := true }, kinds := [], alts := [], laidByText := true, laidKinds := [.data, .data, .data], laidTests := true, laidLooks := .later }
def NodePlaysUptoCardSaid : Prop := Claim7.holds Tryz.pinned (.plain (OpenSpec.upto nodePlaysSpec)) nodePlaysUptoCard

/-- THE SECOND FORM's CARD OF 'hourglasslaw27.NodeNone'. -/
def nodeNoneUptoCard : Claim7 := { stood := { row := nodeNoneUptoRow, standIns := [], harness := (true, "44ad80ed005d94144daa18cc7ed65f6be1abb2b854f688196847f0cab12f87d6"), looks := true }, kinds := [], alts := [], laidByText := true, laidKinds := [.data, .data, .data], laidTests := true, laidLooks := .later }
def NodeNoneUptoCardSaid : Prop := Claim7.holds Tryz.pinned (.plain (OpenSpec.upto nodeNoneSpec)) nodeNoneUptoCard
end Rows
end Go.Proofs.YtmpjjmilodjecaaGreatDoor
