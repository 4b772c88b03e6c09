/-
  DERIVED. GIVEN WITH THE SEED: THE CARDS: each row of YthhblcbnnmoojaaGreatDoorRows.lean that lists a variable, with what it lists TIED to the program's text (the seventh form; the later family's looks); each row that meets fmt, with fmt's text TOLD by the authors' own Lean function (tested against real Go, not proved from fmt's source: count such statements apart). THE CARD IS WHAT COUNTS. Prove the row's statement (the work); the ties are given (YthhblcbnnmoojaaGreatDoorTie.lean); close each card by the builder's one call (the guide's Derived/Test/ToyasCard.lean, 'card_holds'). Laid BY PROGRAM, IN A SANDBOX (cutbox-door.mjs). By AI agents, Wed Nov 11 2026. No macro, syntax, notation, axiom, sorry.
-/
import Derived.Test.YthhblcbnnmoojaaGreatDoorRows
import GoSem.ClaimSeven
namespace Go.Proofs.YthhblcbnnmoojaaGreatDoor
namespace Rows

/-- THE TIED CARD OF 'chartroomlaw35.DirectorySignedSpec'. -/
def directorySignedSpecCard : Claim7 := { stood := { row := directorySignedSpecRow, standIns := [], harness := (true, "1d3431046d51e23ed24249f1205848a0c04a50149c11ca40710e0fbacd3e68da"), looks := false }, kinds := [], alts := [], laidByText := true, laidKinds := [.data, .data, .sentinel], laidTests := true, laidLooks := .later }
def DirectorySignedSpecCardSaid : Prop := Claim7.holds Tryz.pinned (.plain (OpenSpec.ofChange directorySignedSpecSpec)) directorySignedSpecCard

/-- THE TIED CARD OF 'chartroomlaw35.DirectorySetSpec'. -/
def directorySetSpecCard : Claim7 := { stood := { row := directorySetSpecRow, standIns := [], harness := (true, "1d3431046d51e23ed24249f1205848a0c04a50149c11ca40710e0fbacd3e68da"), looks := false }, kinds := [], alts := [], laidByText := true, laidKinds := [.data, .data, .sentinel], laidTests := true, laidLooks := .later }
def DirectorySetSpecCardSaid : Prop := Claim7.holds Tryz.pinned (.plain (OpenSpec.ofChange directorySetSpecSpec)) directorySetSpecCard

/-- THE TIED CARD OF 'chartroomlaw35.DirectoryDigestSpec'. -/
def directoryDigestSpecCard : Claim7 := { stood := { row := directoryDigestSpecRow, standIns := [], harness := (true, "1d3431046d51e23ed24249f1205848a0c04a50149c11ca40710e0fbacd3e68da"), looks := false }, kinds := [], alts := [], laidByText := true, laidKinds := [.data, .data, .sentinel], laidTests := true, laidLooks := .later }
def DirectoryDigestSpecCardSaid : Prop := Claim7.holds Tryz.pinned (.plain (OpenSpec.ofChange directoryDigestSpecSpec)) directoryDigestSpecCard

/-- THE TIED CARD OF 'chartroomlaw36.GossipProveSpec'. -/
def gossipProveSpecCard : Claim7 := { stood := { row := gossipProveSpecRow, standIns := [], harness := (true, "1d3431046d51e23ed24249f1205848a0c04a50149c11ca40710e0fbacd3e68da"), looks := false }, kinds := [], alts := [], laidByText := true, laidKinds := [.data, .data, .sentinel], laidTests := true, laidLooks := .later }
def GossipProveSpecCardSaid : Prop := Claim7.holds Tryz.pinned (.plain (OpenSpec.ofChange gossipProveSpecSpec)) gossipProveSpecCard

/-- THE TIED CARD OF 'chartroomlaw36.GossipSpec'. -/
def gossipSpecCard : Claim7 := { stood := { row := gossipSpecRow, standIns := [], harness := (true, "1d3431046d51e23ed24249f1205848a0c04a50149c11ca40710e0fbacd3e68da"), looks := false }, kinds := [], alts := [], laidByText := true, laidKinds := [.data, .data, .sentinel], laidTests := true, laidLooks := .later }
def GossipSpecCardSaid : Prop := Claim7.holds Tryz.pinned (.plain (OpenSpec.ofChange gossipSpecSpec)) gossipSpecCard

/-- THE TIED CARD OF 'chartroomlaw36.GossipAcceptSpec'. -/
def gossipAcceptSpecCard : Claim7 := { stood := { row := gossipAcceptSpecRow, standIns := [], harness := (true, "1d3431046d51e23ed24249f1205848a0c04a50149c11ca40710e0fbacd3e68da"), looks := false }, kinds := [], alts := [], laidByText := true, laidKinds := [.data, .data, .sentinel], laidTests := true, laidLooks := .later }
def GossipAcceptSpecCardSaid : Prop := Claim7.holds Tryz.pinned (.plain (OpenSpec.ofChange gossipAcceptSpecSpec)) gossipAcceptSpecCard

/-- THE SECOND FORM's CARD OF 'chartroomlaw35.DirectorySignedSpec'. -/
def directorySignedSpecUptoCard : Claim7 := { stood := { row := directorySignedSpecUptoRow, standIns := [], harness := (true, "1d3431046d51e23ed24249f1205848a0c04a50149c11ca40710e0fbacd3e68da"), looks := false }, kinds := [], alts := [], laidByText := true, laidKinds := [.data, .data, .sentinel], laidTests := true, laidLooks := .later }
def DirectorySignedSpecUptoCardSaid : Prop := Claim7.holds Tryz.pinned (.plain (OpenSpec.upto directorySignedSpecSpec)) directorySignedSpecUptoCard

/-- THE SECOND FORM's CARD OF 'chartroomlaw35.DirectorySetSpec'. -/
def directorySetSpecUptoCard : Claim7 := { stood := { row := directorySetSpecUptoRow, standIns := [], harness := (true, "1d3431046d51e23ed24249f1205848a0c04a50149c11ca40710e0fbacd3e68da"), looks := false }, kinds := [], alts := [], laidByText := true, laidKinds := [.data, .data, .sentinel], laidTests := true, laidLooks := .later }
def DirectorySetSpecUptoCardSaid : Prop := Claim7.holds Tryz.pinned (.plain (OpenSpec.upto directorySetSpecSpec)) directorySetSpecUptoCard

/-- THE SECOND FORM's CARD OF 'chartroomlaw35.DirectoryDigestSpec'. -/
def directoryDigestSpecUptoCard : Claim7 := { stood := { row := directoryDigestSpecUptoRow, standIns := [], harness := (true, "1d3431046d51e23ed24249f1205848a0c04a50149c11ca40710e0fbacd3e68da"), looks := false }, kinds := [], alts := [], laidByText := true, laidKinds := [.data, .data, .sentinel], laidTests := true, laidLooks := .later }
def DirectoryDigestSpecUptoCardSaid : Prop := Claim7.holds Tryz.pinned (.plain (OpenSpec.upto directoryDigestSpecSpec)) directoryDigestSpecUptoCard

/-- THE SECOND FORM's CARD OF 'chartroomlaw36.GossipProveSpec'. -/
def gossipProveSpecUptoCard : Claim7 := { stood := { row := gossipProveSpecUptoRow, standIns := [], harness := (true, "1d3431046d51e23ed24249f1205848a0c04a50149c11ca40710e0fbacd3e68da"), looks := false }, kinds := [], alts := [], laidByText := true, laidKinds := [.data, .data, .sentinel], laidTests := true, laidLooks := .later }
def GossipProveSpecUptoCardSaid : Prop := Claim7.holds Tryz.pinned (.plain (OpenSpec.upto gossipProveSpecSpec)) gossipProveSpecUptoCard

/-- THE SECOND FORM's CARD OF 'chartroomlaw36.GossipSpec'. -/
def gossipSpecUptoCard : Claim7 := { stood := { row := gossipSpecUptoRow, standIns := [], harness := (true, "1d3431046d51e23ed24249f1205848a0c04a50149c11ca40710e0fbacd3e68da"), looks := false }, kinds := [], alts := [], laidByText := true, laidKinds := [.data, .data, .sentinel], laidTests := true, laidLooks := .later }
def GossipSpecUptoCardSaid : Prop := Claim7.holds Tryz.pinned (.plain (OpenSpec.upto gossipSpecSpec)) gossipSpecUptoCard

/-- THE SECOND FORM's CARD OF 'chartroomlaw36.GossipAcceptSpec'. -/
def gossipAcceptSpecUptoCard : Claim7 := { stood := { row := gossipAcceptSpecUptoRow, standIns := [], harness := (true, "1d3431046d51e23ed24249f1205848a0c04a50149c11ca40710e0fbacd3e68da"), looks := false }, kinds := [], alts := [], laidByText := true, laidKinds := [.data, .data, .sentinel], laidTests := true, laidLooks := .later }
def GossipAcceptSpecUptoCardSaid : Prop := Claim7.holds Tryz.pinned (.plain (OpenSpec.upto gossipAcceptSpecSpec)) gossipAcceptSpecUptoCard
end Rows
end Go.Proofs.YthhblcbnnmoojaaGreatDoor
