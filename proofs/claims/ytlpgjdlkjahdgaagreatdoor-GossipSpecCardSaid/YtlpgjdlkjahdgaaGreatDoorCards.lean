/-
  DERIVED. GIVEN WITH THE SEED: THE CARDS: each row of YtlpgjdlkjahdgaaGreatDoorRows.lean that lists a variable, with what it lists TIED to the program's text (the seventh form; the later family's looks); each row that meets fmt, with fmt's text TOLD by the authors' own Lean function (tested against real Go, not proved from fmt's source: count such statements apart). THE CARD IS WHAT COUNTS. Prove the row's statement (the work); the ties are given (YtlpgjdlkjahdgaaGreatDoorTie.lean); close each card by the builder's one call (the guide's Derived/Test/ToyasCard.lean, 'card_holds'). Laid BY PROGRAM, IN A SANDBOX (cutbox-door.mjs). By AI agents, Wed Nov 11 2026. No macro, syntax, notation, axiom, sorry.
-/
import Derived.Test.YtlpgjdlkjahdgaaGreatDoorRows
import GoSem.ClaimSeven
namespace Go.Proofs.YtlpgjdlkjahdgaaGreatDoor
namespace Rows

/-- THE TIED CARD OF 'chartroomlaw30.StoreCheckSpec'. -/
def storeCheckSpecCard : Claim7 := { stood := { row := storeCheckSpecRow, standIns := [], harness := (true, "0e71b2c2558acfe1f4ed3f440e2dab26401bb835ffca5b2d0e5c9d75e6479122"), looks := false }, kinds := [], alts := [], laidByText := true, laidKinds := [.data, .data], laidTests := true, laidLooks := .later }
def StoreCheckSpecCardSaid : Prop := Claim7.holds Tryz.pinned (.plain (OpenSpec.ofChange storeCheckSpecSpec)) storeCheckSpecCard

/-- THE TIED CARD OF 'chartroomlaw30.StorePutSpec'. -/
def storePutSpecCard : Claim7 := { stood := { row := storePutSpecRow, standIns := [], harness := (true, "0e71b2c2558acfe1f4ed3f440e2dab26401bb835ffca5b2d0e5c9d75e6479122"), looks := false }, kinds := [], alts := [], laidByText := true, laidKinds := [.data, .data], laidTests := true, laidLooks := .later }
def StorePutSpecCardSaid : Prop := Claim7.holds Tryz.pinned (.plain (OpenSpec.ofChange storePutSpecSpec)) storePutSpecCard

/-- THE TIED CARD OF 'chartroomlaw30.StoreSignSpec'. -/
def storeSignSpecCard : Claim7 := { stood := { row := storeSignSpecRow, standIns := [], harness := (true, "0e71b2c2558acfe1f4ed3f440e2dab26401bb835ffca5b2d0e5c9d75e6479122"), looks := false }, kinds := [], alts := [], laidByText := true, laidKinds := [.data, .data], laidTests := true, laidLooks := .later }
def StoreSignSpecCardSaid : Prop := Claim7.holds Tryz.pinned (.plain (OpenSpec.ofChange storeSignSpecSpec)) storeSignSpecCard

/-- THE TIED CARD OF 'chartroomlaw36.GossipProveSpec'. -/
def gossipProveSpecCard : Claim7 := { stood := { row := gossipProveSpecRow, standIns := [], harness := (true, "0e71b2c2558acfe1f4ed3f440e2dab26401bb835ffca5b2d0e5c9d75e6479122"), looks := false }, kinds := [], alts := [], laidByText := true, laidKinds := [.data, .data, .sentinel], laidTests := true, laidLooks := .later }
def GossipProveSpecCardSaid : Prop := Claim7.holds Tryz.pinned (.plain (OpenSpec.ofChange gossipProveSpecSpec)) gossipProveSpecCard

/-- THE TIED CARD OF 'chartroomlaw36.GossipSpec'. -/
def gossipSpecCard : Claim7 := { stood := { row := gossipSpecRow, standIns := [], harness := (true, "0e71b2c2558acfe1f4ed3f440e2dab26401bb835ffca5b2d0e5c9d75e6479122"), looks := false }, kinds := [], alts := [], laidByText := true, laidKinds := [.data, .data, .sentinel], laidTests := true, laidLooks := .later }
def GossipSpecCardSaid : Prop := Claim7.holds Tryz.pinned (.plain (OpenSpec.ofChange gossipSpecSpec)) gossipSpecCard

/-- THE TIED CARD OF 'chartroomlaw36.GossipAcceptSpec'. -/
def gossipAcceptSpecCard : Claim7 := { stood := { row := gossipAcceptSpecRow, standIns := [], harness := (true, "0e71b2c2558acfe1f4ed3f440e2dab26401bb835ffca5b2d0e5c9d75e6479122"), looks := false }, kinds := [], alts := [], laidByText := true, laidKinds := [.data, .data, .sentinel], laidTests := true, laidLooks := .later }
def GossipAcceptSpecCardSaid : Prop := Claim7.holds Tryz.pinned (.plain (OpenSpec.ofChange gossipAcceptSpecSpec)) gossipAcceptSpecCard

/-- THE SECOND FORM's CARD OF 'chartroomlaw30.StoreCheckSpec'. -/
def storeCheckSpecUptoCard : Claim7 := { stood := { row := storeCheckSpecUptoRow, standIns := [], harness := (true, "0e71b2c2558acfe1f4ed3f440e2dab26401bb835ffca5b2d0e5c9d75e6479122"), looks := false }, kinds := [], alts := [], laidByText := true, laidKinds := [.data, .data], laidTests := true, laidLooks := .later }
def StoreCheckSpecUptoCardSaid : Prop := Claim7.holds Tryz.pinned (.plain (OpenSpec.upto storeCheckSpecSpec)) storeCheckSpecUptoCard

/-- THE SECOND FORM's CARD OF 'chartroomlaw30.StorePutSpec'. -/
def storePutSpecUptoCard : Claim7 := { stood := { row := storePutSpecUptoRow, standIns := [], harness := (true, "0e71b2c2558acfe1f4ed3f440e2dab26401bb835ffca5b2d0e5c9d75e6479122"), looks := false }, kinds := [], alts := [], laidByText := true, laidKinds := [.data, .data], laidTests := true, laidLooks := .later }
def StorePutSpecUptoCardSaid : Prop := Claim7.holds Tryz.pinned (.plain (OpenSpec.upto storePutSpecSpec)) storePutSpecUptoCard

/-- THE SECOND FORM's CARD OF 'chartroomlaw30.StoreSignSpec'. -/
def storeSignSpecUptoCard : Claim7 := { stood := { row := storeSignSpecUptoRow, standIns := [], harness := (true, "0e71b2c2558acfe1f4ed3f440e2dab26401bb835ffca5b2d0e5c9d75e6479122"), looks := false }, kinds := [], alts := [], laidByText := true, laidKinds := [.data, .data], laidTests := true, laidLooks := .later }
def StoreSignSpecUptoCardSaid : Prop := Claim7.holds Tryz.pinned (.plain (OpenSpec.upto storeSignSpecSpec)) storeSignSpecUptoCard

/-- THE SECOND FORM's CARD OF 'chartroomlaw36.GossipProveSpec'. -/
def gossipProveSpecUptoCard : Claim7 := { stood := { row := gossipProveSpecUptoRow, standIns := [], harness := (true, "0e71b2c2558acfe1f4ed3f440e2dab26401bb835ffca5b2d0e5c9d75e6479122"), looks := false }, kinds := [], alts := [], laidByText := true, laidKinds := [.data, .data, .sentinel], laidTests := true, laidLooks := .later }
def GossipProveSpecUptoCardSaid : Prop := Claim7.holds Tryz.pinned (.plain (OpenSpec.upto gossipProveSpecSpec)) gossipProveSpecUptoCard

/-- THE SECOND FORM's CARD OF 'chartroomlaw36.GossipSpec'. -/
def gossipSpecUptoCard : Claim7 := { stood := { row := gossipSpecUptoRow, standIns := [], harness := (true, "0e71b2c2558acfe1f4ed3f440e2dab26401bb835ffca5b2d0e5c9d75e6479122"), looks := false }, kinds := [], alts := [], laidByText := true, laidKinds := [.data, .data, .sentinel], laidTests := true, laidLooks := .later }
def GossipSpecUptoCardSaid : Prop := Claim7.holds Tryz.pinned (.plain (OpenSpec.upto gossipSpecSpec)) gossipSpecUptoCard

/-- THE SECOND FORM's CARD OF 'chartroomlaw36.GossipAcceptSpec'. -/
def gossipAcceptSpecUptoCard : Claim7 := { stood := { row := gossipAcceptSpecUptoRow, standIns := [], harness := (true, "0e71b2c2558acfe1f4ed3f440e2dab26401bb835ffca5b2d0e5c9d75e6479122"), looks := false }, kinds := [], alts := [], laidByText := true, laidKinds := [.data, .data, .sentinel], laidTests := true, laidLooks := .later }
def GossipAcceptSpecUptoCardSaid : Prop := Claim7.holds Tryz.pinned (.plain (OpenSpec.upto gossipAcceptSpecSpec)) gossipAcceptSpecUptoCard
end Rows
end Go.Proofs.YtlpgjdlkjahdgaaGreatDoor
