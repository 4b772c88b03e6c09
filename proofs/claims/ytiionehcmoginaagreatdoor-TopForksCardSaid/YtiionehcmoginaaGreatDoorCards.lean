/-
  DERIVED. GIVEN WITH THE SEED: THE CARDS: each row of YtiionehcmoginaaGreatDoorRows.lean that lists a variable, with what it lists TIED to the program's text (the seventh form; the later family's looks); each row that meets fmt, with fmt's text TOLD by the authors' own Lean function (tested against real Go, not proved from fmt's source: count such statements apart). THE CARD IS WHAT COUNTS. Prove the row's statement (the work); the ties are given (YtiionehcmoginaaGreatDoorTie.lean); close each card by the builder's one call (the guide's Derived/Test/ToyasCard.lean, 'card_holds'). Laid BY PROGRAM, IN A SANDBOX (cutbox-door.mjs). By AI agents, Wed Nov 11 2026. No macro, syntax, notation, axiom, sorry.
-/
import Derived.Test.YtiionehcmoginaaGreatDoorRows
import GoSem.ClaimSeven
namespace Go.Proofs.YtiionehcmoginaaGreatDoor
namespace Rows

/-- THE TIED CARD OF 'chartroomtop.TopForks'. -/
def topForksCard : Claim7 := { stood := { row := topForksRow, standIns := [], harness := (true, "61e2f70981a8c0bfaff58b11096e9b014427882e52d813c9818ce2f80f8e3bab"), looks := false }, kinds := [], alts := [], laidByText := true, laidKinds := [.data, .data], laidTests := true, laidLooks := .later }
def TopForksCardSaid : Prop := Claim7.holds Tryz.pinned (.plain (OpenSpec.ofChange topForksSpec)) topForksCard

/-- THE TIED CARD OF 'chartroomlaw32.ViewsProofs'. -/
def viewsProofsCard : Claim7 := { stood := { row := viewsProofsRow, standIns := [], harness := (true, "61e2f70981a8c0bfaff58b11096e9b014427882e52d813c9818ce2f80f8e3bab"), looks := false }, kinds := [], alts := [], laidByText := true, laidKinds := [.data, .data], laidTests := true, laidLooks := .later }
def ViewsProofsCardSaid : Prop := Claim7.holds Tryz.pinned (.plain (OpenSpec.ofChange viewsProofsSpec)) viewsProofsCard

/-- THE TIED CARD OF 'chartroomlaw31.LiarOthers'. -/
def liarOthersCard : Claim7 := { stood := { row := liarOthersRow, standIns := [], harness := (true, "61e2f70981a8c0bfaff58b11096e9b014427882e52d813c9818ce2f80f8e3bab"), looks := false }, kinds := [], alts := [], laidByText := true, laidKinds := [.data, .data], laidTests := true, laidLooks := .later }
def LiarOthersCardSaid : Prop := Claim7.holds Tryz.pinned (.plain (OpenSpec.ofChange liarOthersSpec)) liarOthersCard

/-- THE TIED CARD OF 'chartroomlaw31.LiarWithheld'. -/
def liarWithheldCard : Claim7 := { stood := { row := liarWithheldRow, standIns := [], harness := (true, "61e2f70981a8c0bfaff58b11096e9b014427882e52d813c9818ce2f80f8e3bab"), looks := false }, kinds := [], alts := [], laidByText := true, laidKinds := [.data, .data], laidTests := true, laidLooks := .later }
def LiarWithheldCardSaid : Prop := Claim7.holds Tryz.pinned (.plain (OpenSpec.ofChange liarWithheldSpec)) liarWithheldCard

/-- THE TIED CARD OF 'chartroomlaw31.LiarForked'. -/
def liarForkedCard : Claim7 := { stood := { row := liarForkedRow, standIns := [], harness := (true, "61e2f70981a8c0bfaff58b11096e9b014427882e52d813c9818ce2f80f8e3bab"), looks := false }, kinds := [], alts := [], laidByText := true, laidKinds := [.data, .data], laidTests := true, laidLooks := .later }
def LiarForkedCardSaid : Prop := Claim7.holds Tryz.pinned (.plain (OpenSpec.ofChange liarForkedSpec)) liarForkedCard

/-- THE TIED CARD OF 'chartroomlaw31.LiarSpoiled'. -/
def liarSpoiledCard : Claim7 := { stood := { row := liarSpoiledRow, standIns := [], harness := (true, "61e2f70981a8c0bfaff58b11096e9b014427882e52d813c9818ce2f80f8e3bab"), looks := false }, kinds := [], alts := [], laidByText := true, laidKinds := [.data, .data], laidTests := true, laidLooks := .later }
def LiarSpoiledCardSaid : Prop := Claim7.holds Tryz.pinned (.plain (OpenSpec.ofChange liarSpoiledSpec)) liarSpoiledCard

/-- THE TIED CARD OF 'chartroomlaw31.LiarSigned'. -/
def liarSignedCard : Claim7 := { stood := { row := liarSignedRow, standIns := [], harness := (true, "61e2f70981a8c0bfaff58b11096e9b014427882e52d813c9818ce2f80f8e3bab"), looks := false }, kinds := [], alts := [], laidByText := true, laidKinds := [.data, .data], laidTests := true, laidLooks := .later }
def LiarSignedCardSaid : Prop := Claim7.holds Tryz.pinned (.plain (OpenSpec.ofChange liarSignedSpec)) liarSignedCard

/-- THE SECOND FORM's CARD OF 'chartroomtop.TopForks'. -/
def topForksUptoCard : Claim7 := { stood := { row := topForksUptoRow, standIns := [], harness := (true, "61e2f70981a8c0bfaff58b11096e9b014427882e52d813c9818ce2f80f8e3bab"), looks := false }, kinds := [], alts := [], laidByText := true, laidKinds := [.data, .data], laidTests := true, laidLooks := .later }
def TopForksUptoCardSaid : Prop := Claim7.holds Tryz.pinned (.plain (OpenSpec.upto topForksSpec)) topForksUptoCard

/-- THE SECOND FORM's CARD OF 'chartroomlaw32.ViewsProofs'. -/
def viewsProofsUptoCard : Claim7 := { stood := { row := viewsProofsUptoRow, standIns := [], harness := (true, "61e2f70981a8c0bfaff58b11096e9b014427882e52d813c9818ce2f80f8e3bab"), looks := false }, kinds := [], alts := [], laidByText := true, laidKinds := [.data, .data], laidTests := true, laidLooks := .later }
def ViewsProofsUptoCardSaid : Prop := Claim7.holds Tryz.pinned (.plain (OpenSpec.upto viewsProofsSpec)) viewsProofsUptoCard

/-- THE SECOND FORM's CARD OF 'chartroomlaw31.LiarOthers'. -/
def liarOthersUptoCard : Claim7 := { stood := { row := liarOthersUptoRow, standIns := [], harness := (true, "61e2f70981a8c0bfaff58b11096e9b014427882e52d813c9818ce2f80f8e3bab"), looks := false }, kinds := [], alts := [], laidByText := true, laidKinds := [.data, .data], laidTests := true, laidLooks := .later }
def LiarOthersUptoCardSaid : Prop := Claim7.holds Tryz.pinned (.plain (OpenSpec.upto liarOthersSpec)) liarOthersUptoCard

/-- THE SECOND FORM's CARD OF 'chartroomlaw31.LiarWithheld'. -/
def liarWithheldUptoCard : Claim7 := { stood := { row := liarWithheldUptoRow, standIns := [], harness := (true, "61e2f70981a8c0bfaff58b11096e9b014427882e52d813c9818ce2f80f8e3bab"), looks := false }, kinds := [], alts := [], laidByText := true, laidKinds := [.data, .data], laidTests := true, laidLooks := .later }
def LiarWithheldUptoCardSaid : Prop := Claim7.holds Tryz.pinned (.plain (OpenSpec.upto liarWithheldSpec)) liarWithheldUptoCard

/-- THE SECOND FORM's CARD OF 'chartroomlaw31.LiarForked'. -/
def liarForkedUptoCard : Claim7 := { stood := { row := liarForkedUptoRow, standIns := [], harness := (true, "61e2f70981a8c0bfaff58b11096e9b014427882e52d813c9818ce2f80f8e3bab"), looks := false }, kinds := [], alts := [], laidByText := true, laidKinds := [.data, .data], laidTests := true, laidLooks := .later }
def LiarForkedUptoCardSaid : Prop := Claim7.holds Tryz.pinned (.plain (OpenSpec.upto liarForkedSpec)) liarForkedUptoCard

/-- THE SECOND FORM's CARD OF 'chartroomlaw31.LiarSpoiled'. -/
def liarSpoiledUptoCard : Claim7 := { stood := { row := liarSpoiledUptoRow, standIns := [], harness := (true, "61e2f70981a8c0bfaff58b11096e9b014427882e52d813c9818ce2f80f8e3bab"), looks := false }, kinds := [], alts := [], laidByText := true, laidKinds := [.data, .data], laidTests := true, laidLooks := .later }
def LiarSpoiledUptoCardSaid : Prop := Claim7.holds Tryz.pinned (.plain (OpenSpec.upto liarSpoiledSpec)) liarSpoiledUptoCard

/-- THE SECOND FORM's CARD OF 'chartroomlaw31.LiarSigned'. -/
def liarSignedUptoCard : Claim7 := { stood := { row := liarSignedUptoRow, standIns := [], harness := (true, "61e2f70981a8c0bfaff58b11096e9b014427882e52d813c9818ce2f80f8e3bab"), looks := false }, kinds := [], alts := [], laidByText := true, laidKinds := [.data, .data], laidTests := true, laidLooks := .later }
def LiarSignedUptoCardSaid : Prop := Claim7.holds Tryz.pinned (.plain (OpenSpec.upto liarSignedSpec)) liarSignedUptoCard
end Rows
end Go.Proofs.YtiionehcmoginaaGreatDoor
