/-
  DERIVED. GIVEN WITH THE SEED: THE CARDS: each row of YthnfjkgiaanmhaaGreatDoorRows.lean that lists a variable, with what it lists TIED to the program's text (the seventh form; the later family's looks); each row that meets fmt, with fmt's text TOLD by the authors' own Lean function (tested against real Go, not proved from fmt's source: count such statements apart). THE CARD IS WHAT COUNTS. Prove the row's statement (the work); the ties are given (YthnfjkgiaanmhaaGreatDoorTie.lean); close each card by the builder's one call (the guide's Derived/Test/ToyasCard.lean, 'card_holds'). Laid BY PROGRAM, IN A SANDBOX (cutbox-door.mjs). By AI agents, Wed Nov 11 2026. No macro, syntax, notation, axiom, sorry.
-/
import Derived.Test.YthnfjkgiaanmhaaGreatDoorRows
import GoSem.ClaimSeven
namespace Go.Proofs.YthnfjkgiaanmhaaGreatDoor
namespace Rows

/-- THE TIED CARD OF 'chartroomlaw36.GossipHonest'. -/
def gossipHonestCard : Claim7 := { stood := { row := gossipHonestRow, standIns := [], harness := (true, "c578d5295a2e4adb68b76fd72e8b48f6cb8355a5e326fb92d1d1f12a6d59b363"), looks := false }, kinds := [], alts := [], laidByText := true, laidKinds := [.data, .data, .sentinel], laidTests := true, laidLooks := .later }
def GossipHonestCardSaid : Prop := Claim7.holds Tryz.pinned (.plain (OpenSpec.ofChange gossipHonestSpec)) gossipHonestCard

/-- THE TIED CARD OF 'chartroomlaw36.GossipCaught'. -/
def gossipCaughtCard : Claim7 := { stood := { row := gossipCaughtRow, standIns := [], harness := (true, "c578d5295a2e4adb68b76fd72e8b48f6cb8355a5e326fb92d1d1f12a6d59b363"), looks := false }, kinds := [], alts := [], laidByText := true, laidKinds := [.data, .data, .sentinel], laidTests := true, laidLooks := .later }
def GossipCaughtCardSaid : Prop := Claim7.holds Tryz.pinned (.plain (OpenSpec.ofChange gossipCaughtSpec)) gossipCaughtCard

/-- THE TIED CARD OF 'chartroomlaw36.GossipProofs'. -/
def gossipProofsCard : Claim7 := { stood := { row := gossipProofsRow, standIns := [], harness := (true, "c578d5295a2e4adb68b76fd72e8b48f6cb8355a5e326fb92d1d1f12a6d59b363"), looks := false }, kinds := [], alts := [], laidByText := true, laidKinds := [.data, .data, .sentinel], laidTests := true, laidLooks := .later }
def GossipProofsCardSaid : Prop := Claim7.holds Tryz.pinned (.plain (OpenSpec.ofChange gossipProofsSpec)) gossipProofsCard

/-- THE TIED CARD OF 'chartroomlaw36.GossipEither'. -/
def gossipEitherCard : Claim7 := { stood := { row := gossipEitherRow, standIns := [], harness := (true, "c578d5295a2e4adb68b76fd72e8b48f6cb8355a5e326fb92d1d1f12a6d59b363"), looks := false }, kinds := [], alts := [], laidByText := true, laidKinds := [.data, .data, .sentinel], laidTests := true, laidLooks := .later }
def GossipEitherCardSaid : Prop := Claim7.holds Tryz.pinned (.plain (OpenSpec.ofChange gossipEitherSpec)) gossipEitherCard

/-- THE TIED CARD OF 'chartroomlaw36.GossipRemember'. -/
def gossipRememberCard : Claim7 := { stood := { row := gossipRememberRow, standIns := [], harness := (true, "c578d5295a2e4adb68b76fd72e8b48f6cb8355a5e326fb92d1d1f12a6d59b363"), looks := false }, kinds := [], alts := [], laidByText := true, laidKinds := [.data, .data, .sentinel], laidTests := true, laidLooks := .later }
def GossipRememberCardSaid : Prop := Claim7.holds Tryz.pinned (.plain (OpenSpec.ofChange gossipRememberSpec)) gossipRememberCard

/-- THE SECOND FORM's CARD OF 'chartroomlaw36.GossipHonest'. -/
def gossipHonestUptoCard : Claim7 := { stood := { row := gossipHonestUptoRow, standIns := [], harness := (true, "c578d5295a2e4adb68b76fd72e8b48f6cb8355a5e326fb92d1d1f12a6d59b363"), looks := false }, kinds := [], alts := [], laidByText := true, laidKinds := [.data, .data, .sentinel], laidTests := true, laidLooks := .later }
def GossipHonestUptoCardSaid : Prop := Claim7.holds Tryz.pinned (.plain (OpenSpec.upto gossipHonestSpec)) gossipHonestUptoCard

/-- THE SECOND FORM's CARD OF 'chartroomlaw36.GossipCaught'. -/
def gossipCaughtUptoCard : Claim7 := { stood := { row := gossipCaughtUptoRow, standIns := [], harness := (true, "c578d5295a2e4adb68b76fd72e8b48f6cb8355a5e326fb92d1d1f12a6d59b363"), looks := false }, kinds := [], alts := [], laidByText := true, laidKinds := [.data, .data, .sentinel], laidTests := true, laidLooks := .later }
def GossipCaughtUptoCardSaid : Prop := Claim7.holds Tryz.pinned (.plain (OpenSpec.upto gossipCaughtSpec)) gossipCaughtUptoCard

/-- THE SECOND FORM's CARD OF 'chartroomlaw36.GossipProofs'. -/
def gossipProofsUptoCard : Claim7 := { stood := { row := gossipProofsUptoRow, standIns := [], harness := (true, "c578d5295a2e4adb68b76fd72e8b48f6cb8355a5e326fb92d1d1f12a6d59b363"), looks := false }, kinds := [], alts := [], laidByText := true, laidKinds := [.data, .data, .sentinel], laidTests := true, laidLooks := .later }
def GossipProofsUptoCardSaid : Prop := Claim7.holds Tryz.pinned (.plain (OpenSpec.upto gossipProofsSpec)) gossipProofsUptoCard

/-- THE SECOND FORM's CARD OF 'chartroomlaw36.GossipEither'. -/
def gossipEitherUptoCard : Claim7 := { stood := { row := gossipEitherUptoRow, standIns := [], harness := (true, "c578d5295a2e4adb68b76fd72e8b48f6cb8355a5e326fb92d1d1f12a6d59b363"), looks := false }, kinds := [], alts := [], laidByText := true, laidKinds := [.data, .data, .sentinel], laidTests := true, laidLooks := .later }
def GossipEitherUptoCardSaid : Prop := Claim7.holds Tryz.pinned (.plain (OpenSpec.upto gossipEitherSpec)) gossipEitherUptoCard

/-- THE SECOND FORM's CARD OF 'chartroomlaw36.GossipRemember'. -/
def gossipRememberUptoCard : Claim7 := { stood := { row := gossipRememberUptoRow, standIns := [], harness := (true, "c578d5295a2e4adb68b76fd72e8b48f6cb8355a5e326fb92d1d1f12a6d59b363"), looks := false }, kinds := [], alts := [], laidByText := true, laidKinds := [.data, .data, .sentinel], laidTests := true, laidLooks := .later }
def GossipRememberUptoCardSaid : Prop := Claim7.holds Tryz.pinned (.plain (OpenSpec.upto gossipRememberSpec)) gossipRememberUptoCard
end Rows
end Go.Proofs.YthnfjkgiaanmhaaGreatDoor
