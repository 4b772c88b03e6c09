/-
  DERIVED. GIVEN WITH THE SEED: THE CARDS: each row of YtiionehcmoginaaDoorRows.lean that lists a variable, with what it lists TIED to the program's text (the seventh form; the later family's looks); each row that meets fmt, with fmt's text TOLD by the authors' own Lean function (tested against real Go, not proved from fmt's source: count such statements apart). THE CARD IS WHAT COUNTS. Prove the row's statement (the work); the ties are given (YtiionehcmoginaaDoorTie.lean); close each card by the builder's one call (the guide's Derived/Test/ToyasCard.lean, 'card_holds'). Laid BY PROGRAM, IN A SANDBOX (cutbox-door.mjs). By AI agents, Wed Nov 11 2026. No macro, syntax, notation, axiom, sorry.
-/
import Derived.Test.YtiionehcmoginaaDoorRows
import GoSem.ClaimSeven
namespace Go.Proofs.YtiionehcmoginaaDoor
namespace Rows

/-- THE TIED CARD OF 'chartroomlaw32.ViewsHonest'. -/
def viewsHonestCard : Claim7 := { stood := { row := viewsHonestRow, standIns := [], harness := (true, "608cd0720f91ff3ad574156353b6f30fe2f73723675f14731deb4c629b150d9f"), looks := false }, kinds := [], alts := [], laidByText := true, laidKinds := [.data, .data], laidTests := true, laidLooks := .later }
def ViewsHonestCardSaid : Prop := Claim7.holds Tryd.pinned (.plain (OpenSpec.ofChange viewsHonestSpec)) viewsHonestCard

/-- THE TIED CARD OF 'chartroomlaw32.ViewsCaught'. -/
def viewsCaughtCard : Claim7 := { stood := { row := viewsCaughtRow, standIns := [], harness := (true, "608cd0720f91ff3ad574156353b6f30fe2f73723675f14731deb4c629b150d9f"), looks := false }, kinds := [], alts := [], laidByText := true, laidKinds := [.data, .data], laidTests := true, laidLooks := .later }
def ViewsCaughtCardSaid : Prop := Claim7.holds Tryd.pinned (.plain (OpenSpec.ofChange viewsCaughtSpec)) viewsCaughtCard

/-- THE TIED CARD OF 'chartroomlaw32.ViewsInnocent'. -/
def viewsInnocentCard : Claim7 := { stood := { row := viewsInnocentRow, standIns := [], harness := (true, "608cd0720f91ff3ad574156353b6f30fe2f73723675f14731deb4c629b150d9f"), looks := false }, kinds := [], alts := [], laidByText := true, laidKinds := [.data, .data], laidTests := true, laidLooks := .later }
def ViewsInnocentCardSaid : Prop := Claim7.holds Tryd.pinned (.plain (OpenSpec.ofChange viewsInnocentSpec)) viewsInnocentCard

/-- THE TIED CARD OF 'chartroomlaw32.ViewsRemember'. -/
def viewsRememberCard : Claim7 := { stood := { row := viewsRememberRow, standIns := [], harness := (true, "608cd0720f91ff3ad574156353b6f30fe2f73723675f14731deb4c629b150d9f"), looks := false }, kinds := [], alts := [], laidByText := true, laidKinds := [.data, .data], laidTests := true, laidLooks := .later }
def ViewsRememberCardSaid : Prop := Claim7.holds Tryd.pinned (.plain (OpenSpec.ofChange viewsRememberSpec)) viewsRememberCard

/-- THE SECOND FORM's CARD OF 'chartroomlaw32.ViewsHonest'. -/
def viewsHonestUptoCard : Claim7 := { stood := { row := viewsHonestUptoRow, standIns := [], harness := (true, "608cd0720f91ff3ad574156353b6f30fe2f73723675f14731deb4c629b150d9f"), looks := false }, kinds := [], alts := [], laidByText := true, laidKinds := [.data, .data], laidTests := true, laidLooks := .later }
def ViewsHonestUptoCardSaid : Prop := Claim7.holds Tryd.pinned (.plain (OpenSpec.upto viewsHonestSpec)) viewsHonestUptoCard

/-- THE SECOND FORM's CARD OF 'chartroomlaw32.ViewsCaught'. -/
def viewsCaughtUptoCard : Claim7 := { stood := { row := viewsCaughtUptoRow, standIns := [], harness := (true, "608cd0720f91ff3ad574156353b6f30fe2f73723675f14731deb4c629b150d9f"), looks := false }, kinds := [], alts := [], laidByText := true, laidKinds := [.data, .data], laidTests := true, laidLooks := .later }
def ViewsCaughtUptoCardSaid : Prop := Claim7.holds Tryd.pinned (.plain (OpenSpec.upto viewsCaughtSpec)) viewsCaughtUptoCard

/-- THE SECOND FORM's CARD OF 'chartroomlaw32.ViewsInnocent'. -/
def viewsInnocentUptoCard : Claim7 := { stood := { row := viewsInnocentUptoRow, standIns := [], harness := (true, "608cd0720f91ff3ad574156353b6f30fe2f73723675f14731deb4c629b150d9f"), looks := false }, kinds := [], alts := [], laidByText := true, laidKinds := [.data, .data], laidTests := true, laidLooks := .later }
def ViewsInnocentUptoCardSaid : Prop := Claim7.holds Tryd.pinned (.plain (OpenSpec.upto viewsInnocentSpec)) viewsInnocentUptoCard

/-- THE SECOND FORM's CARD OF 'chartroomlaw32.ViewsRemember'. -/
def viewsRememberUptoCard : Claim7 := { stood := { row := viewsRememberUptoRow, standIns := [], harness := (true, "608cd0720f91ff3ad574156353b6f30fe2f73723675f14731deb4c629b150d9f"), looks := false }, kinds := [], alts := [], laidByText := true, laidKinds := [.data, .data], laidTests := true, laidLooks := .later }
def ViewsRememberUptoCardSaid : Prop := Claim7.holds Tryd.pinned (.plain (OpenSpec.upto viewsRememberSpec)) viewsRememberUptoCard
end Rows
end Go.Proofs.YtiionehcmoginaaDoor
