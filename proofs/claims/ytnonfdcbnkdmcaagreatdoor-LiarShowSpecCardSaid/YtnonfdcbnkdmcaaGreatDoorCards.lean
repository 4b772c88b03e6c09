/-
  DERIVED. GIVEN WITH THE SEED: THE CARDS: each row of YtnonfdcbnkdmcaaGreatDoorRows.lean that lists a variable, with what it lists TIED to the program's text (the seventh form; the later family's looks); each row that meets fmt, with fmt's text TOLD by the authors' own Lean function (tested against real Go, not proved from fmt's source: count such statements apart). THE CARD IS WHAT COUNTS. Prove the row's statement (the work); the ties are given (YtnonfdcbnkdmcaaGreatDoorTie.lean); close each card by the builder's one call (the guide's Derived/Test/ToyasCard.lean, 'card_holds'). Laid BY PROGRAM, IN A SANDBOX (cutbox-door.mjs). By AI agents, Wed Nov 11 2026. No macro, syntax, notation, axiom, sorry.
-/
import Derived.Test.YtnonfdcbnkdmcaaGreatDoorRows
import GoSem.ClaimSeven
namespace Go.Proofs.YtnonfdcbnkdmcaaGreatDoor
namespace Rows

/-- THE TIED CARD OF 'chartroomlaw31.LiarShowSpec'. -/
def liarShowSpecCard : Claim7 := { stood := { row := liarShowSpecRow, standIns := [], harness := (true, "f1795c23477191a86de028924151d0d8d5cdfe28fb540b6f067f4dbe71f008fb"), looks := false }, kinds := [], alts := [], laidByText := true, laidKinds := [.data, .data], laidTests := true, laidLooks := .later }
def LiarShowSpecCardSaid : Prop := Claim7.holds Tryz.pinned (.plain (OpenSpec.ofChange liarShowSpecSpec)) liarShowSpecCard

/-- THE TIED CARD OF 'chartroomlaw31.LiarHonestSpec'. -/
def liarHonestSpecCard : Claim7 := { stood := { row := liarHonestSpecRow, standIns := [], harness := (true, "f1795c23477191a86de028924151d0d8d5cdfe28fb540b6f067f4dbe71f008fb"), looks := false }, kinds := [], alts := [], laidByText := true, laidKinds := [.data, .data], laidTests := true, laidLooks := .later }
def LiarHonestSpecCardSaid : Prop := Claim7.holds Tryz.pinned (.plain (OpenSpec.ofChange liarHonestSpecSpec)) liarHonestSpecCard

/-- THE TIED CARD OF 'chartroomlaw32.ViewsSpec'. -/
def viewsSpecCard : Claim7 := { stood := { row := viewsSpecRow, standIns := [], harness := (true, "f1795c23477191a86de028924151d0d8d5cdfe28fb540b6f067f4dbe71f008fb"), looks := false }, kinds := [], alts := [], laidByText := true, laidKinds := [.data, .data], laidTests := true, laidLooks := .later }
def ViewsSpecCardSaid : Prop := Claim7.holds Tryz.pinned (.plain (OpenSpec.ofChange viewsSpecSpec)) viewsSpecCard

/-- THE TIED CARD OF 'chartroomlaw32.ViewsAcceptSpec'. -/
def viewsAcceptSpecCard : Claim7 := { stood := { row := viewsAcceptSpecRow, standIns := [], harness := (true, "f1795c23477191a86de028924151d0d8d5cdfe28fb540b6f067f4dbe71f008fb"), looks := false }, kinds := [], alts := [], laidByText := true, laidKinds := [.data, .data], laidTests := true, laidLooks := .later }
def ViewsAcceptSpecCardSaid : Prop := Claim7.holds Tryz.pinned (.plain (OpenSpec.ofChange viewsAcceptSpecSpec)) viewsAcceptSpecCard

/-- THE TIED CARD OF 'chartroomlaw32.ViewsProveSpec'. -/
def viewsProveSpecCard : Claim7 := { stood := { row := viewsProveSpecRow, standIns := [], harness := (true, "f1795c23477191a86de028924151d0d8d5cdfe28fb540b6f067f4dbe71f008fb"), looks := false }, kinds := [], alts := [], laidByText := true, laidKinds := [.data, .data], laidTests := true, laidLooks := .later }
def ViewsProveSpecCardSaid : Prop := Claim7.holds Tryz.pinned (.plain (OpenSpec.ofChange viewsProveSpecSpec)) viewsProveSpecCard

/-- THE SECOND FORM's CARD OF 'chartroomlaw31.LiarShowSpec'. -/
def liarShowSpecUptoCard : Claim7 := { stood := { row := liarShowSpecUptoRow, standIns := [], harness := (true, "f1795c23477191a86de028924151d0d8d5cdfe28fb540b6f067f4dbe71f008fb"), looks := false }, kinds := [], alts := [], laidByText := true, laidKinds := [.data, .data], laidTests := true, laidLooks := .later }
def LiarShowSpecUptoCardSaid : Prop := Claim7.holds Tryz.pinned (.plain (OpenSpec.upto liarShowSpecSpec)) liarShowSpecUptoCard

/-- THE SECOND FORM's CARD OF 'chartroomlaw31.LiarHonestSpec'. -/
def liarHonestSpecUptoCard : Claim7 := { stood := { row := liarHonestSpecUptoRow, standIns := [], harness := (true, "f1795c23477191a86de028924151d0d8d5cdfe28fb540b6f067f4dbe71f008fb"), looks := false }, kinds := [], alts := [], laidByText := true, laidKinds := [.data, .data], laidTests := true, laidLooks := .later }
def LiarHonestSpecUptoCardSaid : Prop := Claim7.holds Tryz.pinned (.plain (OpenSpec.upto liarHonestSpecSpec)) liarHonestSpecUptoCard

/-- THE SECOND FORM's CARD OF 'chartroomlaw32.ViewsSpec'. -/
def viewsSpecUptoCard : Claim7 := { stood := { row := viewsSpecUptoRow, standIns := [], harness := (true, "f1795c23477191a86de028924151d0d8d5cdfe28fb540b6f067f4dbe71f008fb"), looks := false }, kinds := [], alts := [], laidByText := true, laidKinds := [.data, .data], laidTests := true, laidLooks := .later }
def ViewsSpecUptoCardSaid : Prop := Claim7.holds Tryz.pinned (.plain (OpenSpec.upto viewsSpecSpec)) viewsSpecUptoCard

/-- THE SECOND FORM's CARD OF 'chartroomlaw32.ViewsAcceptSpec'. -/
def viewsAcceptSpecUptoCard : Claim7 := { stood := { row := viewsAcceptSpecUptoRow, standIns := [], harness := (true, "f1795c23477191a86de028924151d0d8d5cdfe28fb540b6f067f4dbe71f008fb"), looks := false }, kinds := [], alts := [], laidByText := true, laidKinds := [.data, .data], laidTests := true, laidLooks := .later }
def ViewsAcceptSpecUptoCardSaid : Prop := Claim7.holds Tryz.pinned (.plain (OpenSpec.upto viewsAcceptSpecSpec)) viewsAcceptSpecUptoCard

/-- THE SECOND FORM's CARD OF 'chartroomlaw32.ViewsProveSpec'. -/
def viewsProveSpecUptoCard : Claim7 := { stood := { row := viewsProveSpecUptoRow, standIns := [], harness := (true, "f1795c23477191a86de028924151d0d8d5cdfe28fb540b6f067f4dbe71f008fb"), looks := false }, kinds := [], alts := [], laidByText := true, laidKinds := [.data, .data], laidTests := true, laidLooks := .later }
def ViewsProveSpecUptoCardSaid : Prop := Claim7.holds Tryz.pinned (.plain (OpenSpec.upto viewsProveSpecSpec)) viewsProveSpecUptoCard
end Rows
end Go.Proofs.YtnonfdcbnkdmcaaGreatDoor
