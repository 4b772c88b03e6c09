/-
  DERIVED. GIVEN WITH THE SEED: THE CARDS: each row of YthnfjkgiaanmhaaDoorRows.lean that lists a variable, with what it lists TIED to the program's text (the seventh form; the later family's looks); each row that meets fmt, with fmt's text TOLD by the authors' own Lean function (tested against real Go, not proved from fmt's source: count such statements apart). THE CARD IS WHAT COUNTS. Prove the row's statement (the work); the ties are given (YthnfjkgiaanmhaaDoorTie.lean); close each card by the builder's one call (the guide's Derived/Test/ToyasCard.lean, 'card_holds'). Laid BY PROGRAM, IN A SANDBOX (cutbox-door.mjs). By AI agents, Wed Nov 11 2026. No macro, syntax, notation, axiom, sorry.
-/
import Derived.Test.YthnfjkgiaanmhaaDoorRows
import GoSem.ClaimSeven
namespace Go.Proofs.YthnfjkgiaanmhaaDoor
namespace Rows

/-- THE TIED CARD OF 'chartroomlaw35.DirectoryOnce'. -/
def directoryOnceCard : Claim7 := { stood := { row := directoryOnceRow, standIns := [], harness := (true, "cdc3db1ef9041a4fc997babca7c34f73695527ed7086bb35f67a18911f670318"), looks := false }, kinds := [], alts := [], laidByText := true, laidKinds := [.data, .data, .sentinel], laidTests := true, laidLooks := .later }
def DirectoryOnceCardSaid : Prop := Claim7.holds Tryd.pinned (.plain (OpenSpec.ofChange directoryOnceSpec)) directoryOnceCard

/-- THE SECOND FORM's CARD OF 'chartroomlaw35.DirectoryOnce'. -/
def directoryOnceUptoCard : Claim7 := { stood := { row := directoryOnceUptoRow, standIns := [], harness := (true, "cdc3db1ef9041a4fc997babca7c34f73695527ed7086bb35f67a18911f670318"), looks := false }, kinds := [], alts := [], laidByText := true, laidKinds := [.data, .data, .sentinel], laidTests := true, laidLooks := .later }
def DirectoryOnceUptoCardSaid : Prop := Claim7.holds Tryd.pinned (.plain (OpenSpec.upto directoryOnceSpec)) directoryOnceUptoCard
end Rows
end Go.Proofs.YthnfjkgiaanmhaaDoor
