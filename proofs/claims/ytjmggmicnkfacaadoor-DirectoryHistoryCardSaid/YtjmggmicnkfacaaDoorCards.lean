/-
  DERIVED. GIVEN WITH THE SEED: THE CARDS: each row of YtjmggmicnkfacaaDoorRows.lean that lists a variable, with what it lists TIED to the program's text (the seventh form; the later family's looks); each row that meets fmt, with fmt's text TOLD by the authors' own Lean function (tested against real Go, not proved from fmt's source: count such statements apart). THE CARD IS WHAT COUNTS. Prove the row's statement (the work); the ties are given (YtjmggmicnkfacaaDoorTie.lean); close each card by the builder's one call (the guide's Derived/Test/ToyasCard.lean, 'card_holds'). Laid BY PROGRAM, IN A SANDBOX (cutbox-door.mjs). By AI agents, Wed Nov 11 2026. No macro, syntax, notation, axiom, sorry.
-/
import Derived.Test.YtjmggmicnkfacaaDoorRows
import GoSem.ClaimSeven
namespace Go.Proofs.YtjmggmicnkfacaaDoor
namespace Rows

/-- THE TIED CARD OF 'chartroomlaw35.DirectoryProves'. -/
def directoryProvesCard : Claim7 := { stood := { row := directoryProvesRow, standIns := [], harness := (true, "1557d4907a95d2214c9597103dd117e953a091d85ddce6dd943560b7cea1b4cb"), looks := false }, kinds := [], alts := [], laidByText := true, laidKinds := [.data, .data, .sentinel], laidTests := true, laidLooks := .later }
def DirectoryProvesCardSaid : Prop := Claim7.holds Tryd.pinned (.plain (OpenSpec.ofChange directoryProvesSpec)) directoryProvesCard

/-- THE TIED CARD OF 'chartroomlaw35.DirectoryOnce'. -/
def directoryOnceCard : Claim7 := { stood := { row := directoryOnceRow, standIns := [], harness := (true, "1557d4907a95d2214c9597103dd117e953a091d85ddce6dd943560b7cea1b4cb"), looks := false }, kinds := [], alts := [], laidByText := true, laidKinds := [.data, .data, .sentinel], laidTests := true, laidLooks := .later }
def DirectoryOnceCardSaid : Prop := Claim7.holds Tryd.pinned (.plain (OpenSpec.ofChange directoryOnceSpec)) directoryOnceCard

/-- THE TIED CARD OF 'chartroomlaw35.DirectoryHistory'. -/
def directoryHistoryCard : Claim7 := { stood := { row := directoryHistoryRow, standIns := [], harness := (true, "1557d4907a95d2214c9597103dd117e953a091d85ddce6dd943560b7cea1b4cb"), looks := false }, kinds := [], alts := [], laidByText := true, laidKinds := [.data, .data, .sentinel], laidTests := true, laidLooks := .later }
def DirectoryHistoryCardSaid : Prop := Claim7.holds Tryd.pinned (.plain (OpenSpec.ofChange directoryHistorySpec)) directoryHistoryCard

/-- THE TIED CARD OF 'chartroomlaw35.DirectoryChange'. -/
def directoryChangeCard : Claim7 := { stood := { row := directoryChangeRow, standIns := [], harness := (true, "1557d4907a95d2214c9597103dd117e953a091d85ddce6dd943560b7cea1b4cb"), looks := false }, kinds := [], alts := [], laidByText := true, laidKinds := [.data, .data, .sentinel], laidTests := true, laidLooks := .later }
def DirectoryChangeCardSaid : Prop := Claim7.holds Tryd.pinned (.plain (OpenSpec.ofChange directoryChangeSpec)) directoryChangeCard

/-- THE SECOND FORM's CARD OF 'chartroomlaw35.DirectoryProves'. -/
def directoryProvesUptoCard : Claim7 := { stood := { row := directoryProvesUptoRow, standIns := [], harness := (true, "1557d4907a95d2214c9597103dd117e953a091d85ddce6dd943560b7cea1b4cb"), looks := false }, kinds := [], alts := [], laidByText := true, laidKinds := [.data, .data, .sentinel], laidTests := true, laidLooks := .later }
def DirectoryProvesUptoCardSaid : Prop := Claim7.holds Tryd.pinned (.plain (OpenSpec.upto directoryProvesSpec)) directoryProvesUptoCard

/-- THE SECOND FORM's CARD OF 'chartroomlaw35.DirectoryOnce'. -/
def directoryOnceUptoCard : Claim7 := { stood := { row := directoryOnceUptoRow, standIns := [], harness := (true, "1557d4907a95d2214c9597103dd117e953a091d85ddce6dd943560b7cea1b4cb"), looks := false }, kinds := [], alts := [], laidByText := true, laidKinds := [.data, .data, .sentinel], laidTests := true, laidLooks := .later }
def DirectoryOnceUptoCardSaid : Prop := Claim7.holds Tryd.pinned (.plain (OpenSpec.upto directoryOnceSpec)) directoryOnceUptoCard

/-- THE SECOND FORM's CARD OF 'chartroomlaw35.DirectoryHistory'. -/
def directoryHistoryUptoCard : Claim7 := { stood := { row := directoryHistoryUptoRow, standIns := [], harness := (true, "1557d4907a95d2214c9597103dd117e953a091d85ddce6dd943560b7cea1b4cb"), looks := false }, kinds := [], alts := [], laidByText := true, laidKinds := [.data, .data, .sentinel], laidTests := true, laidLooks := .later }
def DirectoryHistoryUptoCardSaid : Prop := Claim7.holds Tryd.pinned (.plain (OpenSpec.upto directoryHistorySpec)) directoryHistoryUptoCard

/-- THE SECOND FORM's CARD OF 'chartroomlaw35.DirectoryChange'. -/
def directoryChangeUptoCard : Claim7 := { stood := { row := directoryChangeUptoRow, standIns := [], harness := (true, "1557d4907a95d2214c9597103dd117e953a091d85ddce6dd943560b7cea1b4cb"), looks := false }, kinds := [], alts := [], laidByText := true, laidKinds := [.data, .data, .sentinel], laidTests := true, laidLooks := .later }
def DirectoryChangeUptoCardSaid : Prop := Claim7.holds Tryd.pinned (.plain (OpenSpec.upto directoryChangeSpec)) directoryChangeUptoCard
end Rows
end Go.Proofs.YtjmggmicnkfacaaDoor
