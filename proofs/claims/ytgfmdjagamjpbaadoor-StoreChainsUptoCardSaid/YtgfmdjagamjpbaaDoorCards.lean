/-
  DERIVED. GIVEN WITH THE SEED: THE CARDS: each row of YtgfmdjagamjpbaaDoorRows.lean that lists a variable, with what it lists TIED to the program's text (the seventh form; the later family's looks); each row that meets fmt, with fmt's text TOLD by the authors' own Lean function (tested against real Go, not proved from fmt's source: count such statements apart). THE CARD IS WHAT COUNTS. Prove the row's statement (the work); the ties are given (YtgfmdjagamjpbaaDoorTie.lean); close each card by the builder's one call (the guide's Derived/Test/ToyasCard.lean, 'card_holds'). Laid BY PROGRAM, IN A SANDBOX (cutbox-door.mjs). By AI agents, Wed Nov 11 2026. No macro, syntax, notation, axiom, sorry.
-/
import Derived.Test.YtgfmdjagamjpbaaDoorRows
import GoSem.ClaimSeven
namespace Go.Proofs.YtgfmdjagamjpbaaDoor
namespace Rows

/-- THE TIED CARD OF 'chartroomlaw30.StoreChains'. -/
def storeChainsCard : Claim7 := { stood := { row := storeChainsRow, standIns := [], harness := (true, "f488a35397967aefade51eef8664caa68c041adfc501cfb8a4ac36b015989e3d"), looks := false }, kinds := [], alts := [], laidByText := true, laidKinds := [.data, .data], laidTests := true, laidLooks := .later }
def StoreChainsCardSaid : Prop := Claim7.holds Tryd.pinned (.plain (OpenSpec.ofChange storeChainsSpec)) storeChainsCard

/-- THE TIED CARD OF 'chartroomlaw30.StoreOnce'. -/
def storeOnceCard : Claim7 := { stood := { row := storeOnceRow, standIns := [], harness := (true, "f488a35397967aefade51eef8664caa68c041adfc501cfb8a4ac36b015989e3d"), looks := false }, kinds := [], alts := [], laidByText := true, laidKinds := [.data, .data], laidTests := true, laidLooks := .later }
def StoreOnceCardSaid : Prop := Claim7.holds Tryd.pinned (.plain (OpenSpec.ofChange storeOnceSpec)) storeOnceCard

/-- THE TIED CARD OF 'chartroomlaw30.StoreApart'. -/
def storeApartCard : Claim7 := { stood := { row := storeApartRow, standIns := [], harness := (true, "f488a35397967aefade51eef8664caa68c041adfc501cfb8a4ac36b015989e3d"), looks := false }, kinds := [], alts := [], laidByText := true, laidKinds := [.data, .data], laidTests := true, laidLooks := .later }
def StoreApartCardSaid : Prop := Claim7.holds Tryd.pinned (.plain (OpenSpec.ofChange storeApartSpec)) storeApartCard

/-- THE TIED CARD OF 'chartroomlaw30.StoreHeads'. -/
def storeHeadsCard : Claim7 := { stood := { row := storeHeadsRow, standIns := [], harness := (true, "f488a35397967aefade51eef8664caa68c041adfc501cfb8a4ac36b015989e3d"), looks := false }, kinds := [], alts := [], laidByText := true, laidKinds := [.data, .data], laidTests := true, laidLooks := .later }
def StoreHeadsCardSaid : Prop := Claim7.holds Tryd.pinned (.plain (OpenSpec.ofChange storeHeadsSpec)) storeHeadsCard

/-- THE SECOND FORM's CARD OF 'chartroomlaw30.StoreChains'. -/
def storeChainsUptoCard : Claim7 := { stood := { row := storeChainsUptoRow, standIns := [], harness := (true, "f488a35397967aefade51eef8664caa68c041adfc501cfb8a4ac36b015989e3d"), looks := false }, kinds := [], alts := [], laidByText := true, laidKinds := [.data, .data], laidTests := true, laidLooks := .later }
def StoreChainsUptoCardSaid : Prop := Claim7.holds Tryd.pinned (.plain (OpenSpec.upto storeChainsSpec)) storeChainsUptoCard

/-- THE SECOND FORM's CARD OF 'chartroomlaw30.StoreOnce'. -/
def storeOnceUptoCard : Claim7 := { stood := { row := storeOnceUptoRow, standIns := [], harness := (true, "f488a35397967aefade51eef8664caa68c041adfc501cfb8a4ac36b015989e3d"), looks := false }, kinds := [], alts := [], laidByText := true, laidKinds := [.data, .data], laidTests := true, laidLooks := .later }
def StoreOnceUptoCardSaid : Prop := Claim7.holds Tryd.pinned (.plain (OpenSpec.upto storeOnceSpec)) storeOnceUptoCard

/-- THE SECOND FORM's CARD OF 'chartroomlaw30.StoreApart'. -/
def storeApartUptoCard : Claim7 := { stood := { row := storeApartUptoRow, standIns := [], harness := (true, "f488a35397967aefade51eef8664caa68c041adfc501cfb8a4ac36b015989e3d"), looks := false }, kinds := [], alts := [], laidByText := true, laidKinds := [.data, .data], laidTests := true, laidLooks := .later }
def StoreApartUptoCardSaid : Prop := Claim7.holds Tryd.pinned (.plain (OpenSpec.upto storeApartSpec)) storeApartUptoCard

/-- THE SECOND FORM's CARD OF 'chartroomlaw30.StoreHeads'. -/
def storeHeadsUptoCard : Claim7 := { stood := { row := storeHeadsUptoRow, standIns := [], harness := (true, "f488a35397967aefade51eef8664caa68c041adfc501cfb8a4ac36b015989e3d"), looks := false }, kinds := [], alts := [], laidByText := true, laidKinds := [.data, .data], laidTests := true, laidLooks := .later }
def StoreHeadsUptoCardSaid : Prop := Claim7.holds Tryd.pinned (.plain (OpenSpec.upto storeHeadsSpec)) storeHeadsUptoCard
end Rows
end Go.Proofs.YtgfmdjagamjpbaaDoor
