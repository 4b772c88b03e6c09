/-
  NARROWER THAN 'FOR EVERY INPUT', by the rows' own cells (each row's printed sentence says how): TopForks: laid · ViewsProofs: laid · LiarOthers: laid · LiarWithheld: laid · LiarForked: laid · LiarSpoiled: laid · LiarSigned: laid.
  DERIVED. THE GIVEN ROWS OF THIS SEAT. 7 by the template 'for every input the law returns true; each argument reads behind the call as it read before'; 0 by the template 'total and deterministic' (their statements: YtiionehcmoginaaGreatDoorTotals.lean).
  GIVEN WITH THE SEED: the statements are not yours to turn. If you find one false, say at which input.
  Laid BY PROGRAM, IN A SANDBOX (cutbox-rows.mjs): the forced cells as the released guide's own fill.sh prints them over the translation 055698665a5ddafe… (all of the seat's roots in one cut). By AI agents, Wed Nov 11 2026. No macro, syntax, notation, axiom, sorry.
-/
import Derived.Test.YtiionehcmoginaaGreatDoorChecked
import GoSem.Claim
import GoSem.ClaimJoined
import GoSem.ClaimMapViews
import Derived.JoinedTies
import Derived.KernelRfl
namespace Go.Proofs.YtiionehcmoginaaGreatDoor
/- THE CELL 'sum', in the pinned program and in every row, IS THE sha256 OF THE DUMP (.gsa) THAT YtiionehcmoginaaGreatDoorProg.lean LOADS. Nothing in Lean hashes anything: it is a label: what it is worth is what the hold of that sum in a sandbox is worth. -/
noncomputable def Tryz.pinned : Pinned := { name := "ytiionehcmoginaagreatdoor", sum := "055698665a5ddafebb12f34176f977b6a4b14720715d7f1ad6271595d32825e1", checked := Tryz.checked }
namespace Rows
def none {H : Type} : Left H := { results := [], args := [] }

/- WHAT THE LISTED PACKAGE-LEVEL VARIABLES READ AS WHEN THE CALL BEGINS. Each datum BY PROGRAM (the guide's laid-datum.mjs) off the statement by which the dump's own 'gosem.cut.vars' lays the variable. In a bare row this is a premise. The card (YtiionehcmoginaaGreatDoorCards.lean) ties it to the program's text. -/
def laid_chartroom_digest_start {H : Type} : DataW H := .agg [.lit (.int .u32 1779033703), .lit (.int .u32 3144134277), .lit (.int .u32 1013904242), .lit (.int .u32 2773480762), .lit (.int .u32 1359893119), .lit (.int .u32 2600822924), .lit (.int .u32 528734635), .lit (.int .u32 1541459225)]
def laid_chartroom_digest_numbers {H : Type} : DataW H := .agg [.lit (.int .u32 1116352408), .lit (.int .u32 1899447441), .lit (.int .u32 3049323471), .lit (.int .u32 3921009573), .lit (.int .u32 961987163), .lit (.int .u32 1508970993), .lit (.int .u32 2453635748), .lit (.int .u32 2870763221), .lit (.int .u32 3624381080), .lit (.int .u32 310598401), .lit (.int .u32 607225278), .lit (.int .u32 1426881987), .lit (.int .u32 1925078388), .lit (.int .u32 2162078206), .lit (.int .u32 2614888103), .lit (.int .u32 3248222580), .lit (.int .u32 3835390401), .lit (.int .u32 4022224774), .lit (.int .u32 264347078), .lit (.int .u32 604807628), .lit (.int .u32 770255983), .lit (.int .u32 1249150122), .lit (.int .u32 1555081692), .lit (.int .u32 1996064986), .lit (.int .u32 2554220882), .lit (.int .u32 2821834349), .lit (.int .u32 2952996808), .lit (.int .u32 3210313671), .lit (.int .u32 3336571891), .lit (.int .u32 3584528711), .lit (.int .u32 113926993), .lit (.int .u32 338241895), .lit (.int .u32 666307205), .lit (.int .u32 773529912), .lit (.int .u32 1294757372), .lit (.int .u32 1396182291), .lit (.int .u32 1695183700), .lit (.int .u32 1986661051), .lit (.int .u32 2177026350), .lit (.int .u32 2456956037), .lit (.int .u32 2730485921), .lit (.int .u32 2820302411), .lit (.int .u32 3259730800), .lit (.int .u32 3345764771), .lit (.int .u32 3516065817), .lit (.int .u32 3600352804), .lit (.int .u32 4094571909), .lit (.int .u32 275423344), .lit (.int .u32 430227734), .lit (.int .u32 506948616), .lit (.int .u32 659060556), .lit (.int .u32 883997877), .lit (.int .u32 958139571), .lit (.int .u32 1322822218), .lit (.int .u32 1537002063), .lit (.int .u32 1747873779), .lit (.int .u32 1955562222), .lit (.int .u32 2024104815), .lit (.int .u32 2227730452), .lit (.int .u32 2361852424), .lit (.int .u32 2428436474), .lit (.int .u32 2756734187), .lit (.int .u32 3204031479), .lit (.int .u32 3329325298)]

/-- 'chartroomtop.TopForks': WHATEVER THE INPUT: true; the input reads as it did. -/
def topForksSpec : ChangeSpec := { name := "topForks", fn := fun _ => fun
  | [d1, d2, d3, d4] => { results := [.lit (.bool true)], args := [d1, d2, d3, d4] }
  | _ => none }
def topForksRow : OpenClaim := { program := "ytiionehcmoginaagreatdoor", sum := "055698665a5ddafebb12f34176f977b6a4b14720715d7f1ad6271595d32825e1", func := "chartroom/chartroomtop.TopForks", spec := "topForks", inPlace := ["slices.overlaps[chartroom/api.Log]", "slices.overlaps[chartroom/api.Entry]", "slices.overlaps[chartroom/api.Head]"], unfollowed := true, recurses := true, named := ["math/bits.divideError", "math/bits.overflowError", "chartroom/digest.start", "chartroom/digest.numbers"], plainKeys := false, apart := false, laid := [("chartroom/digest.start", laid_chartroom_digest_start), ("chartroom/digest.numbers", laid_chartroom_digest_numbers)] }
def TopForksSaid : Prop := topForksRow.holds Tryz.pinned (OpenSpec.ofChange topForksSpec)

/-- ITS FALSE NEIGHBOUR: 'it returns false'. Refute it at one input. -/
def topForksWrong : ChangeSpec := { name := "topForks", fn := fun _ => fun
  | [d1, d2, d3, d4] => { results := [.lit (.bool false)], args := [d1, d2, d3, d4] }
  | _ => none }
def TopForksWrongFalsely : Prop := topForksRow.holds Tryz.pinned (OpenSpec.ofChange topForksWrong)

/-- 'chartroomlaw32.ViewsProofs': WHATEVER THE INPUT: true; the input reads as it did. -/
def viewsProofsSpec : ChangeSpec := { name := "viewsProofs", fn := fun _ => fun
  | [d1, d2, d3, d4] => { results := [.lit (.bool true)], args := [d1, d2, d3, d4] }
  | _ => none }
def viewsProofsRow : OpenClaim := { program := "ytiionehcmoginaagreatdoor", sum := "055698665a5ddafebb12f34176f977b6a4b14720715d7f1ad6271595d32825e1", func := "chartroom/chartroomlaw32.ViewsProofs", spec := "viewsProofs", inPlace := ["slices.overlaps[chartroom/api.Head]"], unfollowed := true, recurses := true, named := ["math/bits.divideError", "math/bits.overflowError", "chartroom/digest.start", "chartroom/digest.numbers"], plainKeys := false, apart := false, laid := [("chartroom/digest.start", laid_chartroom_digest_start), ("chartroom/digest.numbers", laid_chartroom_digest_numbers)] }
def ViewsProofsSaid : Prop := viewsProofsRow.holds Tryz.pinned (OpenSpec.ofChange viewsProofsSpec)

/-- ITS FALSE NEIGHBOUR: 'it returns false'. Refute it at one input. -/
def viewsProofsWrong : ChangeSpec := { name := "viewsProofs", fn := fun _ => fun
  | [d1, d2, d3, d4] => { results := [.lit (.bool false)], args := [d1, d2, d3, d4] }
  | _ => none }
def ViewsProofsWrongFalsely : Prop := viewsProofsRow.holds Tryz.pinned (OpenSpec.ofChange viewsProofsWrong)

/-- 'chartroomlaw31.LiarOthers': WHATEVER THE INPUT: true; the input reads as it did. -/
def liarOthersSpec : ChangeSpec := { name := "liarOthers", fn := fun _ => fun
  | [d1, d2, d3, d4] => { results := [.lit (.bool true)], args := [d1, d2, d3, d4] }
  | _ => none }
def liarOthersRow : OpenClaim := { program := "ytiionehcmoginaagreatdoor", sum := "055698665a5ddafebb12f34176f977b6a4b14720715d7f1ad6271595d32825e1", func := "chartroom/chartroomlaw31.LiarOthers", spec := "liarOthers", inPlace := ["slices.overlaps[chartroom/api.Log]", "slices.overlaps[chartroom/api.Entry]"], unfollowed := true, recurses := true, named := ["math/bits.divideError", "math/bits.overflowError", "chartroom/digest.start", "chartroom/digest.numbers"], plainKeys := false, apart := false, laid := [("chartroom/digest.start", laid_chartroom_digest_start), ("chartroom/digest.numbers", laid_chartroom_digest_numbers)] }
def LiarOthersSaid : Prop := liarOthersRow.holds Tryz.pinned (OpenSpec.ofChange liarOthersSpec)

/-- ITS FALSE NEIGHBOUR: 'it returns false'. Refute it at one input. -/
def liarOthersWrong : ChangeSpec := { name := "liarOthers", fn := fun _ => fun
  | [d1, d2, d3, d4] => { results := [.lit (.bool false)], args := [d1, d2, d3, d4] }
  | _ => none }
def LiarOthersWrongFalsely : Prop := liarOthersRow.holds Tryz.pinned (OpenSpec.ofChange liarOthersWrong)

/-- 'chartroomlaw31.LiarWithheld': WHATEVER THE INPUT: true; the input reads as it did. -/
def liarWithheldSpec : ChangeSpec := { name := "liarWithheld", fn := fun _ => fun
  | [d1, d2, d3, d4] => { results := [.lit (.bool true)], args := [d1, d2, d3, d4] }
  | _ => none }
def liarWithheldRow : OpenClaim := { program := "ytiionehcmoginaagreatdoor", sum := "055698665a5ddafebb12f34176f977b6a4b14720715d7f1ad6271595d32825e1", func := "chartroom/chartroomlaw31.LiarWithheld", spec := "liarWithheld", inPlace := ["slices.overlaps[chartroom/api.Log]", "slices.overlaps[chartroom/api.Entry]"], unfollowed := true, recurses := true, named := ["math/bits.divideError", "math/bits.overflowError", "chartroom/digest.start", "chartroom/digest.numbers"], plainKeys := false, apart := false, laid := [("chartroom/digest.start", laid_chartroom_digest_start), ("chartroom/digest.numbers", laid_chartroom_digest_numbers)] }
def LiarWithheldSaid : Prop := liarWithheldRow.holds Tryz.pinned (OpenSpec.ofChange liarWithheldSpec)

/-- ITS FALSE NEIGHBOUR: 'it returns false'. Refute it at one input. -/
def liarWithheldWrong : ChangeSpec := { name := "liarWithheld", fn := fun _ => fun
  | [d1, d2, d3, d4] => { results := [.lit (.bool false)], args := [d1, d2, d3, d4] }
  | _ => none }
def LiarWithheldWrongFalsely : Prop := liarWithheldRow.holds Tryz.pinned (OpenSpec.ofChange liarWithheldWrong)

/-- 'chartroomlaw31.LiarForked': WHATEVER THE INPUT: true; the input reads as it did. -/
def liarForkedSpec : ChangeSpec := { name := "liarForked", fn := fun _ => fun
  | [d1, d2, d3] => { results := [.lit (.bool true)], args := [d1, d2, d3] }
  | _ => none }
def liarForkedRow : OpenClaim := { program := "ytiionehcmoginaagreatdoor", sum := "055698665a5ddafebb12f34176f977b6a4b14720715d7f1ad6271595d32825e1", func := "chartroom/chartroomlaw31.LiarForked", spec := "liarForked", inPlace := ["slices.overlaps[chartroom/api.Log]", "slices.overlaps[chartroom/api.Entry]"], unfollowed := true, recurses := true, named := ["math/bits.divideError", "math/bits.overflowError", "chartroom/digest.start", "chartroom/digest.numbers"], plainKeys := false, apart := false, laid := [("chartroom/digest.start", laid_chartroom_digest_start), ("chartroom/digest.numbers", laid_chartroom_digest_numbers)] }
def LiarForkedSaid : Prop := liarForkedRow.holds Tryz.pinned (OpenSpec.ofChange liarForkedSpec)

/-- ITS FALSE NEIGHBOUR: 'it returns false'. Refute it at one input. -/
def liarForkedWrong : ChangeSpec := { name := "liarForked", fn := fun _ => fun
  | [d1, d2, d3] => { results := [.lit (.bool false)], args := [d1, d2, d3] }
  | _ => none }
def LiarForkedWrongFalsely : Prop := liarForkedRow.holds Tryz.pinned (OpenSpec.ofChange liarForkedWrong)

/-- 'chartroomlaw31.LiarSpoiled': WHATEVER THE INPUT: true; the input reads as it did. -/
def liarSpoiledSpec : ChangeSpec := { name := "liarSpoiled", fn := fun _ => fun
  | [d1, d2, d3, d4] => { results := [.lit (.bool true)], args := [d1, d2, d3, d4] }
  | _ => none }
def liarSpoiledRow : OpenClaim := { program := "ytiionehcmoginaagreatdoor", sum := "055698665a5ddafebb12f34176f977b6a4b14720715d7f1ad6271595d32825e1", func := "chartroom/chartroomlaw31.LiarSpoiled", spec := "liarSpoiled", inPlace := ["slices.overlaps[chartroom/api.Log]", "slices.overlaps[chartroom/api.Entry]"], unfollowed := true, recurses := true, named := ["math/bits.divideError", "math/bits.overflowError", "chartroom/digest.start", "chartroom/digest.numbers"], plainKeys := false, apart := false, laid := [("chartroom/digest.start", laid_chartroom_digest_start), ("chartroom/digest.numbers", laid_chartroom_digest_numbers)] }
def LiarSpoiledSaid : Prop := liarSpoiledRow.holds Tryz.pinned (OpenSpec.ofChange liarSpoiledSpec)

/-- ITS FALSE NEIGHBOUR: 'it returns false'. Refute it at one input. -/
def liarSpoiledWrong : ChangeSpec := { name := "liarSpoiled", fn := fun _ => fun
  | [d1, d2, d3, d4] => { results := [.lit (.bool false)], args := [d1, d2, d3, d4] }
  | _ => none }
def LiarSpoiledWrongFalsely : Prop := liarSpoiledRow.holds Tryz.pinned (OpenSpec.ofChange liarSpoiledWrong)

/-- 'chartroomlaw31.LiarSigned': WHATEVER THE INPUT: true; the input reads as it did. -/
def liarSignedSpec : ChangeSpec := { name := "liarSigned", fn := fun _ => fun
  | [d1, d2, d3] => { results := [.lit (.bool true)], args := [d1, d2, d3] }
  | _ => none }
def liarSignedRow : OpenClaim := { program := "ytiionehcmoginaagreatdoor", sum := "055698665a5ddafebb12f34176f977b6a4b14720715d7f1ad6271595d32825e1", func := "chartroom/chartroomlaw31.LiarSigned", spec := "liarSigned", inPlace := ["slices.overlaps[chartroom/api.Log]", "slices.overlaps[chartroom/api.Entry]"], unfollowed := true, recurses := true, named := ["math/bits.divideError", "math/bits.overflowError", "chartroom/digest.start", "chartroom/digest.numbers"], plainKeys := false, apart := false, laid := [("chartroom/digest.start", laid_chartroom_digest_start), ("chartroom/digest.numbers", laid_chartroom_digest_numbers)] }
def LiarSignedSaid : Prop := liarSignedRow.holds Tryz.pinned (OpenSpec.ofChange liarSignedSpec)

/-- ITS FALSE NEIGHBOUR: 'it returns false'. Refute it at one input. -/
def liarSignedWrong : ChangeSpec := { name := "liarSigned", fn := fun _ => fun
  | [d1, d2, d3] => { results := [.lit (.bool false)], args := [d1, d2, d3] }
  | _ => none }
def LiarSignedWrongFalsely : Prop := liarSignedRow.holds Tryz.pinned (OpenSpec.ofChange liarSignedWrong)

/- THE SECOND FORM. 'bulk': how many values and letters a reading holds, each counted each time it is reached (what is shared counts as often as it is met; a slice's spare places count too). A statement '..UptoSaid' is the law's where the arguments, and the package variables that the reading takes, are together of bulk at most 1048576: NARROWER than '..Said'. Prove '..Said' where nothing that the law and all that it calls make is longer than what came in: it says more and counts as full. Else prove '..UptoSaid'. A law counts once. -/
mutual
def uptoBulk {H : Type} : DataW H → Nat
  | .lit (.string bytes) => bytes.length + 1
  | .lit _ => 1
  | .nil => 1
  | .ptr d => uptoBulk d + 1
  | .slice elems spare => uptoBulkAll elems + uptoBulkAll spare + 1
  | .agg parts => uptoBulkAll parts + 1
  | .iface _ d => uptoBulk d + 1
  | .map entries => uptoBulkEntries entries + 1
  | .held _ => 1
def uptoBulkAll {H : Type} : List (DataW H) → Nat
  | [] => 0
  | d :: r => uptoBulk d + uptoBulkAll r
def uptoBulkEntries {H : Type} : List (Lit × DataW H) → Nat
  | [] => 0
  | x :: r => uptoBulkEntry x + uptoBulkEntries r
def uptoBulkEntry {H : Type} : Lit × DataW H → Nat
  | (.string bytes, d) => bytes.length + uptoBulk d + 1
  | (_, d) => uptoBulk d + 1
 end
def uptoSmall : (H : Type) → List (DataW H) → Bool := fun _ ds => decide (uptoBulkAll ds ≤ 1048576)
def OpenSpec.upto (s : _root_.Go.ChangeSpec) : _root_.Go.OpenSpec := { _root_.Go.OpenSpec.ofChange s with cond := some uptoSmall }

/-- 'chartroomtop.TopForks', WHERE WHAT IT READS IS OF BULK AT MOST 1048576: true; the input reads as it did. -/
def topForksUptoRow : OpenClaim := { program := "ytiionehcmoginaagreatdoor", sum := "055698665a5ddafebb12f34176f977b6a4b14720715d7f1ad6271595d32825e1", func := "chartroom/chartroomtop.TopForks", spec := "topForks", inPlace := ["slices.overlaps[chartroom/api.Log]", "slices.overlaps[chartroom/api.Entry]", "slices.overlaps[chartroom/api.Head]"], unfollowed := true, recurses := true, named := ["math/bits.divideError", "math/bits.overflowError", "chartroom/digest.start", "chartroom/digest.numbers"], plainKeys := false, apart := false, laid := [("chartroom/digest.start", laid_chartroom_digest_start), ("chartroom/digest.numbers", laid_chartroom_digest_numbers)], narrowed := true }
def TopForksUptoSaid : Prop := topForksUptoRow.holds Tryz.pinned (OpenSpec.upto topForksSpec)

/-- 'chartroomlaw32.ViewsProofs', WHERE WHAT IT READS IS OF BULK AT MOST 1048576: true; the input reads as it did. -/
def viewsProofsUptoRow : OpenClaim := { program := "ytiionehcmoginaagreatdoor", sum := "055698665a5ddafebb12f34176f977b6a4b14720715d7f1ad6271595d32825e1", func := "chartroom/chartroomlaw32.ViewsProofs", spec := "viewsProofs", inPlace := ["slices.overlaps[chartroom/api.Head]"], unfollowed := true, recurses := true, named := ["math/bits.divideError", "math/bits.overflowError", "chartroom/digest.start", "chartroom/digest.numbers"], plainKeys := false, apart := false, laid := [("chartroom/digest.start", laid_chartroom_digest_start), ("chartroom/digest.numbers", laid_chartroom_digest_numbers)], narrowed := true }
def ViewsProofsUptoSaid : Prop := viewsProofsUptoRow.holds Tryz.pinned (OpenSpec.upto viewsProofsSpec)

/-- 'chartroomlaw31.LiarOthers', WHERE WHAT IT READS IS OF BULK AT MOST 1048576: true; the input reads as it did. -/
def liarOthersUptoRow : OpenClaim := { program := "ytiionehcmoginaagreatdoor", sum := "055698665a5ddafebb12f34176f977b6a4b14720715d7f1ad6271595d32825e1", func := "chartroom/chartroomlaw31.LiarOthers", spec := "liarOthers", inPlace := ["slices.overlaps[chartroom/api.Log]", "slices.overlaps[chartroom/api.Entry]"], unfollowed := true, recurses := true, named := ["math/bits.divideError", "math/bits.overflowError", "chartroom/digest.start", "chartroom/digest.numbers"], plainKeys := false, apart := false, laid := [("chartroom/digest.start", laid_chartroom_digest_start), ("chartroom/digest.numbers", laid_chartroom_digest_numbers)], narrowed := true }
def LiarOthersUptoSaid : Prop := liarOthersUptoRow.holds Tryz.pinned (OpenSpec.upto liarOthersSpec)

/-- 'chartroomlaw31.LiarWithheld', WHERE WHAT IT READS IS OF BULK AT MOST 1048576: true; the input reads as it did. -/
def liarWithheldUptoRow : OpenClaim := { program := "ytiionehcmoginaagreatdoor", sum := "055698665a5ddafebb12f34176f977b6a4b14720715d7f1ad6271595d32825e1", func := "chartroom/chartroomlaw31.LiarWithheld", spec := "liarWithheld", inPlace := ["slices.overlaps[chartroom/api.Log]", "slices.overlaps[chartroom/api.Entry]"], unfollowed := true, recurses := true, named := ["math/bits.divideError", "math/bits.overflowError", "chartroom/digest.start", "chartroom/digest.numbers"], plainKeys := false, apart := false, laid := [("chartroom/digest.start", laid_chartroom_digest_start), ("chartroom/digest.numbers", laid_chartroom_digest_numbers)], narrowed := true }
def LiarWithheldUptoSaid : Prop := liarWithheldUptoRow.holds Tryz.pinned (OpenSpec.upto liarWithheldSpec)

/-- 'chartroomlaw31.LiarForked', WHERE WHAT IT READS IS OF BULK AT MOST 1048576: true; the input reads as it did. -/
def liarForkedUptoRow : OpenClaim := { program := "ytiionehcmoginaagreatdoor", sum := "055698665a5ddafebb12f34176f977b6a4b14720715d7f1ad6271595d32825e1", func := "chartroom/chartroomlaw31.LiarForked", spec := "liarForked", inPlace := ["slices.overlaps[chartroom/api.Log]", "slices.overlaps[chartroom/api.Entry]"], unfollowed := true, recurses := true, named := ["math/bits.divideError", "math/bits.overflowError", "chartroom/digest.start", "chartroom/digest.numbers"], plainKeys := false, apart := false, laid := [("chartroom/digest.start", laid_chartroom_digest_start), ("chartroom/digest.numbers", laid_chartroom_digest_numbers)], narrowed := true }
def LiarForkedUptoSaid : Prop := liarForkedUptoRow.holds Tryz.pinned (OpenSpec.upto liarForkedSpec)

/-- 'chartroomlaw31.LiarSpoiled', WHERE WHAT IT READS IS OF BULK AT MOST 1048576: true; the input reads as it did. -/
def liarSpoiledUptoRow : OpenClaim := { program := "ytiionehcmoginaagreatdoor", sum := "055698665a5ddafebb12f34176f977b6a4b14720715d7f1ad6271595d32825e1", func := "chartroom/chartroomlaw31.LiarSpoiled", spec := "liarSpoiled", inPlace := ["slices.overlaps[chartroom/api.Log]", "slices.overlaps[chartroom/api.Entry]"], unfollowed := true, recurses := true, named := ["math/bits.divideError", "math/bits.overflowError", "chartroom/digest.start", "chartroom/digest.numbers"], plainKeys := false, apart := false, laid := [("chartroom/digest.start", laid_chartroom_digest_start), ("chartroom/digest.numbers", laid_chartroom_digest_numbers)], narrowed := true }
def LiarSpoiledUptoSaid : Prop := liarSpoiledUptoRow.holds Tryz.pinned (OpenSpec.upto liarSpoiledSpec)

/-- 'chartroomlaw31.LiarSigned', WHERE WHAT IT READS IS OF BULK AT MOST 1048576: true; the input reads as it did. -/
def liarSignedUptoRow : OpenClaim := { program := "ytiionehcmoginaagreatdoor", sum := "055698665a5ddafebb12f34176f977b6a4b14720715d7f1ad6271595d32825e1", func := "chartroom/chartroomlaw31.LiarSigned", spec := "liarSigned", inPlace := ["slices.overlaps[chartroom/api.Log]", "slices.overlaps[chartroom/api.Entry]"], unfollowed := true, recurses := true, named := ["math/bits.divideError", "math/bits.overflowError", "chartroom/digest.start", "chartroom/digest.numbers"], plainKeys := false, apart := false, laid := [("chartroom/digest.start", laid_chartroom_digest_start), ("chartroom/digest.numbers", laid_chartroom_digest_numbers)], narrowed := true }
def LiarSignedUptoSaid : Prop := liarSignedUptoRow.holds Tryz.pinned (OpenSpec.upto liarSignedSpec)

end Rows
end Go.Proofs.YtiionehcmoginaaGreatDoor
