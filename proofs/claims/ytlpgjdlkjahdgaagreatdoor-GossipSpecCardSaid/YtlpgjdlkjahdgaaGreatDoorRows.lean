/-
  NARROWER THAN 'FOR EVERY INPUT', by the rows' own cells (each row's printed sentence says how): StoreCheckSpec: laid · StorePutSpec: laid · StoreSignSpec: laid · GossipProveSpec: laid · GossipSpec: laid · GossipAcceptSpec: laid.
  DERIVED. THE GIVEN ROWS OF THIS SEAT. 6 by the template 'for every input the law returns true; each argument reads behind the call as it read before'; 0 by the template 'total and deterministic' (their statements: YtlpgjdlkjahdgaaGreatDoorTotals.lean).
  GIVEN WITH THE SEED: the statements are not yours to turn. If you find one false, say at which input.
  Laid BY PROGRAM, IN A SANDBOX (cutbox-rows.mjs): the forced cells as the released guide's own fill.sh prints them over the translation 2e37b0d3741e1ae1… (all of the seat's roots in one cut). By AI agents, Wed Nov 11 2026. No macro, syntax, notation, axiom, sorry.
-/
import Derived.Test.YtlpgjdlkjahdgaaGreatDoorChecked
import GoSem.Claim
import GoSem.ClaimJoined
import GoSem.ClaimMapViews
import Derived.JoinedTies
import Derived.KernelRfl
namespace Go.Proofs.YtlpgjdlkjahdgaaGreatDoor
/- THE CELL 'sum', in the pinned program and in every row, IS THE sha256 OF THE DUMP (.gsa) THAT YtlpgjdlkjahdgaaGreatDoorProg.lean LOADS. Nothing in Lean hashes anything: it is a label: what it is worth is what the hold of that sum in a sandbox is worth. -/
noncomputable def Tryz.pinned : Pinned := { name := "ytlpgjdlkjahdgaagreatdoor", sum := "2e37b0d3741e1ae1dbddef1b90ee8431b971dbd080e8bfa9d2476a611d5118ee", checked := Tryz.checked }
namespace Rows
def none {H : Type} : Left H := { results := [], args := [] }

/- WHAT THE LISTED PACKAGE-LEVEL VARIABLES READ AS WHEN THE CALL BEGINS. Each datum BY PROGRAM (the guide's laid-datum.mjs) off the statement by which the dump's own 'gosem.cut.vars' lays the variable. In a bare row this is a premise. The card (YtlpgjdlkjahdgaaGreatDoorCards.lean) ties it to the program's text. -/
def laid_chartroom_digest_start {H : Type} : DataW H := .agg [.lit (.int .u32 1779033703), .lit (.int .u32 3144134277), .lit (.int .u32 1013904242), .lit (.int .u32 2773480762), .lit (.int .u32 1359893119), .lit (.int .u32 2600822924), .lit (.int .u32 528734635), .lit (.int .u32 1541459225)]
def laid_chartroom_digest_numbers {H : Type} : DataW H := .agg [.lit (.int .u32 1116352408), .lit (.int .u32 1899447441), .lit (.int .u32 3049323471), .lit (.int .u32 3921009573), .lit (.int .u32 961987163), .lit (.int .u32 1508970993), .lit (.int .u32 2453635748), .lit (.int .u32 2870763221), .lit (.int .u32 3624381080), .lit (.int .u32 310598401), .lit (.int .u32 607225278), .lit (.int .u32 1426881987), .lit (.int .u32 1925078388), .lit (.int .u32 2162078206), .lit (.int .u32 2614888103), .lit (.int .u32 3248222580), .lit (.int .u32 3835390401), .lit (.int .u32 4022224774), .lit (.int .u32 264347078), .lit (.int .u32 604807628), .lit (.int .u32 770255983), .lit (.int .u32 1249150122), .lit (.int .u32 1555081692), .lit (.int .u32 1996064986), .lit (.int .u32 2554220882), .lit (.int .u32 2821834349), .lit (.int .u32 2952996808), .lit (.int .u32 3210313671), .lit (.int .u32 3336571891), .lit (.int .u32 3584528711), .lit (.int .u32 113926993), .lit (.int .u32 338241895), .lit (.int .u32 666307205), .lit (.int .u32 773529912), .lit (.int .u32 1294757372), .lit (.int .u32 1396182291), .lit (.int .u32 1695183700), .lit (.int .u32 1986661051), .lit (.int .u32 2177026350), .lit (.int .u32 2456956037), .lit (.int .u32 2730485921), .lit (.int .u32 2820302411), .lit (.int .u32 3259730800), .lit (.int .u32 3345764771), .lit (.int .u32 3516065817), .lit (.int .u32 3600352804), .lit (.int .u32 4094571909), .lit (.int .u32 275423344), .lit (.int .u32 430227734), .lit (.int .u32 506948616), .lit (.int .u32 659060556), .lit (.int .u32 883997877), .lit (.int .u32 958139571), .lit (.int .u32 1322822218), .lit (.int .u32 1537002063), .lit (.int .u32 1747873779), .lit (.int .u32 1955562222), .lit (.int .u32 2024104815), .lit (.int .u32 2227730452), .lit (.int .u32 2361852424), .lit (.int .u32 2428436474), .lit (.int .u32 2756734187), .lit (.int .u32 3204031479), .lit (.int .u32 3329325298)]
def laid_bytes_ErrTooLarge {H : Type} : DataW H := .iface "*errors.errorString" (.ptr (.agg [.lit (.string [98, 121, 116, 101, 115, 46, 66, 117, 102, 102, 101, 114, 58, 32, 116, 111, 111, 32, 108, 97, 114, 103, 101])]))

/-- 'chartroomlaw30.StoreCheckSpec': WHATEVER THE INPUT: true; the input reads as it did. -/
def storeCheckSpecSpec : ChangeSpec := { name := "storeCheckSpec", fn := fun _ => fun
  | [d1, d2, d3] => { results := [.lit (.bool true)], args := [d1, d2, d3] }
  | _ => none }
def storeCheckSpecRow : OpenClaim := { program := "ytlpgjdlkjahdgaagreatdoor", sum := "2e37b0d3741e1ae1dbddef1b90ee8431b971dbd080e8bfa9d2476a611d5118ee", func := "chartroom/chartroomlaw30.StoreCheckSpec", spec := "storeCheckSpec", inPlace := ["slices.overlaps[chartroom/api.Log]"], unfollowed := true, recurses := true, named := ["math/bits.divideError", "math/bits.overflowError", "chartroom/digest.start", "chartroom/digest.numbers"], plainKeys := false, apart := false, laid := [("chartroom/digest.start", laid_chartroom_digest_start), ("chartroom/digest.numbers", laid_chartroom_digest_numbers)] }
def StoreCheckSpecSaid : Prop := storeCheckSpecRow.holds Tryz.pinned (OpenSpec.ofChange storeCheckSpecSpec)

/-- ITS FALSE NEIGHBOUR: 'it returns false'. Refute it at one input. -/
def storeCheckSpecWrong : ChangeSpec := { name := "storeCheckSpec", fn := fun _ => fun
  | [d1, d2, d3] => { results := [.lit (.bool false)], args := [d1, d2, d3] }
  | _ => none }
def StoreCheckSpecWrongFalsely : Prop := storeCheckSpecRow.holds Tryz.pinned (OpenSpec.ofChange storeCheckSpecWrong)

/-- 'chartroomlaw30.StorePutSpec': WHATEVER THE INPUT: true; the input reads as it did. -/
def storePutSpecSpec : ChangeSpec := { name := "storePutSpec", fn := fun _ => fun
  | [d1, d2, d3, d4, d5] => { results := [.lit (.bool true)], args := [d1, d2, d3, d4, d5] }
  | _ => none }
def storePutSpecRow : OpenClaim := { program := "ytlpgjdlkjahdgaagreatdoor", sum := "2e37b0d3741e1ae1dbddef1b90ee8431b971dbd080e8bfa9d2476a611d5118ee", func := "chartroom/chartroomlaw30.StorePutSpec", spec := "storePutSpec", inPlace := ["slices.overlaps[chartroom/api.Log]"], unfollowed := true, recurses := true, named := ["math/bits.divideError", "math/bits.overflowError", "chartroom/digest.start", "chartroom/digest.numbers"], plainKeys := false, apart := false, laid := [("chartroom/digest.start", laid_chartroom_digest_start), ("chartroom/digest.numbers", laid_chartroom_digest_numbers)] }
def StorePutSpecSaid : Prop := storePutSpecRow.holds Tryz.pinned (OpenSpec.ofChange storePutSpecSpec)

/-- ITS FALSE NEIGHBOUR: 'it returns false'. Refute it at one input. -/
def storePutSpecWrong : ChangeSpec := { name := "storePutSpec", fn := fun _ => fun
  | [d1, d2, d3, d4, d5] => { results := [.lit (.bool false)], args := [d1, d2, d3, d4, d5] }
  | _ => none }
def StorePutSpecWrongFalsely : Prop := storePutSpecRow.holds Tryz.pinned (OpenSpec.ofChange storePutSpecWrong)

/-- 'chartroomlaw30.StoreSignSpec': WHATEVER THE INPUT: true; the input reads as it did. -/
def storeSignSpecSpec : ChangeSpec := { name := "storeSignSpec", fn := fun _ => fun
  | [d1, d2, d3, d4, d5, d6, d7] => { results := [.lit (.bool true)], args := [d1, d2, d3, d4, d5, d6, d7] }
  | _ => none }
def storeSignSpecRow : OpenClaim := { program := "ytlpgjdlkjahdgaagreatdoor", sum := "2e37b0d3741e1ae1dbddef1b90ee8431b971dbd080e8bfa9d2476a611d5118ee", func := "chartroom/chartroomlaw30.StoreSignSpec", spec := "storeSignSpec", inPlace := ["slices.overlaps[chartroom/api.Log]"], unfollowed := true, recurses := true, named := ["math/bits.divideError", "math/bits.overflowError", "chartroom/digest.start", "chartroom/digest.numbers"], plainKeys := false, apart := false, laid := [("chartroom/digest.start", laid_chartroom_digest_start), ("chartroom/digest.numbers", laid_chartroom_digest_numbers)] }
def StoreSignSpecSaid : Prop := storeSignSpecRow.holds Tryz.pinned (OpenSpec.ofChange storeSignSpecSpec)

/-- ITS FALSE NEIGHBOUR: 'it returns false'. Refute it at one input. -/
def storeSignSpecWrong : ChangeSpec := { name := "storeSignSpec", fn := fun _ => fun
  | [d1, d2, d3, d4, d5, d6, d7] => { results := [.lit (.bool false)], args := [d1, d2, d3, d4, d5, d6, d7] }
  | _ => none }
def StoreSignSpecWrongFalsely : Prop := storeSignSpecRow.holds Tryz.pinned (OpenSpec.ofChange storeSignSpecWrong)

/-- 'chartroomlaw36.GossipProveSpec': WHATEVER THE INPUT: true; the input reads as it did. -/
def gossipProveSpecSpec : ChangeSpec := { name := "gossipProveSpec", fn := fun _ => fun
  | [d1, d2] => { results := [.lit (.bool true)], args := [d1, d2] }
  | _ => none }
def gossipProveSpecRow : OpenClaim := { program := "ytlpgjdlkjahdgaagreatdoor", sum := "2e37b0d3741e1ae1dbddef1b90ee8431b971dbd080e8bfa9d2476a611d5118ee", func := "chartroom/chartroomlaw36.GossipProveSpec", spec := "gossipProveSpec", inPlace := ["slices.overlaps[chartroom/api.Listing]", "slices.overlaps[chartroom/api.Root]"], unfollowed := true, recurses := true, named := ["math/bits.divideError", "math/bits.overflowError", "bytes.ErrTooLarge", "chartroom/digest.start", "chartroom/digest.numbers"], plainKeys := false, apart := false, laid := [("chartroom/digest.start", laid_chartroom_digest_start), ("chartroom/digest.numbers", laid_chartroom_digest_numbers), ("bytes.ErrTooLarge", laid_bytes_ErrTooLarge)] }
def GossipProveSpecSaid : Prop := gossipProveSpecRow.holds Tryz.pinned (OpenSpec.ofChange gossipProveSpecSpec)

/-- ITS FALSE NEIGHBOUR: 'it returns false'. Refute it at one input. -/
def gossipProveSpecWrong : ChangeSpec := { name := "gossipProveSpec", fn := fun _ => fun
  | [d1, d2] => { results := [.lit (.bool false)], args := [d1, d2] }
  | _ => none }
def GossipProveSpecWrongFalsely : Prop := gossipProveSpecRow.holds Tryz.pinned (OpenSpec.ofChange gossipProveSpecWrong)

/-- 'chartroomlaw36.GossipSpec': WHATEVER THE INPUT: true; the input reads as it did. -/
def gossipSpecSpec : ChangeSpec := { name := "gossipSpec", fn := fun _ => fun
  | [d1, d2, d3] => { results := [.lit (.bool true)], args := [d1, d2, d3] }
  | _ => none }
def gossipSpecRow : OpenClaim := { program := "ytlpgjdlkjahdgaagreatdoor", sum := "2e37b0d3741e1ae1dbddef1b90ee8431b971dbd080e8bfa9d2476a611d5118ee", func := "chartroom/chartroomlaw36.GossipSpec", spec := "gossipSpec", inPlace := ["slices.overlaps[chartroom/api.Listing]", "slices.overlaps[chartroom/api.Root]"], unfollowed := true, recurses := true, named := ["math/bits.divideError", "math/bits.overflowError", "bytes.ErrTooLarge", "chartroom/digest.start", "chartroom/digest.numbers"], plainKeys := false, apart := false, laid := [("chartroom/digest.start", laid_chartroom_digest_start), ("chartroom/digest.numbers", laid_chartroom_digest_numbers), ("bytes.ErrTooLarge", laid_bytes_ErrTooLarge)] }
def GossipSpecSaid : Prop := gossipSpecRow.holds Tryz.pinned (OpenSpec.ofChange gossipSpecSpec)

/-- ITS FALSE NEIGHBOUR: 'it returns false'. Refute it at one input. -/
def gossipSpecWrong : ChangeSpec := { name := "gossipSpec", fn := fun _ => fun
  | [d1, d2, d3] => { results := [.lit (.bool false)], args := [d1, d2, d3] }
  | _ => none }
def GossipSpecWrongFalsely : Prop := gossipSpecRow.holds Tryz.pinned (OpenSpec.ofChange gossipSpecWrong)

/-- 'chartroomlaw36.GossipAcceptSpec': WHATEVER THE INPUT: true; the input reads as it did. -/
def gossipAcceptSpecSpec : ChangeSpec := { name := "gossipAcceptSpec", fn := fun _ => fun
  | [d1, d2] => { results := [.lit (.bool true)], args := [d1, d2] }
  | _ => none }
def gossipAcceptSpecRow : OpenClaim := { program := "ytlpgjdlkjahdgaagreatdoor", sum := "2e37b0d3741e1ae1dbddef1b90ee8431b971dbd080e8bfa9d2476a611d5118ee", func := "chartroom/chartroomlaw36.GossipAcceptSpec", spec := "gossipAcceptSpec", inPlace := ["slices.overlaps[chartroom/api.Listing]", "slices.overlaps[chartroom/api.Root]"], unfollowed := true, recurses := true, named := ["math/bits.divideError", "math/bits.overflowError", "bytes.ErrTooLarge", "chartroom/digest.start", "chartroom/digest.numbers"], plainKeys := false, apart := false, laid := [("chartroom/digest.start", laid_chartroom_digest_start), ("chartroom/digest.numbers", laid_chartroom_digest_numbers), ("bytes.ErrTooLarge", laid_bytes_ErrTooLarge)] }
def GossipAcceptSpecSaid : Prop := gossipAcceptSpecRow.holds Tryz.pinned (OpenSpec.ofChange gossipAcceptSpecSpec)

/-- ITS FALSE NEIGHBOUR: 'it returns false'. Refute it at one input. -/
def gossipAcceptSpecWrong : ChangeSpec := { name := "gossipAcceptSpec", fn := fun _ => fun
  | [d1, d2] => { results := [.lit (.bool false)], args := [d1, d2] }
  | _ => none }
def GossipAcceptSpecWrongFalsely : Prop := gossipAcceptSpecRow.holds Tryz.pinned (OpenSpec.ofChange gossipAcceptSpecWrong)

/- THE SECOND FORM. 'bulk': how many values and letters a reading holds, each counted each time it is reached (what is shared counts as often as it is met; a slice's spare places count too). A statement '..UptoSaid' is the law's where the arguments, and the package variables that the reading takes, are together of bulk at most 1048576: NARROWER than '..Said'. Prove '..Said' where nothing that the law and all that it calls make is longer than what came in: it says more and counts as full. Else prove '..UptoSaid'. A law counts once. -/
mutual
def uptoBulk {H : Type} : DataW H → Nat
  | .lit (.string bytes) => bytes.length + 1
  | .lit _ => 1
  | .nil => 1
  | .ptr d => uptoBulk d + 1
  | .slice elems spare => uptoBulkAll elems + uptoBulkAll spare + 1
  | .agg parts => uptoBulkAll parts + 1
  | .iface _ d => uptoBulk d + 1
  | .map entries => uptoBulkEntries entries + 1
  | .held _ => 1
def uptoBulkAll {H : Type} : List (DataW H) → Nat
  | [] => 0
  | d :: r => uptoBulk d + uptoBulkAll r
def uptoBulkEntries {H : Type} : List (Lit × DataW H) → Nat
  | [] => 0
  | x :: r => uptoBulkEntry x + uptoBulkEntries r
def uptoBulkEntry {H : Type} : Lit × DataW H → Nat
  | (.string bytes, d) => bytes.length + uptoBulk d + 1
  | (_, d) => uptoBulk d + 1
 end
def uptoSmall : (H : Type) → List (DataW H) → Bool := fun _ ds => decide (uptoBulkAll ds ≤ 1048576)
def OpenSpec.upto (s : _root_.Go.ChangeSpec) : _root_.Go.OpenSpec := { _root_.Go.OpenSpec.ofChange s with cond := some uptoSmall }

/-- 'chartroomlaw30.StoreCheckSpec', WHERE WHAT IT READS IS OF BULK AT MOST 1048576: true; the input reads as it did. -/
def storeCheckSpecUptoRow : OpenClaim := { program := "ytlpgjdlkjahdgaagreatdoor", sum := "2e37b0d3741e1ae1dbddef1b90ee8431b971dbd080e8bfa9d2476a611d5118ee", func := "chartroom/chartroomlaw30.StoreCheckSpec", spec := "storeCheckSpec", inPlace := ["slices.overlaps[chartroom/api.Log]"], unfollowed := true, recurses := true, named := ["math/bits.divideError", "math/bits.overflowError", "chartroom/digest.start", "chartroom/digest.numbers"], plainKeys := false, apart := false, laid := [("chartroom/digest.start", laid_chartroom_digest_start), ("chartroom/digest.numbers", laid_chartroom_digest_numbers)], narrowed := true }
def StoreCheckSpecUptoSaid : Prop := storeCheckSpecUptoRow.holds Tryz.pinned (OpenSpec.upto storeCheckSpecSpec)

/-- 'chartroomlaw30.StorePutSpec', WHERE WHAT IT READS IS OF BULK AT MOST 1048576: true; the input reads as it did. -/
def storePutSpecUptoRow : OpenClaim := { program := "ytlpgjdlkjahdgaagreatdoor", sum := "2e37b0d3741e1ae1dbddef1b90ee8431b971dbd080e8bfa9d2476a611d5118ee", func := "chartroom/chartroomlaw30.StorePutSpec", spec := "storePutSpec", inPlace := ["slices.overlaps[chartroom/api.Log]"], unfollowed := true, recurses := true, named := ["math/bits.divideError", "math/bits.overflowError", "chartroom/digest.start", "chartroom/digest.numbers"], plainKeys := false, apart := false, laid := [("chartroom/digest.start", laid_chartroom_digest_start), ("chartroom/digest.numbers", laid_chartroom_digest_numbers)], narrowed := true }
def StorePutSpecUptoSaid : Prop := storePutSpecUptoRow.holds Tryz.pinned (OpenSpec.upto storePutSpecSpec)

/-- 'chartroomlaw30.StoreSignSpec', WHERE WHAT IT READS IS OF BULK AT MOST 1048576: true; the input reads as it did. -/
def storeSignSpecUptoRow : OpenClaim := { program := "ytlpgjdlkjahdgaagreatdoor", sum := "2e37b0d3741e1ae1dbddef1b90ee8431b971dbd080e8bfa9d2476a611d5118ee", func := "chartroom/chartroomlaw30.StoreSignSpec", spec := "storeSignSpec", inPlace := ["slices.overlaps[chartroom/api.Log]"], unfollowed := true, recurses := true, named := ["math/bits.divideError", "math/bits.overflowError", "chartroom/digest.start", "chartroom/digest.numbers"], plainKeys := false, apart := false, laid := [("chartroom/digest.start", laid_chartroom_digest_start), ("chartroom/digest.numbers", laid_chartroom_digest_numbers)], narrowed := true }
def StoreSignSpecUptoSaid : Prop := storeSignSpecUptoRow.holds Tryz.pinned (OpenSpec.upto storeSignSpecSpec)

/-- 'chartroomlaw36.GossipProveSpec', WHERE WHAT IT READS IS OF BULK AT MOST 1048576: true; the input reads as it did. -/
def gossipProveSpecUptoRow : OpenClaim := { program := "ytlpgjdlkjahdgaagreatdoor", sum := "2e37b0d3741e1ae1dbddef1b90ee8431b971dbd080e8bfa9d2476a611d5118ee", func := "chartroom/chartroomlaw36.GossipProveSpec", spec := "gossipProveSpec", inPlace := ["slices.overlaps[chartroom/api.Listing]", "slices.overlaps[chartroom/api.Root]"], unfollowed := true, recurses := true, named := ["math/bits.divideError", "math/bits.overflowError", "bytes.ErrTooLarge", "chartroom/digest.start", "chartroom/digest.numbers"], plainKeys := false, apart := false, laid := [("chartroom/digest.start", laid_chartroom_digest_start), ("chartroom/digest.numbers", laid_chartroom_digest_numbers), ("bytes.ErrTooLarge", laid_bytes_ErrTooLarge)], narrowed := true }
def GossipProveSpecUptoSaid : Prop := gossipProveSpecUptoRow.holds Tryz.pinned (OpenSpec.upto gossipProveSpecSpec)

/-- 'chartroomlaw36.GossipSpec', WHERE WHAT IT READS IS OF BULK AT MOST 1048576: true; the input reads as it did. -/
def gossipSpecUptoRow : OpenClaim := { program := "ytlpgjdlkjahdgaagreatdoor", sum := "2e37b0d3741e1ae1dbddef1b90ee8431b971dbd080e8bfa9d2476a611d5118ee", func := "chartroom/chartroomlaw36.GossipSpec", spec := "gossipSpec", inPlace := ["slices.overlaps[chartroom/api.Listing]", "slices.overlaps[chartroom/api.Root]"], unfollowed := true, recurses := true, named := ["math/bits.divideError", "math/bits.overflowError", "bytes.ErrTooLarge", "chartroom/digest.start", "chartroom/digest.numbers"], plainKeys := false, apart := false, laid := [("chartroom/digest.start", laid_chartroom_digest_start), ("chartroom/digest.numbers", laid_chartroom_digest_numbers), ("bytes.ErrTooLarge", laid_bytes_ErrTooLarge)], narrowed := true }
def GossipSpecUptoSaid : Prop := gossipSpecUptoRow.holds Tryz.pinned (OpenSpec.upto gossipSpecSpec)

/-- 'chartroomlaw36.GossipAcceptSpec', WHERE WHAT IT READS IS OF BULK AT MOST 1048576: true; the input reads as it did. -/
def gossipAcceptSpecUptoRow : OpenClaim := { program := "ytlpgjdlkjahdgaagreatdoor", sum := "2e37b0d3741e1ae1dbddef1b90ee8431b971dbd080e8bfa9d2476a611d5118ee", func := "chartroom/chartroomlaw36.GossipAcceptSpec", spec := "gossipAcceptSpec", inPlace := ["slices.overlaps[chartroom/api.Listing]", "slices.overlaps[chartroom/api.Root]"], unfollowed := true, recurses := true, named := ["math/bits.divideError", "math/bits.overflowError", "bytes.ErrTooLarge", "chartroom/digest.start", "chartroom/digest.numbers"], plainKeys := false, apart := false, laid := [("chartroom/digest.start", laid_chartroom_digest_start), ("chartroom/digest.numbers", laid_chartroom_digest_numbers), ("bytes.ErrTooLarge", laid_bytes_ErrTooLarge)], narrowed := true }
def GossipAcceptSpecUptoSaid : Prop := gossipAcceptSpecUptoRow.holds Tryz.pinned (OpenSpec.upto gossipAcceptSpecSpec)

end Rows
end Go.Proofs.YtlpgjdlkjahdgaaGreatDoor
