/-
  No cell of these rows narrows 'for every input' (looked for: loops, veiled, ifaces, maps, wideKeys, modest, calm, conditions, laid).
  DERIVED. THE GIVEN ROWS OF THIS SEAT. 19 by the template 'for every input the law returns true; each argument reads behind the call as it read before'; 0 by the template 'total and deterministic' (their statements: YtbpfciidbgkekaaTotals.lean).
  GIVEN WITH THE SEED: the statements are not yours to turn. If you find one false, say at which input.
  Laid BY PROGRAM, IN A SANDBOX (cutbox-rows.mjs): the forced cells as the released guide's own fill.sh prints them over the translation d1f801bc58293a54… (all of the seat's roots in one cut). By AI agents, Wed Nov 11 2026. No macro, syntax, notation, axiom, sorry.
-/
import Derived.Test.YtbpfciidbgkekaaChecked
import GoSem.Claim
import GoSem.ClaimJoined
import GoSem.ClaimMapViews
import Derived.JoinedTies
import Derived.KernelRfl
namespace Go.Proofs.Ytbpfciidbgkekaa
/- THE CELL 'sum', in the pinned program and in every row, IS THE sha256 OF THE DUMP (.gsa) THAT YtbpfciidbgkekaaProg.lean LOADS. Nothing in Lean hashes anything: it is a label: what it is worth is what the hold of that sum in a sandbox is worth. -/
noncomputable def Try.pinned : Pinned := { name := "ytbpfciidbgkekaa", sum := "d1f801bc58293a548530f4b331b8a701174ebeaf715ca4a4010bd3585834e9d4", checked := Try.checked }
namespace Rows
def none {H : Type} : Left H := { results := [], args := [] }

/-- 'laws.FnExactShowRole': WHATEVER THE INPUT: true; the input reads as it did. -/
def fnExactShowRoleSpec : ChangeSpec := { name := "fnExactShowRole", fn := fun _ => fun
  | [d] => { results := [.lit (.bool true)], args := [d] }
  | _ => none }
def fnExactShowRoleRow : OpenClaim := { program := "ytbpfciidbgkekaa", sum := "d1f801bc58293a548530f4b331b8a701174ebeaf715ca4a4010bd3585834e9d4", func := "loop.example/g00474/laws.FnExactShowRole", spec := "fnExactShowRole", apart := false }
def FnExactShowRoleSaid : Prop := fnExactShowRoleRow.holds Try.pinned (OpenSpec.ofChange fnExactShowRoleSpec)

/-- ITS FALSE NEIGHBOUR: 'it returns false'. Refute it at one input. -/
def fnExactShowRoleWrong : ChangeSpec := { name := "fnExactShowRole", fn := fun _ => fun
  | [d] => { results := [.lit (.bool false)], args := [d] }
  | _ => none }
def FnExactShowRoleWrongFalsely : Prop := fnExactShowRoleRow.holds Try.pinned (OpenSpec.ofChange fnExactShowRoleWrong)

/-- 'laws.FnExactShowCred': WHATEVER THE INPUT: true; the input reads as it did. -/
def fnExactShowCredSpec : ChangeSpec := { name := "fnExactShowCred", fn := fun _ => fun
  | [d] => { results := [.lit (.bool true)], args := [d] }
  | _ => none }
def fnExactShowCredRow : OpenClaim := { program := "ytbpfciidbgkekaa", sum := "d1f801bc58293a548530f4b331b8a701174ebeaf715ca4a4010bd3585834e9d4", func := "loop.example/g00474/laws.FnExactShowCred", spec := "fnExactShowCred", apart := false }
def FnExactShowCredSaid : Prop := fnExactShowCredRow.holds Try.pinned (OpenSpec.ofChange fnExactShowCredSpec)

/-- ITS FALSE NEIGHBOUR: 'it returns false'. Refute it at one input. -/
def fnExactShowCredWrong : ChangeSpec := { name := "fnExactShowCred", fn := fun _ => fun
  | [d] => { results := [.lit (.bool false)], args := [d] }
  | _ => none }
def FnExactShowCredWrongFalsely : Prop := fnExactShowCredRow.holds Try.pinned (OpenSpec.ofChange fnExactShowCredWrong)

/-- 'laws.FnExactFirstApart': WHATEVER THE INPUT: true; the input reads as it did. -/
def fnExactFirstApartSpec : ChangeSpec := { name := "fnExactFirstApart", fn := fun _ => fun
  | [d1, d2] => { results := [.lit (.bool true)], args := [d1, d2] }
  | _ => none }
def fnExactFirstApartRow : OpenClaim := { program := "ytbpfciidbgkekaa", sum := "d1f801bc58293a548530f4b331b8a701174ebeaf715ca4a4010bd3585834e9d4", func := "loop.example/g00474/laws.FnExactFirstApart", spec := "fnExactFirstApart", apart := false }
def FnExactFirstApartSaid : Prop := fnExactFirstApartRow.holds Try.pinned (OpenSpec.ofChange fnExactFirstApartSpec)

/-- ITS FALSE NEIGHBOUR: 'it returns false'. Refute it at one input. -/
def fnExactFirstApartWrong : ChangeSpec := { name := "fnExactFirstApart", fn := fun _ => fun
  | [d1, d2] => { results := [.lit (.bool false)], args := [d1, d2] }
  | _ => none }
def FnExactFirstApartWrongFalsely : Prop := fnExactFirstApartRow.holds Try.pinned (OpenSpec.ofChange fnExactFirstApartWrong)

/-- 'laws.FnExactEventText': WHATEVER THE INPUT: true; the input reads as it did. -/
def fnExactEventTextSpec : ChangeSpec := { name := "fnExactEventText", fn := fun _ => fun
  | [d] => { results := [.lit (.bool true)], args := [d] }
  | _ => none }
def fnExactEventTextRow : OpenClaim := { program := "ytbpfciidbgkekaa", sum := "d1f801bc58293a548530f4b331b8a701174ebeaf715ca4a4010bd3585834e9d4", func := "loop.example/g00474/laws.FnExactEventText", spec := "fnExactEventText", apart := false }
def FnExactEventTextSaid : Prop := fnExactEventTextRow.holds Try.pinned (OpenSpec.ofChange fnExactEventTextSpec)

/-- ITS FALSE NEIGHBOUR: 'it returns false'. Refute it at one input. -/
def fnExactEventTextWrong : ChangeSpec := { name := "fnExactEventText", fn := fun _ => fun
  | [d] => { results := [.lit (.bool false)], args := [d] }
  | _ => none }
def FnExactEventTextWrongFalsely : Prop := fnExactEventTextRow.holds Try.pinned (OpenSpec.ofChange fnExactEventTextWrong)

/-- 'laws.FnExactItemsIn': WHATEVER THE INPUT: true; the input reads as it did. -/
def fnExactItemsInSpec : ChangeSpec := { name := "fnExactItemsIn", fn := fun _ => fun
  | [d] => { results := [.lit (.bool true)], args := [d] }
  | _ => none }
def fnExactItemsInRow : OpenClaim := { program := "ytbpfciidbgkekaa", sum := "d1f801bc58293a548530f4b331b8a701174ebeaf715ca4a4010bd3585834e9d4", func := "loop.example/g00474/laws.FnExactItemsIn", spec := "fnExactItemsIn", apart := false }
def FnExactItemsInSaid : Prop := fnExactItemsInRow.holds Try.pinned (OpenSpec.ofChange fnExactItemsInSpec)

/-- ITS FALSE NEIGHBOUR: 'it returns false'. Refute it at one input. -/
def fnExactItemsInWrong : ChangeSpec := { name := "fnExactItemsIn", fn := fun _ => fun
  | [d] => { results := [.lit (.bool false)], args := [d] }
  | _ => none }
def FnExactItemsInWrongFalsely : Prop := fnExactItemsInRow.holds Try.pinned (OpenSpec.ofChange fnExactItemsInWrong)

/-- 'laws.FnExactLifeText': WHATEVER THE INPUT: true; the input reads as it did. -/
def fnExactLifeTextSpec : ChangeSpec := { name := "fnExactLifeText", fn := fun _ => fun
  | [d] => { results := [.lit (.bool true)], args := [d] }
  | _ => none }
def fnExactLifeTextRow : OpenClaim := { program := "ytbpfciidbgkekaa", sum := "d1f801bc58293a548530f4b331b8a701174ebeaf715ca4a4010bd3585834e9d4", func := "loop.example/g00474/laws.FnExactLifeText", spec := "fnExactLifeText", apart := false }
def FnExactLifeTextSaid : Prop := fnExactLifeTextRow.holds Try.pinned (OpenSpec.ofChange fnExactLifeTextSpec)

/-- ITS FALSE NEIGHBOUR: 'it returns false'. Refute it at one input. -/
def fnExactLifeTextWrong : ChangeSpec := { name := "fnExactLifeText", fn := fun _ => fun
  | [d] => { results := [.lit (.bool false)], args := [d] }
  | _ => none }
def FnExactLifeTextWrongFalsely : Prop := fnExactLifeTextRow.holds Try.pinned (OpenSpec.ofChange fnExactLifeTextWrong)

/-- 'laws.FnExactReadEvent': WHATEVER THE INPUT: true; the input reads as it did. -/
def fnExactReadEventSpec : ChangeSpec := { name := "fnExactReadEvent", fn := fun _ => fun
  | [d1, d2] => { results := [.lit (.bool true)], args := [d1, d2] }
  | _ => none }
def fnExactReadEventRow : OpenClaim := { program := "ytbpfciidbgkekaa", sum := "d1f801bc58293a548530f4b331b8a701174ebeaf715ca4a4010bd3585834e9d4", func := "loop.example/g00474/laws.FnExactReadEvent", spec := "fnExactReadEvent", apart := false }
def FnExactReadEventSaid : Prop := fnExactReadEventRow.holds Try.pinned (OpenSpec.ofChange fnExactReadEventSpec)

/-- ITS FALSE NEIGHBOUR: 'it returns false'. Refute it at one input. -/
def fnExactReadEventWrong : ChangeSpec := { name := "fnExactReadEvent", fn := fun _ => fun
  | [d1, d2] => { results := [.lit (.bool false)], args := [d1, d2] }
  | _ => none }
def FnExactReadEventWrongFalsely : Prop := fnExactReadEventRow.holds Try.pinned (OpenSpec.ofChange fnExactReadEventWrong)

/-- 'laws.FnExactNeverHere': WHATEVER THE INPUT: true; the input reads as it did. -/
def fnExactNeverHereSpec : ChangeSpec := { name := "fnExactNeverHere", fn := fun _ => fun
  | [d] => { results := [.lit (.bool true)], args := [d] }
  | _ => none }
def fnExactNeverHereRow : OpenClaim := { program := "ytbpfciidbgkekaa", sum := "d1f801bc58293a548530f4b331b8a701174ebeaf715ca4a4010bd3585834e9d4", func := "loop.example/g00474/laws.FnExactNeverHere", spec := "fnExactNeverHere", apart := false }
def FnExactNeverHereSaid : Prop := fnExactNeverHereRow.holds Try.pinned (OpenSpec.ofChange fnExactNeverHereSpec)

/-- ITS FALSE NEIGHBOUR: 'it returns false'. Refute it at one input. -/
def fnExactNeverHereWrong : ChangeSpec := { name := "fnExactNeverHere", fn := fun _ => fun
  | [d] => { results := [.lit (.bool false)], args := [d] }
  | _ => none }
def FnExactNeverHereWrongFalsely : Prop := fnExactNeverHereRow.holds Try.pinned (OpenSpec.ofChange fnExactNeverHereWrong)

/-- 'laws.FnExactPeerText': WHATEVER THE INPUT: true; the input reads as it did. -/
def fnExactPeerTextSpec : ChangeSpec := { name := "fnExactPeerText", fn := fun _ => fun
  | [d] => { results := [.lit (.bool true)], args := [d] }
  | _ => none }
def fnExactPeerTextRow : OpenClaim := { program := "ytbpfciidbgkekaa", sum := "d1f801bc58293a548530f4b331b8a701174ebeaf715ca4a4010bd3585834e9d4", func := "loop.example/g00474/laws.FnExactPeerText", spec := "fnExactPeerText", unfollowed := true, recurses := true, apart := false }
def FnExactPeerTextSaid : Prop := fnExactPeerTextRow.holds Try.pinned (OpenSpec.ofChange fnExactPeerTextSpec)

/-- ITS FALSE NEIGHBOUR: 'it returns false'. Refute it at one input. -/
def fnExactPeerTextWrong : ChangeSpec := { name := "fnExactPeerText", fn := fun _ => fun
  | [d] => { results := [.lit (.bool false)], args := [d] }
  | _ => none }
def FnExactPeerTextWrongFalsely : Prop := fnExactPeerTextRow.holds Try.pinned (OpenSpec.ofChange fnExactPeerTextWrong)

/-- 'laws.FnExactReadPeer': WHATEVER THE INPUT: true; the input reads as it did. -/
def fnExactReadPeerSpec : ChangeSpec := { name := "fnExactReadPeer", fn := fun _ => fun
  | [d1, d2] => { results := [.lit (.bool true)], args := [d1, d2] }
  | _ => none }
def fnExactReadPeerRow : OpenClaim := { program := "ytbpfciidbgkekaa", sum := "d1f801bc58293a548530f4b331b8a701174ebeaf715ca4a4010bd3585834e9d4", func := "loop.example/g00474/laws.FnExactReadPeer", spec := "fnExactReadPeer", unfollowed := true, recurses := true, apart := false }
def FnExactReadPeerSaid : Prop := fnExactReadPeerRow.holds Try.pinned (OpenSpec.ofChange fnExactReadPeerSpec)

/-- ITS FALSE NEIGHBOUR: 'it returns false'. Refute it at one input. -/
def fnExactReadPeerWrong : ChangeSpec := { name := "fnExactReadPeer", fn := fun _ => fun
  | [d1, d2] => { results := [.lit (.bool false)], args := [d1, d2] }
  | _ => none }
def FnExactReadPeerWrongFalsely : Prop := fnExactReadPeerRow.holds Try.pinned (OpenSpec.ofChange fnExactReadPeerWrong)

/-- 'laws.FnExactReadLife': WHATEVER THE INPUT: true; the input reads as it did. -/
def fnExactReadLifeSpec : ChangeSpec := { name := "fnExactReadLife", fn := fun _ => fun
  | [d] => { results := [.lit (.bool true)], args := [d] }
  | _ => none }
def fnExactReadLifeRow : OpenClaim := { program := "ytbpfciidbgkekaa", sum := "d1f801bc58293a548530f4b331b8a701174ebeaf715ca4a4010bd3585834e9d4", func := "loop.example/g00474/laws.FnExactReadLife", spec := "fnExactReadLife", apart := false }
def FnExactReadLifeSaid : Prop := fnExactReadLifeRow.holds Try.pinned (OpenSpec.ofChange fnExactReadLifeSpec)

/-- ITS FALSE NEIGHBOUR: 'it returns false'. Refute it at one input. -/
def fnExactReadLifeWrong : ChangeSpec := { name := "fnExactReadLife", fn := fun _ => fun
  | [d] => { results := [.lit (.bool false)], args := [d] }
  | _ => none }
def FnExactReadLifeWrongFalsely : Prop := fnExactReadLifeRow.holds Try.pinned (OpenSpec.ofChange fnExactReadLifeWrong)

/-- 'laws.FnExactRingText': WHATEVER THE INPUT: true; the input reads as it did. -/
def fnExactRingTextSpec : ChangeSpec := { name := "fnExactRingText", fn := fun _ => fun
  | [d] => { results := [.lit (.bool true)], args := [d] }
  | _ => none }
def fnExactRingTextRow : OpenClaim := { program := "ytbpfciidbgkekaa", sum := "d1f801bc58293a548530f4b331b8a701174ebeaf715ca4a4010bd3585834e9d4", func := "loop.example/g00474/laws.FnExactRingText", spec := "fnExactRingText", unfollowed := true, recurses := true, apart := false }
def FnExactRingTextSaid : Prop := fnExactRingTextRow.holds Try.pinned (OpenSpec.ofChange fnExactRingTextSpec)

/-- ITS FALSE NEIGHBOUR: 'it returns false'. Refute it at one input. -/
def fnExactRingTextWrong : ChangeSpec := { name := "fnExactRingText", fn := fun _ => fun
  | [d] => { results := [.lit (.bool false)], args := [d] }
  | _ => none }
def FnExactRingTextWrongFalsely : Prop := fnExactRingTextRow.holds Try.pinned (OpenSpec.ofChange fnExactRingTextWrong)

/-- 'laws.FnExactLifeHead': WHATEVER THE INPUT: true; the input reads as it did. -/
def fnExactLifeHeadSpec : ChangeSpec := { name := "fnExactLifeHead", fn := fun _ => fun
  | [d] => { results := [.lit (.bool true)], args := [d] }
  | _ => none }
def fnExactLifeHeadRow : OpenClaim := { program := "ytbpfciidbgkekaa", sum := "d1f801bc58293a548530f4b331b8a701174ebeaf715ca4a4010bd3585834e9d4", func := "loop.example/g00474/laws.FnExactLifeHead", spec := "fnExactLifeHead", inPlace := ["internal/abi.NoEscape", "internal/bytealg.MakeNoZero"], apart := false }
def FnExactLifeHeadSaid : Prop := fnExactLifeHeadRow.holds Try.pinned (OpenSpec.ofChange fnExactLifeHeadSpec)

/-- ITS FALSE NEIGHBOUR: 'it returns false'. Refute it at one input. -/
def fnExactLifeHeadWrong : ChangeSpec := { name := "fnExactLifeHead", fn := fun _ => fun
  | [d] => { results := [.lit (.bool false)], args := [d] }
  | _ => none }
def FnExactLifeHeadWrongFalsely : Prop := fnExactLifeHeadRow.holds Try.pinned (OpenSpec.ofChange fnExactLifeHeadWrong)

/-- 'laws.FnExactReadRing': WHATEVER THE INPUT: true; the input reads as it did. -/
def fnExactReadRingSpec : ChangeSpec := { name := "fnExactReadRing", fn := fun _ => fun
  | [d] => { results := [.lit (.bool true)], args := [d] }
  | _ => none }
def fnExactReadRingRow : OpenClaim := { program := "ytbpfciidbgkekaa", sum := "d1f801bc58293a548530f4b331b8a701174ebeaf715ca4a4010bd3585834e9d4", func := "loop.example/g00474/laws.FnExactReadRing", spec := "fnExactReadRing", unfollowed := true, recurses := true, apart := false }
def FnExactReadRingSaid : Prop := fnExactReadRingRow.holds Try.pinned (OpenSpec.ofChange fnExactReadRingSpec)

/-- ITS FALSE NEIGHBOUR: 'it returns false'. Refute it at one input. -/
def fnExactReadRingWrong : ChangeSpec := { name := "fnExactReadRing", fn := fun _ => fun
  | [d] => { results := [.lit (.bool false)], args := [d] }
  | _ => none }
def FnExactReadRingWrongFalsely : Prop := fnExactReadRingRow.holds Try.pinned (OpenSpec.ofChange fnExactReadRingWrong)

/-- 'laws.FnExactMostLoad': WHATEVER THE INPUT: true; the input reads as it did. -/
def fnExactMostLoadSpec : ChangeSpec := { name := "fnExactMostLoad", fn := fun _ => fun
  | [d] => { results := [.lit (.bool true)], args := [d] }
  | _ => none }
def fnExactMostLoadRow : OpenClaim := { program := "ytbpfciidbgkekaa", sum := "d1f801bc58293a548530f4b331b8a701174ebeaf715ca4a4010bd3585834e9d4", func := "loop.example/g00474/laws.FnExactMostLoad", spec := "fnExactMostLoad", unfollowed := true, recurses := true, apart := false }
def FnExactMostLoadSaid : Prop := fnExactMostLoadRow.holds Try.pinned (OpenSpec.ofChange fnExactMostLoadSpec)

/-- ITS FALSE NEIGHBOUR: 'it returns false'. Refute it at one input. -/
def fnExactMostLoadWrong : ChangeSpec := { name := "fnExactMostLoad", fn := fun _ => fun
  | [d] => { results := [.lit (.bool false)], args := [d] }
  | _ => none }
def FnExactMostLoadWrongFalsely : Prop := fnExactMostLoadRow.holds Try.pinned (OpenSpec.ofChange fnExactMostLoadWrong)

/-- 'laws.FnExactKeysIn': WHATEVER THE INPUT: true; the input reads as it did. -/
def fnExactKeysInSpec : ChangeSpec := { name := "fnExactKeysIn", fn := fun _ => fun
  | [d] => { results := [.lit (.bool true)], args := [d] }
  | _ => none }
def fnExactKeysInRow : OpenClaim := { program := "ytbpfciidbgkekaa", sum := "d1f801bc58293a548530f4b331b8a701174ebeaf715ca4a4010bd3585834e9d4", func := "loop.example/g00474/laws.FnExactKeysIn", spec := "fnExactKeysIn", recurses := true, apart := false }
def FnExactKeysInSaid : Prop := fnExactKeysInRow.holds Try.pinned (OpenSpec.ofChange fnExactKeysInSpec)

/-- ITS FALSE NEIGHBOUR: 'it returns false'. Refute it at one input. -/
def fnExactKeysInWrong : ChangeSpec := { name := "fnExactKeysIn", fn := fun _ => fun
  | [d] => { results := [.lit (.bool false)], args := [d] }
  | _ => none }
def FnExactKeysInWrongFalsely : Prop := fnExactKeysInRow.holds Try.pinned (OpenSpec.ofChange fnExactKeysInWrong)

/-- 'laws.FnExactLoadOf': WHATEVER THE INPUT: true; the input reads as it did. -/
def fnExactLoadOfSpec : ChangeSpec := { name := "fnExactLoadOf", fn := fun _ => fun
  | [d] => { results := [.lit (.bool true)], args := [d] }
  | _ => none }
def fnExactLoadOfRow : OpenClaim := { program := "ytbpfciidbgkekaa", sum := "d1f801bc58293a548530f4b331b8a701174ebeaf715ca4a4010bd3585834e9d4", func := "loop.example/g00474/laws.FnExactLoadOf", spec := "fnExactLoadOf", unfollowed := true, recurses := true, apart := false }
def FnExactLoadOfSaid : Prop := fnExactLoadOfRow.holds Try.pinned (OpenSpec.ofChange fnExactLoadOfSpec)

/-- ITS FALSE NEIGHBOUR: 'it returns false'. Refute it at one input. -/
def fnExactLoadOfWrong : ChangeSpec := { name := "fnExactLoadOf", fn := fun _ => fun
  | [d] => { results := [.lit (.bool false)], args := [d] }
  | _ => none }
def FnExactLoadOfWrongFalsely : Prop := fnExactLoadOfRow.holds Try.pinned (OpenSpec.ofChange fnExactLoadOfWrong)

/-- 'laws.FnExactWrongIn': WHATEVER THE INPUT: true; the input reads as it did. -/
def fnExactWrongInSpec : ChangeSpec := { name := "fnExactWrongIn", fn := fun _ => fun
  | [d] => { results := [.lit (.bool true)], args := [d] }
  | _ => none }
def fnExactWrongInRow : OpenClaim := { program := "ytbpfciidbgkekaa", sum := "d1f801bc58293a548530f4b331b8a701174ebeaf715ca4a4010bd3585834e9d4", func := "loop.example/g00474/laws.FnExactWrongIn", spec := "fnExactWrongIn", unfollowed := true, recurses := true, apart := false }
def FnExactWrongInSaid : Prop := fnExactWrongInRow.holds Try.pinned (OpenSpec.ofChange fnExactWrongInSpec)

/-- ITS FALSE NEIGHBOUR: 'it returns false'. Refute it at one input. -/
def fnExactWrongInWrong : ChangeSpec := { name := "fnExactWrongIn", fn := fun _ => fun
  | [d] => { results := [.lit (.bool false)], args := [d] }
  | _ => none }
def FnExactWrongInWrongFalsely : Prop := fnExactWrongInRow.holds Try.pinned (OpenSpec.ofChange fnExactWrongInWrong)

/-- 'laws.FnExactSettleAll': WHATEVER THE INPUT: true; the input reads as it did. -/
def fnExactSettleAllSpec : ChangeSpec := { name := "fnExactSettleAll", fn := fun _ => fun
  | [d] => { results := [.lit (.bool true)], args := [d] }
  | _ => none }
def fnExactSettleAllRow : OpenClaim := { program := "ytbpfciidbgkekaa", sum := "d1f801bc58293a548530f4b331b8a701174ebeaf715ca4a4010bd3585834e9d4", func := "loop.example/g00474/laws.FnExactSettleAll", spec := "fnExactSettleAll", unfollowed := true, recurses := true, apart := false }
def FnExactSettleAllSaid : Prop := fnExactSettleAllRow.holds Try.pinned (OpenSpec.ofChange fnExactSettleAllSpec)

/-- ITS FALSE NEIGHBOUR: 'it returns false'. Refute it at one input. -/
def fnExactSettleAllWrong : ChangeSpec := { name := "fnExactSettleAll", fn := fun _ => fun
  | [d] => { results := [.lit (.bool false)], args := [d] }
  | _ => none }
def FnExactSettleAllWrongFalsely : Prop := fnExactSettleAllRow.holds Try.pinned (OpenSpec.ofChange fnExactSettleAllWrong)

/- THE SECOND FORM. 'bulk': how many values and letters a reading holds, each counted each time it is reached (what is shared counts as often as it is met; a slice's spare places count too). A statement '..UptoSaid' is the law's where the arguments, and the package variables that the reading takes, are together of bulk at most 1048576: NARROWER than '..Said'. Prove '..Said' where nothing that the law and all that it calls make is longer than what came in: it says more and counts as full. Else prove '..UptoSaid'. A law counts once. -/
mutual
def uptoBulk {H : Type} : DataW H → Nat
  | .lit (.string bytes) => bytes.length + 1
  | .lit _ => 1
  | .nil => 1
  | .ptr d => uptoBulk d + 1
  | .slice elems spare => uptoBulkAll elems + uptoBulkAll spare + 1
  | .agg parts => uptoBulkAll parts + 1
  | .iface _ d => uptoBulk d + 1
  | .map entries => uptoBulkEntries entries + 1
  | .held _ => 1
def uptoBulkAll {H : Type} : List (DataW H) → Nat
  | [] => 0
  | d :: r => uptoBulk d + uptoBulkAll r
def uptoBulkEntries {H : Type} : List (Lit × DataW H) → Nat
  | [] => 0
  | x :: r => uptoBulkEntry x + uptoBulkEntries r
def uptoBulkEntry {H : Type} : Lit × DataW H → Nat
  | (.string bytes, d) => bytes.length + uptoBulk d + 1
  | (_, d) => uptoBulk d + 1
 end
def uptoSmall : (H : Type) → List (DataW H) → Bool := fun _ ds => decide (uptoBulkAll ds ≤ 1048576)
def OpenSpec.upto (s : _root_.Go.ChangeSpec) : _root_.Go.OpenSpec := { _root_.Go.OpenSpec.ofChange s with cond := some uptoSmall }

/-- 'laws.FnExactShowRole', WHERE WHAT IT READS IS OF BULK AT MOST 1048576: true; the input reads as it did. -/
def fnExactShowRoleUptoRow : OpenClaim := { program := "ytbpfciidbgkekaa", sum := "d1f801bc58293a548530f4b331b8a701174ebeaf715ca4a4010bd3585834e9d4", func := "loop.example/g00474/laws.FnExactShowRole", spec := "fnExactShowRole", apart := false, narrowed := true }
def FnExactShowRoleUptoSaid : Prop := fnExactShowRoleUptoRow.holds Try.pinned (OpenSpec.upto fnExactShowRoleSpec)

/-- 'laws.FnExactShowCred', WHERE WHAT IT READS IS OF BULK AT MOST 1048576: true; the input reads as it did. -/
def fnExactShowCredUptoRow : OpenClaim := { program := "ytbpfciidbgkekaa", sum := "d1f801bc58293a548530f4b331b8a701174ebeaf715ca4a4010bd3585834e9d4", func := "loop.example/g00474/laws.FnExactShowCred", spec := "fnExactShowCred", apart := false, narrowed := true }
def FnExactShowCredUptoSaid : Prop := fnExactShowCredUptoRow.holds Try.pinned (OpenSpec.upto fnExactShowCredSpec)

/-- 'laws.FnExactFirstApart', WHERE WHAT IT READS IS OF BULK AT MOST 1048576: true; the input reads as it did. -/
def fnExactFirstApartUptoRow : OpenClaim := { program := "ytbpfciidbgkekaa", sum := "d1f801bc58293a548530f4b331b8a701174ebeaf715ca4a4010bd3585834e9d4", func := "loop.example/g00474/laws.FnExactFirstApart", spec := "fnExactFirstApart", apart := false, narrowed := true }
def FnExactFirstApartUptoSaid : Prop := fnExactFirstApartUptoRow.holds Try.pinned (OpenSpec.upto fnExactFirstApartSpec)

/-- 'laws.FnExactEventText', WHERE WHAT IT READS IS OF BULK AT MOST 1048576: true; the input reads as it did. -/
def fnExactEventTextUptoRow : OpenClaim := { program := "ytbpfciidbgkekaa", sum := "d1f801bc58293a548530f4b331b8a701174ebeaf715ca4a4010bd3585834e9d4", func := "loop.example/g00474/laws.FnExactEventText", spec := "fnExactEventText", apart := false, narrowed := true }
def FnExactEventTextUptoSaid : Prop := fnExactEventTextUptoRow.holds Try.pinned (OpenSpec.upto fnExactEventTextSpec)

/-- 'laws.FnExactItemsIn', WHERE WHAT IT READS IS OF BULK AT MOST 1048576: true; the input reads as it did. -/
def fnExactItemsInUptoRow : OpenClaim := { program := "ytbpfciidbgkekaa", sum := "d1f801bc58293a548530f4b331b8a701174ebeaf715ca4a4010bd3585834e9d4", func := "loop.example/g00474/laws.FnExactItemsIn", spec := "fnExactItemsIn", apart := false, narrowed := true }
def FnExactItemsInUptoSaid : Prop := fnExactItemsInUptoRow.holds Try.pinned (OpenSpec.upto fnExactItemsInSpec)

/-- 'laws.FnExactLifeText', WHERE WHAT IT READS IS OF BULK AT MOST 1048576: true; the input reads as it did. -/
def fnExactLifeTextUptoRow : OpenClaim := { program := "ytbpfciidbgkekaa", sum := "d1f801bc58293a548530f4b331b8a701174ebeaf715ca4a4010bd3585834e9d4", func := "loop.example/g00474/laws.FnExactLifeText", spec := "fnExactLifeText", apart := false, narrowed := true }
def FnExactLifeTextUptoSaid : Prop := fnExactLifeTextUptoRow.holds Try.pinned (OpenSpec.upto fnExactLifeTextSpec)

/-- 'laws.FnExactReadEvent', WHERE WHAT IT READS IS OF BULK AT MOST 1048576: true; the input reads as it did. -/
def fnExactReadEventUptoRow : OpenClaim := { program := "ytbpfciidbgkekaa", sum := "d1f801bc58293a548530f4b331b8a701174ebeaf715ca4a4010bd3585834e9d4", func := "loop.example/g00474/laws.FnExactReadEvent", spec := "fnExactReadEvent", apart := false, narrowed := true }
def FnExactReadEventUptoSaid : Prop := fnExactReadEventUptoRow.holds Try.pinned (OpenSpec.upto fnExactReadEventSpec)

/-- 'laws.FnExactNeverHere', WHERE WHAT IT READS IS OF BULK AT MOST 1048576: true; the input reads as it did. -/
def fnExactNeverHereUptoRow : OpenClaim := { program := "ytbpfciidbgkekaa", sum := "d1f801bc58293a548530f4b331b8a701174ebeaf715ca4a4010bd3585834e9d4", func := "loop.example/g00474/laws.FnExactNeverHere", spec := "fnExactNeverHere", apart := false, narrowed := true }
def FnExactNeverHereUptoSaid : Prop := fnExactNeverHereUptoRow.holds Try.pinned (OpenSpec.upto fnExactNeverHereSpec)

/-- 'laws.FnExactPeerText', WHERE WHAT IT READS IS OF BULK AT MOST 1048576: true; the input reads as it did. -/
def fnExactPeerTextUptoRow : OpenClaim := { program := "ytbpfciidbgkekaa", sum := "d1f801bc58293a548530f4b331b8a701174ebeaf715ca4a4010bd3585834e9d4", func := "loop.example/g00474/laws.FnExactPeerText", spec := "fnExactPeerText", unfollowed := true, recurses := true, apart := false, narrowed := true }
def FnExactPeerTextUptoSaid : Prop := fnExactPeerTextUptoRow.holds Try.pinned (OpenSpec.upto fnExactPeerTextSpec)

/-- 'laws.FnExactReadPeer', WHERE WHAT IT READS IS OF BULK AT MOST 1048576: true; the input reads as it did. -/
def fnExactReadPeerUptoRow : OpenClaim := { program := "ytbpfciidbgkekaa", sum := "d1f801bc58293a548530f4b331b8a701174ebeaf715ca4a4010bd3585834e9d4", func := "loop.example/g00474/laws.FnExactReadPeer", spec := "fnExactReadPeer", unfollowed := true, recurses := true, apart := false, narrowed := true }
def FnExactReadPeerUptoSaid : Prop := fnExactReadPeerUptoRow.holds Try.pinned (OpenSpec.upto fnExactReadPeerSpec)

/-- 'laws.FnExactReadLife', WHERE WHAT IT READS IS OF BULK AT MOST 1048576: true; the input reads as it did. -/
def fnExactReadLifeUptoRow : OpenClaim := { program := "ytbpfciidbgkekaa", sum := "d1f801bc58293a548530f4b331b8a701174ebeaf715ca4a4010bd3585834e9d4", func := "loop.example/g00474/laws.FnExactReadLife", spec := "fnExactReadLife", apart := false, narrowed := true }
def FnExactReadLifeUptoSaid : Prop := fnExactReadLifeUptoRow.holds Try.pinned (OpenSpec.upto fnExactReadLifeSpec)

/-- 'laws.FnExactRingText', WHERE WHAT IT READS IS OF BULK AT MOST 1048576: true; the input reads as it did. -/
def fnExactRingTextUptoRow : OpenClaim := { program := "ytbpfciidbgkekaa", sum := "d1f801bc58293a548530f4b331b8a701174ebeaf715ca4a4010bd3585834e9d4", func := "loop.example/g00474/laws.FnExactRingText", spec := "fnExactRingText", unfollowed := true, recurses := true, apart := false, narrowed := true }
def FnExactRingTextUptoSaid : Prop := fnExactRingTextUptoRow.holds Try.pinned (OpenSpec.upto fnExactRingTextSpec)

/-- 'laws.FnExactLifeHead', WHERE WHAT IT READS IS OF BULK AT MOST 1048576: true; the input reads as it did. -/
def fnExactLifeHeadUptoRow : OpenClaim := { program := "ytbpfciidbgkekaa", sum := "d1f801bc58293a548530f4b331b8a701174ebeaf715ca4a4010bd3585834e9d4", func := "loop.example/g00474/laws.FnExactLifeHead", spec := "fnExactLifeHead", inPlace := ["internal/abi.NoEscape", "internal/bytealg.MakeNoZero"], apart := false, narrowed := true }
def FnExactLifeHeadUptoSaid : Prop := fnExactLifeHeadUptoRow.holds Try.pinned (OpenSpec.upto fnExactLifeHeadSpec)

/-- 'laws.FnExactReadRing', WHERE WHAT IT READS IS OF BULK AT MOST 1048576: true; the input reads as it did. -/
def fnExactReadRingUptoRow : OpenClaim := { program := "ytbpfciidbgkekaa", sum := "d1f801bc58293a548530f4b331b8a701174ebeaf715ca4a4010bd3585834e9d4", func := "loop.example/g00474/laws.FnExactReadRing", spec := "fnExactReadRing", unfollowed := true, recurses := true, apart := false, narrowed := true }
def FnExactReadRingUptoSaid : Prop := fnExactReadRingUptoRow.holds Try.pinned (OpenSpec.upto fnExactReadRingSpec)

/-- 'laws.FnExactMostLoad', WHERE WHAT IT READS IS OF BULK AT MOST 1048576: true; the input reads as it did. -/
def fnExactMostLoadUptoRow : OpenClaim := { program := "ytbpfciidbgkekaa", sum := "d1f801bc58293a548530f4b331b8a701174ebeaf715ca4a4010bd3585834e9d4", func := "loop.example/g00474/laws.FnExactMostLoad", spec := "fnExactMostLoad", unfollowed := true, recurses := true, apart := false, narrowed := true }
def FnExactMostLoadUptoSaid : Prop := fnExactMostLoadUptoRow.holds Try.pinned (OpenSpec.upto fnExactMostLoadSpec)

/-- 'laws.FnExactKeysIn', WHERE WHAT IT READS IS OF BULK AT MOST 1048576: true; the input reads as it did. -/
def fnExactKeysInUptoRow : OpenClaim := { program := "ytbpfciidbgkekaa", sum := "d1f801bc58293a548530f4b331b8a701174ebeaf715ca4a4010bd3585834e9d4", func := "loop.example/g00474/laws.FnExactKeysIn", spec := "fnExactKeysIn", recurses := true, apart := false, narrowed := true }
def FnExactKeysInUptoSaid : Prop := fnExactKeysInUptoRow.holds Try.pinned (OpenSpec.upto fnExactKeysInSpec)

/-- 'laws.FnExactLoadOf', WHERE WHAT IT READS IS OF BULK AT MOST 1048576: true; the input reads as it did. -/
def fnExactLoadOfUptoRow : OpenClaim := { program := "ytbpfciidbgkekaa", sum := "d1f801bc58293a548530f4b331b8a701174ebeaf715ca4a4010bd3585834e9d4", func := "loop.example/g00474/laws.FnExactLoadOf", spec := "fnExactLoadOf", unfollowed := true, recurses := true, apart := false, narrowed := true }
def FnExactLoadOfUptoSaid : Prop := fnExactLoadOfUptoRow.holds Try.pinned (OpenSpec.upto fnExactLoadOfSpec)

/-- 'laws.FnExactWrongIn', WHERE WHAT IT READS IS OF BULK AT MOST 1048576: true; the input reads as it did. -/
def fnExactWrongInUptoRow : OpenClaim := { program := "ytbpfciidbgkekaa", sum := "d1f801bc58293a548530f4b331b8a701174ebeaf715ca4a4010bd3585834e9d4", func := "loop.example/g00474/laws.FnExactWrongIn", spec := "fnExactWrongIn", unfollowed := true, recurses := true, apart := false, narrowed := true }
def FnExactWrongInUptoSaid : Prop := fnExactWrongInUptoRow.holds Try.pinned (OpenSpec.upto fnExactWrongInSpec)

/-- 'laws.FnExactSettleAll', WHERE WHAT IT READS IS OF BULK AT MOST 1048576: true; the input reads as it did. -/
def fnExactSettleAllUptoRow : OpenClaim := { program := "ytbpfciidbgkekaa", sum := "d1f801bc58293a548530f4b331b8a701174ebeaf715ca4a4010bd3585834e9d4", func := "loop.example/g00474/laws.FnExactSettleAll", spec := "fnExactSettleAll", unfollowed := true, recurses := true, apart := false, narrowed := true }
def FnExactSettleAllUptoSaid : Prop := fnExactSettleAllUptoRow.holds Try.pinned (OpenSpec.upto fnExactSettleAllSpec)

end Rows
end Go.Proofs.Ytbpfciidbgkekaa
