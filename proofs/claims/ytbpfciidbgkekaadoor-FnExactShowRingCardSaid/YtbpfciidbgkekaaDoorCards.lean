/-
  DERIVED. GIVEN WITH THE SEED: THE CARDS: each row of YtbpfciidbgkekaaDoorRows.lean that lists a variable, with what it lists TIED to the program's text (the seventh form; the later family's looks); each row that meets fmt, with fmt's text TOLD by the authors' own Lean function (tested against real Go, not proved from fmt's source: count such statements apart). THE CARD IS WHAT COUNTS. Prove the row's statement (the work); the ties are given (YtbpfciidbgkekaaDoorTie.lean); close each card by the builder's one call (the guide's Derived/Test/ToyasCard.lean, 'card_holds'). Laid BY PROGRAM, IN A SANDBOX (cutbox-door.mjs). By AI agents, Wed Nov 11 2026. No macro, syntax, notation, axiom, sorry.
-/
import Derived.Test.YtbpfciidbgkekaaDoorRows
import GoSem.ClaimSeven
namespace Go.Proofs.YtbpfciidbgkekaaDoor
namespace Rows

/-- THE TIED CARD OF 'laws.FnExactShowAnswer'. -/
def fnExactShowAnswerCard : Claim7 := { stood := { row := fnExactShowAnswerRow, standIns := [], harness := (true, "4a703eab8cdc4979692c677a7575e274ff879fa87eb7eb70651d5c71db99334d"), looks := false }, kinds := [], alts := [], laidByText := true, laidKinds := [.data, .data, .data], laidTests := true, laidLooks := .later }
def FnExactShowAnswerCardSaid : Prop := Claim7.holds Tryd.pinned (.plain (OpenSpec.ofChange fnExactShowAnswerSpec)) fnExactShowAnswerCard

/-- THE TIED CARD OF 'laws.FnExactShowRing'. -/
def fnExactShowRingCard : Claim7 := { stood := { row := fnExactShowRingRow, standIns := [], harness := (true, "4a703eab8cdc4979692c677a7575e274ff879fa87eb7eb70651d5c71db99334d"), looks := false }, kinds := [], alts := [], laidByText := true, laidKinds := [.data, .data, .data], laidTests := true, laidLooks := .later }
def FnExactShowRingCardSaid : Prop := Claim7.holds Tryd.pinned (.plain (OpenSpec.ofChange fnExactShowRingSpec)) fnExactShowRingCard

/-- THE SECOND FORM's CARD OF 'laws.FnExactShowAnswer'. -/
def fnExactShowAnswerUptoCard : Claim7 := { stood := { row := fnExactShowAnswerUptoRow, standIns := [], harness := (true, "4a703eab8cdc4979692c677a7575e274ff879fa87eb7eb70651d5c71db99334d"), looks := false }, kinds := [], alts := [], laidByText := true, laidKinds := [.data, .data, .data], laidTests := true, laidLooks := .later }
def FnExactShowAnswerUptoCardSaid : Prop := Claim7.holds Tryd.pinned (.plain (OpenSpec.upto fnExactShowAnswerSpec)) fnExactShowAnswerUptoCard

/-- THE SECOND FORM's CARD OF 'laws.FnExactShowRing'. -/
def fnExactShowRingUptoCard : Claim7 := { stood := { row := fnExactShowRingUptoRow, standIns := [], harness := (true, "4a703eab8cdc4979692c677a7575e274ff879fa87eb7eb70651d5c71db99334d"), looks := false }, kinds := [], alts := [], laidByText := true, laidKinds := [.data, .data, .data], laidTests := true, laidLooks := .later }
def FnExactShowRingUptoCardSaid : Prop := Claim7.holds Tryd.pinned (.plain (OpenSpec.upto fnExactShowRingSpec)) fnExactShowRingUptoCard
end Rows
end Go.Proofs.YtbpfciidbgkekaaDoor
