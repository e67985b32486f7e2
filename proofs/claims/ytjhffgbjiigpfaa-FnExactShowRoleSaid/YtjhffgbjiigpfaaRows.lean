/-
  No cell of these rows narrows 'for every input' (looked for: loops, veiled, ifaces, maps, wideKeys, modest, calm, conditions, laid).
  DERIVED. THE GIVEN ROWS OF THIS SEAT. 5 by the template 'for every input the law returns true; each argument reads behind the call as it read before'; 0 by the template 'total and deterministic' (their statements: YtjhffgbjiigpfaaTotals.lean).
  GIVEN WITH THE SEED: the statements are not yours to turn. If you find one false, say at which input.
  Laid BY PROGRAM, IN A SANDBOX (cutbox-rows.mjs): the forced cells as the released guide's own fill.sh prints them over the translation 27a4b686d3e77154… (all of the seat's roots in one cut). By AI agents, Wed Nov 11 2026. No macro, syntax, notation, axiom, sorry.
-/
import Derived.Test.YtjhffgbjiigpfaaChecked
import GoSem.Claim
import GoSem.ClaimJoined
import GoSem.ClaimMapViews
import Derived.JoinedTies
import Derived.KernelRfl
namespace Go.Proofs.Ytjhffgbjiigpfaa
/- THE CELL 'sum', in the pinned program and in every row, IS THE sha256 OF THE DUMP (.gsa) THAT YtjhffgbjiigpfaaProg.lean LOADS. Nothing in Lean hashes anything: it is a label: what it is worth is what the hold of that sum in a sandbox is worth. -/
noncomputable def Try.pinned : Pinned := { name := "ytjhffgbjiigpfaa", sum := "27a4b686d3e771547a0daad2aca66a09ed311fa639bb583642c18b266507ff6c", checked := Try.checked }
namespace Rows
def none {H : Type} : Left H := { results := [], args := [] }

/-- 'laws.FnExactShowRole': WHATEVER THE INPUT: true; the input reads as it did. -/
def fnExactShowRoleSpec : ChangeSpec := { name := "fnExactShowRole", fn := fun _ => fun
  | [d] => { results := [.lit (.bool true)], args := [d] }
  | _ => none }
def fnExactShowRoleRow : OpenClaim := { program := "ytjhffgbjiigpfaa", sum := "27a4b686d3e771547a0daad2aca66a09ed311fa639bb583642c18b266507ff6c", func := "loop.example/g00474/laws.FnExactShowRole", spec := "fnExactShowRole", apart := false }
def FnExactShowRoleSaid : Prop := fnExactShowRoleRow.holds Try.pinned (OpenSpec.ofChange fnExactShowRoleSpec)

/-- ITS FALSE NEIGHBOUR: 'it returns false'. Refute it at one input. -/
def fnExactShowRoleWrong : ChangeSpec := { name := "fnExactShowRole", fn := fun _ => fun
  | [d] => { results := [.lit (.bool false)], args := [d] }
  | _ => none }
def FnExactShowRoleWrongFalsely : Prop := fnExactShowRoleRow.holds Try.pinned (OpenSpec.ofChange fnExactShowRoleWrong)

/-- 'laws.FnExactShowCred': WHATEVER THE INPUT: true; the input reads as it did. -/
def fnExactShowCredSpec : ChangeSpec := { name := "fnExactShowCred", fn := fun _ => fun
  | [d] => { results := [.lit (.bool true)], args := [d] }
  | _ => none }
def fnExactShowCredRow : OpenClaim := { program := "ytjhffgbjiigpfaa", sum := "27a4b686d3e771547a0daad2aca66a09ed311fa639bb583642c18b266507ff6c", func := "loop.example/g00474/laws.FnExactShowCred", spec := "fnExactShowCred", apart := false }
def FnExactShowCredSaid : Prop := fnExactShowCredRow.holds Try.pinned (OpenSpec.ofChange fnExactShowCredSpec)

/-- ITS FALSE NEIGHBOUR: 'it returns false'. Refute it at one input. -/
def fnExactShowCredWrong : ChangeSpec := { name := "fnExactShowCred", fn := fun _ => fun
  | [d] => { results := [.lit (.bool false)], args := [d] }
  | _ => none }
def FnExactShowCredWrongFalsely : Prop := fnExactShowCredRow.holds Try.pinned (OpenSpec.ofChange fnExactShowCredWrong)

/-- 'laws.FnExactFirstApart': WHATEVER THE INPUT: true; the input reads as it did. -/
def fnExactFirstApartSpec : ChangeSpec := { name := "fnExactFirstApart", fn := fun _ => fun
  | [d1, d2] => { results := [.lit (.bool true)], args := [d1, d2] }
  | _ => none }
def fnExactFirstApartRow : OpenClaim := { program := "ytjhffgbjiigpfaa", sum := "27a4b686d3e771547a0daad2aca66a09ed311fa639bb583642c18b266507ff6c", func := "loop.example/g00474/laws.FnExactFirstApart", spec := "fnExactFirstApart", apart := false }
def FnExactFirstApartSaid : Prop := fnExactFirstApartRow.holds Try.pinned (OpenSpec.ofChange fnExactFirstApartSpec)

/-- ITS FALSE NEIGHBOUR: 'it returns false'. Refute it at one input. -/
def fnExactFirstApartWrong : ChangeSpec := { name := "fnExactFirstApart", fn := fun _ => fun
  | [d1, d2] => { results := [.lit (.bool false)], args := [d1, d2] }
  | _ => none }
def FnExactFirstApartWrongFalsely : Prop := fnExactFirstApartRow.holds Try.pinned (OpenSpec.ofChange fnExactFirstApartWrong)

/-- 'laws.FnExactEventText': WHATEVER THE INPUT: true; the input reads as it did. -/
def fnExactEventTextSpec : ChangeSpec := { name := "fnExactEventText", fn := fun _ => fun
  | [d] => { results := [.lit (.bool true)], args := [d] }
  | _ => none }
def fnExactEventTextRow : OpenClaim := { program := "ytjhffgbjiigpfaa", sum := "27a4b686d3e771547a0daad2aca66a09ed311fa639bb583642c18b266507ff6c", func := "loop.example/g00474/laws.FnExactEventText", spec := "fnExactEventText", apart := false }
def FnExactEventTextSaid : Prop := fnExactEventTextRow.holds Try.pinned (OpenSpec.ofChange fnExactEventTextSpec)

/-- ITS FALSE NEIGHBOUR: 'it returns false'. Refute it at one input. -/
def fnExactEventTextWrong : ChangeSpec := { name := "fnExactEventText", fn := fun _ => fun
  | [d] => { results := [.lit (.bool false)], args := [d] }
  | _ => none }
def FnExactEventTextWrongFalsely : Prop := fnExactEventTextRow.holds Try.pinned (OpenSpec.ofChange fnExactEventTextWrong)

/-- 'laws.FnExactItemsIn': WHATEVER THE INPUT: true; the input reads as it did. -/
def fnExactItemsInSpec : ChangeSpec := { name := "fnExactItemsIn", fn := fun _ => fun
  | [d] => { results := [.lit (.bool true)], args := [d] }
  | _ => none }
def fnExactItemsInRow : OpenClaim := { program := "ytjhffgbjiigpfaa", sum := "27a4b686d3e771547a0daad2aca66a09ed311fa639bb583642c18b266507ff6c", func := "loop.example/g00474/laws.FnExactItemsIn", spec := "fnExactItemsIn", apart := false }
def FnExactItemsInSaid : Prop := fnExactItemsInRow.holds Try.pinned (OpenSpec.ofChange fnExactItemsInSpec)

/-- ITS FALSE NEIGHBOUR: 'it returns false'. Refute it at one input. -/
def fnExactItemsInWrong : ChangeSpec := { name := "fnExactItemsIn", fn := fun _ => fun
  | [d] => { results := [.lit (.bool false)], args := [d] }
  | _ => none }
def FnExactItemsInWrongFalsely : Prop := fnExactItemsInRow.holds Try.pinned (OpenSpec.ofChange fnExactItemsInWrong)

/- THE SECOND FORM. 'bulk': how many values and letters a reading holds, each counted each time it is reached (what is shared counts as often as it is met; a slice's spare places count too). A statement '..UptoSaid' is the law's where the arguments, and the package variables that the reading takes, are together of bulk at most 1048576: NARROWER than '..Said'. Prove '..Said' where nothing that the law and all that it calls make is longer than what came in: it says more and counts as full. Else prove '..UptoSaid'. A law counts once. -/
mutual
def uptoBulk {H : Type} : DataW H → Nat
  | .lit (.string bytes) => bytes.length + 1
  | .lit _ => 1
  | .nil => 1
  | .ptr d => uptoBulk d + 1
  | .slice elems spare => uptoBulkAll elems + uptoBulkAll spare + 1
  | .agg parts => uptoBulkAll parts + 1
  | .iface _ d => uptoBulk d + 1
  | .map entries => uptoBulkEntries entries + 1
  | .held _ => 1
def uptoBulkAll {H : Type} : List (DataW H) → Nat
  | [] => 0
  | d :: r => uptoBulk d + uptoBulkAll r
def uptoBulkEntries {H : Type} : List (Lit × DataW H) → Nat
  | [] => 0
  | x :: r => uptoBulkEntry x + uptoBulkEntries r
def uptoBulkEntry {H : Type} : Lit × DataW H → Nat
  | (.string bytes, d) => bytes.length + uptoBulk d + 1
  | (_, d) => uptoBulk d + 1
 end
def uptoSmall : (H : Type) → List (DataW H) → Bool := fun _ ds => decide (uptoBulkAll ds ≤ 1048576)
def OpenSpec.upto (s : _root_.Go.ChangeSpec) : _root_.Go.OpenSpec := { _root_.Go.OpenSpec.ofChange s with cond := some uptoSmall }

/-- 'laws.FnExactShowRole', WHERE WHAT IT READS IS OF BULK AT MOST 1048576: true; the input reads as it did. -/
def fnExactShowRoleUptoRow : OpenClaim := { program := "ytjhffgbjiigpfaa", sum := "27a4b686d3e771547a0daad2aca66a09ed311fa639bb583642c18b266507ff6c", func := "loop.example/g00474/laws.FnExactShowRole", spec := "fnExactShowRole", apart := false, narrowed := true }
def FnExactShowRoleUptoSaid : Prop := fnExactShowRoleUptoRow.holds Try.pinned (OpenSpec.upto fnExactShowRoleSpec)

/-- 'laws.FnExactShowCred', WHERE WHAT IT READS IS OF BULK AT MOST 1048576: true; the input reads as it did. -/
def fnExactShowCredUptoRow : OpenClaim := { program := "ytjhffgbjiigpfaa", sum := "27a4b686d3e771547a0daad2aca66a09ed311fa639bb583642c18b266507ff6c", func := "loop.example/g00474/laws.FnExactShowCred", spec := "fnExactShowCred", apart := false, narrowed := true }
def FnExactShowCredUptoSaid : Prop := fnExactShowCredUptoRow.holds Try.pinned (OpenSpec.upto fnExactShowCredSpec)

/-- 'laws.FnExactFirstApart', WHERE WHAT IT READS IS OF BULK AT MOST 1048576: true; the input reads as it did. -/
def fnExactFirstApartUptoRow : OpenClaim := { program := "ytjhffgbjiigpfaa", sum := "27a4b686d3e771547a0daad2aca66a09ed311fa639bb583642c18b266507ff6c", func := "loop.example/g00474/laws.FnExactFirstApart", spec := "fnExactFirstApart", apart := false, narrowed := true }
def FnExactFirstApartUptoSaid : Prop := fnExactFirstApartUptoRow.holds Try.pinned (OpenSpec.upto fnExactFirstApartSpec)

/-- 'laws.FnExactEventText', WHERE WHAT IT READS IS OF BULK AT MOST 1048576: true; the input reads as it did. -/
def fnExactEventTextUptoRow : OpenClaim := { program := "ytjhffgbjiigpfaa", sum := "27a4b686d3e771547a0daad2aca66a09ed311fa639bb583642c18b266507ff6c", func := "loop.example/g00474/laws.FnExactEventText", spec := "fnExactEventText", apart := false, narrowed := true }
def FnExactEventTextUptoSaid : Prop := fnExactEventTextUptoRow.holds Try.pinned (OpenSpec.upto fnExactEventTextSpec)

/-- 'laws.FnExactItemsIn', WHERE WHAT IT READS IS OF BULK AT MOST 1048576: true; the input reads as it did. -/
def fnExactItemsInUptoRow : OpenClaim := { program := "ytjhffgbjiigpfaa", sum := "27a4b686d3e771547a0daad2aca66a09ed311fa639bb583642c18b266507ff6c", func := "loop.example/g00474/laws.FnExactItemsIn", spec := "fnExactItemsIn", apart := false, narrowed := true }
def FnExactItemsInUptoSaid : Prop := fnExactItemsInUptoRow.holds Try.pinned (OpenSpec.upto fnExactItemsInSpec)

end Rows
end Go.Proofs.Ytjhffgbjiigpfaa
