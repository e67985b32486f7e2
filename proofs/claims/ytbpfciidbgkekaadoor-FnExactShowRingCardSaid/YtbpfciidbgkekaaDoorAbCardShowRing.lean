/- The tied card of the law FnExactShowRing: true for every ring that comes in; the library's three listed tables hold what the program's text lays. -/
import Derived.Test.YtbpfciidbgkekaaDoorAbRowShowRing
import Derived.Test.YtbpfciidbgkekaaDoorTie
import Derived.Test.YtbpfciidbgkekaaDoorCards
import Derived.SevenTiedAt
namespace Go.Proofs.YtbpfciidbgkekaaDoor
set_option maxRecDepth 100000
theorem fnExactShowRing_card : Rows.FnExactShowRingCardSaid :=
  Claim7.holds_tied_plain_at .later [] [.data, .data, .data] true (true, "4a703eab8cdc4979692c677a7575e274ff879fa87eb7eb70651d5c71db99334d") false
    fnExactShowRing_holds (fun _ h => by cases h) (by kernel_rfl) (fun _ h => by cases h) fnExactShowRing_row_tie rfl ⟨rfl, rfl⟩ (by kernel_rfl) rfl
    (fun f fn hf hfn => by
      obtain rfl : f = 4 := Option.some.inj ((show Tryd.prog.funcNamed "loop.example/g00474/laws.FnExactShowRing" = some 4 by kernel_rfl).symm.trans hf) |>.symm
      obtain rfl : fn = Tryd.f4 := (Option.some.inj (Tryd.func4.symm.trans hfn)).symm
      exact ⟨by kernel_rfl, fun j t ht => by
        rw [Tryd.params4] at ht
        have h3 : t = 35 := by
          rcases j with _ | j
          · simpa using ht.symm
          · simp at ht
        subst h3
        exact (show Tryd.prog.wantsStandIn 35 = false by kernel_rfl)⟩)
    (by kernel_rfl)
#print axioms fnExactShowRing_card
end Go.Proofs.YtbpfciidbgkekaaDoor
