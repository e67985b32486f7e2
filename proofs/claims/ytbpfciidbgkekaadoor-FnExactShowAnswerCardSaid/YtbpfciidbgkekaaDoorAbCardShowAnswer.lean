/- The tied card of the law FnExactShowAnswer: true for every answer that comes in; the library's three listed tables hold what the program's text lays. -/
import Derived.Test.YtbpfciidbgkekaaDoorAbRowShowAnswer
import Derived.Test.YtbpfciidbgkekaaDoorTie
import Derived.Test.YtbpfciidbgkekaaDoorCards
import Derived.SevenTiedAt
namespace Go.Proofs.YtbpfciidbgkekaaDoor
set_option maxRecDepth 100000
theorem fnExactShowAnswer_card : Rows.FnExactShowAnswerCardSaid :=
  Claim7.holds_tied_plain_at .later [] [.data, .data, .data] true (true, "4a703eab8cdc4979692c677a7575e274ff879fa87eb7eb70651d5c71db99334d") false
    fnExactShowAnswer_holds (fun _ h => by cases h) (by kernel_rfl) (fun _ h => by cases h) fnExactShowAnswer_row_tie rfl ⟨rfl, rfl⟩ (by kernel_rfl) rfl
    (fun f fn hf hfn => by
      obtain rfl : f = 3 := Option.some.inj ((show Tryd.prog.funcNamed "loop.example/g00474/laws.FnExactShowAnswer" = some 3 by kernel_rfl).symm.trans hf) |>.symm
      obtain rfl : fn = Tryd.f3 := (Option.some.inj (Tryd.func3.symm.trans hfn)).symm
      exact ⟨by kernel_rfl, fun j t ht => by
        rw [Tryd.params3] at ht
        have h3 : t = 24 := by
          rcases j with _ | j
          · simpa using ht.symm
          · simp at ht
        subst h3
        exact (show Tryd.prog.wantsStandIn 24 = false by kernel_rfl)⟩)
    (by kernel_rfl)
#print axioms fnExactShowAnswer_card
end Go.Proofs.YtbpfciidbgkekaaDoor
