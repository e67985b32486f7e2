/- The law FnExactEventText returns true for every event; no condition. -/
import Derived.Test.YtbpfciidbgkekaaAbFlText
import Derived.Test.YtbpfciidbgkekaaAbFmHas
namespace Go.Proofs.Ytbpfciidbgkekaa.AB
open Go
set_option maxRecDepth 100000
theorem args_FnExactEventText {xss : List (List C)} (hx : AllT Try.prog 6 [43] xss) : AC Try.prog 6 (argsAV Try.prog false [43] xss) (vB true) [] := by
  obtain ⟨cs, rfl, hcs⟩ := AllT_one hx
  obtain ⟨e, rfl, he⟩ := hasEvent (q := 2) hcs
  have hagg : aggOf Try.prog 43 = true := by kernel_rfl
  simpa only [argsAV, argAV_agg hagg, evC, List.map_cons, List.map_nil, cvC, encEv] using ac_lawEventText e he
end Go.Proofs.Ytbpfciidbgkekaa.AB
namespace Go.Proofs.Ytbpfciidbgkekaa
open AB
set_option maxRecDepth 100000 in
theorem lifted_FnExactEventText (os : Os) (started : os.Started) (H : Type) (enc : TypeId × Value → H) :
    ReturnsInHanded {} Try.checked os 6 .any (Rows.fnExactEventTextSpec.pre6 enc Try.prog Try.f6 Rows.fnExactEventTextRow.domain false) (Rows.fnExactEventTextSpec.post enc Try.prog Try.f6 false true false false) := by
  refine returnsInHanded_of_change_sized (C := Try.checked) own started (by kernel_rfl) Try.func6
    (ChangeSpec.witness6 (enc := enc) (C := Try.checked) false ⟨#[], #[.agg #[.int .i64 0, .int .i64 0, .int .i64 0, .int .i64 0, .int .i64 0, .int .i64 0, .int .i64 0, .int .i64 0, .int .i64 0, .int .i64 0, .int .i64 0, .int .i64 0, .int .i64 0, .string ⟨#[]⟩]], []⟩ 8 (by kernel_rfl) (by kernel_rfl) (by kernel_rfl) (by kernel_rfl)) ?_
  intro W base args ds gs before hval hW hcnd hsz _
  refine law_contract good (t4 := 4) (q := 6) laidOut Try.func6 (by kernel_rfl) (by kernel_rfl) rfl (by kernel_rfl) (by kernel_rfl) ⟨rfl, fun ds hds => ?_⟩ (fun xss hx => ?_) W base args ds gs before hval hW
  · have hds' : ds.length = 1 := by rw [Try.params6] at hds; exact hds
    obtain ⟨d, rfl⟩ := List.length_eq_one_iff.1 hds'
    exact Eq.refl _
  · rw [Try.params6] at hx ⊢
    exact args_FnExactEventText hx
set_option maxRecDepth 100000 in
theorem closed_FnExactEventText : joinedFacts Try.prog 6 Try.f6 Rows.fnExactEventTextSpec Rows.fnExactEventTextRow = true := by
  unfold joinedFacts
  simp only [Bool.and_eq_true]
  repeat' with_reducible apply And.intro
  all_goals first | (with_reducible exact mayEnter) | (rw [notFinal]; rfl) | (rw [make_is]; kernel_rfl) | kernel_rfl
theorem fnExactEventText_holds : Rows.FnExactEventTextSaid :=
  OpenClaim.holds_of_wide 6 Try.f6 rfl rfl rfl rfl rfl rfl rfl ⟨rfl, rfl, rfl, rfl, rfl⟩ rfl rfl rfl rfl rfl (by kernel_rfl) Try.func6 closed_FnExactEventText
    (of_decide_eq_true (by kernel_rfl)) (by unfold Func.isWrapper; first | (rw [if_pos (by decide +kernel)]; kernel_rfl) | (rw [if_neg (by decide +kernel)]; exact ⟨rfl, rfl⟩))
    (fun os started H enc _ => lifted_FnExactEventText os started H enc)
#print axioms fnExactEventText_holds
end Go.Proofs.Ytbpfciidbgkekaa

