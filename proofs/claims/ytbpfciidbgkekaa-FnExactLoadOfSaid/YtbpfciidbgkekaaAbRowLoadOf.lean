/- The law FnExactLoadOf returns true for every ring; no condition. -/
import Derived.Test.YtbpfciidbgkekaaAbFsHas
import Derived.Test.YtbpfciidbgkekaaAbHjLoad
namespace Go.Proofs.Ytbpfciidbgkekaa.AB
open Go
set_option maxRecDepth 100000
theorem args_FnExactLoadOf {xss : List (List C)} (hx : AllT Try.prog 9 [53] xss) : AC Try.prog 19 (argsAV Try.prog false [53] xss) (vB true) [] := by
  obtain ⟨cs, rfl, hcs⟩ := AllT_one hx
  obtain ⟨L, rfl, h1, h2⟩ := hasRing (q := 1) hcs
  have hagg : aggOf Try.prog 53 = true := by kernel_rfl
  simpa only [argsAV, argAV_agg hagg, List.map_cons, List.map_nil, cvC, encRing] using ac_lawLoadOf L h1 h2
end Go.Proofs.Ytbpfciidbgkekaa.AB
namespace Go.Proofs.Ytbpfciidbgkekaa
open AB
set_option maxRecDepth 100000 in
theorem lifted_FnExactLoadOf (os : Os) (started : os.Started) (H : Type) (enc : TypeId × Value → H) :
    ReturnsInHanded {} Try.checked os 19 .any (Rows.fnExactLoadOfSpec.pre6 enc Try.prog Try.f19 Rows.fnExactLoadOfRow.domain false) (Rows.fnExactLoadOfSpec.post enc Try.prog Try.f19 false true false false) := by
  refine returnsInHanded_of_change_sized (C := Try.checked) own started (by kernel_rfl) Try.func19
    (ChangeSpec.witness6 (enc := enc) (C := Try.checked) false ⟨#[], #[.agg #[.slice none 0 0]], []⟩ 8 (by kernel_rfl) (by kernel_rfl) (by kernel_rfl) (by kernel_rfl)) ?_
  intro W base args ds gs before hval hW hcnd hsz _
  refine law_contract good (t4 := 4) (q := 9) laidOut Try.func19 (by kernel_rfl) (by kernel_rfl) rfl (by kernel_rfl) (by kernel_rfl) ⟨rfl, fun ds hds => ?_⟩ (fun xss hx => ?_) W base args ds gs before hval hW
  · have hds' : ds.length = 1 := by rw [Try.params19] at hds; exact hds
    obtain ⟨d, rfl⟩ := List.length_eq_one_iff.1 hds'
    exact Eq.refl _
  · rw [Try.params19] at hx ⊢
    exact args_FnExactLoadOf hx
set_option maxRecDepth 100000 in
theorem closed_FnExactLoadOf : joinedFacts Try.prog 19 Try.f19 Rows.fnExactLoadOfSpec Rows.fnExactLoadOfRow = true := by
  unfold joinedFacts
  simp only [Bool.and_eq_true]
  repeat' with_reducible apply And.intro
  all_goals first | (with_reducible exact mayEnter) | (rw [notFinal]; rfl) | (rw [make_is]; kernel_rfl) | kernel_rfl
theorem fnExactLoadOf_holds : Rows.FnExactLoadOfSaid :=
  OpenClaim.holds_of_wide 19 Try.f19 rfl rfl rfl rfl rfl rfl rfl ⟨rfl, rfl, rfl, rfl, rfl⟩ rfl rfl rfl rfl rfl (by kernel_rfl) Try.func19 closed_FnExactLoadOf
    (of_decide_eq_true (by kernel_rfl)) (by unfold Func.isWrapper; first | (rw [if_pos (by decide +kernel)]; kernel_rfl) | (rw [if_neg (by decide +kernel)]; exact ⟨rfl, rfl⟩))
    (fun os started H enc _ => lifted_FnExactLoadOf os started H enc)
#print axioms fnExactLoadOf_holds
end Go.Proofs.Ytbpfciidbgkekaa

