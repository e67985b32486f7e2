/- The law FnExactKeysIn returns true for every ring; no condition. -/
import Derived.Test.YtbpfciidbgkekaaAbFsHas
import Derived.Test.YtbpfciidbgkekaaAbHnKeys
namespace Go.Proofs.Ytbpfciidbgkekaa.AB
open Go
set_option maxRecDepth 100000
theorem args_FnExactKeysIn {xss : List (List C)} (hx : AllT Try.prog 9 [53] xss) : AC Try.prog 18 (argsAV Try.prog false [53] xss) (vB true) [] := by
  obtain ⟨cs, rfl, hcs⟩ := AllT_one hx
  obtain ⟨L, rfl, h1, h2⟩ := hasRing (q := 1) hcs
  have hagg : aggOf Try.prog 53 = true := by kernel_rfl
  simpa only [argsAV, argAV_agg hagg, List.map_cons, List.map_nil, cvC, encRing] using ac_lawKeysIn L h1 h2
end Go.Proofs.Ytbpfciidbgkekaa.AB
namespace Go.Proofs.Ytbpfciidbgkekaa
open AB
set_option maxRecDepth 100000 in
theorem lifted_FnExactKeysIn (os : Os) (started : os.Started) (H : Type) (enc : TypeId × Value → H) :
    ReturnsInHanded {} Try.checked os 18 .any (Rows.fnExactKeysInSpec.pre6 enc Try.prog Try.f18 Rows.fnExactKeysInRow.domain false) (Rows.fnExactKeysInSpec.post enc Try.prog Try.f18 false true false false) := by
  refine returnsInHanded_of_change_sized (C := Try.checked) own started (by kernel_rfl) Try.func18
    (ChangeSpec.witness6 (enc := enc) (C := Try.checked) false ⟨#[], #[.agg #[.slice none 0 0]], []⟩ 8 (by kernel_rfl) (by kernel_rfl) (by kernel_rfl) (by kernel_rfl)) ?_
  intro W base args ds gs before hval hW hcnd hsz _
  refine law_contract good (t4 := 4) (q := 9) laidOut Try.func18 (by kernel_rfl) (by kernel_rfl) rfl (by kernel_rfl) (by kernel_rfl) ⟨rfl, fun ds hds => ?_⟩ (fun xss hx => ?_) W base args ds gs before hval hW
  · have hds' : ds.length = 1 := by rw [Try.params18] at hds; exact hds
    obtain ⟨d, rfl⟩ := List.length_eq_one_iff.1 hds'
    exact Eq.refl _
  · rw [Try.params18] at hx ⊢
    exact args_FnExactKeysIn hx
set_option maxRecDepth 100000 in
theorem closed_FnExactKeysIn : joinedFacts Try.prog 18 Try.f18 Rows.fnExactKeysInSpec Rows.fnExactKeysInRow = true := by
  unfold joinedFacts
  simp only [Bool.and_eq_true]
  repeat' with_reducible apply And.intro
  all_goals first | (with_reducible exact mayEnter) | (rw [notFinal]; rfl) | (rw [make_is]; kernel_rfl) | kernel_rfl
theorem fnExactKeysIn_holds : Rows.FnExactKeysInSaid :=
  OpenClaim.holds_of_wide 18 Try.f18 rfl rfl rfl rfl rfl rfl rfl ⟨rfl, rfl, rfl, rfl, rfl⟩ rfl rfl rfl rfl rfl (by kernel_rfl) Try.func18 closed_FnExactKeysIn
    (of_decide_eq_true (by kernel_rfl)) (by unfold Func.isWrapper; first | (rw [if_pos (by decide +kernel)]; kernel_rfl) | (rw [if_neg (by decide +kernel)]; exact ⟨rfl, rfl⟩))
    (fun os started H enc _ => lifted_FnExactKeysIn os started H enc)
#print axioms fnExactKeysIn_holds
end Go.Proofs.Ytbpfciidbgkekaa

