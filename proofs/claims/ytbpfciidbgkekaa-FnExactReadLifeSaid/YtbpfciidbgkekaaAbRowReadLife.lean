/- The law FnExactReadLife returns true for every text; no condition. -/
import Derived.Test.YtbpfciidbgkekaaAbGsLife
namespace Go.Proofs.Ytbpfciidbgkekaa.AB
open Go
set_option maxRecDepth 100000
theorem args_FnExactReadLife {xss : List (List C)} (hx : AllT Try.prog 6 [9] xss) : AC Try.prog 13 (argsAV Try.prog false [9] xss) (vB true) [] := by
  obtain ⟨cs, rfl, hcs⟩ := AllT_one hx
  simp only [HasT, Try.underlying9] at hcs
  obtain ⟨s, rfl, hs⟩ := hcs
  have hagg : aggOf Try.prog 9 = false := by kernel_rfl
  have h := ac_lawReadLife (sb s) (by rw [sb, Array.length_toList]; exact hs)
  have e : vS (sb s) = AV.c false (C.v (.string s)) := by
    show AV.c false (C.v (.string ⟨s.data.toList.toArray⟩)) = _
    simp
  rw [e] at h
  simpa only [argsAV, argAV_one hagg, cvC] using h
end Go.Proofs.Ytbpfciidbgkekaa.AB
namespace Go.Proofs.Ytbpfciidbgkekaa
open AB
set_option maxRecDepth 100000 in
theorem lifted_FnExactReadLife (os : Os) (started : os.Started) (H : Type) (enc : TypeId × Value → H) :
    ReturnsInHanded {} Try.checked os 13 .any (Rows.fnExactReadLifeSpec.pre6 enc Try.prog Try.f13 Rows.fnExactReadLifeRow.domain false) (Rows.fnExactReadLifeSpec.post enc Try.prog Try.f13 false true false false) := by
  refine returnsInHanded_of_change_sized (C := Try.checked) own started (by kernel_rfl) Try.func13
    (ChangeSpec.witness6 (enc := enc) (C := Try.checked) false ⟨#[], #[.string ⟨#[]⟩], []⟩ 8 (by kernel_rfl) (by kernel_rfl) (by kernel_rfl) (by kernel_rfl)) ?_
  intro W base args ds gs before hval hW hcnd hsz _
  refine law_contract good (t4 := 4) (q := 6) laidOut Try.func13 (by kernel_rfl) (by kernel_rfl) rfl (by kernel_rfl) (by kernel_rfl) ⟨rfl, fun ds hds => ?_⟩ (fun xss hx => ?_) W base args ds gs before hval hW
  · have hds' : ds.length = 1 := by rw [Try.params13] at hds; exact hds
    obtain ⟨d, rfl⟩ := List.length_eq_one_iff.1 hds'
    exact Eq.refl _
  · rw [Try.params13] at hx ⊢
    exact args_FnExactReadLife hx
set_option maxRecDepth 100000 in
theorem closed_FnExactReadLife : joinedFacts Try.prog 13 Try.f13 Rows.fnExactReadLifeSpec Rows.fnExactReadLifeRow = true := by
  unfold joinedFacts
  simp only [Bool.and_eq_true]
  repeat' with_reducible apply And.intro
  all_goals first | (with_reducible exact mayEnter) | (rw [notFinal]; rfl) | (rw [make_is]; kernel_rfl) | kernel_rfl
theorem fnExactReadLife_holds : Rows.FnExactReadLifeSaid :=
  OpenClaim.holds_of_wide 13 Try.f13 rfl rfl rfl rfl rfl rfl rfl ⟨rfl, rfl, rfl, rfl, rfl⟩ rfl rfl rfl rfl rfl (by kernel_rfl) Try.func13 closed_FnExactReadLife
    (of_decide_eq_true (by kernel_rfl)) (by unfold Func.isWrapper; first | (rw [if_pos (by decide +kernel)]; kernel_rfl) | (rw [if_neg (by decide +kernel)]; exact ⟨rfl, rfl⟩))
    (fun os started H enc _ => lifted_FnExactReadLife os started H enc)
#print axioms fnExactReadLife_holds
end Go.Proofs.Ytbpfciidbgkekaa

