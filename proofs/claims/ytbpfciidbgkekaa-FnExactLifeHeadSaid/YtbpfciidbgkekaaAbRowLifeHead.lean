/- The law FnExactLifeHead returns true for every life; no condition. -/
import Derived.Test.YtbpfciidbgkekaaAbHgLife
namespace Go.Proofs.Ytbpfciidbgkekaa.AB
open Go
set_option maxRecDepth 100000
theorem args_FnExactLifeHead {xss : List (List C)} (hx : AllT Try.prog 6 [35] xss) : AC Try.prog 15 (argsAV Try.prog false [35] xss) (vB true) [] := by
  obtain ⟨cs, rfl, h1⟩ := AllT_one hx
  rw [HasT] at h1
  simp only [Try.underlying35] at h1
  obtain ⟨xs, rfl, hx1, hx2⟩ := h1
  obtain ⟨L, rfl, hL⟩ := hasEvents (q := 1) hx2
  have hagg : aggOf Try.prog 35 = false := by kernel_rfl
  simp only [argsAV, argAV_one hagg, cvC]
  rw [List.length_map] at hx1
  exact ac_lawLifeHead L (by simpa [maxLen] using hx1) hL
end Go.Proofs.Ytbpfciidbgkekaa.AB
namespace Go.Proofs.Ytbpfciidbgkekaa
open AB
set_option maxRecDepth 100000 in
theorem lifted_FnExactLifeHead (os : Os) (started : os.Started) (H : Type) (enc : TypeId × Value → H) :
    ReturnsInHanded {} Try.checked os 15 .any (Rows.fnExactLifeHeadSpec.pre6 enc Try.prog Try.f15 Rows.fnExactLifeHeadRow.domain false) (Rows.fnExactLifeHeadSpec.post enc Try.prog Try.f15 false true false false) := by
  refine returnsInHanded_of_change_sized (C := Try.checked) own started (by kernel_rfl) Try.func15
    (ChangeSpec.witness6 (enc := enc) (C := Try.checked) false ⟨#[], #[.slice none 0 0], []⟩ 8 (by kernel_rfl) (by kernel_rfl) (by kernel_rfl) (by kernel_rfl)) ?_
  intro W base args ds gs before hval hW hcnd hsz _
  refine law_contract good (t4 := 4) (q := 6) laidOut Try.func15 (by kernel_rfl) (by kernel_rfl) rfl (by kernel_rfl) (by kernel_rfl) ⟨rfl, fun ds hds => ?_⟩ (fun xss hx => ?_) W base args ds gs before hval hW
  · have hds' : ds.length = 1 := by rw [Try.params15] at hds; exact hds
    obtain ⟨d, rfl⟩ := List.length_eq_one_iff.1 hds'
    exact Eq.refl _
  · rw [Try.params15] at hx ⊢
    exact args_FnExactLifeHead hx
set_option maxRecDepth 100000 in
theorem closed_FnExactLifeHead : joinedFacts Try.prog 15 Try.f15 Rows.fnExactLifeHeadSpec Rows.fnExactLifeHeadRow = true := by
  unfold joinedFacts
  simp only [Bool.and_eq_true]
  repeat' with_reducible apply And.intro
  all_goals first | (with_reducible exact mayEnter) | (rw [notFinal]; rfl) | (rw [make_is]; kernel_rfl) | kernel_rfl
theorem fnExactLifeHead_holds : Rows.FnExactLifeHeadSaid :=
  OpenClaim.holds_of_wide 15 Try.f15 rfl rfl rfl rfl rfl rfl rfl ⟨rfl, rfl, rfl, rfl, rfl⟩ rfl rfl rfl rfl rfl (by kernel_rfl) Try.func15 closed_FnExactLifeHead
    (of_decide_eq_true (by kernel_rfl)) (by unfold Func.isWrapper; first | (rw [if_pos (by decide +kernel)]; kernel_rfl) | (rw [if_neg (by decide +kernel)]; exact ⟨rfl, rfl⟩))
    (fun os started H enc _ => lifted_FnExactLifeHead os started H enc)
#print axioms fnExactLifeHead_holds
end Go.Proofs.Ytbpfciidbgkekaa

