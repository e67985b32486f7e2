/- The law FnExactReadEvent returns true for every text and every place; no condition. -/
import Derived.Test.YtbpfciidbgkekaaAbGdRead
namespace Go.Proofs.Ytbpfciidbgkekaa.AB
open Go
set_option maxRecDepth 100000
theorem args_FnExactReadEvent {xss : List (List C)} (hx : AllT Try.prog 6 [9, 3] xss) : AC Try.prog 9 (argsAV Try.prog false [9, 3] xss) (vB true) [] := by
  obtain ⟨cs, ds, rfl, hcs, hds⟩ := AllT_two hx
  simp only [HasT, Try.underlying9, Try.underlying3] at hcs hds
  obtain ⟨s, rfl, hs⟩ := hcs
  obtain ⟨n, rfl, _⟩ := hds
  have hagg : aggOf Try.prog 9 = false := by kernel_rfl
  have hagg2 : aggOf Try.prog 3 = false := by kernel_rfl
  have h := ac_lawReadEvent (sb s) n (by rw [sb, Array.length_toList]; exact hs)
  have e : vS (sb s) = AV.c false (C.v (.string s)) := by
    show AV.c false (C.v (.string ⟨s.data.toList.toArray⟩)) = _
    simp
  rw [e] at h
  simpa only [argsAV, argAV_one hagg, argAV_one hagg2, cvC] using h
end Go.Proofs.Ytbpfciidbgkekaa.AB
namespace Go.Proofs.Ytbpfciidbgkekaa
open AB
set_option maxRecDepth 100000 in
theorem lifted_FnExactReadEvent (os : Os) (started : os.Started) (H : Type) (enc : TypeId × Value → H) :
    ReturnsInHanded {} Try.checked os 9 .any (Rows.fnExactReadEventSpec.pre6 enc Try.prog Try.f9 Rows.fnExactReadEventRow.domain false) (Rows.fnExactReadEventSpec.post enc Try.prog Try.f9 false true false false) := by
  refine returnsInHanded_of_change_sized (C := Try.checked) own started (by kernel_rfl) Try.func9
    (ChangeSpec.witness6 (enc := enc) (C := Try.checked) false ⟨#[], #[.string ⟨#[]⟩, .int .i64 0], []⟩ 8 (by kernel_rfl) (by kernel_rfl) (by kernel_rfl) (by kernel_rfl)) ?_
  intro W base args ds gs before hval hW hcnd hsz _
  refine law_contract good (t4 := 4) (q := 6) laidOut Try.func9 (by kernel_rfl) (by kernel_rfl) rfl (by kernel_rfl) (by kernel_rfl) ⟨rfl, fun ds hds => ?_⟩ (fun xss hx => ?_) W base args ds gs before hval hW
  · have hds' : ds.length = 2 := by rw [Try.params9] at hds; exact hds
    obtain ⟨d, e, rfl⟩ : ∃ d e, ds = [d, e] := (match ds, hds' with | [d, e], _ => ⟨d, e, rfl⟩)
    exact Eq.refl _
  · rw [Try.params9] at hx ⊢
    exact args_FnExactReadEvent hx
set_option maxRecDepth 100000 in
theorem closed_FnExactReadEvent : joinedFacts Try.prog 9 Try.f9 Rows.fnExactReadEventSpec Rows.fnExactReadEventRow = true := by
  unfold joinedFacts
  simp only [Bool.and_eq_true]
  repeat' with_reducible apply And.intro
  all_goals first | (with_reducible exact mayEnter) | (rw [notFinal]; rfl) | (rw [make_is]; kernel_rfl) | kernel_rfl
theorem fnExactReadEvent_holds : Rows.FnExactReadEventSaid :=
  OpenClaim.holds_of_wide 9 Try.f9 rfl rfl rfl rfl rfl rfl rfl ⟨rfl, rfl, rfl, rfl, rfl⟩ rfl rfl rfl rfl rfl (by kernel_rfl) Try.func9 closed_FnExactReadEvent
    (of_decide_eq_true (by kernel_rfl)) (by unfold Func.isWrapper; first | (rw [if_pos (by decide +kernel)]; kernel_rfl) | (rw [if_neg (by decide +kernel)]; exact ⟨rfl, rfl⟩))
    (fun os started H enc _ => lifted_FnExactReadEvent os started H enc)
#print axioms fnExactReadEvent_holds
end Go.Proofs.Ytbpfciidbgkekaa

