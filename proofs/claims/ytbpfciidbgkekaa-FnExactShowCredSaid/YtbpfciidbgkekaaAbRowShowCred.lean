/- The law FnExactShowCred returns true for every word; no condition. -/
import Derived.Test.YtbpfciidbgkekaaAbFdShow
namespace Go.Proofs.Ytbpfciidbgkekaa.AB
open Go
set_option maxRecDepth 100000
theorem hasRole {q : Nat} {cs : List C} (h : HasT Try.prog (q + 2) 23 cs) : ∃ r : Role, cs = [cI r.who, cI r.name] := by
  simp only [HasT, Try.underlying23, Try.underlying3, HasFs] at h
  obtain ⟨_, _, rfl, ⟨n, rfl, _⟩, _, _, rfl, ⟨m, rfl, _⟩, rfl⟩ := h
  exact ⟨⟨n, m⟩, rfl⟩
theorem hasCred {q : Nat} {cs : List C} (h : HasT Try.prog (q + 3) 29 cs) : ∃ c : Cred, cs = credC c := by
  simp only [HasT, Try.underlying29, Try.underlying23, Try.underlying3, HasFs] at h
  obtain ⟨_, _, rfl, ⟨k, rfl, _⟩, _, _, rfl, ⟨_, _, rfl, ⟨o1, rfl, _⟩, _, _, rfl, ⟨o2, rfl, _⟩, rfl⟩, _, _, rfl, ⟨w, rfl, _⟩, _, _, rfl, ⟨_, _, rfl, ⟨a1, rfl, _⟩, _, _, rfl, ⟨a2, rfl, _⟩, rfl⟩, _, _, rfl, ⟨_, _, rfl, ⟨b1, rfl, _⟩, _, _, rfl, ⟨b2, rfl, _⟩, rfl⟩, _, _, rfl, ⟨t, rfl, _⟩, _, _, rfl, ⟨n, rfl, _⟩, rfl⟩ := h
  exact ⟨⟨k, ⟨o1, o2⟩, w, ⟨a1, a2⟩, ⟨b1, b2⟩, t, n⟩, rfl⟩
theorem args_FnExactShowCred {xss : List (List C)} (hx : AllT Try.prog 6 [29] xss) : AC Try.prog 4 (argsAV Try.prog false [29] xss) (vB true) [] := by
  obtain ⟨cs, rfl, hcs⟩ := AllT_one hx
  obtain ⟨c, rfl⟩ := hasCred (q := 3) hcs
  have hagg : aggOf Try.prog 29 = true := by kernel_rfl
  simpa only [argsAV, argAV_agg hagg, credC, List.map_cons, List.map_nil, cvC, encCred] using ac_lawShowCred c
end Go.Proofs.Ytbpfciidbgkekaa.AB
namespace Go.Proofs.Ytbpfciidbgkekaa
open AB
set_option maxRecDepth 100000 in
theorem lifted_FnExactShowCred (os : Os) (started : os.Started) (H : Type) (enc : TypeId × Value → H) :
    ReturnsInHanded {} Try.checked os 4 .any (Rows.fnExactShowCredSpec.pre6 enc Try.prog Try.f4 Rows.fnExactShowCredRow.domain false) (Rows.fnExactShowCredSpec.post enc Try.prog Try.f4 false true false false) := by
  refine returnsInHanded_of_change_sized (C := Try.checked) own started (by kernel_rfl) Try.func4
    (ChangeSpec.witness6 (enc := enc) (C := Try.checked) false ⟨#[], #[.agg #[.int .i64 0, .int .i64 0, .int .i64 0, .int .i64 0, .int .i64 0, .int .i64 0, .int .i64 0, .int .i64 0, .int .i64 0, .int .i64 0]], []⟩ 8 (by kernel_rfl) (by kernel_rfl) (by kernel_rfl) (by kernel_rfl)) ?_
  intro W base args ds gs before hval hW hcnd hsz _
  refine law_contract good (t4 := 4) (q := 6) laidOut Try.func4 (by kernel_rfl) (by kernel_rfl) rfl (by kernel_rfl) (by kernel_rfl) ⟨rfl, fun ds hds => ?_⟩ (fun xss hx => ?_) W base args ds gs before hval hW
  · have hds' : ds.length = 1 := by rw [Try.params4] at hds; exact hds
    obtain ⟨d, rfl⟩ := List.length_eq_one_iff.1 hds'
    exact Eq.refl _
  · rw [Try.params4] at hx ⊢
    exact args_FnExactShowCred hx
set_option maxRecDepth 100000 in
theorem closed_FnExactShowCred : joinedFacts Try.prog 4 Try.f4 Rows.fnExactShowCredSpec Rows.fnExactShowCredRow = true := by
  unfold joinedFacts
  simp only [Bool.and_eq_true]
  repeat' with_reducible apply And.intro
  all_goals first | (with_reducible exact mayEnter) | (rw [notFinal]; rfl) | (rw [make_is]; kernel_rfl) | kernel_rfl
theorem fnExactShowCred_holds : Rows.FnExactShowCredSaid :=
  OpenClaim.holds_of_wide 4 Try.f4 rfl rfl rfl rfl rfl rfl rfl ⟨rfl, rfl, rfl, rfl, rfl⟩ rfl rfl rfl rfl rfl (by kernel_rfl) Try.func4 closed_FnExactShowCred
    (of_decide_eq_true (by kernel_rfl)) (by unfold Func.isWrapper; first | (rw [if_pos (by decide +kernel)]; kernel_rfl) | (rw [if_neg (by decide +kernel)]; exact ⟨rfl, rfl⟩))
    (fun os started H enc _ => lifted_FnExactShowCred os started H enc)
#print axioms fnExactShowCred_holds
end Go.Proofs.Ytbpfciidbgkekaa

