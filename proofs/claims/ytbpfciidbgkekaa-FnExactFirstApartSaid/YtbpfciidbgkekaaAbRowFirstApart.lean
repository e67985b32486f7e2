/- The law FnExactFirstApart returns true for every two lives; no condition. -/
import Derived.Test.YtbpfciidbgkekaaAbFjApart
namespace Go.Proofs.Ytbpfciidbgkekaa.AB
open Go
set_option maxRecDepth 100000
theorem hasEvent {q : Nat} {cs : List C} (h : HasT Try.prog (q + 4) 43 cs) : ∃ e : Event, cs = evC e ∧ (sb e.text).length ≤ 9223372036854775807 := by
  simp only [HasT, Try.underlying43, Try.underlying29, Try.underlying23, Try.underlying3, Try.underlying9, HasFs] at h
  obtain ⟨_, _, rfl, ⟨kd, rfl, _⟩, _, _, rfl, ⟨pl, rfl, _⟩, _, _, rfl, ⟨nu, rfl, _⟩, _, _, rfl, ⟨_, _, rfl, ⟨k, rfl, _⟩, _, _, rfl, ⟨_, _, rfl, ⟨o1, rfl, _⟩, _, _, rfl, ⟨o2, rfl, _⟩, rfl⟩, _, _, rfl, ⟨w, rfl, _⟩, _, _, rfl, ⟨_, _, rfl, ⟨a1, rfl, _⟩, _, _, rfl, ⟨a2, rfl, _⟩, rfl⟩, _, _, rfl, ⟨_, _, rfl, ⟨b1, rfl, _⟩, _, _, rfl, ⟨b2, rfl, _⟩, rfl⟩, _, _, rfl, ⟨t, rfl, _⟩, _, _, rfl, ⟨n, rfl, _⟩, rfl⟩, _, _, rfl, ⟨s, rfl, hs⟩, rfl⟩ := h
  exact ⟨⟨kd, pl, nu, ⟨k, ⟨o1, o2⟩, w, ⟨a1, a2⟩, ⟨b1, b2⟩, t, n⟩, s⟩, rfl, by rw [sb, Array.length_toList]; exact hs⟩
theorem hasEvents {q : Nat} : ∀ {xs : List (List C)}, (∀ r, r ∈ xs → HasT Try.prog (q + 4) 43 r) → ∃ L : List Event, xs = L.map evC ∧ ∀ e, e ∈ L → (sb e.text).length ≤ 9223372036854775807
  | [], _ => ⟨[], rfl, by simp⟩
  | r :: xs, h => by
    obtain ⟨e, rfl, he⟩ := hasEvent (h r (by simp))
    obtain ⟨L, rfl, hL⟩ := hasEvents (xs := xs) (fun r hr => h r (List.mem_cons_of_mem _ hr))
    exact ⟨e :: L, rfl, by simpa using ⟨he, hL⟩⟩
theorem args_FnExactFirstApart {xss : List (List C)} (hx : AllT Try.prog 6 [35, 35] xss) : AC Try.prog 5 (argsAV Try.prog false [35, 35] xss) (vB true) [] := by
  obtain ⟨cs, cs', rfl, h1, h2⟩ := AllT_two hx
  rw [HasT] at h1 h2
  simp only [Try.underlying35] at h1 h2
  obtain ⟨xs, rfl, hx1, hx2⟩ := h1
  obtain ⟨ys, rfl, hy1, hy2⟩ := h2
  obtain ⟨L, rfl, hL⟩ := hasEvents (q := 1) hx2
  obtain ⟨M, rfl, hM⟩ := hasEvents (q := 1) hy2
  have hagg : aggOf Try.prog 35 = false := by kernel_rfl
  simp only [argsAV, argAV_one hagg, cvC]
  rw [List.length_map] at hx1 hy1
  exact ac_lawFirstApart L M (by simpa [maxLen] using hx1) (by simpa [maxLen] using hy1) hL hM
end Go.Proofs.Ytbpfciidbgkekaa.AB
namespace Go.Proofs.Ytbpfciidbgkekaa
open AB
set_option maxRecDepth 100000 in
theorem lifted_FnExactFirstApart (os : Os) (started : os.Started) (H : Type) (enc : TypeId × Value → H) :
    ReturnsInHanded {} Try.checked os 5 .any (Rows.fnExactFirstApartSpec.pre6 enc Try.prog Try.f5 Rows.fnExactFirstApartRow.domain false) (Rows.fnExactFirstApartSpec.post enc Try.prog Try.f5 false true false false) := by
  refine returnsInHanded_of_change_sized (C := Try.checked) own started (by kernel_rfl) Try.func5
    (ChangeSpec.witness6 (enc := enc) (C := Try.checked) false ⟨#[], #[.slice none 0 0, .slice none 0 0], []⟩ 8 (by kernel_rfl) (by kernel_rfl) (by kernel_rfl) (by kernel_rfl)) ?_
  intro W base args ds gs before hval hW hcnd hsz _
  refine law_contract good (t4 := 4) (q := 6) laidOut Try.func5 (by kernel_rfl) (by kernel_rfl) rfl (by kernel_rfl) (by kernel_rfl) ⟨rfl, fun ds hds => ?_⟩ (fun xss hx => ?_) W base args ds gs before hval hW
  · have hds' : ds.length = 2 := by rw [Try.params5] at hds; exact hds
    obtain ⟨d, e, rfl⟩ : ∃ d e, ds = [d, e] := (match ds, hds' with | [d, e], _ => ⟨d, e, rfl⟩)
    exact Eq.refl _
  · rw [Try.params5] at hx ⊢
    exact args_FnExactFirstApart hx
set_option maxRecDepth 100000 in
theorem closed_FnExactFirstApart : joinedFacts Try.prog 5 Try.f5 Rows.fnExactFirstApartSpec Rows.fnExactFirstApartRow = true := by
  unfold joinedFacts
  simp only [Bool.and_eq_true]
  repeat' with_reducible apply And.intro
  all_goals first | (with_reducible exact mayEnter) | (rw [notFinal]; rfl) | (rw [make_is]; kernel_rfl) | kernel_rfl
theorem fnExactFirstApart_holds : Rows.FnExactFirstApartSaid :=
  OpenClaim.holds_of_wide 5 Try.f5 rfl rfl rfl rfl rfl rfl rfl ⟨rfl, rfl, rfl, rfl, rfl⟩ rfl rfl rfl rfl rfl (by kernel_rfl) Try.func5 closed_FnExactFirstApart
    (of_decide_eq_true (by kernel_rfl)) (by unfold Func.isWrapper; first | (rw [if_pos (by decide +kernel)]; kernel_rfl) | (rw [if_neg (by decide +kernel)]; exact ⟨rfl, rfl⟩))
    (fun os started H enc _ => lifted_FnExactFirstApart os started H enc)
#print axioms fnExactFirstApart_holds
end Go.Proofs.Ytbpfciidbgkekaa

