/- The law FnExactPeerText returns true for every peer; no condition. -/
import Derived.Test.YtbpfciidbgkekaaAbGlText
namespace Go.Proofs.Ytbpfciidbgkekaa.AB
open Go
set_option maxRecDepth 100000
theorem args_FnExactPeerText {xss : List (List C)} (hx : AllT Try.prog 9 [75] xss) : AC Try.prog 11 (argsAV Try.prog false [75] xss) (vB true) [] := by
  obtain ⟨cs, rfl, hcs⟩ := AllT_one hx
  obtain ⟨p, rfl, h1⟩ := hasPeer (q := 3) hcs
  have hagg : aggOf Try.prog 75 = true := by kernel_rfl
  simpa only [argsAV, argAV_agg hagg, peerC, List.map_cons, List.map_nil, cvC, encPeer] using ac_lawPeerText p h1
end Go.Proofs.Ytbpfciidbgkekaa.AB
namespace Go.Proofs.Ytbpfciidbgkekaa
open AB
set_option maxRecDepth 100000 in
theorem lifted_FnExactPeerText (os : Os) (started : os.Started) (H : Type) (enc : TypeId × Value → H) :
    ReturnsInHanded {} Try.checked os 11 .any (Rows.fnExactPeerTextSpec.pre6 enc Try.prog Try.f11 Rows.fnExactPeerTextRow.domain false) (Rows.fnExactPeerTextSpec.post enc Try.prog Try.f11 false true false false) := by
  refine returnsInHanded_of_change_sized (C := Try.checked) own started (by kernel_rfl) Try.func11
    (ChangeSpec.witness6 (enc := enc) (C := Try.checked) false ⟨#[], #[.agg #[.int .i64 0, .bool false, .int .i64 0, .slice none 0 0, .slice none 0 0, .slice none 0 0]], []⟩ 8 (by kernel_rfl) (by kernel_rfl) (by kernel_rfl) (by kernel_rfl)) ?_
  intro W base args ds gs before hval hW hcnd hsz _
  refine law_contract good (t4 := 4) (q := 9) laidOut Try.func11 (by kernel_rfl) (by kernel_rfl) rfl (by kernel_rfl) (by kernel_rfl) ⟨rfl, fun ds hds => ?_⟩ (fun xss hx => ?_) W base args ds gs before hval hW
  · have hds' : ds.length = 1 := by rw [Try.params11] at hds; exact hds
    obtain ⟨d, rfl⟩ := List.length_eq_one_iff.1 hds'
    exact Eq.refl _
  · rw [Try.params11] at hx ⊢
    exact args_FnExactPeerText hx
set_option maxRecDepth 100000 in
theorem closed_FnExactPeerText : joinedFacts Try.prog 11 Try.f11 Rows.fnExactPeerTextSpec Rows.fnExactPeerTextRow = true := by
  unfold joinedFacts
  simp only [Bool.and_eq_true]
  repeat' with_reducible apply And.intro
  all_goals first | (with_reducible exact mayEnter) | (rw [notFinal]; rfl) | (rw [make_is]; kernel_rfl) | kernel_rfl
theorem fnExactPeerText_holds : Rows.FnExactPeerTextSaid :=
  OpenClaim.holds_of_wide 11 Try.f11 rfl rfl rfl rfl rfl rfl rfl ⟨rfl, rfl, rfl, rfl, rfl⟩ rfl rfl rfl rfl rfl (by kernel_rfl) Try.func11 closed_FnExactPeerText
    (of_decide_eq_true (by kernel_rfl)) (by unfold Func.isWrapper; first | (rw [if_pos (by decide +kernel)]; kernel_rfl) | (rw [if_neg (by decide +kernel)]; exact ⟨rfl, rfl⟩))
    (fun os started H enc _ => lifted_FnExactPeerText os started H enc)
#print axioms fnExactPeerText_holds
end Go.Proofs.Ytbpfciidbgkekaa

