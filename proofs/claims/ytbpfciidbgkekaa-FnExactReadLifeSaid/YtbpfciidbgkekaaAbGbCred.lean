/- A word is read: the reference's function. -/
import Derived.Test.YtbpfciidbgkekaaAbGaCred
namespace Go.Proofs.Ytbpfciidbgkekaa.AB
open Go
set_option maxRecDepth 100000
set_option linter.unusedSimpArgs false
set_option linter.unusedVariables false
def z10 : List AV := [vI 0, vI 0, vI 0, vI 0, vI 0, vI 0, vI 0, vI 0, vI 0, vI 0]
set_option maxHeartbeats 2000000 in
theorem ac_ReadCred' (t : List UInt8) (ht : t.length ≤ 4611686018427387904) : AC Try.prog 103 [vS t] (.tup [encCred (rcC t), vB (rcB t)]) [] := by
  refine XA good (fn := Try.f103) rfl ?_
  simp only [entry, List.getD_cons_zero, List.getD_cons_succ]
  repeat' first | refine SW.step good fun K hK => ?_ | refine X2 good fun K hK => ?_ | refine X3 good fun K hK => ?_ | refine SW.seqK fun J hJ => ?_ | refine SW.last good fun K hK => ?_ | (refine hK _ ?_; clear hK K) | (refine hJ _ _ (Wk.refl _) ?_; clear hJ J) | clear hK K | clear hJ J | refine SW.skip ?_ | refine SW.ret ?_ | refine SW.retT ?_ | refine SW.retB ?_ | refine SW.exit ?_ | refine SW.exitT ?_ | refine SW.exitB ?_ | refine XN ?_ | refine SW.block ?_ | refine SW.normB ?_ | refine SW.normT ?_ | refine XT ?_ | refine XF ?_ | refine XC (fun h => ?_) (fun h => ?_) | simp only [go_sem, optI, Option.getD_some, Option.getD_none, Int.reduceToNat, reduceIte, Nat.reduceEqDiff, Nat.reduceAdd, Nat.reduceMul, Nat.reduceSub, Nat.reduceLT, Nat.reduceLeDiff, reduceCtorEq, *] | refine Xs _ (fun h => ?_) (fun h => ?_) | with_reducible refine And.intro ?_ ?_
  refine SW.loopTo (α := List Int × Int) (fun a => ⟨sl [(0, vS t), (2, .ptr (.s 2 0) 0), (4, .own (.s 11 0)), (5, vI a.2), (6, vI a.1.length)], hl [(.s 11 0, .row false 3 1 (a.1.map intC)), (.s 2 0, .box z10)]⟩) (fun a => 10 - a.1.length) ([], 0) (fun a => a.1.length ≤ 10 ∧ readNs t a.1.length 0 = some a) ?_ ⟨by simp, by simp [readNs]⟩ ?_
  · simp only [z10]
    (refine Xto _ _ ?_ ?_ <;> simp only [go_sem, optI, Option.getD_some, Option.getD_none, Int.reduceToNat, reduceIte, Nat.reduceEqDiff, Nat.reduceAdd, Nat.reduceMul, Nat.reduceSub, Nat.reduceLT, Nat.reduceLeDiff, reduceCtorEq, Option.some.injEq, or_true, true_or] <;> (repeat' with_reducible apply And.intro) <;> (try rfl))
  · rintro ⟨m, q⟩ ⟨h2, h3⟩
    simp only at h2 h3
    by_cases hk : m.length < 10
    · have e1 : decide ((m.length : Int) < 10) = true := by simp; omega
      have hw : IntKind.i64.wrap ((m.length : Int) + 1) = ((m.length + 1 : Nat) : Int) := wrap64 (by omega) (by omega)
      have hR := ac_ReadVar' t q ht
      unfold rvV rvE rvB at hR
      simp only [z10]
      cases hr : readVar t q with
      | none =>
        have hres : readCred t = none := by unfold readCred; rw [readNs_none h3 hk hr]
        simp only [hr, Option.isSome_none] at hR
        clear h3 hr
        repeat' first | refine SW.step good fun K hK => ?_ | refine X2 good fun K hK => ?_ | refine X3 good fun K hK => ?_ | refine SW.seqK fun J hJ => ?_ | refine SW.last good fun K hK => ?_ | (refine hK _ ?_; clear hK K) | (refine hJ _ _ (Wk.refl _) ?_; clear hJ J) | clear hK K | clear hJ J | refine SW.skip ?_ | refine SW.ret ?_ | refine SW.retT ?_ | refine SW.retB ?_ | refine SW.exit ?_ | refine SW.exitT ?_ | refine SW.exitB ?_ | refine XN ?_ | refine SW.block ?_ | refine SW.normB ?_ | refine SW.normT ?_ | refine XT ?_ | refine XF ?_ | refine XC (fun h => ?_) (fun h => ?_) | refine X0 ?_ | refine Xv ?_ | refine X1 (hR) ?_ | simp only [go_sem, optI, Option.getD_some, Option.getD_none, Int.reduceToNat, reduceIte, Nat.reduceEqDiff, Nat.reduceAdd, Nat.reduceMul, Nat.reduceSub, Nat.reduceLT, Nat.reduceLeDiff, reduceCtorEq, *] | refine Xs _ (fun h => ?_) (fun h => ?_) | with_reducible refine And.intro ?_ ?_
        all_goals first | (refine Xrp ?_; simp [resOf, Wn.le, Wn.leL, Wn.cw, C.scal, scal, rcC, rcB, hres, credZ, encCred]; done) | (exfalso; simp_all; done) | (simp; done) | skip
        all_goals trace_state
      | some ne =>
        obtain ⟨n, e'⟩ := ne
        simp only [hr, Option.isSome_some] at hR
        have h4 := readNs_more h3 hr
        clear hr h3
        repeat' first | refine SW.step good fun K hK => ?_ | refine X2 good fun K hK => ?_ | refine X3 good fun K hK => ?_ | refine SW.seqK fun J hJ => ?_ | refine SW.last good fun K hK => ?_ | (refine hK _ ?_; clear hK K) | (refine hJ _ _ (Wk.refl _) ?_; clear hJ J) | clear hK K | clear hJ J | refine SW.skip ?_ | refine SW.ret ?_ | refine SW.retT ?_ | refine SW.retB ?_ | refine SW.exit ?_ | refine SW.exitT ?_ | refine SW.exitB ?_ | refine XN ?_ | refine SW.block ?_ | refine SW.normB ?_ | refine SW.normT ?_ | refine XT ?_ | refine XF ?_ | refine XC (fun h => ?_) (fun h => ?_) | refine X0 ?_ | refine Xv ?_ | refine X1 (hR) ?_ | simp only [go_sem, optI, Option.getD_some, Option.getD_none, Int.reduceToNat, reduceIte, Nat.reduceEqDiff, Nat.reduceAdd, Nat.reduceMul, Nat.reduceSub, Nat.reduceLT, Nat.reduceLeDiff, reduceCtorEq, *] | refine Xs _ (fun h => ?_) (fun h => ?_) | with_reducible refine And.intro ?_ ?_
        all_goals first | (intro r hr; simp at hr; subst hr; rfl) | (simp [bytesC]; omega) | (simp; done) | omega | rfl | skip
        all_goals refine ⟨(m ++ [(n : Int)], (e' : Int)), ⟨by simp; omega, by simpa using h4⟩, by simp; omega, ?_⟩
        all_goals simp only [z10]
        all_goals (refine Xto _ _ ?_ ?_ <;> simp only [go_sem, optI, Option.getD_some, Option.getD_none, Int.reduceToNat, reduceIte, Nat.reduceEqDiff, Nat.reduceAdd, Nat.reduceMul, Nat.reduceSub, Nat.reduceLT, Nat.reduceLeDiff, reduceCtorEq, Option.some.injEq, or_true, true_or] <;> (repeat' with_reducible apply And.intro) <;> (try rfl))
        all_goals first | (simp; done) | skip
    · have hk : m.length = 10 := by omega
      obtain ⟨n0, n1, n2, n3, n4, n5, n6, n7, n8, n9, rfl⟩ := ten hk
      have e1 : decide ((10 : Int) < 10) = false := by simp
      have h4 : readNs t 10 0 = some ([n0, n1, n2, n3, n4, n5, n6, n7, n8, n9], q) := h3
      clear h3 h2 hk
      have hnum := readNs_spec _ _ _ _ h4
      have hcr : readCred t = if q = t.length ∧ credOk ⟨n0, ⟨n1, n2⟩, n3, ⟨n4, n5⟩, ⟨n6, n7⟩, n8, n9⟩ = true then some ⟨n0, ⟨n1, n2⟩, n3, ⟨n4, n5⟩, ⟨n6, n7⟩, n8, n9⟩ else none := by
        unfold readCred; rw [h4]; rfl
      have hend := fun hok => readCred_end h4 (show credOk (credOf [n0, n1, n2, n3, n4, n5, n6, n7, n8, n9]) = true from hok)
      clear h4 hnum
      have hk := ac_CredOk' ⟨n0, ⟨n1, n2⟩, n3, ⟨n4, n5⟩, ⟨n6, n7⟩, n8, n9⟩
      have ht2 := ac_CredText' ⟨n0, ⟨n1, n2⟩, n3, ⟨n4, n5⟩, ⟨n6, n7⟩, n8, n9⟩
      simp only [List.map_cons, List.map_nil, List.length_cons, List.length_nil, z10]
      by_cases hok : credOk ⟨n0, ⟨n1, n2⟩, n3, ⟨n4, n5⟩, ⟨n6, n7⟩, n8, n9⟩ = true
      · have hend := hend hok
        rw [hok] at hk
        rw [show credOf [n0, n1, n2, n3, n4, n5, n6, n7, n8, n9] = ⟨n0, ⟨n1, n2⟩, n3, ⟨n4, n5⟩, ⟨n6, n7⟩, n8, n9⟩ from rfl] at hend
        generalize htx : credText ⟨n0, ⟨n1, n2⟩, n3, ⟨n4, n5⟩, ⟨n6, n7⟩, n8, n9⟩ = tx at *
        by_cases hq : q = t.length
        · have hres := hcr
          rw [if_pos ⟨hq, hok⟩] at hres
          have htt := hend.2 hq
          clear hcr hend htx hok
          subst htt
          repeat' first | refine SW.step good fun K hK => ?_ | refine X2 good fun K hK => ?_ | refine X3 good fun K hK => ?_ | refine SW.seqK fun J hJ => ?_ | refine SW.last good fun K hK => ?_ | (refine hK _ ?_; clear hK K) | (refine hJ _ _ (Wk.refl _) ?_; clear hJ J) | clear hK K | clear hJ J | refine SW.skip ?_ | refine SW.ret ?_ | refine SW.retT ?_ | refine SW.retB ?_ | refine SW.exit ?_ | refine SW.exitT ?_ | refine SW.exitB ?_ | refine XN ?_ | refine SW.block ?_ | refine SW.normB ?_ | refine SW.normT ?_ | refine XT ?_ | refine XF ?_ | refine XC (fun h => ?_) (fun h => ?_) | refine X0 ?_ | refine Xv ?_ | refine X1 (hk) ?_ | refine X1 (ht2) ?_ | simp only [go_sem, optI, Option.getD_some, Option.getD_none, Int.reduceToNat, reduceIte, Nat.reduceEqDiff, Nat.reduceAdd, Nat.reduceMul, Nat.reduceSub, Nat.reduceLT, Nat.reduceLeDiff, reduceCtorEq, *] | refine Xs _ (fun h => ?_) (fun h => ?_) | with_reducible refine And.intro ?_ ?_
          all_goals first | (refine Xrp ?_; simp [resOf, Wn.le, Wn.leL, Wn.cw, C.scal, scal, rcC, rcB, hres, encCred]; done) | (exfalso; simp_all; done) | (simp; done) | skip
          all_goals trace_state
        · have hres := hcr
          rw [if_neg (fun r => hq r.1)] at hres
          have htt : ¬ tx = t := fun r => hq (hend.1 r)
          clear hcr hend htx hok
          repeat' first | refine SW.step good fun K hK => ?_ | refine X2 good fun K hK => ?_ | refine X3 good fun K hK => ?_ | refine SW.seqK fun J hJ => ?_ | refine SW.last good fun K hK => ?_ | (refine hK _ ?_; clear hK K) | (refine hJ _ _ (Wk.refl _) ?_; clear hJ J) | clear hK K | clear hJ J | refine SW.skip ?_ | refine SW.ret ?_ | refine SW.retT ?_ | refine SW.retB ?_ | refine SW.exit ?_ | refine SW.exitT ?_ | refine SW.exitB ?_ | refine XN ?_ | refine SW.block ?_ | refine SW.normB ?_ | refine SW.normT ?_ | refine XT ?_ | refine XF ?_ | refine XC (fun h => ?_) (fun h => ?_) | refine X0 ?_ | refine Xv ?_ | refine X1 (hk) ?_ | refine X1 (ht2) ?_ | simp only [go_sem, optI, Option.getD_some, Option.getD_none, Int.reduceToNat, reduceIte, Nat.reduceEqDiff, Nat.reduceAdd, Nat.reduceMul, Nat.reduceSub, Nat.reduceLT, Nat.reduceLeDiff, reduceCtorEq, *] | refine Xs _ (fun h => ?_) (fun h => ?_) | with_reducible refine And.intro ?_ ?_
          all_goals first | (refine Xrp ?_; simp [resOf, Wn.le, Wn.leL, Wn.cw, C.scal, scal, rcC, rcB, hres, encCred, credZ]; done) | (exfalso; simp_all; done) | (simp; done) | skip
          all_goals trace_state
      · have hok : credOk ⟨n0, ⟨n1, n2⟩, n3, ⟨n4, n5⟩, ⟨n6, n7⟩, n8, n9⟩ = false := by simpa using hok
        rw [if_neg (by rw [hok]; simp)] at hcr
        rw [hok] at hk
        have hres := hcr
        clear hcr hend hok
        repeat' first | refine SW.step good fun K hK => ?_ | refine X2 good fun K hK => ?_ | refine X3 good fun K hK => ?_ | refine SW.seqK fun J hJ => ?_ | refine SW.last good fun K hK => ?_ | (refine hK _ ?_; clear hK K) | (refine hJ _ _ (Wk.refl _) ?_; clear hJ J) | clear hK K | clear hJ J | refine SW.skip ?_ | refine SW.ret ?_ | refine SW.retT ?_ | refine SW.retB ?_ | refine SW.exit ?_ | refine SW.exitT ?_ | refine SW.exitB ?_ | refine XN ?_ | refine SW.block ?_ | refine SW.normB ?_ | refine SW.normT ?_ | refine XT ?_ | refine XF ?_ | refine XC (fun h => ?_) (fun h => ?_) | refine X0 ?_ | refine Xv ?_ | refine X1 (hk) ?_ | refine X1 (ht2) ?_ | simp only [go_sem, optI, Option.getD_some, Option.getD_none, Int.reduceToNat, reduceIte, Nat.reduceEqDiff, Nat.reduceAdd, Nat.reduceMul, Nat.reduceSub, Nat.reduceLT, Nat.reduceLeDiff, reduceCtorEq, *] | refine Xs _ (fun h => ?_) (fun h => ?_) | with_reducible refine And.intro ?_ ?_
        all_goals first | (refine Xrp ?_; simp [resOf, Wn.le, Wn.leL, Wn.cw, C.scal, scal, rcC, rcB, hres, encCred, credZ]; done) | (exfalso; simp_all; done) | (simp; done) | skip
        all_goals trace_state
end Go.Proofs.Ytbpfciidbgkekaa.AB
