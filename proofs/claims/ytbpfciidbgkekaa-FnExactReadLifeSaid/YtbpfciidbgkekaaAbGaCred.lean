/- A word is read. -/
import Derived.Test.YtbpfciidbgkekaaAbFzCred
namespace Go.Proofs.Ytbpfciidbgkekaa.AB
open Go
set_option maxRecDepth 100000
set_option linter.unusedSimpArgs false
set_option linter.unusedVariables false
def rcC (t : List UInt8) : Cred := (readCred t).getD credZ
def rcB (t : List UInt8) : Bool := (readCred t).isSome
theorem ten {l : List Int} (h : l.length = 10) : ∃ a b c d e f g i j k, l = [a, b, c, d, e, f, g, i, j, k] := by
  match l, h with
  | [a, b, c, d, e, f, g, i, j, k], _ => exact ⟨a, b, c, d, e, f, g, i, j, k, rfl⟩
set_option maxHeartbeats 1000000 in
theorem ac_ReadCred (t : List UInt8) (ht : t.length ≤ 4611686018427387904) : AC Try.prog 106 [vS t] (.tup [encCred (rcC t), vB (rcB t)]) [] := by
  cases hn : readNs t 10 0 with
  | none =>
    have hv := ac_readVarsN t 0 10 ht (by omega) hn
    rw [show ((10 : Nat) : Int) = 10 from rfl] at hv
    have hres : readCred t = none := by unfold readCred; rw [hn]
    clear hn
    refine XA good (fn := Try.f106) rfl ?_
    simp only [entry, List.getD_cons_zero, List.getD_cons_succ]
    repeat' first | refine SW.step good fun K hK => ?_ | refine X2 good fun K hK => ?_ | refine X3 good fun K hK => ?_ | refine SW.seqK fun J hJ => ?_ | refine SW.last good fun K hK => ?_ | (refine hK _ ?_; clear hK K) | (refine hJ _ _ (Wk.refl _) ?_; clear hJ J) | clear hK K | clear hJ J | refine SW.skip ?_ | refine SW.ret ?_ | refine SW.retT ?_ | refine SW.retB ?_ | refine SW.exit ?_ | refine SW.exitT ?_ | refine SW.exitB ?_ | refine XN ?_ | refine SW.block ?_ | refine SW.normB ?_ | refine SW.normT ?_ | refine XT ?_ | refine XF ?_ | refine XC (fun h => ?_) (fun h => ?_) | refine X0 ?_ | refine Xv ?_ | refine X1 (hv) ?_ | simp only [go_sem, optI, Option.getD_some, Option.getD_none, Int.reduceToNat, reduceIte, Nat.reduceEqDiff, Nat.reduceAdd, Nat.reduceMul, Nat.reduceSub, Nat.reduceLT, Nat.reduceLeDiff, reduceCtorEq, *] | refine Xs _ (fun h => ?_) (fun h => ?_) | with_reducible refine And.intro ?_ ?_
    all_goals first | (refine Xrp ?_; simp [resOf, Wn.le, Wn.leL, Wn.cw, C.scal, scal, rcC, rcB, hres, credZ, encCred]; done) | (exfalso; simp_all; done) | skip
  | some x =>
    obtain ⟨l, e⟩ := x
    have hv := ac_readVars t 0 10 ht (by omega) l e hn
    rw [show ((10 : Nat) : Int) = 10 from rfl] at hv
    obtain ⟨n0, n1, n2, n3, n4, n5, n6, n7, n8, n9, rfl⟩ := ten (readNs_spec _ _ _ _ hn).1
    simp only [List.map_cons, List.map_nil] at hv
    have hcr : readCred t = if e = t.length ∧ credOk ⟨n0, ⟨n1, n2⟩, n3, ⟨n4, n5⟩, ⟨n6, n7⟩, n8, n9⟩ = true then some ⟨n0, ⟨n1, n2⟩, n3, ⟨n4, n5⟩, ⟨n6, n7⟩, n8, n9⟩ else none := by
      unfold readCred; rw [hn]; rfl
    clear hn
    have hk := ac_CredOk ⟨n0, ⟨n1, n2⟩, n3, ⟨n4, n5⟩, ⟨n6, n7⟩, n8, n9⟩
    by_cases hc : e = t.length
    · have g1 : decide (e = (t.length : Int)) = true := by simpa using hc
      by_cases hok : credOk ⟨n0, ⟨n1, n2⟩, n3, ⟨n4, n5⟩, ⟨n6, n7⟩, n8, n9⟩ = true
      · rw [if_pos ⟨hc, hok⟩] at hcr
        rw [hok] at hk
        have hres := hcr
        clear hcr hc hok
        refine XA good (fn := Try.f106) rfl ?_
        simp only [entry, List.getD_cons_zero, List.getD_cons_succ]
        repeat' first | refine SW.step good fun K hK => ?_ | refine X2 good fun K hK => ?_ | refine X3 good fun K hK => ?_ | refine SW.seqK fun J hJ => ?_ | refine SW.last good fun K hK => ?_ | (refine hK _ ?_; clear hK K) | (refine hJ _ _ (Wk.refl _) ?_; clear hJ J) | clear hK K | clear hJ J | refine SW.skip ?_ | refine SW.ret ?_ | refine SW.retT ?_ | refine SW.retB ?_ | refine SW.exit ?_ | refine SW.exitT ?_ | refine SW.exitB ?_ | refine XN ?_ | refine SW.block ?_ | refine SW.normB ?_ | refine SW.normT ?_ | refine XT ?_ | refine XF ?_ | refine XC (fun h => ?_) (fun h => ?_) | refine X0 ?_ | refine Xv ?_ | refine X1 (hv) ?_ | refine X1 (hk) ?_ | simp only [go_sem, optI, Option.getD_some, Option.getD_none, Int.reduceToNat, reduceIte, Nat.reduceEqDiff, Nat.reduceAdd, Nat.reduceMul, Nat.reduceSub, Nat.reduceLT, Nat.reduceLeDiff, reduceCtorEq, *] | refine Xs _ (fun h => ?_) (fun h => ?_) | with_reducible refine And.intro ?_ ?_
        all_goals first | (refine Xrp ?_; simp [resOf, Wn.le, Wn.leL, Wn.cw, C.scal, scal, rcC, rcB, hres, encCred]; done) | (exfalso; simp_all; done) | (simp; done) | skip
        all_goals trace_state
      · have hok : credOk ⟨n0, ⟨n1, n2⟩, n3, ⟨n4, n5⟩, ⟨n6, n7⟩, n8, n9⟩ = false := by simpa using hok
        rw [if_neg (by rw [hok]; simp)] at hcr
        rw [hok] at hk
        have hres := hcr
        clear hcr hc hok
        refine XA good (fn := Try.f106) rfl ?_
        simp only [entry, List.getD_cons_zero, List.getD_cons_succ]
        repeat' first | refine SW.step good fun K hK => ?_ | refine X2 good fun K hK => ?_ | refine X3 good fun K hK => ?_ | refine SW.seqK fun J hJ => ?_ | refine SW.last good fun K hK => ?_ | (refine hK _ ?_; clear hK K) | (refine hJ _ _ (Wk.refl _) ?_; clear hJ J) | clear hK K | clear hJ J | refine SW.skip ?_ | refine SW.ret ?_ | refine SW.retT ?_ | refine SW.retB ?_ | refine SW.exit ?_ | refine SW.exitT ?_ | refine SW.exitB ?_ | refine XN ?_ | refine SW.block ?_ | refine SW.normB ?_ | refine SW.normT ?_ | refine XT ?_ | refine XF ?_ | refine XC (fun h => ?_) (fun h => ?_) | refine X0 ?_ | refine Xv ?_ | refine X1 (hv) ?_ | refine X1 (hk) ?_ | simp only [go_sem, optI, Option.getD_some, Option.getD_none, Int.reduceToNat, reduceIte, Nat.reduceEqDiff, Nat.reduceAdd, Nat.reduceMul, Nat.reduceSub, Nat.reduceLT, Nat.reduceLeDiff, reduceCtorEq, *] | refine Xs _ (fun h => ?_) (fun h => ?_) | with_reducible refine And.intro ?_ ?_
        all_goals first | (refine Xrp ?_; simp [resOf, Wn.le, Wn.leL, Wn.cw, C.scal, scal, rcC, rcB, hres, credZ, encCred]; done) | (exfalso; simp_all; done) | (simp; done) | skip
        all_goals trace_state
    · have g1 : decide (e = (t.length : Int)) = false := by simpa using hc
      rw [if_neg (fun q => hc q.1)] at hcr
      have hres := hcr
      clear hcr hk
      refine XA good (fn := Try.f106) rfl ?_
      simp only [entry, List.getD_cons_zero, List.getD_cons_succ]
      repeat' first | refine SW.step good fun K hK => ?_ | refine X2 good fun K hK => ?_ | refine X3 good fun K hK => ?_ | refine SW.seqK fun J hJ => ?_ | refine SW.last good fun K hK => ?_ | (refine hK _ ?_; clear hK K) | (refine hJ _ _ (Wk.refl _) ?_; clear hJ J) | clear hK K | clear hJ J | refine SW.skip ?_ | refine SW.ret ?_ | refine SW.retT ?_ | refine SW.retB ?_ | refine SW.exit ?_ | refine SW.exitT ?_ | refine SW.exitB ?_ | refine XN ?_ | refine SW.block ?_ | refine SW.normB ?_ | refine SW.normT ?_ | refine XT ?_ | refine XF ?_ | refine XC (fun h => ?_) (fun h => ?_) | refine X0 ?_ | refine Xv ?_ | refine X1 (hv) ?_ | simp only [go_sem, optI, Option.getD_some, Option.getD_none, Int.reduceToNat, reduceIte, Nat.reduceEqDiff, Nat.reduceAdd, Nat.reduceMul, Nat.reduceSub, Nat.reduceLT, Nat.reduceLeDiff, reduceCtorEq, *] | refine Xs _ (fun h => ?_) (fun h => ?_) | with_reducible refine And.intro ?_ ?_
      all_goals first | (refine Xrp ?_; simp [resOf, Wn.le, Wn.leL, Wn.cw, C.scal, scal, rcC, rcB, hres, credZ, encCred]; done) | (exfalso; simp_all; done) | skip
      all_goals trace_state
end Go.Proofs.Ytbpfciidbgkekaa.AB
