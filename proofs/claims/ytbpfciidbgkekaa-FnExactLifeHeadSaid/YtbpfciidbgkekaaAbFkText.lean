/- The law FnExactEventText returns true for every event; no condition. -/
import Derived.Test.YtbpfciidbgkekaaAbFfText
namespace Go.Proofs.Ytbpfciidbgkekaa.AB
open Go
set_option maxRecDepth 100000
set_option linter.unusedSimpArgs false
set_option linter.unusedVariables false
def eventFit (e : Event) : Bool := eventOk e && (decide (e.place ≤ 1000000000) && decide (e.num ≤ 1000000000))
def eventText (e : Event) : List UInt8 :=
  if eventFit e then varI e.kind ++ varI e.place ++ varI e.num ++ varI (credText e.cred).length ++ credText e.cred ++ varI (sb e.text).length ++ sb e.text else []
theorem fit_facts {e : Event} (h : eventFit e = true) : eventOk e = true ∧ 1 ≤ e.kind ∧ e.kind ≤ 11 ∧ 0 ≤ e.place ∧ e.place ≤ 1000000000 ∧ 0 ≤ e.num ∧ e.num ≤ 1000000000 ∧ (sb e.text).length ≤ 600 := by
  unfold eventFit at h
  simp only [Bool.and_eq_true, decide_eq_true_eq] at h
  have h1 := h.1
  unfold eventOk inB at h1
  simp only [Bool.and_eq_true, decide_eq_true_eq] at h1
  exact ⟨h.1, h1.1.1, h1.1.2, h1.2.1, h.2.1, h1.2.2.1, h.2.2, h1.2.2.2.1⟩
theorem eventText_len (e : Event) : (eventText e).length ≤ 800 := by
  unfold eventText
  split
  · rename_i h
    have := fit_facts h
    have := credText_len e.cred
    have := varI_len e.kind; have := varI_len e.place; have := varI_len e.num; have := varI_len (credText e.cred).length; have := varI_len (sb e.text).length
    simp only [List.length_append]; omega
  · simp
set_option maxHeartbeats 4000000 in
theorem ac_EventText (e : Event) : AC Try.prog 36 [encEv e] (.tup [vS (eventText e), vB (eventFit e)]) [] := by
  have hc := credText_len e.cred
  have l1 := varI_len e.kind
  have l2 := varI_len e.place
  have l3 := varI_len e.num
  have l4 := varI_len (credText e.cred).length
  have l5 := varI_len (sb e.text).length
  by_cases hf : eventFit e = true
  · obtain ⟨h1, h2, h3, h4, h5, h6, h7, h8⟩ := fit_facts hf
    have e1 : decide (e.place > 1000000000) = false := by simp; omega
    have e2 : decide (e.num > 1000000000) = false := by simp; omega
    have e3 : decide (1000000000 < e.place) = false := by simp; omega
    have e4 : decide (1000000000 < e.num) = false := by simp; omega
    refine XA good (fn := Try.f36) rfl ?_
    simp only [entry, List.getD_cons_zero, List.getD_cons_succ]
    repeat' first | refine SW.step good fun K hK => ?_ | refine X2 good fun K hK => ?_ | refine X3 good fun K hK => ?_ | refine SW.seqK fun J hJ => ?_ | refine SW.last good fun K hK => ?_ | (refine hK _ ?_; clear hK K) | (refine hJ _ _ (Wk.refl _) ?_; clear hJ J) | clear hK K | clear hJ J | refine SW.skip ?_ | refine SW.ret ?_ | refine SW.retT ?_ | refine SW.retB ?_ | refine SW.exit ?_ | refine SW.exitT ?_ | refine SW.exitB ?_ | refine XN ?_ | refine SW.block ?_ | refine SW.normB ?_ | refine SW.normT ?_ | refine XT ?_ | refine XF ?_ | refine XC (fun h => ?_) (fun h => ?_) | refine X0 ?_ | refine Xv ?_ | refine X1 (ac_EventOk e) ?_ | refine X1 (ac_CredText e.cred) ?_ | refine X1 (ac_var _ (by omega) (by omega)) ?_ | simp only [go_sem, optI, Option.getD_some, Option.getD_none, Int.reduceToNat, reduceIte, Nat.reduceEqDiff, Nat.reduceAdd, Nat.reduceMul, Nat.reduceSub, Nat.reduceLT, Nat.reduceLeDiff, reduceCtorEq, *] | refine Xs _ (fun h => ?_) (fun h => ?_) | with_reducible refine And.intro ?_ ?_
    all_goals first | omega | (simp; omega) | skip
    all_goals refine Xrp ?_
    all_goals simp [resOf, Wn.le, Wn.leL, Wn.cw, C.scal, scal, eventText, hf, vS, vB]
  · have hf' : eventFit e = false := by simpa using hf
    refine XA good (fn := Try.f36) rfl ?_
    simp only [entry, List.getD_cons_zero, List.getD_cons_succ]
    repeat' first | refine SW.step good fun K hK => ?_ | refine X2 good fun K hK => ?_ | refine X3 good fun K hK => ?_ | refine SW.seqK fun J hJ => ?_ | refine SW.last good fun K hK => ?_ | (refine hK _ ?_; clear hK K) | (refine hJ _ _ (Wk.refl _) ?_; clear hJ J) | clear hK K | clear hJ J | refine SW.skip ?_ | refine SW.ret ?_ | refine SW.retT ?_ | refine SW.retB ?_ | refine SW.exit ?_ | refine SW.exitT ?_ | refine SW.exitB ?_ | refine XN ?_ | refine SW.block ?_ | refine SW.normB ?_ | refine SW.normT ?_ | refine XT ?_ | refine XF ?_ | refine XC (fun h => ?_) (fun h => ?_) | refine X0 ?_ | refine Xv ?_ | refine X1 (ac_EventOk e) ?_ | simp only [go_sem, optI, Option.getD_some, Option.getD_none, Int.reduceToNat, reduceIte, Nat.reduceEqDiff, Nat.reduceAdd, Nat.reduceMul, Nat.reduceSub, Nat.reduceLT, Nat.reduceLeDiff, reduceCtorEq, *] | refine Xs _ (fun h => ?_) (fun h => ?_) | with_reducible refine And.intro ?_ ?_
    all_goals first | omega | (simp; omega) | skip
    all_goals first
      | (exfalso; simp_all [eventFit]; done)
      | (exfalso; simp_all [eventFit]; omega)
      | (refine Xrp ?_; simp [resOf, Wn.le, Wn.leL, Wn.cw, C.scal, scal, eventText, hf', vS, vB]; done)
      | skip
set_option maxHeartbeats 4000000 in
theorem ac_EventText' (e : Event) : AC Try.prog 34 [encEv e] (.tup [vS (eventText e), vB (eventFit e)]) [] := by
  have hc := credText_len e.cred
  have l1 := varI_len e.kind
  have l2 := varI_len e.place
  have l3 := varI_len e.num
  have l4 := varI_len (credText e.cred).length
  have l5 := varI_len (sb e.text).length
  by_cases hf : eventFit e = true
  · obtain ⟨h1, h2, h3, h4, h5, h6, h7, h8⟩ := fit_facts hf
    have e1 : decide (e.place > 1000000000) = false := by simp; omega
    have e2 : decide (e.num > 1000000000) = false := by simp; omega
    have e3 : decide (1000000000 < e.place) = false := by simp; omega
    have e4 : decide (1000000000 < e.num) = false := by simp; omega
    refine XA good (fn := Try.f34) rfl ?_
    simp only [entry, List.getD_cons_zero, List.getD_cons_succ]
    repeat' first | refine SW.step good fun K hK => ?_ | refine X2 good fun K hK => ?_ | refine X3 good fun K hK => ?_ | refine SW.seqK fun J hJ => ?_ | refine SW.last good fun K hK => ?_ | (refine hK _ ?_; clear hK K) | (refine hJ _ _ (Wk.refl _) ?_; clear hJ J) | clear hK K | clear hJ J | refine SW.skip ?_ | refine SW.ret ?_ | refine SW.retT ?_ | refine SW.retB ?_ | refine SW.exit ?_ | refine SW.exitT ?_ | refine SW.exitB ?_ | refine XN ?_ | refine SW.block ?_ | refine SW.normB ?_ | refine SW.normT ?_ | refine XT ?_ | refine XF ?_ | refine XC (fun h => ?_) (fun h => ?_) | refine X0 ?_ | refine Xv ?_ | refine X1 (ac_EventOk' e) ?_ | refine X1 (ac_CredText' e.cred) ?_ | refine X1 (ac_var' _ (by omega) (by omega)) ?_ | simp only [go_sem, optI, Option.getD_some, Option.getD_none, Int.reduceToNat, reduceIte, Nat.reduceEqDiff, Nat.reduceAdd, Nat.reduceMul, Nat.reduceSub, Nat.reduceLT, Nat.reduceLeDiff, reduceCtorEq, *] | refine Xs _ (fun h => ?_) (fun h => ?_) | with_reducible refine And.intro ?_ ?_
    all_goals first | omega | (simp; omega) | skip
    all_goals refine Xrp ?_
    all_goals simp [resOf, Wn.le, Wn.leL, Wn.cw, C.scal, scal, eventText, hf, vS, vB]
  · have hf' : eventFit e = false := by simpa using hf
    refine XA good (fn := Try.f34) rfl ?_
    simp only [entry, List.getD_cons_zero, List.getD_cons_succ]
    repeat' first | refine SW.step good fun K hK => ?_ | refine X2 good fun K hK => ?_ | refine X3 good fun K hK => ?_ | refine SW.seqK fun J hJ => ?_ | refine SW.last good fun K hK => ?_ | (refine hK _ ?_; clear hK K) | (refine hJ _ _ (Wk.refl _) ?_; clear hJ J) | clear hK K | clear hJ J | refine SW.skip ?_ | refine SW.ret ?_ | refine SW.retT ?_ | refine SW.retB ?_ | refine SW.exit ?_ | refine SW.exitT ?_ | refine SW.exitB ?_ | refine XN ?_ | refine SW.block ?_ | refine SW.normB ?_ | refine SW.normT ?_ | refine XT ?_ | refine XF ?_ | refine XC (fun h => ?_) (fun h => ?_) | refine X0 ?_ | refine Xv ?_ | refine X1 (ac_EventOk' e) ?_ | simp only [go_sem, optI, Option.getD_some, Option.getD_none, Int.reduceToNat, reduceIte, Nat.reduceEqDiff, Nat.reduceAdd, Nat.reduceMul, Nat.reduceSub, Nat.reduceLT, Nat.reduceLeDiff, reduceCtorEq, *] | refine Xs _ (fun h => ?_) (fun h => ?_) | with_reducible refine And.intro ?_ ?_
    all_goals first | omega | (simp; omega) | skip
    all_goals first
      | (exfalso; simp_all [eventFit]; done)
      | (exfalso; simp_all [eventFit]; omega)
      | (refine Xrp ?_; simp [resOf, Wn.le, Wn.leL, Wn.cw, C.scal, scal, eventText, hf', vS, vB]; done)
      | skip
end Go.Proofs.Ytbpfciidbgkekaa.AB
