/- Events as texts. -/
import Derived.Test.YtbpfciidbgkekaaAbFeEv
namespace Go.Proofs.Ytbpfciidbgkekaa.AB
open Go
set_option maxRecDepth 100000
set_option linter.unusedSimpArgs false
set_option linter.unusedVariables false
def credNone (c : Cred) : Bool := c.kind == 0 && (c.of.who == 0 && (c.of.name == 0 && (c.who == 0 && (c.a.who == 0 && (c.a.name == 0 && (c.b.who == 0 && (c.b.name == 0 && (c.till == 0 && (c.nonce == 0)))))))))
def eventOk (e : Event) : Bool :=
  inB e.kind 1 11 && (decide (0 ≤ e.place) && (decide (0 ≤ e.num) && (decide ((sb e.text).length ≤ 600) && ((decide (sb e.text = []) || decide (e.kind = 11)) &&
    ((decide (e.kind = 7 ∨ e.kind = 8) && credOk e.cred) || (decide (e.kind = 9) && (credOk e.cred && decide (e.cred.kind = 1))) || (!decide (e.kind = 7 ∨ e.kind = 8 ∨ e.kind = 9) && credNone e.cred))))))
theorem credNone_eq (e : Event) : (e.cred.kind == 0 && (e.cred.of.who == 0 && (e.cred.of.name == 0 && (e.cred.who == 0 && (e.cred.a.who == 0 && (e.cred.a.name == 0 && (e.cred.b.who == 0 && (e.cred.b.name == 0 && (e.cred.till == 0 && (e.cred.nonce == 0)))))))))) = credNone e.cred := rfl
theorem none_ok {c : Cred} (h : credNone c = true) (k : credOk c = true) : False := by
  simp [credNone, credOk, inB] at h k
  omega
set_option maxHeartbeats 4000000 in
theorem ac_EventOk (e : Event) : AC Try.prog 93 [encEv e] (vB (eventOk e)) [] := by
  have hx := @none_ok e.cred
  refine XA good (fn := Try.f93) rfl ?_
  simp only [entry, List.getD_cons_zero, List.getD_cons_succ]
  repeat' first | refine SW.step good fun K hK => ?_ | refine X2 good fun K hK => ?_ | refine X3 good fun K hK => ?_ | refine SW.seqK fun J hJ => ?_ | refine SW.last good fun K hK => ?_ | (refine hK _ ?_; clear hK K) | (refine hJ _ _ (Wk.refl _) ?_; clear hJ J) | clear hK K | clear hJ J | refine SW.skip ?_ | refine SW.ret ?_ | refine SW.retT ?_ | refine SW.retB ?_ | refine SW.exit ?_ | refine SW.exitT ?_ | refine SW.exitB ?_ | refine XN ?_ | refine SW.block ?_ | refine SW.normB ?_ | refine SW.normT ?_ | refine XT ?_ | refine XF ?_ | refine XC (fun h => ?_) (fun h => ?_) | refine X0 ?_ | refine Xv ?_ | refine X1 (ac_in _ _ _) ?_ | refine X1 (ac_CredOk e.cred) ?_ | simp only [go_sem, optI, Option.getD_some, Option.getD_none, Int.reduceToNat, reduceIte, Nat.reduceEqDiff, Nat.reduceAdd, Nat.reduceMul, Nat.reduceSub, Nat.reduceLT, Nat.reduceLeDiff, reduceCtorEq, *] | refine Xs _ (fun h => ?_) (fun h => ?_) | with_reducible refine And.intro ?_ ?_
  all_goals first | (intro r hr; simp at hr; subst hr; rfl) | (simp [bytesC]; omega) | (simp; done) | omega | rfl | skip
  all_goals refine Xrb ?_
  all_goals (try simp only [credNone_eq] at *)
  all_goals unfold eventOk inB
  all_goals rw [Bool.eq_iff_iff]
  all_goals (generalize credNone e.cred = cn at *; generalize credOk e.cred = co at *; by_cases ht : sb e.text = [])
  all_goals (rcases cn with _ | _ <;> rcases co with _ | _ <;> first | (exfalso; exact hx rfl rfl) | skip)
  all_goals first | (simp [ht] at * <;> omega) | skip
theorem ac_credless (n : Int) : AC Try.prog 151 [vI n] (vB (!(decide (n = 7) || (decide (n = 8) || decide (n = 9))))) [] := by
  refine XA good (fn := Try.f151) rfl ?_
  simp only [entry, List.getD_cons_zero, List.getD_cons_succ]
  repeat' first | refine SW.step good fun K hK => ?_ | refine X2 good fun K hK => ?_ | refine X3 good fun K hK => ?_ | refine SW.seqK fun J hJ => ?_ | refine SW.last good fun K hK => ?_ | (refine hK _ ?_; clear hK K) | (refine hJ _ _ (Wk.refl _) ?_; clear hJ J) | clear hK K | clear hJ J | refine SW.skip ?_ | refine SW.ret ?_ | refine SW.retT ?_ | refine SW.retB ?_ | refine SW.exit ?_ | refine SW.exitT ?_ | refine SW.exitB ?_ | refine XN ?_ | refine SW.block ?_ | refine SW.normB ?_ | refine SW.normT ?_ | refine XT ?_ | refine XF ?_ | refine XC (fun h => ?_) (fun h => ?_) | simp only [go_sem, optI, Option.getD_some, Option.getD_none, Int.reduceToNat, reduceIte, Nat.reduceEqDiff, Nat.reduceAdd, Nat.reduceMul, Nat.reduceSub, Nat.reduceLT, Nat.reduceLeDiff, reduceCtorEq, *] | refine Xs _ (fun h => ?_) (fun h => ?_) | with_reducible refine And.intro ?_ ?_
  all_goals refine Xrb ?_
  all_goals simp_all
set_option maxHeartbeats 4000000 in
theorem ac_EventOk' (e : Event) : AC Try.prog 90 [encEv e] (vB (eventOk e)) [] := by
  have hx := @none_ok e.cred
  refine XA good (fn := Try.f90) rfl ?_
  simp only [entry, List.getD_cons_zero, List.getD_cons_succ]
  repeat' first | refine SW.step good fun K hK => ?_ | refine X2 good fun K hK => ?_ | refine X3 good fun K hK => ?_ | refine SW.seqK fun J hJ => ?_ | refine SW.last good fun K hK => ?_ | (refine hK _ ?_; clear hK K) | (refine hJ _ _ (Wk.refl _) ?_; clear hJ J) | clear hK K | clear hJ J | refine SW.skip ?_ | refine SW.ret ?_ | refine SW.retT ?_ | refine SW.retB ?_ | refine SW.exit ?_ | refine SW.exitT ?_ | refine SW.exitB ?_ | refine XN ?_ | refine SW.block ?_ | refine SW.normB ?_ | refine SW.normT ?_ | refine XT ?_ | refine XF ?_ | refine XC (fun h => ?_) (fun h => ?_) | refine X0 ?_ | refine Xv ?_ | refine X1 (ac_in' _ _ _) ?_ | refine X1 (ac_credless _) ?_ | refine X1 (ac_CredOk' e.cred) ?_ | simp only [go_sem, optI, Option.getD_some, Option.getD_none, Int.reduceToNat, reduceIte, Nat.reduceEqDiff, Nat.reduceAdd, Nat.reduceMul, Nat.reduceSub, Nat.reduceLT, Nat.reduceLeDiff, reduceCtorEq, *] | refine Xs _ (fun h => ?_) (fun h => ?_) | with_reducible refine And.intro ?_ ?_
  all_goals first | (intro r hr; simp at hr; subst hr; rfl) | (simp [bytesC]; omega) | (simp; done) | omega | rfl | skip
  all_goals refine Xrb ?_
  all_goals (try simp only [credNone_eq] at *)
  all_goals unfold eventOk inB
  all_goals rw [Bool.eq_iff_iff]
  all_goals (generalize credNone e.cred = cn at *; generalize credOk e.cred = co at *; by_cases ht : sb e.text = [])
  all_goals (rcases cn with _ | _ <;> rcases co with _ | _ <;> first | (exfalso; exact hx rfl rfl) | skip)
  all_goals first | (simp [ht] at * <;> omega) | skip
end Go.Proofs.Ytbpfciidbgkekaa.AB
