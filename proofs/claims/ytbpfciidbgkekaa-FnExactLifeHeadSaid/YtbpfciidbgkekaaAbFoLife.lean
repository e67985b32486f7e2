/- The law FnExactLifeText. -/
import Derived.Test.YtbpfciidbgkekaaAbFnLife
namespace Go.Proofs.Ytbpfciidbgkekaa.AB
open Go
set_option maxRecDepth 100000
set_option linter.unusedSimpArgs false
set_option linter.unusedVariables false
theorem szOf_neg {n : Nat} {l : Int} (h : l < n) (h0 : 0 ≤ l) : decide (szOf n l < 0) = true := by simp [szOf, h]
theorem szOf_pos {n : Nat} {l : Int} (h : (n : Int) ≤ l) : szOf n l = l - n := by unfold szOf; rw [if_neg (by omega)]
theorem lifeText_len (L : List Event) : (lifeText L).length ≤ 48000 := by
  unfold lifeText
  split
  · rename_i h
    unfold lifeFit at h
    simp only [Bool.and_eq_true, decide_eq_true_eq] at h
    have := lifeT_len L
    omega
  · simp
set_option maxHeartbeats 1000000 in
theorem ac_lawLifeText (L : List Event) (hL : L.length ≤ 9223372036854775807) (hT : ∀ e, e ∈ L → (sb e.text).length ≤ 9223372036854775807) :
    AC Try.prog 8 [.c false (.sl (L.map evC))] (vB true) [] := by
  have hs1 := ac_szEventS L 1048576 (by omega) (by omega) hL hT
  have hle := lifeText_len L
  by_cases h1 : (1048576 : Int) < (L.length + textsLen L : Nat)
  · have e1 := szOf_neg h1 (by omega)
    refine XA good (fn := Try.f8) rfl ?_
    simp only [entry, List.getD_cons_zero, List.getD_cons_succ]
    repeat' first | refine SW.step good fun K hK => ?_ | refine X2 good fun K hK => ?_ | refine X3 good fun K hK => ?_ | refine SW.seqK fun J hJ => ?_ | refine SW.last good fun K hK => ?_ | (refine hK _ ?_; clear hK K) | (refine hJ _ _ (Wk.refl _) ?_; clear hJ J) | clear hK K | clear hJ J | refine SW.skip ?_ | refine SW.ret ?_ | refine SW.retT ?_ | refine SW.retB ?_ | refine SW.exit ?_ | refine SW.exitT ?_ | refine SW.exitB ?_ | refine XN ?_ | refine SW.block ?_ | refine SW.normB ?_ | refine SW.normT ?_ | refine XT ?_ | refine XF ?_ | refine XC (fun h => ?_) (fun h => ?_) | refine X0 ?_ | refine Xv ?_ | refine X1 (hs1) ?_ | simp only [go_sem, optI, Option.getD_some, Option.getD_none, Int.reduceToNat, reduceIte, Nat.reduceEqDiff, Nat.reduceAdd, Nat.reduceMul, Nat.reduceSub, Nat.reduceLT, Nat.reduceLeDiff, reduceCtorEq, *] | refine Xs _ (fun h => ?_) (fun h => ?_) | with_reducible refine And.intro ?_ ?_
    all_goals refine Xrb ?_
    all_goals rfl
  · rw [szOf_pos (by omega)] at hs1
    have e1 : decide ((1048576 : Int) - (L.length + textsLen L : Nat) < 0) = false := by simp only [decide_eq_false_iff_not]; omega
    have hl1 : L.length ≤ 1048576 := by omega
    refine XA good (fn := Try.f8) rfl ?_
    simp only [entry, List.getD_cons_zero, List.getD_cons_succ]
    repeat' first | refine SW.step good fun K hK => ?_ | refine X2 good fun K hK => ?_ | refine X3 good fun K hK => ?_ | refine SW.seqK fun J hJ => ?_ | refine SW.last good fun K hK => ?_ | (refine hK _ ?_; clear hK K) | (refine hJ _ _ (Wk.refl _) ?_; clear hJ J) | clear hK K | clear hJ J | refine SW.skip ?_ | refine SW.ret ?_ | refine SW.retT ?_ | refine SW.retB ?_ | refine SW.exit ?_ | refine SW.exitT ?_ | refine SW.exitB ?_ | refine XN ?_ | refine SW.block ?_ | refine SW.normB ?_ | refine SW.normT ?_ | refine XT ?_ | refine XF ?_ | refine XC (fun h => ?_) (fun h => ?_) | refine X0 ?_ | refine Xv ?_ | refine X1 (hs1) ?_ | refine X1 (ac_toEventS L hl1) ?_ | refine X1 (ac_LifeText' L hl1) ?_ | refine X1 (ac_LifeText L hl1) ?_ | refine X1 (ac_eqEventS L hl1) ?_ | simp only [go_sem, optI, Option.getD_some, Option.getD_none, Int.reduceToNat, reduceIte, Nat.reduceEqDiff, Nat.reduceAdd, Nat.reduceMul, Nat.reduceSub, Nat.reduceLT, Nat.reduceLeDiff, reduceCtorEq, *] | refine Xs _ (fun h => ?_) (fun h => ?_) | with_reducible refine And.intro ?_ ?_
    all_goals first | omega | (simp; omega) | skip
    all_goals first | (refine Xrb ?_; rfl) | skip
    all_goals trace_state
end Go.Proofs.Ytbpfciidbgkekaa.AB
