/- Peers that are right: the program's function. -/
import Derived.Test.YtbpfciidbgkekaaAbGfShelf
namespace Go.Proofs.Ytbpfciidbgkekaa.AB
open Go
set_option maxRecDepth 100000
set_option linter.unusedSimpArgs false
set_option linter.unusedVariables false
def badB (p : Peer) (n : Int) : Bool := !inB n 0 255 || decide (n = p.id)
def badF (n : Int) : Bool := !decide (n = -1) && !inB n 0 255
def peerOk (p : Peer) : Bool := inB p.id 0 255 && (if p.here = true then
    inB p.ahead (-1) 255 && (decide (p.behind.length ≤ 3) && (decide (p.fingers.length = 8) && (!p.behind.any (badB p) && (!p.fingers.any badF && shelvesOk p.shelves))))
  else decide (p.ahead = 0) && (decide (p.behind.length = 0) && (decide (p.fingers.length = 0) && decide (p.shelves.length = 0))))
theorem ac_PeerOk1 (p : Peer) (n : Int) : AC Try.prog 161 [vI n, .ip true (peerC p)] (vB (badB p n)) [] := by
  refine XA good (fn := Try.f161) rfl ?_
  simp only [entry, List.getD_cons_zero, List.getD_cons_succ]
  repeat' first | refine SW.step good fun K hK => ?_ | refine X2 good fun K hK => ?_ | refine X3 good fun K hK => ?_ | refine SW.seqK fun J hJ => ?_ | refine SW.last good fun K hK => ?_ | (refine hK _ ?_; clear hK K) | (refine hJ _ _ (Wk.refl _) ?_; clear hJ J) | clear hK K | clear hJ J | refine SW.skip ?_ | refine SW.ret ?_ | refine SW.retT ?_ | refine SW.retB ?_ | refine SW.exit ?_ | refine SW.exitT ?_ | refine SW.exitB ?_ | refine XN ?_ | refine SW.block ?_ | refine SW.normB ?_ | refine SW.normT ?_ | refine XT ?_ | refine XF ?_ | refine XC (fun h => ?_) (fun h => ?_) | refine X0 ?_ | refine Xv ?_ | refine X1 (ac_isPlace _) ?_ | simp only [go_sem, optI, Option.getD_some, Option.getD_none, Int.reduceToNat, reduceIte, Nat.reduceEqDiff, Nat.reduceAdd, Nat.reduceMul, Nat.reduceSub, Nat.reduceLT, Nat.reduceLeDiff, reduceCtorEq, *] | refine Xs _ (fun h => ?_) (fun h => ?_) | with_reducible refine And.intro ?_ ?_
  all_goals refine Xrb ?_
  all_goals simp_all [badB]
theorem ac_PeerOk2 (n : Int) : AC Try.prog 162 [vI n] (vB (badF n)) [] := by
  refine XA good (fn := Try.f162) rfl ?_
  simp only [entry, List.getD_cons_zero, List.getD_cons_succ]
  repeat' first | refine SW.step good fun K hK => ?_ | refine X2 good fun K hK => ?_ | refine X3 good fun K hK => ?_ | refine SW.seqK fun J hJ => ?_ | refine SW.last good fun K hK => ?_ | (refine hK _ ?_; clear hK K) | (refine hJ _ _ (Wk.refl _) ?_; clear hJ J) | clear hK K | clear hJ J | refine SW.skip ?_ | refine SW.ret ?_ | refine SW.retT ?_ | refine SW.retB ?_ | refine SW.exit ?_ | refine SW.exitT ?_ | refine SW.exitB ?_ | refine XN ?_ | refine SW.block ?_ | refine SW.normB ?_ | refine SW.normT ?_ | refine XT ?_ | refine XF ?_ | refine XC (fun h => ?_) (fun h => ?_) | refine X0 ?_ | refine Xv ?_ | refine X1 (ac_isPlace _) ?_ | simp only [go_sem, optI, Option.getD_some, Option.getD_none, Int.reduceToNat, reduceIte, Nat.reduceEqDiff, Nat.reduceAdd, Nat.reduceMul, Nat.reduceSub, Nat.reduceLT, Nat.reduceLeDiff, reduceCtorEq, *] | refine Xs _ (fun h => ?_) (fun h => ?_) | with_reducible refine And.intro ?_ ?_
  all_goals refine Xrb ?_
  all_goals simp_all [badF]
set_option maxHeartbeats 4000000 in
theorem ac_PeerOk (p : Peer) (hp : p.small) : AC Try.prog 116 [encPeer true p] (vB (peerOk p)) [] := by
  obtain ⟨p1, p2, p3, p4⟩ := hp
  have c1 := ac_AnyI1 p.behind 161 (peerC p) (badB p) (by omega) (fun n _ => ac_PeerOk1 p n)
  have c2 := ac_AnyI0 p.fingers 162 badF (by omega) (fun n _ => ac_PeerOk2 n)
  have c3 := ac_shelvesOk p.shelves p3 p4
  have hpk : peerOk p = peerOk p := rfl
  conv at hpk => rhs; unfold peerOk
  cases ha : inB p.id 0 255 with
  | false =>
    have hb := ac_isPlace p.id
    rw [ha] at hb hpk
    simp only [Bool.false_and] at hpk
    refine XA good (fn := Try.f116) rfl ?_
    simp only [entry, List.getD_cons_zero, List.getD_cons_succ]
    repeat' first | refine SW.step good fun K hK => ?_ | refine X2 good fun K hK => ?_ | refine X3 good fun K hK => ?_ | refine SW.seqK fun J hJ => ?_ | refine SW.last good fun K hK => ?_ | (refine hK _ ?_; clear hK K) | (refine hJ _ _ (Wk.refl _) ?_; clear hJ J) | clear hK K | clear hJ J | refine SW.skip ?_ | refine SW.ret ?_ | refine SW.retT ?_ | refine SW.retB ?_ | refine SW.exit ?_ | refine SW.exitT ?_ | refine SW.exitB ?_ | refine XN ?_ | refine SW.block ?_ | refine SW.normB ?_ | refine SW.normT ?_ | refine XT ?_ | refine XF ?_ | refine XC (fun h => ?_) (fun h => ?_) | refine X0 ?_ | refine Xv ?_ | refine X1 (hb) ?_ | simp only [go_sem, optI, Option.getD_some, Option.getD_none, Int.reduceToNat, reduceIte, Nat.reduceEqDiff, Nat.reduceAdd, Nat.reduceMul, Nat.reduceSub, Nat.reduceLT, Nat.reduceLeDiff, reduceCtorEq, *] | refine Xs _ (fun h => ?_) (fun h => ?_) | with_reducible refine And.intro ?_ ?_
    all_goals refine Xrb ?_
    all_goals first | exact hpk | rfl
  | true =>
    have hb := ac_isPlace p.id
    have hd := ac_isPlace p.ahead
    have hah : inB p.ahead (-1) 255 = (decide (p.ahead = -1) || inB p.ahead 0 255) := by
      unfold inB
      rw [Bool.eq_iff_iff]
      simp only [decide_eq_true_eq, Bool.or_eq_true]; omega
    rw [ha] at hpk hb
    rw [hah] at hpk
    clear hah ha
    cases hh : p.here with
    | false =>
      simp only [hh, Bool.true_and, Bool.false_eq_true, if_false] at hpk
      clear c1 c2 c3 hd
      refine XA good (fn := Try.f116) rfl ?_
      simp only [entry, List.getD_cons_zero, List.getD_cons_succ]
      repeat' first | refine SW.step good fun K hK => ?_ | refine X2 good fun K hK => ?_ | refine X3 good fun K hK => ?_ | refine SW.seqK fun J hJ => ?_ | refine SW.last good fun K hK => ?_ | (refine hK _ ?_; clear hK K) | (refine hJ _ _ (Wk.refl _) ?_; clear hJ J) | clear hK K | clear hJ J | refine SW.skip ?_ | refine SW.ret ?_ | refine SW.retT ?_ | refine SW.retB ?_ | refine SW.exit ?_ | refine SW.exitT ?_ | refine SW.exitB ?_ | refine XN ?_ | refine SW.block ?_ | refine SW.normB ?_ | refine SW.normT ?_ | refine XT ?_ | refine XF ?_ | refine XC (fun h => ?_) (fun h => ?_) | refine X0 ?_ | refine Xv ?_ | refine X1 (hb) ?_ | simp only [go_sem, optI, Option.getD_some, Option.getD_none, Int.reduceToNat, reduceIte, Nat.reduceEqDiff, Nat.reduceAdd, Nat.reduceMul, Nat.reduceSub, Nat.reduceLT, Nat.reduceLeDiff, reduceCtorEq, *] | refine Xs _ (fun h => ?_) (fun h => ?_) | with_reducible refine And.intro ?_ ?_
      all_goals refine Xrb ?_
      all_goals (try rw [hpk])
      all_goals (clear hpk; simp_all)
    | true =>
      simp only [hh, Bool.true_and, if_true] at hpk
      simp only [peerC, hh] at c1
      rw [show decide (p.behind.length ≤ 3) = !decide ((3 : Int) < (p.behind.length : Int)) from by rw [Bool.eq_iff_iff]; simp; omega,
        show decide (p.fingers.length = 8) = decide ((p.fingers.length : Int) = 8) from by rw [decide_eq_decide]; omega] at hpk
      generalize p.behind.any (badB p) = u at *
      generalize p.fingers.any badF = v at *
      generalize shelvesOk p.shelves = w at *
      refine XA good (fn := Try.f116) rfl ?_
      simp only [entry, List.getD_cons_zero, List.getD_cons_succ]
      repeat' first | refine SW.step good fun K hK => ?_ | refine X2 good fun K hK => ?_ | refine X3 good fun K hK => ?_ | refine SW.seqK fun J hJ => ?_ | refine SW.last good fun K hK => ?_ | (refine hK _ ?_; clear hK K) | (refine hJ _ _ (Wk.refl _) ?_; clear hJ J) | clear hK K | clear hJ J | refine SW.skip ?_ | refine SW.ret ?_ | refine SW.retT ?_ | refine SW.retB ?_ | refine SW.exit ?_ | refine SW.exitT ?_ | refine SW.exitB ?_ | refine XN ?_ | refine SW.block ?_ | refine SW.normB ?_ | refine SW.normT ?_ | refine XT ?_ | refine XF ?_ | refine XC (fun h => ?_) (fun h => ?_) | refine X0 ?_ | refine Xv ?_ | refine X1 (hb) ?_ | refine X1 (hd) ?_ | refine X1 (c1) ?_ | refine X1 (c2) ?_ | refine X1 (c3) ?_ | simp only [go_sem, optI, Option.getD_some, Option.getD_none, Int.reduceToNat, reduceIte, Nat.reduceEqDiff, Nat.reduceAdd, Nat.reduceMul, Nat.reduceSub, Nat.reduceLT, Nat.reduceLeDiff, reduceCtorEq, *] | refine Xs _ (fun h => ?_) (fun h => ?_) | with_reducible refine And.intro ?_ ?_
      all_goals refine Xrb ?_
      all_goals (try rw [hpk])
      all_goals (clear hpk; simp_all)
end Go.Proofs.Ytbpfciidbgkekaa.AB
