/- The law of loads. -/
import Derived.Test.YtbpfciidbgkekaaAbHiInts
import Derived.Test.YtbpfciidbgkekaaAbGvLoad
namespace Go.Proofs.Ytbpfciidbgkekaa.AB
open Go
set_option maxRecDepth 100000
set_option linter.unusedSimpArgs false
set_option linter.unusedVariables false
set_option maxHeartbeats 2000000 in
theorem ac_lawLoadOf (L : List Peer) (hL : L.length ≤ 9223372036854775807) (hT : ∀ p, p ∈ L → p.ok) :
    AC Try.prog 19 [encRing false L] (vB true) [] := by
  have hs1 := ac_szRing L 1048576 (by omega) (by omega) hL hT
  by_cases h1 : (1048576 : Int) < (peersSz L : Nat)
  · rw [szOf_n h1] at hs1
    refine XA good (fn := Try.f19) rfl ?_
    simp only [entry, List.getD_cons_zero, List.getD_cons_succ]
    repeat' first | refine SW.step good fun K hK => ?_ | refine X2 good fun K hK => ?_ | refine X3 good fun K hK => ?_ | refine SW.seqK fun J hJ => ?_ | refine SW.last good fun K hK => ?_ | (refine hK _ ?_; clear hK K) | (refine hJ _ _ (Wk.refl _) ?_; clear hJ J) | clear hK K | clear hJ J | refine SW.skip ?_ | refine SW.ret ?_ | refine SW.retT ?_ | refine SW.retB ?_ | refine SW.exit ?_ | refine SW.exitT ?_ | refine SW.exitB ?_ | refine XN ?_ | refine SW.block ?_ | refine SW.normB ?_ | refine SW.normT ?_ | refine XT ?_ | refine XF ?_ | refine XC (fun h => ?_) (fun h => ?_) | refine X0 ?_ | refine Xv ?_ | refine X1 (hs1) ?_ | simp only [go_sem, optI, Option.getD_some, Option.getD_none, Int.reduceToNat, reduceIte, Nat.reduceEqDiff, Nat.reduceAdd, Nat.reduceMul, Nat.reduceSub, Nat.reduceLT, Nat.reduceLeDiff, reduceCtorEq, *] | refine Xs _ (fun h => ?_) (fun h => ?_) | with_reducible refine And.intro ?_ ?_
    all_goals refine Xrb ?_
    all_goals rfl
  · rw [szOf_p h1] at hs1
    have e1 : decide ((1048576 : Int) - (peersSz L : Nat) < 0) = false := by simp only [decide_eq_false_iff_not]; omega
    have h2 : peersSz L ≤ 1048576 := by omega
    have hs := peers_small h2
    have hmk := mkPeers_le L
    have hn : (loadsOf L).length ≤ 1048576 := by rw [loadsOf_len]; have := hereS_len L; omega
    have hr := mcg_Ring L 1 hs.1 hs.2 (by omega)
    have hm := mc_IntS (loadsOf L) 1 hn (by omega)
    have hh := ac_heldIntS (loadsOf L).length 1 hn (by omega)
    have he := ac_eqIntS (loadsOf L) hn
    have a1 := ac_LoadOf' L h2
    have a2 := ac_LoadOf L h2
    generalize loadsOf L = R at *
    have e2 : decide (((1 + sumOf mkPeer L : Nat) : Int) < 0) = false := by simp; omega
    have e3 : decide (((1 + R.length : Nat) : Int) < 0) = false := by simp; omega
    refine XA good (fn := Try.f19) rfl ?_
    simp only [entry, List.getD_cons_zero, List.getD_cons_succ]
    repeat' first | refine SW.step good fun K hK => ?_ | refine X2 good fun K hK => ?_ | refine X3 good fun K hK => ?_ | refine SW.seqK fun J hJ => ?_ | refine SW.last good fun K hK => ?_ | (refine hK _ ?_; clear hK K) | (refine hJ _ _ (Wk.refl _) ?_; clear hJ J) | clear hK K | clear hJ J | refine SW.skip ?_ | refine SW.ret ?_ | refine SW.retT ?_ | refine SW.retB ?_ | refine SW.exit ?_ | refine SW.exitT ?_ | refine SW.exitB ?_ | refine XN ?_ | refine SW.block ?_ | refine SW.normB ?_ | refine SW.normT ?_ | refine XT ?_ | refine XF ?_ | refine XC (fun h => ?_) (fun h => ?_) | refine Xr (ac_toRing L hs.1 hs.2) ?_ | refine X0 ?_ | refine Xv ?_ | refine X1 (hs1) ?_ | refine X1 (a1) ?_ | refine X1 (a2) ?_ | refine X1 (he) ?_ | refine X1 (ac_eqRing L hs.1 hs.2) ?_ | refine X1 (hh) ?_ | (refine Xm (.s 20 0) ?_; first | refine Xd (hr) ?_ | refine Xa (hr) ?_ | refine Xb (hr) ?_) | (refine Xm (.s 22 0) ?_; first | refine Xd (hm) ?_ | refine Xa (hm) ?_ | refine Xb (hm) ?_) | simp only [go_sem, optI, Option.getD_some, Option.getD_none, Int.reduceToNat, reduceIte, Nat.reduceEqDiff, Nat.reduceAdd, Nat.reduceMul, Nat.reduceSub, Nat.reduceLT, Nat.reduceLeDiff, reduceCtorEq, *] | refine Xs _ (fun h => ?_) (fun h => ?_) | with_reducible refine And.intro ?_ ?_
    all_goals first | omega | (simp; omega) | skip
    all_goals first | (refine Xrb ?_; rfl) | skip
end Go.Proofs.Ytbpfciidbgkekaa.AB
