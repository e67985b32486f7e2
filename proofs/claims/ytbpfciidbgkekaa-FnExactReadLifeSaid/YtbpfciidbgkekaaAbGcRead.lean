/- An event is read. -/
import Derived.Test.YtbpfciidbgkekaaAbGbCred
import Derived.Test.YtbpfciidbgkekaaAbFyScan
namespace Go.Proofs.Ytbpfciidbgkekaa.AB
open Go
set_option maxRecDepth 100000
set_option linter.unusedSimpArgs false
set_option linter.unusedVariables false
theorem scText_len (t : List UInt8) (s : Sc) : (scText t s).1.length ≤ t.length := by
  unfold scText
  split
  · simp
  · split
    · rename_i x e hx
      obtain ⟨_, _, _, h4, h5⟩ := readShort_spec hx
      have := congrArg List.length h5
      simp at this; simp only; omega
    · simp
set_option maxHeartbeats 4000000 in
theorem ac_ReadEvent (t : List UInt8) (p : Int) (ht : t.length ≤ 4611686018427387904) : AC Try.prog 45 [vS t, vI p] (.tup [encEv (readEvI t p).1, vI (readEvI t p).2.1, vB (readEvI t p).2.2]) [] := by
  have m1 := mc_number t 1000000000 (p, false) ht
  unfold readEvI
  generalize scNum t 1000000000 (p, false) = a at *
  obtain ⟨a1, a2⟩ := a
  have m2 := mc_number t 1000000000 a2 ht
  simp only at m1 m2 ⊢
  generalize scNum t 1000000000 a2 = b at *
  obtain ⟨b1, b2⟩ := b
  have m3 := mc_number t 1000000000 b2 ht
  simp only at m2 m3 ⊢
  generalize scNum t 1000000000 b2 = c at *
  obtain ⟨c1, c2⟩ := c
  have m4 := mc_text t c2 ht
  simp only at m3 m4 ⊢
  have hdl := scText_len t c2
  generalize scText t c2 = d at *
  obtain ⟨d1, d2⟩ := d
  have m5 := mc_text t d2 ht
  simp only at m4 m5 hdl ⊢
  generalize scText t d2 = x at *
  obtain ⟨x1, x2, x3⟩ := x
  obtain ⟨a2, a3⟩ := a2
  obtain ⟨b2, b3⟩ := b2
  obtain ⟨c2, c3⟩ := c2
  obtain ⟨d2, d3⟩ := d2
  simp only [scO] at m1 m2 m3 m4 m5 ⊢
  have hr := ac_ReadCred d1 (by omega)
  unfold rcC rcB at hr
  cases d1 with
  | nil =>
    clear hr hdl
    have he := ac_EventOk ⟨a1, b1, c1, credZ, ⟨x1.toArray⟩⟩
    rw [if_pos rfl]
    simp only
    cases x3 with
    | true =>
      rw [if_pos (.inl rfl)]
      refine XA good (fn := Try.f45) rfl ?_
      simp only [entry, List.getD_cons_zero, List.getD_cons_succ]
      repeat' first | refine SW.step good fun K hK => ?_ | refine X2 good fun K hK => ?_ | refine X3 good fun K hK => ?_ | refine SW.seqK fun J hJ => ?_ | refine SW.last good fun K hK => ?_ | (refine hK _ ?_; clear hK K) | (refine hJ _ _ (Wk.refl _) ?_; clear hJ J) | clear hK K | clear hJ J | refine SW.skip ?_ | refine SW.ret ?_ | refine SW.retT ?_ | refine SW.retB ?_ | refine SW.exit ?_ | refine SW.exitT ?_ | refine SW.exitB ?_ | refine XN ?_ | refine SW.block ?_ | refine SW.normB ?_ | refine SW.normT ?_ | refine XT ?_ | refine XF ?_ | refine XC (fun h => ?_) (fun h => ?_) | refine X0 ?_ | refine Xv ?_ | refine X1 (he) ?_ | (refine Xm (.s 15 0) ?_; first | refine Xa (m1) ?_ | refine Xb (m1) ?_) | (refine Xm (.s 15 0) ?_; first | refine Xa (m2) ?_ | refine Xb (m2) ?_) | (refine Xm (.s 15 0) ?_; first | refine Xa (m3) ?_ | refine Xb (m3) ?_) | (refine Xm (.s 15 0) ?_; first | refine Xa (m4) ?_ | refine Xb (m4) ?_) | (refine Xm (.s 15 0) ?_; first | refine Xa (m5) ?_ | refine Xb (m5) ?_) | simp only [go_sem, optI, Option.getD_some, Option.getD_none, Int.reduceToNat, reduceIte, Nat.reduceEqDiff, Nat.reduceAdd, Nat.reduceMul, Nat.reduceSub, Nat.reduceLT, Nat.reduceLeDiff, reduceCtorEq, *] | refine Xs _ (fun h => ?_) (fun h => ?_) | with_reducible refine And.intro ?_ ?_
      all_goals first | omega | (simp; done) | (refine Xrp ?_; simp [resOf, Wn.le, Wn.leL, Wn.cw, C.scal, scal, encEv, evZ, credZ]; done) | skip
      all_goals trace_state
    | false =>
      cases hok : eventOk ⟨a1, b1, c1, credZ, ⟨x1.toArray⟩⟩ with
      | false =>
        rw [hok] at he
        rw [if_pos (.inr rfl)]
        clear hok
        refine XA good (fn := Try.f45) rfl ?_
        simp only [entry, List.getD_cons_zero, List.getD_cons_succ]
        repeat' first | refine SW.step good fun K hK => ?_ | refine X2 good fun K hK => ?_ | refine X3 good fun K hK => ?_ | refine SW.seqK fun J hJ => ?_ | refine SW.last good fun K hK => ?_ | (refine hK _ ?_; clear hK K) | (refine hJ _ _ (Wk.refl _) ?_; clear hJ J) | clear hK K | clear hJ J | refine SW.skip ?_ | refine SW.ret ?_ | refine SW.retT ?_ | refine SW.retB ?_ | refine SW.exit ?_ | refine SW.exitT ?_ | refine SW.exitB ?_ | refine XN ?_ | refine SW.block ?_ | refine SW.normB ?_ | refine SW.normT ?_ | refine XT ?_ | refine XF ?_ | refine XC (fun h => ?_) (fun h => ?_) | refine X0 ?_ | refine Xv ?_ | refine X1 (he) ?_ | (refine Xm (.s 15 0) ?_; first | refine Xa (m1) ?_ | refine Xb (m1) ?_) | (refine Xm (.s 15 0) ?_; first | refine Xa (m2) ?_ | refine Xb (m2) ?_) | (refine Xm (.s 15 0) ?_; first | refine Xa (m3) ?_ | refine Xb (m3) ?_) | (refine Xm (.s 15 0) ?_; first | refine Xa (m4) ?_ | refine Xb (m4) ?_) | (refine Xm (.s 15 0) ?_; first | refine Xa (m5) ?_ | refine Xb (m5) ?_) | simp only [go_sem, optI, Option.getD_some, Option.getD_none, Int.reduceToNat, reduceIte, Nat.reduceEqDiff, Nat.reduceAdd, Nat.reduceMul, Nat.reduceSub, Nat.reduceLT, Nat.reduceLeDiff, reduceCtorEq, *] | refine Xs _ (fun h => ?_) (fun h => ?_) | with_reducible refine And.intro ?_ ?_
        all_goals first | omega | (simp; done) | (refine Xrp ?_; simp [resOf, Wn.le, Wn.leL, Wn.cw, C.scal, scal, encEv, evZ, credZ]; done) | skip
        all_goals trace_state
      | true =>
        rw [hok] at he
        rw [if_neg (by simp)]
        clear hok
        refine XA good (fn := Try.f45) rfl ?_
        simp only [entry, List.getD_cons_zero, List.getD_cons_succ]
        repeat' first | refine SW.step good fun K hK => ?_ | refine X2 good fun K hK => ?_ | refine X3 good fun K hK => ?_ | refine SW.seqK fun J hJ => ?_ | refine SW.last good fun K hK => ?_ | (refine hK _ ?_; clear hK K) | (refine hJ _ _ (Wk.refl _) ?_; clear hJ J) | clear hK K | clear hJ J | refine SW.skip ?_ | refine SW.ret ?_ | refine SW.retT ?_ | refine SW.retB ?_ | refine SW.exit ?_ | refine SW.exitT ?_ | refine SW.exitB ?_ | refine XN ?_ | refine SW.block ?_ | refine SW.normB ?_ | refine SW.normT ?_ | refine XT ?_ | refine XF ?_ | refine XC (fun h => ?_) (fun h => ?_) | refine X0 ?_ | refine Xv ?_ | refine X1 (he) ?_ | (refine Xm (.s 15 0) ?_; first | refine Xa (m1) ?_ | refine Xb (m1) ?_) | (refine Xm (.s 15 0) ?_; first | refine Xa (m2) ?_ | refine Xb (m2) ?_) | (refine Xm (.s 15 0) ?_; first | refine Xa (m3) ?_ | refine Xb (m3) ?_) | (refine Xm (.s 15 0) ?_; first | refine Xa (m4) ?_ | refine Xb (m4) ?_) | (refine Xm (.s 15 0) ?_; first | refine Xa (m5) ?_ | refine Xb (m5) ?_) | simp only [go_sem, optI, Option.getD_some, Option.getD_none, Int.reduceToNat, reduceIte, Nat.reduceEqDiff, Nat.reduceAdd, Nat.reduceMul, Nat.reduceSub, Nat.reduceLT, Nat.reduceLeDiff, reduceCtorEq, *] | refine Xs _ (fun h => ?_) (fun h => ?_) | with_reducible refine And.intro ?_ ?_
        all_goals first | omega | (simp; done) | (refine Xrp ?_; simp [resOf, Wn.le, Wn.leL, Wn.cw, C.scal, scal, encEv, evZ, credZ]; done) | skip
        all_goals trace_state
  | cons y ys =>
    rw [if_neg (show ¬ (y :: ys = []) from by simp)]
    cases hrc : readCred (y :: ys) with
    | none =>
      simp only [hrc, Option.getD_none, Option.isSome_none] at hr
      simp only
      rw [if_pos (by simp)]
      clear hrc
      cases x3
      all_goals (
        refine XA good (fn := Try.f45) rfl ?_
        simp only [entry, List.getD_cons_zero, List.getD_cons_succ]
        repeat' first | refine SW.step good fun K hK => ?_ | refine X2 good fun K hK => ?_ | refine X3 good fun K hK => ?_ | refine SW.seqK fun J hJ => ?_ | refine SW.last good fun K hK => ?_ | (refine hK _ ?_; clear hK K) | (refine hJ _ _ (Wk.refl _) ?_; clear hJ J) | clear hK K | clear hJ J | refine SW.skip ?_ | refine SW.ret ?_ | refine SW.retT ?_ | refine SW.retB ?_ | refine SW.exit ?_ | refine SW.exitT ?_ | refine SW.exitB ?_ | refine XN ?_ | refine SW.block ?_ | refine SW.normB ?_ | refine SW.normT ?_ | refine XT ?_ | refine XF ?_ | refine XC (fun h => ?_) (fun h => ?_) | refine X0 ?_ | refine Xv ?_ | refine X1 (hr) ?_ | (refine Xm (.s 15 0) ?_; first | refine Xa (m1) ?_ | refine Xb (m1) ?_) | (refine Xm (.s 15 0) ?_; first | refine Xa (m2) ?_ | refine Xb (m2) ?_) | (refine Xm (.s 15 0) ?_; first | refine Xa (m3) ?_ | refine Xb (m3) ?_) | (refine Xm (.s 15 0) ?_; first | refine Xa (m4) ?_ | refine Xb (m4) ?_) | (refine Xm (.s 15 0) ?_; first | refine Xa (m5) ?_ | refine Xb (m5) ?_) | simp only [go_sem, optI, Option.getD_some, Option.getD_none, Int.reduceToNat, reduceIte, Nat.reduceEqDiff, Nat.reduceAdd, Nat.reduceMul, Nat.reduceSub, Nat.reduceLT, Nat.reduceLeDiff, reduceCtorEq, *] | refine Xs _ (fun h => ?_) (fun h => ?_) | with_reducible refine And.intro ?_ ?_
        all_goals first | omega | (simp; done) | (refine Xrp ?_; simp [resOf, Wn.le, Wn.leL, Wn.cw, C.scal, scal, encEv, evZ, credZ]; done) | skip
        all_goals trace_state)
    | some q =>
      simp only [hrc, Option.getD_some, Option.isSome_some] at hr
      have he := ac_EventOk ⟨a1, b1, c1, q, ⟨x1.toArray⟩⟩
      clear hrc
      simp only
      cases x3 with
      | true =>
        rw [if_pos (by simp)]
        refine XA good (fn := Try.f45) rfl ?_
        simp only [entry, List.getD_cons_zero, List.getD_cons_succ]
        repeat' first | refine SW.step good fun K hK => ?_ | refine X2 good fun K hK => ?_ | refine X3 good fun K hK => ?_ | refine SW.seqK fun J hJ => ?_ | refine SW.last good fun K hK => ?_ | (refine hK _ ?_; clear hK K) | (refine hJ _ _ (Wk.refl _) ?_; clear hJ J) | clear hK K | clear hJ J | refine SW.skip ?_ | refine SW.ret ?_ | refine SW.retT ?_ | refine SW.retB ?_ | refine SW.exit ?_ | refine SW.exitT ?_ | refine SW.exitB ?_ | refine XN ?_ | refine SW.block ?_ | refine SW.normB ?_ | refine SW.normT ?_ | refine XT ?_ | refine XF ?_ | refine XC (fun h => ?_) (fun h => ?_) | refine X0 ?_ | refine Xv ?_ | refine X1 (hr) ?_ | refine X1 (he) ?_ | (refine Xm (.s 15 0) ?_; first | refine Xa (m1) ?_ | refine Xb (m1) ?_) | (refine Xm (.s 15 0) ?_; first | refine Xa (m2) ?_ | refine Xb (m2) ?_) | (refine Xm (.s 15 0) ?_; first | refine Xa (m3) ?_ | refine Xb (m3) ?_) | (refine Xm (.s 15 0) ?_; first | refine Xa (m4) ?_ | refine Xb (m4) ?_) | (refine Xm (.s 15 0) ?_; first | refine Xa (m5) ?_ | refine Xb (m5) ?_) | simp only [go_sem, optI, Option.getD_some, Option.getD_none, Int.reduceToNat, reduceIte, Nat.reduceEqDiff, Nat.reduceAdd, Nat.reduceMul, Nat.reduceSub, Nat.reduceLT, Nat.reduceLeDiff, reduceCtorEq, *] | refine Xs _ (fun h => ?_) (fun h => ?_) | with_reducible refine And.intro ?_ ?_
        all_goals first | omega | (simp; done) | (refine Xrp ?_; simp [resOf, Wn.le, Wn.leL, Wn.cw, C.scal, scal, encEv, evZ, credZ]; done) | skip
        all_goals trace_state
      | false =>
        cases hok : eventOk ⟨a1, b1, c1, q, ⟨x1.toArray⟩⟩ with
        | false =>
          rw [hok] at he
          rw [if_pos (.inr rfl)]
          clear hok
          refine XA good (fn := Try.f45) rfl ?_
          simp only [entry, List.getD_cons_zero, List.getD_cons_succ]
          repeat' first | refine SW.step good fun K hK => ?_ | refine X2 good fun K hK => ?_ | refine X3 good fun K hK => ?_ | refine SW.seqK fun J hJ => ?_ | refine SW.last good fun K hK => ?_ | (refine hK _ ?_; clear hK K) | (refine hJ _ _ (Wk.refl _) ?_; clear hJ J) | clear hK K | clear hJ J | refine SW.skip ?_ | refine SW.ret ?_ | refine SW.retT ?_ | refine SW.retB ?_ | refine SW.exit ?_ | refine SW.exitT ?_ | refine SW.exitB ?_ | refine XN ?_ | refine SW.block ?_ | refine SW.normB ?_ | refine SW.normT ?_ | refine XT ?_ | refine XF ?_ | refine XC (fun h => ?_) (fun h => ?_) | refine X0 ?_ | refine Xv ?_ | refine X1 (hr) ?_ | refine X1 (he) ?_ | (refine Xm (.s 15 0) ?_; first | refine Xa (m1) ?_ | refine Xb (m1) ?_) | (refine Xm (.s 15 0) ?_; first | refine Xa (m2) ?_ | refine Xb (m2) ?_) | (refine Xm (.s 15 0) ?_; first | refine Xa (m3) ?_ | refine Xb (m3) ?_) | (refine Xm (.s 15 0) ?_; first | refine Xa (m4) ?_ | refine Xb (m4) ?_) | (refine Xm (.s 15 0) ?_; first | refine Xa (m5) ?_ | refine Xb (m5) ?_) | simp only [go_sem, optI, Option.getD_some, Option.getD_none, Int.reduceToNat, reduceIte, Nat.reduceEqDiff, Nat.reduceAdd, Nat.reduceMul, Nat.reduceSub, Nat.reduceLT, Nat.reduceLeDiff, reduceCtorEq, *] | refine Xs _ (fun h => ?_) (fun h => ?_) | with_reducible refine And.intro ?_ ?_
          all_goals first | omega | (simp; done) | (refine Xrp ?_; simp [resOf, Wn.le, Wn.leL, Wn.cw, C.scal, scal, encEv, evZ, credZ]; done) | skip
          all_goals trace_state
        | true =>
          rw [hok] at he
          rw [if_neg (by simp)]
          clear hok
          refine XA good (fn := Try.f45) rfl ?_
          simp only [entry, List.getD_cons_zero, List.getD_cons_succ]
          repeat' first | refine SW.step good fun K hK => ?_ | refine X2 good fun K hK => ?_ | refine X3 good fun K hK => ?_ | refine SW.seqK fun J hJ => ?_ | refine SW.last good fun K hK => ?_ | (refine hK _ ?_; clear hK K) | (refine hJ _ _ (Wk.refl _) ?_; clear hJ J) | clear hK K | clear hJ J | refine SW.skip ?_ | refine SW.ret ?_ | refine SW.retT ?_ | refine SW.retB ?_ | refine SW.exit ?_ | refine SW.exitT ?_ | refine SW.exitB ?_ | refine XN ?_ | refine SW.block ?_ | refine SW.normB ?_ | refine SW.normT ?_ | refine XT ?_ | refine XF ?_ | refine XC (fun h => ?_) (fun h => ?_) | refine X0 ?_ | refine Xv ?_ | refine X1 (hr) ?_ | refine X1 (he) ?_ | (refine Xm (.s 15 0) ?_; first | refine Xa (m1) ?_ | refine Xb (m1) ?_) | (refine Xm (.s 15 0) ?_; first | refine Xa (m2) ?_ | refine Xb (m2) ?_) | (refine Xm (.s 15 0) ?_; first | refine Xa (m3) ?_ | refine Xb (m3) ?_) | (refine Xm (.s 15 0) ?_; first | refine Xa (m4) ?_ | refine Xb (m4) ?_) | (refine Xm (.s 15 0) ?_; first | refine Xa (m5) ?_ | refine Xb (m5) ?_) | simp only [go_sem, optI, Option.getD_some, Option.getD_none, Int.reduceToNat, reduceIte, Nat.reduceEqDiff, Nat.reduceAdd, Nat.reduceMul, Nat.reduceSub, Nat.reduceLT, Nat.reduceLeDiff, reduceCtorEq, *] | refine Xs _ (fun h => ?_) (fun h => ?_) | with_reducible refine And.intro ?_ ?_
          all_goals first | omega | (simp; done) | (refine Xrp ?_; simp [resOf, Wn.le, Wn.leL, Wn.cw, C.scal, scal, encEv, evZ, credZ]; done) | skip
          all_goals trace_state
end Go.Proofs.Ytbpfciidbgkekaa.AB
