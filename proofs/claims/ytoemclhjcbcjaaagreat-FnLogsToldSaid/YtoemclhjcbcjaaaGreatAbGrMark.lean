/- Marks: texts of numbers, rows of events. -/
import Derived.Test.YtoemclhjcbcjaaaGreatAbFxScan
import Derived.Test.YtoemclhjcbcjaaaGreatAbFyScan
import Derived.Test.YtoemclhjcbcjaaaGreatAbBbPure
namespace Go.Proofs.YtoemclhjcbcjaaaGreat.AB
open Go
set_option maxRecDepth 100000
set_option linter.unusedSimpArgs false
set_option linter.unusedVariables false
theorem scText_len (t : List UInt8) (s : Sc) : (scText t s).1.length ≤ t.length := by
  unfold scText
  split
  · simp
  · split
    · rename_i x e hx
      obtain ⟨_, _, _, h4, h5⟩ := readShort_spec hx
      have := congrArg List.length h5
      simp at this; simp only; omega
    · simp
set_option maxHeartbeats 4000000 in
theorem ac_ReadEvent (t : List UInt8) (p : Int) (ht : t.length ≤ 4611686018427387904) : AC Tryz.prog 9 [vS t, vI p] (.tup [encEv (readEvI t p).1, vI (readEvI t p).2.1, vB (readEvI t p).2.2]) [] := by
  have m1 := mc_number t 1000000000 (p, false) ht
  unfold readEvI
  generalize scNum t 1000000000 (p, false) = a at *
  obtain ⟨a1, a2⟩ := a
  have m2 := mc_number t 1000000000 a2 ht
  simp only at m1 m2 ⊢
  generalize scNum t 1000000000 a2 = b at *
  obtain ⟨b1, b2⟩ := b
  have m3 := mc_number t 1000000000 b2 ht
  simp only at m2 m3 ⊢
  generalize scNum t 1000000000 b2 = c at *
  obtain ⟨c1, c2⟩ := c
  have m4 := mc_text t c2 ht
  simp only at m3 m4 ⊢
  have hdl := scText_len t c2
  generalize scText t c2 = d at *
  obtain ⟨d1, d2⟩ := d
  have m5 := mc_text t d2 ht
  simp only at m4 m5 hdl ⊢
  generalize scText t d2 = x at *
  obtain ⟨x1, x2, x3⟩ := x
  obtain ⟨a2, a3⟩ := a2
  obtain ⟨b2, b3⟩ := b2
  obtain ⟨c2, c3⟩ := c2
  obtain ⟨d2, d3⟩ := d2
  simp only [scO] at m1 m2 m3 m4 m5 ⊢
  have hr := ac_ReadCred d1 (by omega)
  unfold rcC rcB at hr
  cases d1 with
  | nil =>
    clear hr hdl
    have he := ac_EventOk ⟨a1, b1, c1, credZ, ⟨x1.toArray⟩⟩
    rw [if_pos rfl]
    simp only
    cases x3 with
    | true =>
      rw [if_pos (.inl rfl)]
      refine XA good (fn := Tryz.f9) rfl ?_
      simp only [entry, List.getD_cons_zero, List.getD_cons_succ]
      repeat' first | refine SW.step good fun K hK => ?_ | refine X2 good fun K hK => ?_ | refine X3 good fun K hK => ?_ | refine SW.seqK fun J hJ => ?_ | refine SW.last good fun K hK => ?_ | (refine hK _ ?_; clear hK K) | (refine hJ _ _ (Wk.refl _) ?_; clear hJ J) | clear hK K | clear hJ J | refine SW.skip ?_ | refine SW.ret ?_ | refine SW.retT ?_ | refine SW.retB ?_ | refine SW.exit ?_ | refine SW.exitT ?_ | refine SW.exitB ?_ | refine XN ?_ | refine SW.block ?_ | refine SW.normB ?_ | refine SW.normT ?_ | refine XT ?_ | refine XF ?_ | refine XC (fun h => ?_) (fun h => ?_) | refine X0 ?_ | refine Xv ?_ | refine X1 (he) ?_ | (refine Xm (.s 15 0) ?_; first | refine Xd (m1) ?_ | refine Xa (m1) ?_ | refine Xb (m1) ?_) | (refine Xm (.s 15 0) ?_; first | refine Xd (m2) ?_ | refine Xa (m2) ?_ | refine Xb (m2) ?_) | (refine Xm (.s 15 0) ?_; first | refine Xd (m3) ?_ | refine Xa (m3) ?_ | refine Xb (m3) ?_) | (refine Xm (.s 15 0) ?_; first | refine Xd (m4) ?_ | refine Xa (m4) ?_ | refine Xb (m4) ?_) | (refine Xm (.s 15 0) ?_; first | refine Xd (m5) ?_ | refine Xa (m5) ?_ | refine Xb (m5) ?_) | simp only [go_sem, optI, Option.getD_some, Option.getD_none, Int.reduceToNat, reduceIte, Nat.reduceEqDiff, Nat.reduceAdd, Nat.reduceMul, Nat.reduceSub, Nat.reduceLT, Nat.reduceLeDiff, reduceCtorEq, *] | refine Xs _ (fun h => ?_) (fun h => ?_) | with_reducible refine And.intro ?_ ?_
      all_goals first | omega | (simp; done) | (refine Xrp ?_; simp [resOf, Wn.le, Wn.leL, Wn.cw, C.scal, scal, encEv, evZ, credZ]; done) | skip
      all_goals trace_state
    | false =>
      cases hok : eventOk ⟨a1, b1, c1, credZ, ⟨x1.toArray⟩⟩ with
      | false =>
        rw [hok] at he
        rw [if_pos (.inr rfl)]
        clear hok
        refine XA good (fn := Tryz.f9) rfl ?_
        simp only [entry, List.getD_cons_zero, List.getD_cons_succ]
        repeat' first | refine SW.step good fun K hK => ?_ | refine X2 good fun K hK => ?_ | refine X3 good fun K hK => ?_ | refine SW.seqK fun J hJ => ?_ | refine SW.last good fun K hK => ?_ | (refine hK _ ?_; clear hK K) | (refine hJ _ _ (Wk.refl _) ?_; clear hJ J) | clear hK K | clear hJ J | refine SW.skip ?_ | refine SW.ret ?_ | refine SW.retT ?_ | refine SW.retB ?_ | refine SW.exit ?_ | refine SW.exitT ?_ | refine SW.exitB ?_ | refine XN ?_ | refine SW.block ?_ | refine SW.normB ?_ | refine SW.normT ?_ | refine XT ?_ | refine XF ?_ | refine XC (fun h => ?_) (fun h => ?_) | refine X0 ?_ | refine Xv ?_ | refine X1 (he) ?_ | (refine Xm (.s 15 0) ?_; first | refine Xd (m1) ?_ | refine Xa (m1) ?_ | refine Xb (m1) ?_) | (refine Xm (.s 15 0) ?_; first | refine Xd (m2) ?_ | refine Xa (m2) ?_ | refine Xb (m2) ?_) | (refine Xm (.s 15 0) ?_; first | refine Xd (m3) ?_ | refine Xa (m3) ?_ | refine Xb (m3) ?_) | (refine Xm (.s 15 0) ?_; first | refine Xd (m4) ?_ | refine Xa (m4) ?_ | refine Xb (m4) ?_) | (refine Xm (.s 15 0) ?_; first | refine Xd (m5) ?_ | refine Xa (m5) ?_ | refine Xb (m5) ?_) | simp only [go_sem, optI, Option.getD_some, Option.getD_none, Int.reduceToNat, reduceIte, Nat.reduceEqDiff, Nat.reduceAdd, Nat.reduceMul, Nat.reduceSub, Nat.reduceLT, Nat.reduceLeDiff, reduceCtorEq, *] | refine Xs _ (fun h => ?_) (fun h => ?_) | with_reducible refine And.intro ?_ ?_
        all_goals first | omega | (simp; done) | (refine Xrp ?_; simp [resOf, Wn.le, Wn.leL, Wn.cw, C.scal, scal, encEv, evZ, credZ]; done) | skip
        all_goals trace_state
      | true =>
        rw [hok] at he
        rw [if_neg (by simp)]
        clear hok
        refine XA good (fn := Tryz.f9) rfl ?_
        simp only [entry, List.getD_cons_zero, List.getD_cons_succ]
        repeat' first | refine SW.step good fun K hK => ?_ | refine X2 good fun K hK => ?_ | refine X3 good fun K hK => ?_ | refine SW.seqK fun J hJ => ?_ | refine SW.last good fun K hK => ?_ | (refine hK _ ?_; clear hK K) | (refine hJ _ _ (Wk.refl _) ?_; clear hJ J) | clear hK K | clear hJ J | refine SW.skip ?_ | refine SW.ret ?_ | refine SW.retT ?_ | refine SW.retB ?_ | refine SW.exit ?_ | refine SW.exitT ?_ | refine SW.exitB ?_ | refine XN ?_ | refine SW.block ?_ | refine SW.normB ?_ | refine SW.normT ?_ | refine XT ?_ | refine XF ?_ | refine XC (fun h => ?_) (fun h => ?_) | refine X0 ?_ | refine Xv ?_ | refine X1 (he) ?_ | (refine Xm (.s 15 0) ?_; first | refine Xd (m1) ?_ | refine Xa (m1) ?_ | refine Xb (m1) ?_) | (refine Xm (.s 15 0) ?_; first | refine Xd (m2) ?_ | refine Xa (m2) ?_ | refine Xb (m2) ?_) | (refine Xm (.s 15 0) ?_; first | refine Xd (m3) ?_ | refine Xa (m3) ?_ | refine Xb (m3) ?_) | (refine Xm (.s 15 0) ?_; first | refine Xd (m4) ?_ | refine Xa (m4) ?_ | refine Xb (m4) ?_) | (refine Xm (.s 15 0) ?_; first | refine Xd (m5) ?_ | refine Xa (m5) ?_ | refine Xb (m5) ?_) | simp only [go_sem, optI, Option.getD_some, Option.getD_none, Int.reduceToNat, reduceIte, Nat.reduceEqDiff, Nat.reduceAdd, Nat.reduceMul, Nat.reduceSub, Nat.reduceLT, Nat.reduceLeDiff, reduceCtorEq, *] | refine Xs _ (fun h => ?_) (fun h => ?_) | with_reducible refine And.intro ?_ ?_
        all_goals first | omega | (simp; done) | (refine Xrp ?_; simp [resOf, Wn.le, Wn.leL, Wn.cw, C.scal, scal, encEv, evZ, credZ]; done) | skip
        all_goals trace_state
  | cons y ys =>
    rw [if_neg (show ¬ (y :: ys = []) from by simp)]
    cases hrc : readCred (y :: ys) with
    | none =>
      simp only [hrc, Option.getD_none, Option.isSome_none] at hr
      simp only
      rw [if_pos (by simp)]
      clear hrc
      cases x3
      all_goals (
        refine XA good (fn := Tryz.f9) rfl ?_
        simp only [entry, List.getD_cons_zero, List.getD_cons_succ]
        repeat' first | refine SW.step good fun K hK => ?_ | refine X2 good fun K hK => ?_ | refine X3 good fun K hK => ?_ | refine SW.seqK fun J hJ => ?_ | refine SW.last good fun K hK => ?_ | (refine hK _ ?_; clear hK K) | (refine hJ _ _ (Wk.refl _) ?_; clear hJ J) | clear hK K | clear hJ J | refine SW.skip ?_ | refine SW.ret ?_ | refine SW.retT ?_ | refine SW.retB ?_ | refine SW.exit ?_ | refine SW.exitT ?_ | refine SW.exitB ?_ | refine XN ?_ | refine SW.block ?_ | refine SW.normB ?_ | refine SW.normT ?_ | refine XT ?_ | refine XF ?_ | refine XC (fun h => ?_) (fun h => ?_) | refine X0 ?_ | refine Xv ?_ | refine X1 (hr) ?_ | (refine Xm (.s 15 0) ?_; first | refine Xd (m1) ?_ | refine Xa (m1) ?_ | refine Xb (m1) ?_) | (refine Xm (.s 15 0) ?_; first | refine Xd (m2) ?_ | refine Xa (m2) ?_ | refine Xb (m2) ?_) | (refine Xm (.s 15 0) ?_; first | refine Xd (m3) ?_ | refine Xa (m3) ?_ | refine Xb (m3) ?_) | (refine Xm (.s 15 0) ?_; first | refine Xd (m4) ?_ | refine Xa (m4) ?_ | refine Xb (m4) ?_) | (refine Xm (.s 15 0) ?_; first | refine Xd (m5) ?_ | refine Xa (m5) ?_ | refine Xb (m5) ?_) | simp only [go_sem, optI, Option.getD_some, Option.getD_none, Int.reduceToNat, reduceIte, Nat.reduceEqDiff, Nat.reduceAdd, Nat.reduceMul, Nat.reduceSub, Nat.reduceLT, Nat.reduceLeDiff, reduceCtorEq, *] | refine Xs _ (fun h => ?_) (fun h => ?_) | with_reducible refine And.intro ?_ ?_
        all_goals first | omega | (simp; done) | (refine Xrp ?_; simp [resOf, Wn.le, Wn.leL, Wn.cw, C.scal, scal, encEv, evZ, credZ]; done) | skip
        all_goals trace_state)
    | some q =>
      simp only [hrc, Option.getD_some, Option.isSome_some] at hr
      have he := ac_EventOk ⟨a1, b1, c1, q, ⟨x1.toArray⟩⟩
      clear hrc
      simp only
      cases x3 with
      | true =>
        rw [if_pos (by simp)]
        refine XA good (fn := Tryz.f9) rfl ?_
        simp only [entry, List.getD_cons_zero, List.getD_cons_succ]
        repeat' first | refine SW.step good fun K hK => ?_ | refine X2 good fun K hK => ?_ | refine X3 good fun K hK => ?_ | refine SW.seqK fun J hJ => ?_ | refine SW.last good fun K hK => ?_ | (refine hK _ ?_; clear hK K) | (refine hJ _ _ (Wk.refl _) ?_; clear hJ J) | clear hK K | clear hJ J | refine SW.skip ?_ | refine SW.ret ?_ | refine SW.retT ?_ | refine SW.retB ?_ | refine SW.exit ?_ | refine SW.exitT ?_ | refine SW.exitB ?_ | refine XN ?_ | refine SW.block ?_ | refine SW.normB ?_ | refine SW.normT ?_ | refine XT ?_ | refine XF ?_ | refine XC (fun h => ?_) (fun h => ?_) | refine X0 ?_ | refine Xv ?_ | refine X1 (hr) ?_ | refine X1 (he) ?_ | (refine Xm (.s 15 0) ?_; first | refine Xd (m1) ?_ | refine Xa (m1) ?_ | refine Xb (m1) ?_) | (refine Xm (.s 15 0) ?_; first | refine Xd (m2) ?_ | refine Xa (m2) ?_ | refine Xb (m2) ?_) | (refine Xm (.s 15 0) ?_; first | refine Xd (m3) ?_ | refine Xa (m3) ?_ | refine Xb (m3) ?_) | (refine Xm (.s 15 0) ?_; first | refine Xd (m4) ?_ | refine Xa (m4) ?_ | refine Xb (m4) ?_) | (refine Xm (.s 15 0) ?_; first | refine Xd (m5) ?_ | refine Xa (m5) ?_ | refine Xb (m5) ?_) | simp only [go_sem, optI, Option.getD_some, Option.getD_none, Int.reduceToNat, reduceIte, Nat.reduceEqDiff, Nat.reduceAdd, Nat.reduceMul, Nat.reduceSub, Nat.reduceLT, Nat.reduceLeDiff, reduceCtorEq, *] | refine Xs _ (fun h => ?_) (fun h => ?_) | with_reducible refine And.intro ?_ ?_
        all_goals first | omega | (simp; done) | (refine Xrp ?_; simp [resOf, Wn.le, Wn.leL, Wn.cw, C.scal, scal, encEv, evZ, credZ]; done) | skip
        all_goals trace_state
      | false =>
        cases hok : eventOk ⟨a1, b1, c1, q, ⟨x1.toArray⟩⟩ with
        | false =>
          rw [hok] at he
          rw [if_pos (.inr rfl)]
          clear hok
          refine XA good (fn := Tryz.f9) rfl ?_
          simp only [entry, List.getD_cons_zero, List.getD_cons_succ]
          repeat' first | refine SW.step good fun K hK => ?_ | refine X2 good fun K hK => ?_ | refine X3 good fun K hK => ?_ | refine SW.seqK fun J hJ => ?_ | refine SW.last good fun K hK => ?_ | (refine hK _ ?_; clear hK K) | (refine hJ _ _ (Wk.refl _) ?_; clear hJ J) | clear hK K | clear hJ J | refine SW.skip ?_ | refine SW.ret ?_ | refine SW.retT ?_ | refine SW.retB ?_ | refine SW.exit ?_ | refine SW.exitT ?_ | refine SW.exitB ?_ | refine XN ?_ | refine SW.block ?_ | refine SW.normB ?_ | refine SW.normT ?_ | refine XT ?_ | refine XF ?_ | refine XC (fun h => ?_) (fun h => ?_) | refine X0 ?_ | refine Xv ?_ | refine X1 (hr) ?_ | refine X1 (he) ?_ | (refine Xm (.s 15 0) ?_; first | refine Xd (m1) ?_ | refine Xa (m1) ?_ | refine Xb (m1) ?_) | (refine Xm (.s 15 0) ?_; first | refine Xd (m2) ?_ | refine Xa (m2) ?_ | refine Xb (m2) ?_) | (refine Xm (.s 15 0) ?_; first | refine Xd (m3) ?_ | refine Xa (m3) ?_ | refine Xb (m3) ?_) | (refine Xm (.s 15 0) ?_; first | refine Xd (m4) ?_ | refine Xa (m4) ?_ | refine Xb (m4) ?_) | (refine Xm (.s 15 0) ?_; first | refine Xd (m5) ?_ | refine Xa (m5) ?_ | refine Xb (m5) ?_) | simp only [go_sem, optI, Option.getD_some, Option.getD_none, Int.reduceToNat, reduceIte, Nat.reduceEqDiff, Nat.reduceAdd, Nat.reduceMul, Nat.reduceSub, Nat.reduceLT, Nat.reduceLeDiff, reduceCtorEq, *] | refine Xs _ (fun h => ?_) (fun h => ?_) | with_reducible refine And.intro ?_ ?_
          all_goals first | omega | (simp; done) | (refine Xrp ?_; simp [resOf, Wn.le, Wn.leL, Wn.cw, C.scal, scal, encEv, evZ, credZ]; done) | skip
          all_goals trace_state
        | true =>
          rw [hok] at he
          rw [if_neg (by simp)]
          clear hok
          refine XA good (fn := Tryz.f9) rfl ?_
          simp only [entry, List.getD_cons_zero, List.getD_cons_succ]
          repeat' first | refine SW.step good fun K hK => ?_ | refine X2 good fun K hK => ?_ | refine X3 good fun K hK => ?_ | refine SW.seqK fun J hJ => ?_ | refine SW.last good fun K hK => ?_ | (refine hK _ ?_; clear hK K) | (refine hJ _ _ (Wk.refl _) ?_; clear hJ J) | clear hK K | clear hJ J | refine SW.skip ?_ | refine SW.ret ?_ | refine SW.retT ?_ | refine SW.retB ?_ | refine SW.exit ?_ | refine SW.exitT ?_ | refine SW.exitB ?_ | refine XN ?_ | refine SW.block ?_ | refine SW.normB ?_ | refine SW.normT ?_ | refine XT ?_ | refine XF ?_ | refine XC (fun h => ?_) (fun h => ?_) | refine X0 ?_ | refine Xv ?_ | refine X1 (hr) ?_ | refine X1 (he) ?_ | (refine Xm (.s 15 0) ?_; first | refine Xd (m1) ?_ | refine Xa (m1) ?_ | refine Xb (m1) ?_) | (refine Xm (.s 15 0) ?_; first | refine Xd (m2) ?_ | refine Xa (m2) ?_ | refine Xb (m2) ?_) | (refine Xm (.s 15 0) ?_; first | refine Xd (m3) ?_ | refine Xa (m3) ?_ | refine Xb (m3) ?_) | (refine Xm (.s 15 0) ?_; first | refine Xd (m4) ?_ | refine Xa (m4) ?_ | refine Xb (m4) ?_) | (refine Xm (.s 15 0) ?_; first | refine Xd (m5) ?_ | refine Xa (m5) ?_ | refine Xb (m5) ?_) | simp only [go_sem, optI, Option.getD_some, Option.getD_none, Int.reduceToNat, reduceIte, Nat.reduceEqDiff, Nat.reduceAdd, Nat.reduceMul, Nat.reduceSub, Nat.reduceLT, Nat.reduceLeDiff, reduceCtorEq, *] | refine Xs _ (fun h => ?_) (fun h => ?_) | with_reducible refine And.intro ?_ ?_
          all_goals first | omega | (simp; done) | (refine Xrp ?_; simp [resOf, Wn.le, Wn.leL, Wn.cw, C.scal, scal, encEv, evZ, credZ]; done) | skip
          all_goals trace_state
end Go.Proofs.YtoemclhjcbcjaaaGreat.AB
namespace Go.Proofs.YtoemclhjcbcjaaaGreat.AB
open Go
set_option maxRecDepth 100000
set_option linter.unusedSimpArgs false
set_option linter.unusedVariables false
theorem sc_chain (t : List UInt8) (p m : Int) (h : (scText t (scText t (scNum t 1000000000 (scNum t 1000000000 (scNum t m (p, false)).2).2).2).2).2.2 = false) :
    0 ≤ p ∧ p ≤ (scText t (scText t (scNum t 1000000000 (scNum t 1000000000 (scNum t m (p, false)).2).2).2).2).2.1 ∧ (scText t (scText t (scNum t 1000000000 (scNum t 1000000000 (scNum t m (p, false)).2).2).2).2).2.1 ≤ t.length := by
  have h5 := scText_ok h
  have h4 := scText_ok h5.1
  have h3 := scNum_ok h4.1
  have h2 := scNum_ok h3.1
  have h1 := scNum_ok h2.1
  simp only at h1
  omega
set_option maxHeartbeats 4000000 in
theorem ac_ReadEventS (t : List UInt8) (p : Int) (ht : t.length ≤ 4611686018427387904) : AC Tryz.prog 10 [vS t, vI p] (.tup [encEv (readEvS t p).1, vI (readEvS t p).2.1, vB (readEvS t p).2.2]) [] := by
  have hch := sc_chain t p 100
  have m1 := mc_num t 100 (p, false) ht
  unfold readEvS
  generalize scNum t 100 (p, false) = a at *
  obtain ⟨a1, a2⟩ := a
  have m2 := mc_num t 1000000000 a2 ht
  simp only at m1 m2 hch ⊢
  generalize scNum t 1000000000 a2 = b at *
  obtain ⟨b1, b2⟩ := b
  have m3 := mc_num t 1000000000 b2 ht
  simp only at m2 m3 hch ⊢
  generalize scNum t 1000000000 b2 = c at *
  obtain ⟨c1, c2⟩ := c
  have m4 := mc_text' t c2 ht
  simp only at m3 m4 hch ⊢
  have hdl := scText_len t c2
  generalize scText t c2 = d at *
  obtain ⟨d1, d2⟩ := d
  have m5 := mc_text' t d2 ht
  simp only at m4 m5 hdl hch ⊢
  generalize scText t d2 = x at *
  obtain ⟨x1, x2, x3⟩ := x
  obtain ⟨a2, a3⟩ := a2
  obtain ⟨b2, b3⟩ := b2
  obtain ⟨c2, c3⟩ := c2
  obtain ⟨d2, d3⟩ := d2
  simp only [scO] at m1 m2 m3 m4 m5 hch ⊢
  have hr := ac_ReadCred' d1 (by omega)
  unfold rcC rcB at hr
  cases x3 with
  | true =>
    rw [if_pos rfl]
    clear hr hch
    refine XA good (fn := Tryz.f10) rfl ?_
    simp only [entry, List.getD_cons_zero, List.getD_cons_succ]
    repeat' first | refine SW.step good fun K hK => ?_ | refine X2 good fun K hK => ?_ | refine X3 good fun K hK => ?_ | refine SW.seqK fun J hJ => ?_ | refine SW.last good fun K hK => ?_ | (refine hK _ ?_; clear hK K) | (refine hJ _ _ (Wk.refl _) ?_; clear hJ J) | clear hK K | clear hJ J | refine SW.skip ?_ | refine SW.ret ?_ | refine SW.retT ?_ | refine SW.retB ?_ | refine SW.exit ?_ | refine SW.exitT ?_ | refine SW.exitB ?_ | refine XN ?_ | refine SW.block ?_ | refine SW.normB ?_ | refine SW.normT ?_ | refine XT ?_ | refine XF ?_ | refine XC (fun h => ?_) (fun h => ?_) | (refine Xm (.s 17 0) ?_; first | refine Xd (m1) ?_ | refine Xa (m1) ?_ | refine Xb (m1) ?_) | (refine Xm (.s 17 0) ?_; first | refine Xd (m2) ?_ | refine Xa (m2) ?_ | refine Xb (m2) ?_) | (refine Xm (.s 17 0) ?_; first | refine Xd (m3) ?_ | refine Xa (m3) ?_ | refine Xb (m3) ?_) | (refine Xm (.s 17 0) ?_; first | refine Xd (m4) ?_ | refine Xa (m4) ?_ | refine Xb (m4) ?_) | (refine Xm (.s 17 0) ?_; first | refine Xd (m5) ?_ | refine Xa (m5) ?_ | refine Xb (m5) ?_) | simp only [go_sem, optI, Option.getD_some, Option.getD_none, Int.reduceToNat, reduceIte, Nat.reduceEqDiff, Nat.reduceAdd, Nat.reduceMul, Nat.reduceSub, Nat.reduceLT, Nat.reduceLeDiff, reduceCtorEq, *] | refine Xs _ (fun h => ?_) (fun h => ?_) | with_reducible refine And.intro ?_ ?_
    all_goals first | omega | (simp; done) | (refine Xrp ?_; simp [resOf, Wn.le, Wn.leL, Wn.cw, C.scal, scal, encEv, evZ, credZ]; done) | skip
    all_goals trace_state
  | false =>
    rw [if_neg (by simp)]
    obtain ⟨hp0, hp1, hp2⟩ := hch rfl
    clear hch
    have he := ac_EventText' ⟨a1, b1, c1, (readCred d1).getD credZ, ⟨x1.toArray⟩⟩
    have hes := eventText_len ⟨a1, b1, c1, (readCred d1).getD credZ, ⟨x1.toArray⟩⟩
    unfold cut
    cases hrc : readCred d1 with
    | none =>
      simp only [hrc, Option.getD_none, Option.isSome_none] at hr he hes ⊢
      clear hrc
      generalize htx : eventText ⟨a1, b1, c1, credZ, ⟨x1.toArray⟩⟩ = tx at *
      cases hok : eventFit ⟨a1, b1, c1, credZ, ⟨x1.toArray⟩⟩ with
      | false =>
        rw [hok] at he
        rw [if_pos (.inl rfl)]
        clear hok htx
        refine XA good (fn := Tryz.f10) rfl ?_
        simp only [entry, List.getD_cons_zero, List.getD_cons_succ]
        repeat' first | refine SW.step good fun K hK => ?_ | refine X2 good fun K hK => ?_ | refine X3 good fun K hK => ?_ | refine SW.seqK fun J hJ => ?_ | refine SW.last good fun K hK => ?_ | (refine hK _ ?_; clear hK K) | (refine hJ _ _ (Wk.refl _) ?_; clear hJ J) | clear hK K | clear hJ J | refine SW.skip ?_ | refine SW.ret ?_ | refine SW.retT ?_ | refine SW.retB ?_ | refine SW.exit ?_ | refine SW.exitT ?_ | refine SW.exitB ?_ | refine XN ?_ | refine SW.block ?_ | refine SW.normB ?_ | refine SW.normT ?_ | refine XT ?_ | refine XF ?_ | refine XC (fun h => ?_) (fun h => ?_) | refine X0 ?_ | refine Xv ?_ | refine X1 (hr) ?_ | refine X1 (he) ?_ | (refine Xm (.s 17 0) ?_; first | refine Xd (m1) ?_ | refine Xa (m1) ?_ | refine Xb (m1) ?_) | (refine Xm (.s 17 0) ?_; first | refine Xd (m2) ?_ | refine Xa (m2) ?_ | refine Xb (m2) ?_) | (refine Xm (.s 17 0) ?_; first | refine Xd (m3) ?_ | refine Xa (m3) ?_ | refine Xb (m3) ?_) | (refine Xm (.s 17 0) ?_; first | refine Xd (m4) ?_ | refine Xa (m4) ?_ | refine Xb (m4) ?_) | (refine Xm (.s 17 0) ?_; first | refine Xd (m5) ?_ | refine Xa (m5) ?_ | refine Xb (m5) ?_) | simp only [go_sem, optI, Option.getD_some, Option.getD_none, Int.reduceToNat, reduceIte, Nat.reduceEqDiff, Nat.reduceAdd, Nat.reduceMul, Nat.reduceSub, Nat.reduceLT, Nat.reduceLeDiff, reduceCtorEq, *] | refine Xs _ (fun h => ?_) (fun h => ?_) | with_reducible refine And.intro ?_ ?_
        all_goals first | omega | (simp; done) | (refine Xrp ?_; simp [resOf, Wn.le, Wn.leL, Wn.cw, C.scal, scal, encEv, evZ, credZ]; done) | skip
        all_goals trace_state
      | true =>
        rw [hok] at he
        by_cases hcut : (t.drop p.toNat).take (x2.toNat - p.toNat) = tx
        · rw [if_neg (by rw [not_or]; exact ⟨by simp, fun r => r hcut⟩)]
          rw [← hcut] at he
          clear hok htx hcut
          refine XA good (fn := Tryz.f10) rfl ?_
          simp only [entry, List.getD_cons_zero, List.getD_cons_succ]
          repeat' first | refine SW.step good fun K hK => ?_ | refine X2 good fun K hK => ?_ | refine X3 good fun K hK => ?_ | refine SW.seqK fun J hJ => ?_ | refine SW.last good fun K hK => ?_ | (refine hK _ ?_; clear hK K) | (refine hJ _ _ (Wk.refl _) ?_; clear hJ J) | clear hK K | clear hJ J | refine SW.skip ?_ | refine SW.ret ?_ | refine SW.retT ?_ | refine SW.retB ?_ | refine SW.exit ?_ | refine SW.exitT ?_ | refine SW.exitB ?_ | refine XN ?_ | refine SW.block ?_ | refine SW.normB ?_ | refine SW.normT ?_ | refine XT ?_ | refine XF ?_ | refine XC (fun h => ?_) (fun h => ?_) | refine X0 ?_ | refine Xv ?_ | refine X1 (hr) ?_ | refine X1 (he) ?_ | (refine Xm (.s 17 0) ?_; first | refine Xd (m1) ?_ | refine Xa (m1) ?_ | refine Xb (m1) ?_) | (refine Xm (.s 17 0) ?_; first | refine Xd (m2) ?_ | refine Xa (m2) ?_ | refine Xb (m2) ?_) | (refine Xm (.s 17 0) ?_; first | refine Xd (m3) ?_ | refine Xa (m3) ?_ | refine Xb (m3) ?_) | (refine Xm (.s 17 0) ?_; first | refine Xd (m4) ?_ | refine Xa (m4) ?_ | refine Xb (m4) ?_) | (refine Xm (.s 17 0) ?_; first | refine Xd (m5) ?_ | refine Xa (m5) ?_ | refine Xb (m5) ?_) | simp only [go_sem, optI, Option.getD_some, Option.getD_none, Int.reduceToNat, reduceIte, Nat.reduceEqDiff, Nat.reduceAdd, Nat.reduceMul, Nat.reduceSub, Nat.reduceLT, Nat.reduceLeDiff, reduceCtorEq, *] | refine Xs _ (fun h => ?_) (fun h => ?_) | with_reducible refine And.intro ?_ ?_
          all_goals first | omega | (simp; done) | (refine Xrp ?_; simp [resOf, Wn.le, Wn.leL, Wn.cw, C.scal, scal, encEv, evZ, credZ]; done) | (exfalso; simp at *; done) | skip
          all_goals trace_state
        · rw [if_pos (.inr hcut)]
          clear hok htx
          refine XA good (fn := Tryz.f10) rfl ?_
          simp only [entry, List.getD_cons_zero, List.getD_cons_succ]
          repeat' first | refine SW.step good fun K hK => ?_ | refine X2 good fun K hK => ?_ | refine X3 good fun K hK => ?_ | refine SW.seqK fun J hJ => ?_ | refine SW.last good fun K hK => ?_ | (refine hK _ ?_; clear hK K) | (refine hJ _ _ (Wk.refl _) ?_; clear hJ J) | clear hK K | clear hJ J | refine SW.skip ?_ | refine SW.ret ?_ | refine SW.retT ?_ | refine SW.retB ?_ | refine SW.exit ?_ | refine SW.exitT ?_ | refine SW.exitB ?_ | refine XN ?_ | refine SW.block ?_ | refine SW.normB ?_ | refine SW.normT ?_ | refine XT ?_ | refine XF ?_ | refine XC (fun h => ?_) (fun h => ?_) | refine X0 ?_ | refine Xv ?_ | refine X1 (hr) ?_ | refine X1 (he) ?_ | (refine Xm (.s 17 0) ?_; first | refine Xd (m1) ?_ | refine Xa (m1) ?_ | refine Xb (m1) ?_) | (refine Xm (.s 17 0) ?_; first | refine Xd (m2) ?_ | refine Xa (m2) ?_ | refine Xb (m2) ?_) | (refine Xm (.s 17 0) ?_; first | refine Xd (m3) ?_ | refine Xa (m3) ?_ | refine Xb (m3) ?_) | (refine Xm (.s 17 0) ?_; first | refine Xd (m4) ?_ | refine Xa (m4) ?_ | refine Xb (m4) ?_) | (refine Xm (.s 17 0) ?_; first | refine Xd (m5) ?_ | refine Xa (m5) ?_ | refine Xb (m5) ?_) | simp only [go_sem, optI, Option.getD_some, Option.getD_none, Int.reduceToNat, reduceIte, Nat.reduceEqDiff, Nat.reduceAdd, Nat.reduceMul, Nat.reduceSub, Nat.reduceLT, Nat.reduceLeDiff, reduceCtorEq, *] | refine Xs _ (fun h => ?_) (fun h => ?_) | with_reducible refine And.intro ?_ ?_
          all_goals first | omega | (simp; done) | (refine Xrp ?_; simp [resOf, Wn.le, Wn.leL, Wn.cw, C.scal, scal, encEv, evZ, credZ]; done) | (exfalso; rw [Bool.not_eq_false'] at h; exact hcut (of_decide_eq_true h)) | skip
          all_goals trace_state
    | some q =>
      simp only [hrc, Option.getD_some, Option.isSome_some] at hr he hes ⊢
      clear hrc
      generalize htx : eventText ⟨a1, b1, c1, q, ⟨x1.toArray⟩⟩ = tx at *
      cases hok : eventFit ⟨a1, b1, c1, q, ⟨x1.toArray⟩⟩ with
      | false =>
        rw [hok] at he
        rw [if_pos (.inl rfl)]
        clear hok htx
        refine XA good (fn := Tryz.f10) rfl ?_
        simp only [entry, List.getD_cons_zero, List.getD_cons_succ]
        repeat' first | refine SW.step good fun K hK => ?_ | refine X2 good fun K hK => ?_ | refine X3 good fun K hK => ?_ | refine SW.seqK fun J hJ => ?_ | refine SW.last good fun K hK => ?_ | (refine hK _ ?_; clear hK K) | (refine hJ _ _ (Wk.refl _) ?_; clear hJ J) | clear hK K | clear hJ J | refine SW.skip ?_ | refine SW.ret ?_ | refine SW.retT ?_ | refine SW.retB ?_ | refine SW.exit ?_ | refine SW.exitT ?_ | refine SW.exitB ?_ | refine XN ?_ | refine SW.block ?_ | refine SW.normB ?_ | refine SW.normT ?_ | refine XT ?_ | refine XF ?_ | refine XC (fun h => ?_) (fun h => ?_) | refine X0 ?_ | refine Xv ?_ | refine X1 (hr) ?_ | refine X1 (he) ?_ | (refine Xm (.s 17 0) ?_; first | refine Xd (m1) ?_ | refine Xa (m1) ?_ | refine Xb (m1) ?_) | (refine Xm (.s 17 0) ?_; first | refine Xd (m2) ?_ | refine Xa (m2) ?_ | refine Xb (m2) ?_) | (refine Xm (.s 17 0) ?_; first | refine Xd (m3) ?_ | refine Xa (m3) ?_ | refine Xb (m3) ?_) | (refine Xm (.s 17 0) ?_; first | refine Xd (m4) ?_ | refine Xa (m4) ?_ | refine Xb (m4) ?_) | (refine Xm (.s 17 0) ?_; first | refine Xd (m5) ?_ | refine Xa (m5) ?_ | refine Xb (m5) ?_) | simp only [go_sem, optI, Option.getD_some, Option.getD_none, Int.reduceToNat, reduceIte, Nat.reduceEqDiff, Nat.reduceAdd, Nat.reduceMul, Nat.reduceSub, Nat.reduceLT, Nat.reduceLeDiff, reduceCtorEq, *] | refine Xs _ (fun h => ?_) (fun h => ?_) | with_reducible refine And.intro ?_ ?_
        all_goals first | omega | (simp; done) | (refine Xrp ?_; simp [resOf, Wn.le, Wn.leL, Wn.cw, C.scal, scal, encEv, evZ, credZ]; done) | skip
        all_goals trace_state
      | true =>
        rw [hok] at he
        by_cases hcut : (t.drop p.toNat).take (x2.toNat - p.toNat) = tx
        · rw [if_neg (by rw [not_or]; exact ⟨by simp, fun r => r hcut⟩)]
          rw [← hcut] at he
          clear hok htx hcut
          refine XA good (fn := Tryz.f10) rfl ?_
          simp only [entry, List.getD_cons_zero, List.getD_cons_succ]
          repeat' first | refine SW.step good fun K hK => ?_ | refine X2 good fun K hK => ?_ | refine X3 good fun K hK => ?_ | refine SW.seqK fun J hJ => ?_ | refine SW.last good fun K hK => ?_ | (refine hK _ ?_; clear hK K) | (refine hJ _ _ (Wk.refl _) ?_; clear hJ J) | clear hK K | clear hJ J | refine SW.skip ?_ | refine SW.ret ?_ | refine SW.retT ?_ | refine SW.retB ?_ | refine SW.exit ?_ | refine SW.exitT ?_ | refine SW.exitB ?_ | refine XN ?_ | refine SW.block ?_ | refine SW.normB ?_ | refine SW.normT ?_ | refine XT ?_ | refine XF ?_ | refine XC (fun h => ?_) (fun h => ?_) | refine X0 ?_ | refine Xv ?_ | refine X1 (hr) ?_ | refine X1 (he) ?_ | (refine Xm (.s 17 0) ?_; first | refine Xd (m1) ?_ | refine Xa (m1) ?_ | refine Xb (m1) ?_) | (refine Xm (.s 17 0) ?_; first | refine Xd (m2) ?_ | refine Xa (m2) ?_ | refine Xb (m2) ?_) | (refine Xm (.s 17 0) ?_; first | refine Xd (m3) ?_ | refine Xa (m3) ?_ | refine Xb (m3) ?_) | (refine Xm (.s 17 0) ?_; first | refine Xd (m4) ?_ | refine Xa (m4) ?_ | refine Xb (m4) ?_) | (refine Xm (.s 17 0) ?_; first | refine Xd (m5) ?_ | refine Xa (m5) ?_ | refine Xb (m5) ?_) | simp only [go_sem, optI, Option.getD_some, Option.getD_none, Int.reduceToNat, reduceIte, Nat.reduceEqDiff, Nat.reduceAdd, Nat.reduceMul, Nat.reduceSub, Nat.reduceLT, Nat.reduceLeDiff, reduceCtorEq, *] | refine Xs _ (fun h => ?_) (fun h => ?_) | with_reducible refine And.intro ?_ ?_
          all_goals first | omega | (simp; done) | (refine Xrp ?_; simp [resOf, Wn.le, Wn.leL, Wn.cw, C.scal, scal, encEv, evZ, credZ]; done) | (exfalso; simp at *; done) | skip
          all_goals trace_state
        · rw [if_pos (.inr hcut)]
          clear hok htx
          refine XA good (fn := Tryz.f10) rfl ?_
          simp only [entry, List.getD_cons_zero, List.getD_cons_succ]
          repeat' first | refine SW.step good fun K hK => ?_ | refine X2 good fun K hK => ?_ | refine X3 good fun K hK => ?_ | refine SW.seqK fun J hJ => ?_ | refine SW.last good fun K hK => ?_ | (refine hK _ ?_; clear hK K) | (refine hJ _ _ (Wk.refl _) ?_; clear hJ J) | clear hK K | clear hJ J | refine SW.skip ?_ | refine SW.ret ?_ | refine SW.retT ?_ | refine SW.retB ?_ | refine SW.exit ?_ | refine SW.exitT ?_ | refine SW.exitB ?_ | refine XN ?_ | refine SW.block ?_ | refine SW.normB ?_ | refine SW.normT ?_ | refine XT ?_ | refine XF ?_ | refine XC (fun h => ?_) (fun h => ?_) | refine X0 ?_ | refine Xv ?_ | refine X1 (hr) ?_ | refine X1 (he) ?_ | (refine Xm (.s 17 0) ?_; first | refine Xd (m1) ?_ | refine Xa (m1) ?_ | refine Xb (m1) ?_) | (refine Xm (.s 17 0) ?_; first | refine Xd (m2) ?_ | refine Xa (m2) ?_ | refine Xb (m2) ?_) | (refine Xm (.s 17 0) ?_; first | refine Xd (m3) ?_ | refine Xa (m3) ?_ | refine Xb (m3) ?_) | (refine Xm (.s 17 0) ?_; first | refine Xd (m4) ?_ | refine Xa (m4) ?_ | refine Xb (m4) ?_) | (refine Xm (.s 17 0) ?_; first | refine Xd (m5) ?_ | refine Xa (m5) ?_ | refine Xb (m5) ?_) | simp only [go_sem, optI, Option.getD_some, Option.getD_none, Int.reduceToNat, reduceIte, Nat.reduceEqDiff, Nat.reduceAdd, Nat.reduceMul, Nat.reduceSub, Nat.reduceLT, Nat.reduceLeDiff, reduceCtorEq, *] | refine Xs _ (fun h => ?_) (fun h => ?_) | with_reducible refine And.intro ?_ ?_
          all_goals first | omega | (simp; done) | (refine Xrp ?_; simp [resOf, Wn.le, Wn.leL, Wn.cw, C.scal, scal, encEv, evZ, credZ]; done) | (exfalso; rw [Bool.not_eq_false'] at h; exact hcut (of_decide_eq_true h)) | skip
          all_goals trace_state
end Go.Proofs.YtoemclhjcbcjaaaGreat.AB
namespace Go.Proofs.YtoemclhjcbcjaaaGreat.AB
open Go
set_option maxRecDepth 100000
set_option linter.unusedSimpArgs false
set_option linter.unusedVariables false
/-- a call of an operation that may write, by a contract that writes nothing -/
theorem Xn {P : Program} {st : St} {K : St → Prop} {d : Option Nat} {l : List GOp} {xs : List Operand} {f : FuncId} {args : List AV} (h : CallK P f args l K st d) (ha : lendAll st.h (xs.map (evalO st)) = args := by simp only [go_sem, optI, Option.getD_some, Option.getD_none, Int.reduceToNat, reduceIte, Nat.reduceEqDiff, Nat.reduceAdd, Nat.reduceMul, Nat.reduceSub, Nat.reduceLT, Nat.reduceLeDiff, reduceCtorEq] <;> rfl) : semL P (⟨d, .callm f xs, none⟩ :: l) st K := by
  obtain ⟨res, hr, h1, h2, h3⟩ := h
  refine ⟨st, Wk.refl st, f, _, rfl, .inl ⟨res, hr, .inl ⟨ha ▸ h1, h2⟩, ?_⟩⟩
  cases d <;> exact h3
/-- the figures of a number, ahead of some bytes -/
def figs (n : Nat) (acc : List UInt8) : List UInt8 := if n = 0 then acc else figs (n / 10) (UInt8.ofNat (48 + n % 10) :: acc)
  termination_by n
  decreasing_by omega
theorem figs_zero (acc : List UInt8) : figs 0 acc = acc := by unfold figs; simp
theorem figs_pos {n : Nat} (h : 0 < n) (acc : List UInt8) : figs n acc = figs (n / 10) (UInt8.ofNat (48 + n % 10) :: acc) := by
  conv => lhs; unfold figs
  rw [if_neg (by omega)]
def markT (k : Nat) : List UInt8 := if k = 0 then [109, 48] else 109 :: figs k []
theorem figs_len : ∀ (f n : Nat) (acc : List UInt8), n < 10 ^ f → (figs n acc).length ≤ acc.length + f
  | 0, n, acc, h => by have : n = 0 := by simpa using h
                       subst this; rw [figs_zero]; omega
  | f + 1, n, acc, h => by
    by_cases h0 : n = 0
    · subst h0; rw [figs_zero]; omega
    · rw [figs_pos (by omega)]
      have := figs_len f (n / 10) (UInt8.ofNat (48 + n % 10) :: acc) (by rw [Nat.pow_succ] at h; omega)
      simp only [List.length_cons] at this; omega
theorem markT_len {k : Nat} (h : k ≤ 1000000000) : (markT k).length ≤ 20 := by
  unfold markT; split
  · simp
  · have := figs_len 10 k [] (by omega)
    simp only [List.length_cons, List.length_nil] at this ⊢; omega
/-- an event of marks -/
def markEv (k : Int) : List C := [cI k, cI (k + 1), cI (k + 2), cI (k + 3), cI (k + 4), cI (k + 5), cI (k + 6), cI (k + 7), cI (k + 8), cI (k + 9), cI (k + 10), cI (k + 11), cI (k + 12), cS (markT (k + 13).toNat)]
/-- a row that is marked so far -/
def markRow (k : Int) (L : List Event) (j : Nat) : List (List C) := (List.range j).map (fun i => markEv (k + 14 * (i : Nat))) ++ (L.drop j).map evC
theorem markRow_len {k : Int} {L : List Event} {j : Nat} (h : j ≤ L.length) : (markRow k L j).length = L.length := by simp [markRow]; omega
theorem markRow_get {k : Int} {L : List Event} {j : Nat} (h : j < L.length) : (markRow k L j).getD j [] = evC L[j] := by
  unfold markRow
  rw [List.getD_eq_getElem?_getD, List.getElem?_append_right (by simp), List.length_map, List.length_range, Nat.sub_self, List.getElem?_map, List.getElem?_drop, Nat.add_zero, List.getElem?_eq_getElem h]; rfl
theorem markRow_set {k : Int} {L : List Event} {j : Nat} (h : j < L.length) : (markRow k L j).set j (markEv (k + 14 * (j : Nat))) = markRow k L (j + 1) := by
  unfold markRow
  rw [List.set_append_right _ _ (by simp), List.length_map, List.length_range, Nat.sub_self, List.drop_eq_getElem_cons h, List.map_cons, List.set_cons_zero, List.range_succ, List.map_append, List.append_assoc]; rfl
theorem markRow_all {k : Int} {L : List Event} : markRow k L L.length = (List.range L.length).map (fun i => markEv (k + 14 * (i : Nat))) := by simp [markRow]
theorem set_getD {α : Type} {X : List (List α)} {j : Nat} (h : j < X.length) (r : List α) : (X.set j r).getD j [] = r := by rw [List.getD_eq_getElem?_getD, List.getElem?_set_self h]; rfl
theorem wrapc {c : Int} (h : 0 ≤ c ∧ c ≤ 100000000) (j : Int) (hj : 0 ≤ j ∧ j ≤ 1000) : IntKind.i64.wrap (c + j + 1) = c + (j + 1) := by rw [wrap64 (by omega) (by omega)]; omega
theorem wrapc1 {c : Int} (h : 0 ≤ c ∧ c ≤ 100000000) : IntKind.i64.wrap (c + 1) = c + 1 := wrap64 (by omega) (by omega)
/-- rows of marks -/
def marks (k : Int) (n : Nat) : List (List C) := (List.range n).map (fun i => markEv (k + 14 * (i : Nat)))
theorem marks_len (k : Int) (n : Nat) : (marks k n).length = n := by simp [marks]
theorem marks_get {k : Int} {n j : Nat} (h : j < n) : (marks k n).getD j [] = markEv (k + 14 * (j : Nat)) := by
  unfold marks
  rw [List.getD_eq_getElem?_getD, List.getElem?_map, List.getElem?_range h]; rfl
end Go.Proofs.YtoemclhjcbcjaaaGreat.AB
