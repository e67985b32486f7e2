/- An event is read: the reference's function; and the law's. -/
import Derived.Test.YtbpfciidbgkekaaAbGcRead
namespace Go.Proofs.Ytbpfciidbgkekaa.AB
open Go
set_option maxRecDepth 100000
set_option linter.unusedSimpArgs false
set_option linter.unusedVariables false
theorem sc_chain (t : List UInt8) (p m : Int) (h : (scText t (scText t (scNum t 1000000000 (scNum t 1000000000 (scNum t m (p, false)).2).2).2).2).2.2 = false) :
    0 ≤ p ∧ p ≤ (scText t (scText t (scNum t 1000000000 (scNum t 1000000000 (scNum t m (p, false)).2).2).2).2).2.1 ∧ (scText t (scText t (scNum t 1000000000 (scNum t 1000000000 (scNum t m (p, false)).2).2).2).2).2.1 ≤ t.length := by
  have h5 := scText_ok h
  have h4 := scText_ok h5.1
  have h3 := scNum_ok h4.1
  have h2 := scNum_ok h3.1
  have h1 := scNum_ok h2.1
  simp only at h1
  omega
set_option maxHeartbeats 4000000 in
theorem ac_ReadEventS (t : List UInt8) (p : Int) (ht : t.length ≤ 4611686018427387904) : AC Try.prog 44 [vS t, vI p] (.tup [encEv (readEvS t p).1, vI (readEvS t p).2.1, vB (readEvS t p).2.2]) [] := by
  have hch := sc_chain t p 100
  have m1 := mc_num t 100 (p, false) ht
  unfold readEvS
  generalize scNum t 100 (p, false) = a at *
  obtain ⟨a1, a2⟩ := a
  have m2 := mc_num t 1000000000 a2 ht
  simp only at m1 m2 hch ⊢
  generalize scNum t 1000000000 a2 = b at *
  obtain ⟨b1, b2⟩ := b
  have m3 := mc_num t 1000000000 b2 ht
  simp only at m2 m3 hch ⊢
  generalize scNum t 1000000000 b2 = c at *
  obtain ⟨c1, c2⟩ := c
  have m4 := mc_text' t c2 ht
  simp only at m3 m4 hch ⊢
  have hdl := scText_len t c2
  generalize scText t c2 = d at *
  obtain ⟨d1, d2⟩ := d
  have m5 := mc_text' t d2 ht
  simp only at m4 m5 hdl hch ⊢
  generalize scText t d2 = x at *
  obtain ⟨x1, x2, x3⟩ := x
  obtain ⟨a2, a3⟩ := a2
  obtain ⟨b2, b3⟩ := b2
  obtain ⟨c2, c3⟩ := c2
  obtain ⟨d2, d3⟩ := d2
  simp only [scO] at m1 m2 m3 m4 m5 hch ⊢
  have hr := ac_ReadCred' d1 (by omega)
  unfold rcC rcB at hr
  cases x3 with
  | true =>
    rw [if_pos rfl]
    clear hr hch
    refine XA good (fn := Try.f44) rfl ?_
    simp only [entry, List.getD_cons_zero, List.getD_cons_succ]
    repeat' first | refine SW.step good fun K hK => ?_ | refine X2 good fun K hK => ?_ | refine X3 good fun K hK => ?_ | refine SW.seqK fun J hJ => ?_ | refine SW.last good fun K hK => ?_ | (refine hK _ ?_; clear hK K) | (refine hJ _ _ (Wk.refl _) ?_; clear hJ J) | clear hK K | clear hJ J | refine SW.skip ?_ | refine SW.ret ?_ | refine SW.retT ?_ | refine SW.retB ?_ | refine SW.exit ?_ | refine SW.exitT ?_ | refine SW.exitB ?_ | refine XN ?_ | refine SW.block ?_ | refine SW.normB ?_ | refine SW.normT ?_ | refine XT ?_ | refine XF ?_ | refine XC (fun h => ?_) (fun h => ?_) | (refine Xm (.s 17 0) ?_; first | refine Xa (m1) ?_ | refine Xb (m1) ?_) | (refine Xm (.s 17 0) ?_; first | refine Xa (m2) ?_ | refine Xb (m2) ?_) | (refine Xm (.s 17 0) ?_; first | refine Xa (m3) ?_ | refine Xb (m3) ?_) | (refine Xm (.s 17 0) ?_; first | refine Xa (m4) ?_ | refine Xb (m4) ?_) | (refine Xm (.s 17 0) ?_; first | refine Xa (m5) ?_ | refine Xb (m5) ?_) | simp only [go_sem, optI, Option.getD_some, Option.getD_none, Int.reduceToNat, reduceIte, Nat.reduceEqDiff, Nat.reduceAdd, Nat.reduceMul, Nat.reduceSub, Nat.reduceLT, Nat.reduceLeDiff, reduceCtorEq, *] | refine Xs _ (fun h => ?_) (fun h => ?_) | with_reducible refine And.intro ?_ ?_
    all_goals first | omega | (simp; done) | (refine Xrp ?_; simp [resOf, Wn.le, Wn.leL, Wn.cw, C.scal, scal, encEv, evZ, credZ]; done) | skip
    all_goals trace_state
  | false =>
    rw [if_neg (by simp)]
    obtain ⟨hp0, hp1, hp2⟩ := hch rfl
    clear hch
    have he := ac_EventText' ⟨a1, b1, c1, (readCred d1).getD credZ, ⟨x1.toArray⟩⟩
    have hes := eventText_len ⟨a1, b1, c1, (readCred d1).getD credZ, ⟨x1.toArray⟩⟩
    unfold cut
    cases hrc : readCred d1 with
    | none =>
      simp only [hrc, Option.getD_none, Option.isSome_none] at hr he hes ⊢
      clear hrc
      generalize htx : eventText ⟨a1, b1, c1, credZ, ⟨x1.toArray⟩⟩ = tx at *
      cases hok : eventFit ⟨a1, b1, c1, credZ, ⟨x1.toArray⟩⟩ with
      | false =>
        rw [hok] at he
        rw [if_pos (.inl rfl)]
        clear hok htx
        refine XA good (fn := Try.f44) rfl ?_
        simp only [entry, List.getD_cons_zero, List.getD_cons_succ]
        repeat' first | refine SW.step good fun K hK => ?_ | refine X2 good fun K hK => ?_ | refine X3 good fun K hK => ?_ | refine SW.seqK fun J hJ => ?_ | refine SW.last good fun K hK => ?_ | (refine hK _ ?_; clear hK K) | (refine hJ _ _ (Wk.refl _) ?_; clear hJ J) | clear hK K | clear hJ J | refine SW.skip ?_ | refine SW.ret ?_ | refine SW.retT ?_ | refine SW.retB ?_ | refine SW.exit ?_ | refine SW.exitT ?_ | refine SW.exitB ?_ | refine XN ?_ | refine SW.block ?_ | refine SW.normB ?_ | refine SW.normT ?_ | refine XT ?_ | refine XF ?_ | refine XC (fun h => ?_) (fun h => ?_) | refine X0 ?_ | refine Xv ?_ | refine X1 (hr) ?_ | refine X1 (he) ?_ | (refine Xm (.s 17 0) ?_; first | refine Xa (m1) ?_ | refine Xb (m1) ?_) | (refine Xm (.s 17 0) ?_; first | refine Xa (m2) ?_ | refine Xb (m2) ?_) | (refine Xm (.s 17 0) ?_; first | refine Xa (m3) ?_ | refine Xb (m3) ?_) | (refine Xm (.s 17 0) ?_; first | refine Xa (m4) ?_ | refine Xb (m4) ?_) | (refine Xm (.s 17 0) ?_; first | refine Xa (m5) ?_ | refine Xb (m5) ?_) | simp only [go_sem, optI, Option.getD_some, Option.getD_none, Int.reduceToNat, reduceIte, Nat.reduceEqDiff, Nat.reduceAdd, Nat.reduceMul, Nat.reduceSub, Nat.reduceLT, Nat.reduceLeDiff, reduceCtorEq, *] | refine Xs _ (fun h => ?_) (fun h => ?_) | with_reducible refine And.intro ?_ ?_
        all_goals first | omega | (simp; done) | (refine Xrp ?_; simp [resOf, Wn.le, Wn.leL, Wn.cw, C.scal, scal, encEv, evZ, credZ]; done) | skip
        all_goals trace_state
      | true =>
        rw [hok] at he
        by_cases hcut : (t.drop p.toNat).take (x2.toNat - p.toNat) = tx
        · rw [if_neg (by rw [not_or]; exact ⟨by simp, fun r => r hcut⟩)]
          rw [← hcut] at he
          clear hok htx hcut
          refine XA good (fn := Try.f44) rfl ?_
          simp only [entry, List.getD_cons_zero, List.getD_cons_succ]
          repeat' first | refine SW.step good fun K hK => ?_ | refine X2 good fun K hK => ?_ | refine X3 good fun K hK => ?_ | refine SW.seqK fun J hJ => ?_ | refine SW.last good fun K hK => ?_ | (refine hK _ ?_; clear hK K) | (refine hJ _ _ (Wk.refl _) ?_; clear hJ J) | clear hK K | clear hJ J | refine SW.skip ?_ | refine SW.ret ?_ | refine SW.retT ?_ | refine SW.retB ?_ | refine SW.exit ?_ | refine SW.exitT ?_ | refine SW.exitB ?_ | refine XN ?_ | refine SW.block ?_ | refine SW.normB ?_ | refine SW.normT ?_ | refine XT ?_ | refine XF ?_ | refine XC (fun h => ?_) (fun h => ?_) | refine X0 ?_ | refine Xv ?_ | refine X1 (hr) ?_ | refine X1 (he) ?_ | (refine Xm (.s 17 0) ?_; first | refine Xa (m1) ?_ | refine Xb (m1) ?_) | (refine Xm (.s 17 0) ?_; first | refine Xa (m2) ?_ | refine Xb (m2) ?_) | (refine Xm (.s 17 0) ?_; first | refine Xa (m3) ?_ | refine Xb (m3) ?_) | (refine Xm (.s 17 0) ?_; first | refine Xa (m4) ?_ | refine Xb (m4) ?_) | (refine Xm (.s 17 0) ?_; first | refine Xa (m5) ?_ | refine Xb (m5) ?_) | simp only [go_sem, optI, Option.getD_some, Option.getD_none, Int.reduceToNat, reduceIte, Nat.reduceEqDiff, Nat.reduceAdd, Nat.reduceMul, Nat.reduceSub, Nat.reduceLT, Nat.reduceLeDiff, reduceCtorEq, *] | refine Xs _ (fun h => ?_) (fun h => ?_) | with_reducible refine And.intro ?_ ?_
          all_goals first | omega | (simp; done) | (refine Xrp ?_; simp [resOf, Wn.le, Wn.leL, Wn.cw, C.scal, scal, encEv, evZ, credZ]; done) | (exfalso; simp at *; done) | skip
          all_goals trace_state
        · rw [if_pos (.inr hcut)]
          clear hok htx
          refine XA good (fn := Try.f44) rfl ?_
          simp only [entry, List.getD_cons_zero, List.getD_cons_succ]
          repeat' first | refine SW.step good fun K hK => ?_ | refine X2 good fun K hK => ?_ | refine X3 good fun K hK => ?_ | refine SW.seqK fun J hJ => ?_ | refine SW.last good fun K hK => ?_ | (refine hK _ ?_; clear hK K) | (refine hJ _ _ (Wk.refl _) ?_; clear hJ J) | clear hK K | clear hJ J | refine SW.skip ?_ | refine SW.ret ?_ | refine SW.retT ?_ | refine SW.retB ?_ | refine SW.exit ?_ | refine SW.exitT ?_ | refine SW.exitB ?_ | refine XN ?_ | refine SW.block ?_ | refine SW.normB ?_ | refine SW.normT ?_ | refine XT ?_ | refine XF ?_ | refine XC (fun h => ?_) (fun h => ?_) | refine X0 ?_ | refine Xv ?_ | refine X1 (hr) ?_ | refine X1 (he) ?_ | (refine Xm (.s 17 0) ?_; first | refine Xa (m1) ?_ | refine Xb (m1) ?_) | (refine Xm (.s 17 0) ?_; first | refine Xa (m2) ?_ | refine Xb (m2) ?_) | (refine Xm (.s 17 0) ?_; first | refine Xa (m3) ?_ | refine Xb (m3) ?_) | (refine Xm (.s 17 0) ?_; first | refine Xa (m4) ?_ | refine Xb (m4) ?_) | (refine Xm (.s 17 0) ?_; first | refine Xa (m5) ?_ | refine Xb (m5) ?_) | simp only [go_sem, optI, Option.getD_some, Option.getD_none, Int.reduceToNat, reduceIte, Nat.reduceEqDiff, Nat.reduceAdd, Nat.reduceMul, Nat.reduceSub, Nat.reduceLT, Nat.reduceLeDiff, reduceCtorEq, *] | refine Xs _ (fun h => ?_) (fun h => ?_) | with_reducible refine And.intro ?_ ?_
          all_goals first | omega | (simp; done) | (refine Xrp ?_; simp [resOf, Wn.le, Wn.leL, Wn.cw, C.scal, scal, encEv, evZ, credZ]; done) | (exfalso; rw [Bool.not_eq_false'] at h; exact hcut (of_decide_eq_true h)) | skip
          all_goals trace_state
    | some q =>
      simp only [hrc, Option.getD_some, Option.isSome_some] at hr he hes ⊢
      clear hrc
      generalize htx : eventText ⟨a1, b1, c1, q, ⟨x1.toArray⟩⟩ = tx at *
      cases hok : eventFit ⟨a1, b1, c1, q, ⟨x1.toArray⟩⟩ with
      | false =>
        rw [hok] at he
        rw [if_pos (.inl rfl)]
        clear hok htx
        refine XA good (fn := Try.f44) rfl ?_
        simp only [entry, List.getD_cons_zero, List.getD_cons_succ]
        repeat' first | refine SW.step good fun K hK => ?_ | refine X2 good fun K hK => ?_ | refine X3 good fun K hK => ?_ | refine SW.seqK fun J hJ => ?_ | refine SW.last good fun K hK => ?_ | (refine hK _ ?_; clear hK K) | (refine hJ _ _ (Wk.refl _) ?_; clear hJ J) | clear hK K | clear hJ J | refine SW.skip ?_ | refine SW.ret ?_ | refine SW.retT ?_ | refine SW.retB ?_ | refine SW.exit ?_ | refine SW.exitT ?_ | refine SW.exitB ?_ | refine XN ?_ | refine SW.block ?_ | refine SW.normB ?_ | refine SW.normT ?_ | refine XT ?_ | refine XF ?_ | refine XC (fun h => ?_) (fun h => ?_) | refine X0 ?_ | refine Xv ?_ | refine X1 (hr) ?_ | refine X1 (he) ?_ | (refine Xm (.s 17 0) ?_; first | refine Xa (m1) ?_ | refine Xb (m1) ?_) | (refine Xm (.s 17 0) ?_; first | refine Xa (m2) ?_ | refine Xb (m2) ?_) | (refine Xm (.s 17 0) ?_; first | refine Xa (m3) ?_ | refine Xb (m3) ?_) | (refine Xm (.s 17 0) ?_; first | refine Xa (m4) ?_ | refine Xb (m4) ?_) | (refine Xm (.s 17 0) ?_; first | refine Xa (m5) ?_ | refine Xb (m5) ?_) | simp only [go_sem, optI, Option.getD_some, Option.getD_none, Int.reduceToNat, reduceIte, Nat.reduceEqDiff, Nat.reduceAdd, Nat.reduceMul, Nat.reduceSub, Nat.reduceLT, Nat.reduceLeDiff, reduceCtorEq, *] | refine Xs _ (fun h => ?_) (fun h => ?_) | with_reducible refine And.intro ?_ ?_
        all_goals first | omega | (simp; done) | (refine Xrp ?_; simp [resOf, Wn.le, Wn.leL, Wn.cw, C.scal, scal, encEv, evZ, credZ]; done) | skip
        all_goals trace_state
      | true =>
        rw [hok] at he
        by_cases hcut : (t.drop p.toNat).take (x2.toNat - p.toNat) = tx
        · rw [if_neg (by rw [not_or]; exact ⟨by simp, fun r => r hcut⟩)]
          rw [← hcut] at he
          clear hok htx hcut
          refine XA good (fn := Try.f44) rfl ?_
          simp only [entry, List.getD_cons_zero, List.getD_cons_succ]
          repeat' first | refine SW.step good fun K hK => ?_ | refine X2 good fun K hK => ?_ | refine X3 good fun K hK => ?_ | refine SW.seqK fun J hJ => ?_ | refine SW.last good fun K hK => ?_ | (refine hK _ ?_; clear hK K) | (refine hJ _ _ (Wk.refl _) ?_; clear hJ J) | clear hK K | clear hJ J | refine SW.skip ?_ | refine SW.ret ?_ | refine SW.retT ?_ | refine SW.retB ?_ | refine SW.exit ?_ | refine SW.exitT ?_ | refine SW.exitB ?_ | refine XN ?_ | refine SW.block ?_ | refine SW.normB ?_ | refine SW.normT ?_ | refine XT ?_ | refine XF ?_ | refine XC (fun h => ?_) (fun h => ?_) | refine X0 ?_ | refine Xv ?_ | refine X1 (hr) ?_ | refine X1 (he) ?_ | (refine Xm (.s 17 0) ?_; first | refine Xa (m1) ?_ | refine Xb (m1) ?_) | (refine Xm (.s 17 0) ?_; first | refine Xa (m2) ?_ | refine Xb (m2) ?_) | (refine Xm (.s 17 0) ?_; first | refine Xa (m3) ?_ | refine Xb (m3) ?_) | (refine Xm (.s 17 0) ?_; first | refine Xa (m4) ?_ | refine Xb (m4) ?_) | (refine Xm (.s 17 0) ?_; first | refine Xa (m5) ?_ | refine Xb (m5) ?_) | simp only [go_sem, optI, Option.getD_some, Option.getD_none, Int.reduceToNat, reduceIte, Nat.reduceEqDiff, Nat.reduceAdd, Nat.reduceMul, Nat.reduceSub, Nat.reduceLT, Nat.reduceLeDiff, reduceCtorEq, *] | refine Xs _ (fun h => ?_) (fun h => ?_) | with_reducible refine And.intro ?_ ?_
          all_goals first | omega | (simp; done) | (refine Xrp ?_; simp [resOf, Wn.le, Wn.leL, Wn.cw, C.scal, scal, encEv, evZ, credZ]; done) | (exfalso; simp at *; done) | skip
          all_goals trace_state
        · rw [if_pos (.inr hcut)]
          clear hok htx
          refine XA good (fn := Try.f44) rfl ?_
          simp only [entry, List.getD_cons_zero, List.getD_cons_succ]
          repeat' first | refine SW.step good fun K hK => ?_ | refine X2 good fun K hK => ?_ | refine X3 good fun K hK => ?_ | refine SW.seqK fun J hJ => ?_ | refine SW.last good fun K hK => ?_ | (refine hK _ ?_; clear hK K) | (refine hJ _ _ (Wk.refl _) ?_; clear hJ J) | clear hK K | clear hJ J | refine SW.skip ?_ | refine SW.ret ?_ | refine SW.retT ?_ | refine SW.retB ?_ | refine SW.exit ?_ | refine SW.exitT ?_ | refine SW.exitB ?_ | refine XN ?_ | refine SW.block ?_ | refine SW.normB ?_ | refine SW.normT ?_ | refine XT ?_ | refine XF ?_ | refine XC (fun h => ?_) (fun h => ?_) | refine X0 ?_ | refine Xv ?_ | refine X1 (hr) ?_ | refine X1 (he) ?_ | (refine Xm (.s 17 0) ?_; first | refine Xa (m1) ?_ | refine Xb (m1) ?_) | (refine Xm (.s 17 0) ?_; first | refine Xa (m2) ?_ | refine Xb (m2) ?_) | (refine Xm (.s 17 0) ?_; first | refine Xa (m3) ?_ | refine Xb (m3) ?_) | (refine Xm (.s 17 0) ?_; first | refine Xa (m4) ?_ | refine Xb (m4) ?_) | (refine Xm (.s 17 0) ?_; first | refine Xa (m5) ?_ | refine Xb (m5) ?_) | simp only [go_sem, optI, Option.getD_some, Option.getD_none, Int.reduceToNat, reduceIte, Nat.reduceEqDiff, Nat.reduceAdd, Nat.reduceMul, Nat.reduceSub, Nat.reduceLT, Nat.reduceLeDiff, reduceCtorEq, *] | refine Xs _ (fun h => ?_) (fun h => ?_) | with_reducible refine And.intro ?_ ?_
          all_goals first | omega | (simp; done) | (refine Xrp ?_; simp [resOf, Wn.le, Wn.leL, Wn.cw, C.scal, scal, encEv, evZ, credZ]; done) | (exfalso; rw [Bool.not_eq_false'] at h; exact hcut (of_decide_eq_true h)) | skip
          all_goals trace_state
theorem ac_lawReadEvent (t : List UInt8) (p : Int) (ht : t.length ≤ 9223372036854775807) : AC Try.prog 9 [vS t, vI p] (vB true) [] := by
  by_cases h1 : 1048576 < t.length
  · have g1 : decide ((1048576 : Int) < (t.length : Int)) = true := by simp; omega
    refine XA good (fn := Try.f9) rfl ?_
    simp only [entry, List.getD_cons_zero, List.getD_cons_succ]
    repeat' first | refine SW.step good fun K hK => ?_ | refine X2 good fun K hK => ?_ | refine X3 good fun K hK => ?_ | refine SW.seqK fun J hJ => ?_ | refine SW.last good fun K hK => ?_ | (refine hK _ ?_; clear hK K) | (refine hJ _ _ (Wk.refl _) ?_; clear hJ J) | clear hK K | clear hJ J | refine SW.skip ?_ | refine SW.ret ?_ | refine SW.retT ?_ | refine SW.retB ?_ | refine SW.exit ?_ | refine SW.exitT ?_ | refine SW.exitB ?_ | refine XN ?_ | refine SW.block ?_ | refine SW.normB ?_ | refine SW.normT ?_ | refine XT ?_ | refine XF ?_ | refine XC (fun h => ?_) (fun h => ?_) | simp only [go_sem, optI, Option.getD_some, Option.getD_none, Int.reduceToNat, reduceIte, Nat.reduceEqDiff, Nat.reduceAdd, Nat.reduceMul, Nat.reduceSub, Nat.reduceLT, Nat.reduceLeDiff, reduceCtorEq, *] | refine Xs _ (fun h => ?_) (fun h => ?_) | with_reducible refine And.intro ?_ ?_
    all_goals (refine Xrb ?_; rfl)
  · have g1 : decide ((1048576 : Int) < (t.length : Int)) = false := by simp; omega
    have hs := ac_ReadEventS t p (by omega)
    have hi := ac_ReadEvent t p (by omega)
    rw [readEv_eq] at hi
    generalize readEvS t p = r at *
    obtain ⟨r1, r2, r3⟩ := r
    simp only at hs hi
    refine XA good (fn := Try.f9) rfl ?_
    simp only [entry, List.getD_cons_zero, List.getD_cons_succ]
    repeat' first | refine SW.step good fun K hK => ?_ | refine X2 good fun K hK => ?_ | refine X3 good fun K hK => ?_ | refine SW.seqK fun J hJ => ?_ | refine SW.last good fun K hK => ?_ | (refine hK _ ?_; clear hK K) | (refine hJ _ _ (Wk.refl _) ?_; clear hJ J) | clear hK K | clear hJ J | refine SW.skip ?_ | refine SW.ret ?_ | refine SW.retT ?_ | refine SW.retB ?_ | refine SW.exit ?_ | refine SW.exitT ?_ | refine SW.exitB ?_ | refine XN ?_ | refine SW.block ?_ | refine SW.normB ?_ | refine SW.normT ?_ | refine XT ?_ | refine XF ?_ | refine XC (fun h => ?_) (fun h => ?_) | refine X0 ?_ | refine Xv ?_ | refine X1 (hs) ?_ | refine X1 (hi) ?_ | refine X1 (ac_eqEvent r1) ?_ | simp only [go_sem, optI, Option.getD_some, Option.getD_none, Int.reduceToNat, reduceIte, Nat.reduceEqDiff, Nat.reduceAdd, Nat.reduceMul, Nat.reduceSub, Nat.reduceLT, Nat.reduceLeDiff, reduceCtorEq, *] | refine Xs _ (fun h => ?_) (fun h => ?_) | with_reducible refine And.intro ?_ ?_
    all_goals first | omega | (refine Xrb ?_; rfl) | (exfalso; simp at *; done) | skip
    all_goals trace_state
end Go.Proofs.Ytbpfciidbgkekaa.AB
