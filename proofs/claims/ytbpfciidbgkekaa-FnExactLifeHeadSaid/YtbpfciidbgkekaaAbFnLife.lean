/- Lives as texts. -/
import Derived.Test.YtbpfciidbgkekaaAbFlText
namespace Go.Proofs.Ytbpfciidbgkekaa.AB
open Go
set_option maxRecDepth 100000
set_option linter.unusedSimpArgs false
set_option linter.unusedVariables false
def lifeT (L : List Event) : List UInt8 := L.flatMap eventText
def lifeFit (L : List Event) : Bool := decide (L.length ≤ 60) && L.all eventFit
def lifeText (L : List Event) : List UInt8 := if lifeFit L then lifeT L else []
theorem lifeT_take (L : List Event) {k : Nat} (h : k < L.length) : lifeT (L.take (k + 1)) = lifeT (L.take k) ++ eventText L[k] := by
  unfold lifeT
  rw [List.take_add_one, List.getElem?_eq_getElem h, List.flatMap_append]; simp
theorem lifeT_len (L : List Event) : (lifeT L).length ≤ 800 * L.length := by
  induction L with
  | nil => simp [lifeT]
  | cons e L ih => have := eventText_len e; simp only [lifeT, List.flatMap_cons, List.length_append, List.length_cons] at ih ⊢; omega
theorem all_take (L : List Event) {k : Nat} (h : k < L.length) : (L.take (k + 1)).all eventFit = ((L.take k).all eventFit && eventFit L[k]) := by
  rw [List.take_add_one, List.getElem?_eq_getElem h, List.all_append]; simp
theorem all_false {L : List Event} {k : Nat} (h : k < L.length) (he : eventFit L[k] = false) : L.all eventFit = false := by
  rw [List.all_eq_false]; exact ⟨L[k], List.getElem_mem h, by simp [he]⟩
set_option maxHeartbeats 4000000 in
theorem ac_LifeText (L : List Event) (hL : L.length ≤ 1048576) : AC Try.prog 43 [evL L] (.tup [vS (lifeText L), vB (lifeFit L)]) [] := by
  by_cases hn : L.length ≤ 60
  · have g1 : decide ((60 : Int) < L.length) = false := by simp; omega
    have g2 : decide ((L.length : Int) > 60) = false := by simp; omega
    refine XA good (fn := Try.f43) rfl ?_
    simp only [entry, List.getD_cons_zero, List.getD_cons_succ]
    simp only [evL]
    repeat' first | refine SW.step good fun K hK => ?_ | refine X2 good fun K hK => ?_ | refine X3 good fun K hK => ?_ | refine SW.seqK fun J hJ => ?_ | refine SW.last good fun K hK => ?_ | (refine hK _ ?_; clear hK K) | (refine hJ _ _ (Wk.refl _) ?_; clear hJ J) | clear hK K | clear hJ J | refine SW.skip ?_ | refine SW.ret ?_ | refine SW.retT ?_ | refine SW.retB ?_ | refine SW.exit ?_ | refine SW.exitT ?_ | refine SW.exitB ?_ | refine XN ?_ | refine SW.block ?_ | refine SW.normB ?_ | refine SW.normT ?_ | refine XT ?_ | refine XF ?_ | refine XC (fun h => ?_) (fun h => ?_) | simp only [go_sem, optI, Option.getD_some, Option.getD_none, Int.reduceToNat, reduceIte, Nat.reduceEqDiff, Nat.reduceAdd, Nat.reduceMul, Nat.reduceSub, Nat.reduceLT, Nat.reduceLeDiff, reduceCtorEq, *] | refine Xs _ (fun h => ?_) (fun h => ?_) | with_reducible refine And.intro ?_ ?_
    refine SW.loopTo (α := Nat) (fun k => ⟨sl [(4, vS (lifeT (L.take k))), (12, .c true (.sl (L.map evC))), (13, vI L.length), (14, vI k)], hl []⟩) (fun k => L.length - k) 0
      (fun k => k ≤ L.length ∧ (L.take k).all eventFit = true) ?_ ⟨by simp, by simp⟩ ?_
    · (refine Xto _ _ ?_ ?_ <;> simp only [go_sem, optI, Option.getD_some, Option.getD_none, Int.reduceToNat, reduceIte, Nat.reduceEqDiff, Nat.reduceAdd, Nat.reduceMul, Nat.reduceSub, Nat.reduceLT, Nat.reduceLeDiff, reduceCtorEq, Option.some.injEq, or_true, true_or] <;> (repeat' with_reducible apply And.intro) <;> (try rfl))
    · rintro k ⟨h2, h3⟩
      by_cases hk : k < L.length
      · have e := getD_map L evC [] hk
        have e1 : decide ((k : Int) < L.length) = true := by simp; omega
        have ht := lifeT_take L hk
        have ha := all_take L hk
        have hlen := lifeT_len (L.take k)
        rw [List.length_take] at hlen
        have hlen2 := eventText_len L[k]
        by_cases hf : eventFit L[k] = true
        · skip
          repeat' first | refine SW.step good fun K hK => ?_ | refine X2 good fun K hK => ?_ | refine X3 good fun K hK => ?_ | refine SW.seqK fun J hJ => ?_ | refine SW.last good fun K hK => ?_ | (refine hK _ ?_; clear hK K) | (refine hJ _ _ (Wk.refl _) ?_; clear hJ J) | clear hK K | clear hJ J | refine SW.skip ?_ | refine SW.ret ?_ | refine SW.retT ?_ | refine SW.retB ?_ | refine SW.exit ?_ | refine SW.exitT ?_ | refine SW.exitB ?_ | refine XN ?_ | refine SW.block ?_ | refine SW.normB ?_ | refine SW.normT ?_ | refine XT ?_ | refine XF ?_ | refine XC (fun h => ?_) (fun h => ?_) | refine X0 ?_ | refine Xv ?_ | refine X1 (ac_EventText L[k]) ?_ | simp only [go_sem, optI, Option.getD_some, Option.getD_none, Int.reduceToNat, reduceIte, Nat.reduceEqDiff, Nat.reduceAdd, Nat.reduceMul, Nat.reduceSub, Nat.reduceLT, Nat.reduceLeDiff, reduceCtorEq, *] | refine Xs _ (fun h => ?_) (fun h => ?_) | with_reducible refine And.intro ?_ ?_
          all_goals first | omega | (simp; omega) | skip
          all_goals (refine ⟨k + 1, ⟨by omega, by rw [ha, h3, hf]; rfl⟩, by omega, ?_⟩)
          all_goals (refine Xto _ _ ?_ ?_ <;> simp only [go_sem, optI, Option.getD_some, Option.getD_none, Int.reduceToNat, reduceIte, Nat.reduceEqDiff, Nat.reduceAdd, Nat.reduceMul, Nat.reduceSub, Nat.reduceLT, Nat.reduceLeDiff, reduceCtorEq, Option.some.injEq, or_true, true_or] <;> (repeat' with_reducible apply And.intro) <;> (try rfl))
          all_goals first | (rw [ht]; done) | (rw [ht]; rfl) | (rw [wrap64 (by omega) (by omega)]; simp; done) | skip
        · have hf' : eventFit L[k] = false := by simpa using hf
          have hfit : lifeFit L = false := by unfold lifeFit; rw [all_false hk hf']; simp
          repeat' first | refine SW.step good fun K hK => ?_ | refine X2 good fun K hK => ?_ | refine X3 good fun K hK => ?_ | refine SW.seqK fun J hJ => ?_ | refine SW.last good fun K hK => ?_ | (refine hK _ ?_; clear hK K) | (refine hJ _ _ (Wk.refl _) ?_; clear hJ J) | clear hK K | clear hJ J | refine SW.skip ?_ | refine SW.ret ?_ | refine SW.retT ?_ | refine SW.retB ?_ | refine SW.exit ?_ | refine SW.exitT ?_ | refine SW.exitB ?_ | refine XN ?_ | refine SW.block ?_ | refine SW.normB ?_ | refine SW.normT ?_ | refine XT ?_ | refine XF ?_ | refine XC (fun h => ?_) (fun h => ?_) | refine X0 ?_ | refine Xv ?_ | refine X1 (ac_EventText L[k]) ?_ | simp only [go_sem, optI, Option.getD_some, Option.getD_none, Int.reduceToNat, reduceIte, Nat.reduceEqDiff, Nat.reduceAdd, Nat.reduceMul, Nat.reduceSub, Nat.reduceLT, Nat.reduceLeDiff, reduceCtorEq, *] | refine Xs _ (fun h => ?_) (fun h => ?_) | with_reducible refine And.intro ?_ ?_
          all_goals first | omega | (simp; omega) | skip
          all_goals (refine Xrp ?_; simp [resOf, Wn.le, Wn.leL, Wn.cw, C.scal, scal, lifeText, hfit, vS, vB])
      · have hk : k = L.length := by omega
        subst hk
        have e1 : decide ((L.length : Int) < L.length) = false := by simp
        rw [List.take_length] at h3
        have hfit : lifeFit L = true := by unfold lifeFit; rw [h3]; simp [hn]
        repeat' first | refine SW.step good fun K hK => ?_ | refine X2 good fun K hK => ?_ | refine X3 good fun K hK => ?_ | refine SW.seqK fun J hJ => ?_ | refine SW.last good fun K hK => ?_ | (refine hK _ ?_; clear hK K) | (refine hJ _ _ (Wk.refl _) ?_; clear hJ J) | clear hK K | clear hJ J | refine SW.skip ?_ | refine SW.ret ?_ | refine SW.retT ?_ | refine SW.retB ?_ | refine SW.exit ?_ | refine SW.exitT ?_ | refine SW.exitB ?_ | refine XN ?_ | refine SW.block ?_ | refine SW.normB ?_ | refine SW.normT ?_ | refine XT ?_ | refine XF ?_ | refine XC (fun h => ?_) (fun h => ?_) | simp only [go_sem, optI, Option.getD_some, Option.getD_none, Int.reduceToNat, reduceIte, Nat.reduceEqDiff, Nat.reduceAdd, Nat.reduceMul, Nat.reduceSub, Nat.reduceLT, Nat.reduceLeDiff, reduceCtorEq, *] | refine Xs _ (fun h => ?_) (fun h => ?_) | with_reducible refine And.intro ?_ ?_
        all_goals rw [List.take_length]
        all_goals (refine Xrp ?_; simp [resOf, Wn.le, Wn.leL, Wn.cw, C.scal, scal, lifeText, hfit, vS, vB])
  · have g1 : decide ((60 : Int) < L.length) = true := by simp; omega
    have g2 : decide ((L.length : Int) > 60) = true := by simp; omega
    have hfit : lifeFit L = false := by simp [lifeFit, hn]
    refine XA good (fn := Try.f43) rfl ?_
    simp only [entry, List.getD_cons_zero, List.getD_cons_succ]
    simp only [evL]
    repeat' first | refine SW.step good fun K hK => ?_ | refine X2 good fun K hK => ?_ | refine X3 good fun K hK => ?_ | refine SW.seqK fun J hJ => ?_ | refine SW.last good fun K hK => ?_ | (refine hK _ ?_; clear hK K) | (refine hJ _ _ (Wk.refl _) ?_; clear hJ J) | clear hK K | clear hJ J | refine SW.skip ?_ | refine SW.ret ?_ | refine SW.retT ?_ | refine SW.retB ?_ | refine SW.exit ?_ | refine SW.exitT ?_ | refine SW.exitB ?_ | refine XN ?_ | refine SW.block ?_ | refine SW.normB ?_ | refine SW.normT ?_ | refine XT ?_ | refine XF ?_ | refine XC (fun h => ?_) (fun h => ?_) | simp only [go_sem, optI, Option.getD_some, Option.getD_none, Int.reduceToNat, reduceIte, Nat.reduceEqDiff, Nat.reduceAdd, Nat.reduceMul, Nat.reduceSub, Nat.reduceLT, Nat.reduceLeDiff, reduceCtorEq, *] | refine Xs _ (fun h => ?_) (fun h => ?_) | with_reducible refine And.intro ?_ ?_
    all_goals (refine Xrp ?_; simp [resOf, Wn.le, Wn.leL, Wn.cw, C.scal, scal, lifeText, hfit, vS, vB])
set_option maxHeartbeats 4000000 in
theorem ac_LifeText' (L : List Event) (hL : L.length ≤ 1048576) : AC Try.prog 42 [evL L] (.tup [vS (lifeText L), vB (lifeFit L)]) [] := by
  by_cases hn : L.length ≤ 60
  · have g1 : decide ((60 : Int) < L.length) = false := by simp; omega
    have g2 : decide ((L.length : Int) > 60) = false := by simp; omega
    refine XA good (fn := Try.f42) rfl ?_
    simp only [entry, List.getD_cons_zero, List.getD_cons_succ]
    simp only [evL]
    repeat' first | refine SW.step good fun K hK => ?_ | refine X2 good fun K hK => ?_ | refine X3 good fun K hK => ?_ | refine SW.seqK fun J hJ => ?_ | refine SW.last good fun K hK => ?_ | (refine hK _ ?_; clear hK K) | (refine hJ _ _ (Wk.refl _) ?_; clear hJ J) | clear hK K | clear hJ J | refine SW.skip ?_ | refine SW.ret ?_ | refine SW.retT ?_ | refine SW.retB ?_ | refine SW.exit ?_ | refine SW.exitT ?_ | refine SW.exitB ?_ | refine XN ?_ | refine SW.block ?_ | refine SW.normB ?_ | refine SW.normT ?_ | refine XT ?_ | refine XF ?_ | refine XC (fun h => ?_) (fun h => ?_) | simp only [go_sem, optI, Option.getD_some, Option.getD_none, Int.reduceToNat, reduceIte, Nat.reduceEqDiff, Nat.reduceAdd, Nat.reduceMul, Nat.reduceSub, Nat.reduceLT, Nat.reduceLeDiff, reduceCtorEq, *] | refine Xs _ (fun h => ?_) (fun h => ?_) | with_reducible refine And.intro ?_ ?_
    refine SW.loopTo (α := Nat) (fun k => ⟨sl [(4, vS (lifeT (L.take k))), (0, .c true (.sl (L.map evC))), (5, vI k)], hl []⟩) (fun k => L.length - k) 0
      (fun k => k ≤ L.length ∧ (L.take k).all eventFit = true) ?_ ⟨by simp, by simp⟩ ?_
    · (refine Xto _ _ ?_ ?_ <;> simp only [go_sem, optI, Option.getD_some, Option.getD_none, Int.reduceToNat, reduceIte, Nat.reduceEqDiff, Nat.reduceAdd, Nat.reduceMul, Nat.reduceSub, Nat.reduceLT, Nat.reduceLeDiff, reduceCtorEq, Option.some.injEq, or_true, true_or] <;> (repeat' with_reducible apply And.intro) <;> (try rfl))
    · rintro k ⟨h2, h3⟩
      by_cases hk : k < L.length
      · have e := getD_map L evC [] hk
        have e1 : decide ((k : Int) < L.length) = true := by simp; omega
        have ht := lifeT_take L hk
        have ha := all_take L hk
        have hlen := lifeT_len (L.take k)
        rw [List.length_take] at hlen
        have hlen2 := eventText_len L[k]
        by_cases hf : eventFit L[k] = true
        · skip
          repeat' first | refine SW.step good fun K hK => ?_ | refine X2 good fun K hK => ?_ | refine X3 good fun K hK => ?_ | refine SW.seqK fun J hJ => ?_ | refine SW.last good fun K hK => ?_ | (refine hK _ ?_; clear hK K) | (refine hJ _ _ (Wk.refl _) ?_; clear hJ J) | clear hK K | clear hJ J | refine SW.skip ?_ | refine SW.ret ?_ | refine SW.retT ?_ | refine SW.retB ?_ | refine SW.exit ?_ | refine SW.exitT ?_ | refine SW.exitB ?_ | refine XN ?_ | refine SW.block ?_ | refine SW.normB ?_ | refine SW.normT ?_ | refine XT ?_ | refine XF ?_ | refine XC (fun h => ?_) (fun h => ?_) | refine X0 ?_ | refine Xv ?_ | refine X1 (ac_EventText' L[k]) ?_ | simp only [go_sem, optI, Option.getD_some, Option.getD_none, Int.reduceToNat, reduceIte, Nat.reduceEqDiff, Nat.reduceAdd, Nat.reduceMul, Nat.reduceSub, Nat.reduceLT, Nat.reduceLeDiff, reduceCtorEq, *] | refine Xs _ (fun h => ?_) (fun h => ?_) | with_reducible refine And.intro ?_ ?_
          all_goals first | omega | (simp; omega) | skip
          all_goals (refine ⟨k + 1, ⟨by omega, by rw [ha, h3, hf]; rfl⟩, by omega, ?_⟩)
          all_goals (refine Xto _ _ ?_ ?_ <;> simp only [go_sem, optI, Option.getD_some, Option.getD_none, Int.reduceToNat, reduceIte, Nat.reduceEqDiff, Nat.reduceAdd, Nat.reduceMul, Nat.reduceSub, Nat.reduceLT, Nat.reduceLeDiff, reduceCtorEq, Option.some.injEq, or_true, true_or] <;> (repeat' with_reducible apply And.intro) <;> (try rfl))
          all_goals first | (rw [ht]; done) | (rw [ht]; rfl) | (rw [wrap64 (by omega) (by omega)]; simp; done) | skip
        · have hf' : eventFit L[k] = false := by simpa using hf
          have hfit : lifeFit L = false := by unfold lifeFit; rw [all_false hk hf']; simp
          repeat' first | refine SW.step good fun K hK => ?_ | refine X2 good fun K hK => ?_ | refine X3 good fun K hK => ?_ | refine SW.seqK fun J hJ => ?_ | refine SW.last good fun K hK => ?_ | (refine hK _ ?_; clear hK K) | (refine hJ _ _ (Wk.refl _) ?_; clear hJ J) | clear hK K | clear hJ J | refine SW.skip ?_ | refine SW.ret ?_ | refine SW.retT ?_ | refine SW.retB ?_ | refine SW.exit ?_ | refine SW.exitT ?_ | refine SW.exitB ?_ | refine XN ?_ | refine SW.block ?_ | refine SW.normB ?_ | refine SW.normT ?_ | refine XT ?_ | refine XF ?_ | refine XC (fun h => ?_) (fun h => ?_) | refine X0 ?_ | refine Xv ?_ | refine X1 (ac_EventText' L[k]) ?_ | simp only [go_sem, optI, Option.getD_some, Option.getD_none, Int.reduceToNat, reduceIte, Nat.reduceEqDiff, Nat.reduceAdd, Nat.reduceMul, Nat.reduceSub, Nat.reduceLT, Nat.reduceLeDiff, reduceCtorEq, *] | refine Xs _ (fun h => ?_) (fun h => ?_) | with_reducible refine And.intro ?_ ?_
          all_goals first | omega | (simp; omega) | skip
          all_goals (refine Xrp ?_; simp [resOf, Wn.le, Wn.leL, Wn.cw, C.scal, scal, lifeText, hfit, vS, vB])
      · have hk : k = L.length := by omega
        subst hk
        have e1 : decide ((L.length : Int) < L.length) = false := by simp
        rw [List.take_length] at h3
        have hfit : lifeFit L = true := by unfold lifeFit; rw [h3]; simp [hn]
        repeat' first | refine SW.step good fun K hK => ?_ | refine X2 good fun K hK => ?_ | refine X3 good fun K hK => ?_ | refine SW.seqK fun J hJ => ?_ | refine SW.last good fun K hK => ?_ | (refine hK _ ?_; clear hK K) | (refine hJ _ _ (Wk.refl _) ?_; clear hJ J) | clear hK K | clear hJ J | refine SW.skip ?_ | refine SW.ret ?_ | refine SW.retT ?_ | refine SW.retB ?_ | refine SW.exit ?_ | refine SW.exitT ?_ | refine SW.exitB ?_ | refine XN ?_ | refine SW.block ?_ | refine SW.normB ?_ | refine SW.normT ?_ | refine XT ?_ | refine XF ?_ | refine XC (fun h => ?_) (fun h => ?_) | simp only [go_sem, optI, Option.getD_some, Option.getD_none, Int.reduceToNat, reduceIte, Nat.reduceEqDiff, Nat.reduceAdd, Nat.reduceMul, Nat.reduceSub, Nat.reduceLT, Nat.reduceLeDiff, reduceCtorEq, *] | refine Xs _ (fun h => ?_) (fun h => ?_) | with_reducible refine And.intro ?_ ?_
        all_goals rw [List.take_length]
        all_goals (refine Xrp ?_; simp [resOf, Wn.le, Wn.leL, Wn.cw, C.scal, scal, lifeText, hfit, vS, vB])
  · have g1 : decide ((60 : Int) < L.length) = true := by simp; omega
    have g2 : decide ((L.length : Int) > 60) = true := by simp; omega
    have hfit : lifeFit L = false := by simp [lifeFit, hn]
    refine XA good (fn := Try.f42) rfl ?_
    simp only [entry, List.getD_cons_zero, List.getD_cons_succ]
    simp only [evL]
    repeat' first | refine SW.step good fun K hK => ?_ | refine X2 good fun K hK => ?_ | refine X3 good fun K hK => ?_ | refine SW.seqK fun J hJ => ?_ | refine SW.last good fun K hK => ?_ | (refine hK _ ?_; clear hK K) | (refine hJ _ _ (Wk.refl _) ?_; clear hJ J) | clear hK K | clear hJ J | refine SW.skip ?_ | refine SW.ret ?_ | refine SW.retT ?_ | refine SW.retB ?_ | refine SW.exit ?_ | refine SW.exitT ?_ | refine SW.exitB ?_ | refine XN ?_ | refine SW.block ?_ | refine SW.normB ?_ | refine SW.normT ?_ | refine XT ?_ | refine XF ?_ | refine XC (fun h => ?_) (fun h => ?_) | simp only [go_sem, optI, Option.getD_some, Option.getD_none, Int.reduceToNat, reduceIte, Nat.reduceEqDiff, Nat.reduceAdd, Nat.reduceMul, Nat.reduceSub, Nat.reduceLT, Nat.reduceLeDiff, reduceCtorEq, *] | refine Xs _ (fun h => ?_) (fun h => ?_) | with_reducible refine And.intro ?_ ?_
    all_goals (refine Xrp ?_; simp [resOf, Wn.le, Wn.leL, Wn.cw, C.scal, scal, lifeText, hfit, vS, vB])
end Go.Proofs.Ytbpfciidbgkekaa.AB
