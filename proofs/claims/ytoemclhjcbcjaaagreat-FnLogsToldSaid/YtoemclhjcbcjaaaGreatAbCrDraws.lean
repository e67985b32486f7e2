/- What the law draws. -/
import Derived.Test.YtoemclhjcbcjaaaGreatAbFlText
import Derived.Test.YtoemclhjcbcjaaaGreatAbCqEvent
namespace Go.Proofs.YtoemclhjcbcjaaaGreat.AB
open Go
set_option maxRecDepth 100000
set_option linter.unusedSimpArgs false
set_option linter.unusedVariables false
def lifeT (L : List Event) : List UInt8 := L.flatMap eventText
def lifeFit (L : List Event) : Bool := decide (L.length ≤ 60) && L.all eventFit
def lifeText (L : List Event) : List UInt8 := if lifeFit L then lifeT L else []
theorem lifeT_take (L : List Event) {k : Nat} (h : k < L.length) : lifeT (L.take (k + 1)) = lifeT (L.take k) ++ eventText L[k] := by
  unfold lifeT
  rw [List.take_add_one, List.getElem?_eq_getElem h, List.flatMap_append]; simp
theorem lifeT_len (L : List Event) : (lifeT L).length ≤ 800 * L.length := by
  induction L with
  | nil => simp [lifeT]
  | cons e L ih => have := eventText_len e; simp only [lifeT, List.flatMap_cons, List.length_append, List.length_cons] at ih ⊢; omega
theorem all_take (L : List Event) {k : Nat} (h : k < L.length) : (L.take (k + 1)).all eventFit = ((L.take k).all eventFit && eventFit L[k]) := by
  rw [List.take_add_one, List.getElem?_eq_getElem h, List.all_append]; simp
theorem all_false {L : List Event} {k : Nat} (h : k < L.length) (he : eventFit L[k] = false) : L.all eventFit = false := by
  rw [List.all_eq_false]; exact ⟨L[k], List.getElem_mem h, by simp [he]⟩
set_option maxHeartbeats 4000000 in
theorem ac_LifeText (L : List Event) (hL : L.length ≤ 1048576) : AC Tryz.prog 12 [evL L] (.tup [vS (lifeText L), vB (lifeFit L)]) [] := by
  by_cases hn : L.length ≤ 60
  · have g1 : decide ((60 : Int) < L.length) = false := by simp; omega
    have g2 : decide ((L.length : Int) > 60) = false := by simp; omega
    refine XA good (fn := Tryz.f12) rfl ?_
    simp only [entry, List.getD_cons_zero, List.getD_cons_succ]
    simp only [evL]
    repeat' first | refine SW.step good fun K hK => ?_ | refine X2 good fun K hK => ?_ | refine X3 good fun K hK => ?_ | refine SW.seqK fun J hJ => ?_ | refine SW.last good fun K hK => ?_ | (refine hK _ ?_; clear hK K) | (refine hJ _ _ (Wk.refl _) ?_; clear hJ J) | clear hK K | clear hJ J | refine SW.skip ?_ | refine SW.ret ?_ | refine SW.retT ?_ | refine SW.retB ?_ | refine SW.exit ?_ | refine SW.exitT ?_ | refine SW.exitB ?_ | refine XN ?_ | refine SW.block ?_ | refine SW.normB ?_ | refine SW.normT ?_ | refine XT ?_ | refine XF ?_ | refine XC (fun h => ?_) (fun h => ?_) | simp only [go_sem, optI, Option.getD_some, Option.getD_none, Int.reduceToNat, reduceIte, Nat.reduceEqDiff, Nat.reduceAdd, Nat.reduceMul, Nat.reduceSub, Nat.reduceLT, Nat.reduceLeDiff, reduceCtorEq, *] | refine Xs _ (fun h => ?_) (fun h => ?_) | with_reducible refine And.intro ?_ ?_
    refine SW.loopTo (α := Nat) (fun k => ⟨sl [(4, vS (lifeT (L.take k))), (12, .c true (.sl (L.map evC))), (13, vI L.length), (14, vI k)], hl []⟩) (fun k => L.length - k) 0
      (fun k => k ≤ L.length ∧ (L.take k).all eventFit = true) ?_ ⟨by simp, by simp⟩ ?_
    · (refine Xto _ _ ?_ ?_ <;> simp only [go_sem, optI, Option.getD_some, Option.getD_none, Int.reduceToNat, reduceIte, Nat.reduceEqDiff, Nat.reduceAdd, Nat.reduceMul, Nat.reduceSub, Nat.reduceLT, Nat.reduceLeDiff, reduceCtorEq, Option.some.injEq, or_true, true_or] <;> (repeat' with_reducible apply And.intro) <;> (try rfl))
    · rintro k ⟨h2, h3⟩
      by_cases hk : k < L.length
      · have e := getD_map L evC [] hk
        have e1 : decide ((k : Int) < L.length) = true := by simp; omega
        have ht := lifeT_take L hk
        have ha := all_take L hk
        have hlen := lifeT_len (L.take k)
        rw [List.length_take] at hlen
        have hlen2 := eventText_len L[k]
        by_cases hf : eventFit L[k] = true
        · skip
          repeat' first | refine SW.step good fun K hK => ?_ | refine X2 good fun K hK => ?_ | refine X3 good fun K hK => ?_ | refine SW.seqK fun J hJ => ?_ | refine SW.last good fun K hK => ?_ | (refine hK _ ?_; clear hK K) | (refine hJ _ _ (Wk.refl _) ?_; clear hJ J) | clear hK K | clear hJ J | refine SW.skip ?_ | refine SW.ret ?_ | refine SW.retT ?_ | refine SW.retB ?_ | refine SW.exit ?_ | refine SW.exitT ?_ | refine SW.exitB ?_ | refine XN ?_ | refine SW.block ?_ | refine SW.normB ?_ | refine SW.normT ?_ | refine XT ?_ | refine XF ?_ | refine XC (fun h => ?_) (fun h => ?_) | refine X0 ?_ | refine Xv ?_ | refine X1 (ac_EventText L[k]) ?_ | simp only [go_sem, optI, Option.getD_some, Option.getD_none, Int.reduceToNat, reduceIte, Nat.reduceEqDiff, Nat.reduceAdd, Nat.reduceMul, Nat.reduceSub, Nat.reduceLT, Nat.reduceLeDiff, reduceCtorEq, *] | refine Xs _ (fun h => ?_) (fun h => ?_) | with_reducible refine And.intro ?_ ?_
          all_goals first | omega | (simp; omega) | skip
          all_goals (refine ⟨k + 1, ⟨by omega, by rw [ha, h3, hf]; rfl⟩, by omega, ?_⟩)
          all_goals (refine Xto _ _ ?_ ?_ <;> simp only [go_sem, optI, Option.getD_some, Option.getD_none, Int.reduceToNat, reduceIte, Nat.reduceEqDiff, Nat.reduceAdd, Nat.reduceMul, Nat.reduceSub, Nat.reduceLT, Nat.reduceLeDiff, reduceCtorEq, Option.some.injEq, or_true, true_or] <;> (repeat' with_reducible apply And.intro) <;> (try rfl))
          all_goals first | (rw [ht]; done) | (rw [ht]; rfl) | (rw [wrap64 (by omega) (by omega)]; simp; done) | skip
        · have hf' : eventFit L[k] = false := by simpa using hf
          have hfit : lifeFit L = false := by unfold lifeFit; rw [all_false hk hf']; simp
          repeat' first | refine SW.step good fun K hK => ?_ | refine X2 good fun K hK => ?_ | refine X3 good fun K hK => ?_ | refine SW.seqK fun J hJ => ?_ | refine SW.last good fun K hK => ?_ | (refine hK _ ?_; clear hK K) | (refine hJ _ _ (Wk.refl _) ?_; clear hJ J) | clear hK K | clear hJ J | refine SW.skip ?_ | refine SW.ret ?_ | refine SW.retT ?_ | refine SW.retB ?_ | refine SW.exit ?_ | refine SW.exitT ?_ | refine SW.exitB ?_ | refine XN ?_ | refine SW.block ?_ | refine SW.normB ?_ | refine SW.normT ?_ | refine XT ?_ | refine XF ?_ | refine XC (fun h => ?_) (fun h => ?_) | refine X0 ?_ | refine Xv ?_ | refine X1 (ac_EventText L[k]) ?_ | simp only [go_sem, optI, Option.getD_some, Option.getD_none, Int.reduceToNat, reduceIte, Nat.reduceEqDiff, Nat.reduceAdd, Nat.reduceMul, Nat.reduceSub, Nat.reduceLT, Nat.reduceLeDiff, reduceCtorEq, *] | refine Xs _ (fun h => ?_) (fun h => ?_) | with_reducible refine And.intro ?_ ?_
          all_goals first | omega | (simp; omega) | skip
          all_goals (refine Xrp ?_; simp [resOf, Wn.le, Wn.leL, Wn.cw, C.scal, scal, lifeText, hfit, vS, vB])
      · have hk : k = L.length := by omega
        subst hk
        have e1 : decide ((L.length : Int) < L.length) = false := by simp
        rw [List.take_length] at h3
        have hfit : lifeFit L = true := by unfold lifeFit; rw [h3]; simp [hn]
        repeat' first | refine SW.step good fun K hK => ?_ | refine X2 good fun K hK => ?_ | refine X3 good fun K hK => ?_ | refine SW.seqK fun J hJ => ?_ | refine SW.last good fun K hK => ?_ | (refine hK _ ?_; clear hK K) | (refine hJ _ _ (Wk.refl _) ?_; clear hJ J) | clear hK K | clear hJ J | refine SW.skip ?_ | refine SW.ret ?_ | refine SW.retT ?_ | refine SW.retB ?_ | refine SW.exit ?_ | refine SW.exitT ?_ | refine SW.exitB ?_ | refine XN ?_ | refine SW.block ?_ | refine SW.normB ?_ | refine SW.normT ?_ | refine XT ?_ | refine XF ?_ | refine XC (fun h => ?_) (fun h => ?_) | simp only [go_sem, optI, Option.getD_some, Option.getD_none, Int.reduceToNat, reduceIte, Nat.reduceEqDiff, Nat.reduceAdd, Nat.reduceMul, Nat.reduceSub, Nat.reduceLT, Nat.reduceLeDiff, reduceCtorEq, *] | refine Xs _ (fun h => ?_) (fun h => ?_) | with_reducible refine And.intro ?_ ?_
        all_goals rw [List.take_length]
        all_goals (refine Xrp ?_; simp [resOf, Wn.le, Wn.leL, Wn.cw, C.scal, scal, lifeText, hfit, vS, vB])
  · have g1 : decide ((60 : Int) < L.length) = true := by simp; omega
    have g2 : decide ((L.length : Int) > 60) = true := by simp; omega
    have hfit : lifeFit L = false := by simp [lifeFit, hn]
    refine XA good (fn := Tryz.f12) rfl ?_
    simp only [entry, List.getD_cons_zero, List.getD_cons_succ]
    simp only [evL]
    repeat' first | refine SW.step good fun K hK => ?_ | refine X2 good fun K hK => ?_ | refine X3 good fun K hK => ?_ | refine SW.seqK fun J hJ => ?_ | refine SW.last good fun K hK => ?_ | (refine hK _ ?_; clear hK K) | (refine hJ _ _ (Wk.refl _) ?_; clear hJ J) | clear hK K | clear hJ J | refine SW.skip ?_ | refine SW.ret ?_ | refine SW.retT ?_ | refine SW.retB ?_ | refine SW.exit ?_ | refine SW.exitT ?_ | refine SW.exitB ?_ | refine XN ?_ | refine SW.block ?_ | refine SW.normB ?_ | refine SW.normT ?_ | refine XT ?_ | refine XF ?_ | refine XC (fun h => ?_) (fun h => ?_) | simp only [go_sem, optI, Option.getD_some, Option.getD_none, Int.reduceToNat, reduceIte, Nat.reduceEqDiff, Nat.reduceAdd, Nat.reduceMul, Nat.reduceSub, Nat.reduceLT, Nat.reduceLeDiff, reduceCtorEq, *] | refine Xs _ (fun h => ?_) (fun h => ?_) | with_reducible refine And.intro ?_ ?_
    all_goals (refine Xrp ?_; simp [resOf, Wn.le, Wn.leL, Wn.cw, C.scal, scal, lifeText, hfit, vS, vB])
set_option maxHeartbeats 4000000 in
theorem ac_LifeText' (L : List Event) (hL : L.length ≤ 1048576) : AC Tryz.prog 13 [evL L] (.tup [vS (lifeText L), vB (lifeFit L)]) [] := by
  by_cases hn : L.length ≤ 60
  · have g1 : decide ((60 : Int) < L.length) = false := by simp; omega
    have g2 : decide ((L.length : Int) > 60) = false := by simp; omega
    refine XA good (fn := Tryz.f13) rfl ?_
    simp only [entry, List.getD_cons_zero, List.getD_cons_succ]
    simp only [evL]
    repeat' first | refine SW.step good fun K hK => ?_ | refine X2 good fun K hK => ?_ | refine X3 good fun K hK => ?_ | refine SW.seqK fun J hJ => ?_ | refine SW.last good fun K hK => ?_ | (refine hK _ ?_; clear hK K) | (refine hJ _ _ (Wk.refl _) ?_; clear hJ J) | clear hK K | clear hJ J | refine SW.skip ?_ | refine SW.ret ?_ | refine SW.retT ?_ | refine SW.retB ?_ | refine SW.exit ?_ | refine SW.exitT ?_ | refine SW.exitB ?_ | refine XN ?_ | refine SW.block ?_ | refine SW.normB ?_ | refine SW.normT ?_ | refine XT ?_ | refine XF ?_ | refine XC (fun h => ?_) (fun h => ?_) | simp only [go_sem, optI, Option.getD_some, Option.getD_none, Int.reduceToNat, reduceIte, Nat.reduceEqDiff, Nat.reduceAdd, Nat.reduceMul, Nat.reduceSub, Nat.reduceLT, Nat.reduceLeDiff, reduceCtorEq, *] | refine Xs _ (fun h => ?_) (fun h => ?_) | with_reducible refine And.intro ?_ ?_
    refine SW.loopTo (α := Nat) (fun k => ⟨sl [(4, vS (lifeT (L.take k))), (0, .c true (.sl (L.map evC))), (5, vI k)], hl []⟩) (fun k => L.length - k) 0
      (fun k => k ≤ L.length ∧ (L.take k).all eventFit = true) ?_ ⟨by simp, by simp⟩ ?_
    · (refine Xto _ _ ?_ ?_ <;> simp only [go_sem, optI, Option.getD_some, Option.getD_none, Int.reduceToNat, reduceIte, Nat.reduceEqDiff, Nat.reduceAdd, Nat.reduceMul, Nat.reduceSub, Nat.reduceLT, Nat.reduceLeDiff, reduceCtorEq, Option.some.injEq, or_true, true_or] <;> (repeat' with_reducible apply And.intro) <;> (try rfl))
    · rintro k ⟨h2, h3⟩
      by_cases hk : k < L.length
      · have e := getD_map L evC [] hk
        have e1 : decide ((k : Int) < L.length) = true := by simp; omega
        have ht := lifeT_take L hk
        have ha := all_take L hk
        have hlen := lifeT_len (L.take k)
        rw [List.length_take] at hlen
        have hlen2 := eventText_len L[k]
        by_cases hf : eventFit L[k] = true
        · skip
          repeat' first | refine SW.step good fun K hK => ?_ | refine X2 good fun K hK => ?_ | refine X3 good fun K hK => ?_ | refine SW.seqK fun J hJ => ?_ | refine SW.last good fun K hK => ?_ | (refine hK _ ?_; clear hK K) | (refine hJ _ _ (Wk.refl _) ?_; clear hJ J) | clear hK K | clear hJ J | refine SW.skip ?_ | refine SW.ret ?_ | refine SW.retT ?_ | refine SW.retB ?_ | refine SW.exit ?_ | refine SW.exitT ?_ | refine SW.exitB ?_ | refine XN ?_ | refine SW.block ?_ | refine SW.normB ?_ | refine SW.normT ?_ | refine XT ?_ | refine XF ?_ | refine XC (fun h => ?_) (fun h => ?_) | refine X0 ?_ | refine Xv ?_ | refine X1 (ac_EventText' L[k]) ?_ | simp only [go_sem, optI, Option.getD_some, Option.getD_none, Int.reduceToNat, reduceIte, Nat.reduceEqDiff, Nat.reduceAdd, Nat.reduceMul, Nat.reduceSub, Nat.reduceLT, Nat.reduceLeDiff, reduceCtorEq, *] | refine Xs _ (fun h => ?_) (fun h => ?_) | with_reducible refine And.intro ?_ ?_
          all_goals first | omega | (simp; omega) | skip
          all_goals (refine ⟨k + 1, ⟨by omega, by rw [ha, h3, hf]; rfl⟩, by omega, ?_⟩)
          all_goals (refine Xto _ _ ?_ ?_ <;> simp only [go_sem, optI, Option.getD_some, Option.getD_none, Int.reduceToNat, reduceIte, Nat.reduceEqDiff, Nat.reduceAdd, Nat.reduceMul, Nat.reduceSub, Nat.reduceLT, Nat.reduceLeDiff, reduceCtorEq, Option.some.injEq, or_true, true_or] <;> (repeat' with_reducible apply And.intro) <;> (try rfl))
          all_goals first | (rw [ht]; done) | (rw [ht]; rfl) | (rw [wrap64 (by omega) (by omega)]; simp; done) | skip
        · have hf' : eventFit L[k] = false := by simpa using hf
          have hfit : lifeFit L = false := by unfold lifeFit; rw [all_false hk hf']; simp
          repeat' first | refine SW.step good fun K hK => ?_ | refine X2 good fun K hK => ?_ | refine X3 good fun K hK => ?_ | refine SW.seqK fun J hJ => ?_ | refine SW.last good fun K hK => ?_ | (refine hK _ ?_; clear hK K) | (refine hJ _ _ (Wk.refl _) ?_; clear hJ J) | clear hK K | clear hJ J | refine SW.skip ?_ | refine SW.ret ?_ | refine SW.retT ?_ | refine SW.retB ?_ | refine SW.exit ?_ | refine SW.exitT ?_ | refine SW.exitB ?_ | refine XN ?_ | refine SW.block ?_ | refine SW.normB ?_ | refine SW.normT ?_ | refine XT ?_ | refine XF ?_ | refine XC (fun h => ?_) (fun h => ?_) | refine X0 ?_ | refine Xv ?_ | refine X1 (ac_EventText' L[k]) ?_ | simp only [go_sem, optI, Option.getD_some, Option.getD_none, Int.reduceToNat, reduceIte, Nat.reduceEqDiff, Nat.reduceAdd, Nat.reduceMul, Nat.reduceSub, Nat.reduceLT, Nat.reduceLeDiff, reduceCtorEq, *] | refine Xs _ (fun h => ?_) (fun h => ?_) | with_reducible refine And.intro ?_ ?_
          all_goals first | omega | (simp; omega) | skip
          all_goals (refine Xrp ?_; simp [resOf, Wn.le, Wn.leL, Wn.cw, C.scal, scal, lifeText, hfit, vS, vB])
      · have hk : k = L.length := by omega
        subst hk
        have e1 : decide ((L.length : Int) < L.length) = false := by simp
        rw [List.take_length] at h3
        have hfit : lifeFit L = true := by unfold lifeFit; rw [h3]; simp [hn]
        repeat' first | refine SW.step good fun K hK => ?_ | refine X2 good fun K hK => ?_ | refine X3 good fun K hK => ?_ | refine SW.seqK fun J hJ => ?_ | refine SW.last good fun K hK => ?_ | (refine hK _ ?_; clear hK K) | (refine hJ _ _ (Wk.refl _) ?_; clear hJ J) | clear hK K | clear hJ J | refine SW.skip ?_ | refine SW.ret ?_ | refine SW.retT ?_ | refine SW.retB ?_ | refine SW.exit ?_ | refine SW.exitT ?_ | refine SW.exitB ?_ | refine XN ?_ | refine SW.block ?_ | refine SW.normB ?_ | refine SW.normT ?_ | refine XT ?_ | refine XF ?_ | refine XC (fun h => ?_) (fun h => ?_) | simp only [go_sem, optI, Option.getD_some, Option.getD_none, Int.reduceToNat, reduceIte, Nat.reduceEqDiff, Nat.reduceAdd, Nat.reduceMul, Nat.reduceSub, Nat.reduceLT, Nat.reduceLeDiff, reduceCtorEq, *] | refine Xs _ (fun h => ?_) (fun h => ?_) | with_reducible refine And.intro ?_ ?_
        all_goals rw [List.take_length]
        all_goals (refine Xrp ?_; simp [resOf, Wn.le, Wn.leL, Wn.cw, C.scal, scal, lifeText, hfit, vS, vB])
  · have g1 : decide ((60 : Int) < L.length) = true := by simp; omega
    have g2 : decide ((L.length : Int) > 60) = true := by simp; omega
    have hfit : lifeFit L = false := by simp [lifeFit, hn]
    refine XA good (fn := Tryz.f13) rfl ?_
    simp only [entry, List.getD_cons_zero, List.getD_cons_succ]
    simp only [evL]
    repeat' first | refine SW.step good fun K hK => ?_ | refine X2 good fun K hK => ?_ | refine X3 good fun K hK => ?_ | refine SW.seqK fun J hJ => ?_ | refine SW.last good fun K hK => ?_ | (refine hK _ ?_; clear hK K) | (refine hJ _ _ (Wk.refl _) ?_; clear hJ J) | clear hK K | clear hJ J | refine SW.skip ?_ | refine SW.ret ?_ | refine SW.retT ?_ | refine SW.retB ?_ | refine SW.exit ?_ | refine SW.exitT ?_ | refine SW.exitB ?_ | refine XN ?_ | refine SW.block ?_ | refine SW.normB ?_ | refine SW.normT ?_ | refine XT ?_ | refine XF ?_ | refine XC (fun h => ?_) (fun h => ?_) | simp only [go_sem, optI, Option.getD_some, Option.getD_none, Int.reduceToNat, reduceIte, Nat.reduceEqDiff, Nat.reduceAdd, Nat.reduceMul, Nat.reduceSub, Nat.reduceLT, Nat.reduceLeDiff, reduceCtorEq, *] | refine Xs _ (fun h => ?_) (fun h => ?_) | with_reducible refine And.intro ?_ ?_
    all_goals (refine Xrp ?_; simp [resOf, Wn.le, Wn.leL, Wn.cw, C.scal, scal, lifeText, hfit, vS, vB])
end Go.Proofs.YtoemclhjcbcjaaaGreat.AB
namespace Go.Proofs.YtoemclhjcbcjaaaGreat.AB
open Go
set_option maxRecDepth 100000
set_option linter.unusedSimpArgs false
set_option linter.unusedVariables false
theorem szOf_neg {n : Nat} {l : Int} (h : l < n) (h0 : 0 ≤ l) : decide (szOf n l < 0) = true := by simp [szOf, h]
theorem szOf_pos {n : Nat} {l : Int} (h : (n : Int) ≤ l) : szOf n l = l - n := by unfold szOf; rw [if_neg (by omega)]
theorem lifeText_len (L : List Event) : (lifeText L).length ≤ 48000 := by
  unfold lifeText
  split
  · rename_i h
    unfold lifeFit at h
    simp only [Bool.and_eq_true, decide_eq_true_eq] at h
    have := lifeT_len L
    omega
  · simp
end Go.Proofs.YtoemclhjcbcjaaaGreat.AB
namespace Go.Proofs.YtoemclhjcbcjaaaGreat.AB
open Go
set_option maxRecDepth 100000
set_option linter.unusedSimpArgs false
set_option linter.unusedVariables false
theorem goneN {st : St} {j : Id} : Wn.gone (outM st [] [] []) j := by
  intro i hi
  cases i <;> simp [outM, hAR] at hi
theorem evText_ex (b : List UInt8) (hb : b.length ≤ 1048576) : ∃ (e : Event), MC Tryz.prog 5 [.c false (.sl (bytesC b))] [] (encEv e) [] [] := by
  obtain ⟨e, m⟩ := eventOk_ex b hb
  refine ⟨e, ?_⟩
  obtain ⟨zk, zp, zn, ⟨yk, ⟨p1, p2⟩, yw, ⟨q1, q2⟩, ⟨r1, r2⟩, yt, yn⟩, tx⟩ := e
  simp only [encEv] at *
  refine XM good (fn := Tryz.f5) rfl ?_
  try simp only [List.getD_cons_zero, List.getD_cons_succ]
  repeat' first | refine SW.step good fun K hK => ?_ | refine X2 good fun K hK => ?_ | refine X3 good fun K hK => ?_ | refine SW.seqK fun J hJ => ?_ | refine SW.last good fun K hK => ?_ | (refine hK _ ?_; clear hK K) | (refine hJ _ _ (Wk.refl _) ?_; clear hJ J) | clear hK K | clear hJ J | refine SW.skip ?_ | refine SW.ret ?_ | refine SW.retT ?_ | refine SW.retB ?_ | refine SW.exit ?_ | refine SW.exitT ?_ | refine SW.exitB ?_ | refine XN ?_ | refine SW.block ?_ | refine SW.normB ?_ | refine SW.normT ?_ | refine XT ?_ | refine XF ?_ | refine XC (fun h => ?_) (fun h => ?_) | refine Xzb (m) ?_ | refine Xzc (m) ?_ | simp only [go_sem, optI, Option.getD_some, Option.getD_none, Int.reduceToNat, reduceIte, Nat.reduceEqDiff, Nat.reduceAdd, Nat.reduceMul, Nat.reduceSub, Nat.reduceLT, Nat.reduceLeDiff, reduceCtorEq, *] | refine Xs _ (fun h => ?_) (fun h => ?_) | with_reducible refine And.intro ?_ ?_
  all_goals first | (intro r hr; simp at hr; subst hr; rfl) | (simp [bytesC]; omega) | (simp; done) | omega | rfl | skip
  all_goals (refine Xr0 ?_; simp [resOf, Wn.le, Wn.leL, Wn.cw, C.scal, scal]; done)
theorem readEv_ex (b : List UInt8) (hb : b.length ≤ 1048576) : ∃ (t : List UInt8) (p : Int), t.length ≤ 1000 ∧ MC Tryz.prog 8 [.c false (.sl (bytesC b))] [] (.tup [vS t, vI p]) [] [] := by
  obtain ⟨h0, mN⟩ := mc_New b hb
  obtain ⟨e, mE⟩ := eventOk_ex b hb
  have ct := ac_EventText' e
  have hl := eventText_len e
  generalize eventText e = s at *
  generalize eventFit e = ft at *
  obtain ⟨p, c1, hp, f1, m1⟩ := pickInt_ex ⟨b, 0, h0⟩ [2, 2, 2, 1, -1, 999] ⟨Nat.zero_le _, hb⟩ (by decide) (by decide)
  obtain ⟨o, c2, f2, m2⟩ := once_ex c1 3 f1.2 (by decide) (by decide)
  obtain ⟨t, c3, ht, f3, m3⟩ := spoilt_ex c2 s f2.2 (by omega)
  simp only [List.map_cons, List.map_nil, intC] at m1
  obtain ⟨zk, zp, zn, ⟨yk, ⟨p1, p2⟩, yw, ⟨q1, q2⟩, ⟨r1, r2⟩, yt, yn⟩, tx⟩ := e
  simp only [encEv, cuO] at *
  have htl : t.length ≤ 801 := by omega
  cases o with
  | true =>
    refine ⟨97 :: 98 :: t, p, by simp only [List.length_cons]; omega, ?_⟩
    clear f1 f2 f3 hp hl ht
    refine XM good (fn := Tryz.f8) rfl ?_
    try simp only [List.getD_cons_zero, List.getD_cons_succ]
    repeat' first | refine SW.step good fun K hK => ?_ | refine X2 good fun K hK => ?_ | refine X3 good fun K hK => ?_ | refine SW.seqK fun J hJ => ?_ | refine SW.last good fun K hK => ?_ | (refine hK _ ?_; clear hK K) | (refine hJ _ _ (Wk.refl _) ?_; clear hJ J) | clear hK K | clear hJ J | refine SW.skip ?_ | refine SW.ret ?_ | refine SW.retT ?_ | refine SW.retB ?_ | refine SW.exit ?_ | refine SW.exitT ?_ | refine SW.exitB ?_ | refine XN ?_ | refine SW.block ?_ | refine SW.normB ?_ | refine SW.normT ?_ | refine XT ?_ | refine XF ?_ | refine XC (fun h => ?_) (fun h => ?_) | refine X0 ?_ | refine Xv ?_ | refine X1 (ct) ?_ | refine Xzb (mN) ?_ | refine Xzc (mN) ?_ | refine Xzb (mE) ?_ | refine Xzc (mE) ?_ | (refine Xm (.s 11 0) ?_; first | refine Xd (m1) ?_ | refine Xa (m1) ?_ | refine Xb (m1) ?_) | (refine Xm (.s 11 0) ?_; first | refine Xd (m2) ?_ | refine Xa (m2) ?_ | refine Xb (m2) ?_) | (refine Xm (.s 11 0) ?_; first | refine Xd (m3) ?_ | refine Xa (m3) ?_ | refine Xb (m3) ?_) | (refine Xm (.s 10 0) ?_; first | refine Xd (m1) ?_ | refine Xa (m1) ?_ | refine Xb (m1) ?_) | (refine Xm (.s 10 0) ?_; first | refine Xd (m2) ?_ | refine Xa (m2) ?_ | refine Xb (m2) ?_) | (refine Xm (.s 10 0) ?_; first | refine Xd (m3) ?_ | refine Xa (m3) ?_ | refine Xb (m3) ?_) | (refine Xm (.s 12 0) ?_; first | refine Xd (m1) ?_ | refine Xa (m1) ?_ | refine Xb (m1) ?_) | (refine Xm (.s 12 0) ?_; first | refine Xd (m2) ?_ | refine Xa (m2) ?_ | refine Xb (m2) ?_) | (refine Xm (.s 12 0) ?_; first | refine Xd (m3) ?_ | refine Xa (m3) ?_ | refine Xb (m3) ?_) | (refine Xm (.s 9 0) ?_; first | refine Xd (m1) ?_ | refine Xa (m1) ?_ | refine Xb (m1) ?_) | (refine Xm (.s 9 0) ?_; first | refine Xd (m2) ?_ | refine Xa (m2) ?_ | refine Xb (m2) ?_) | (refine Xm (.s 9 0) ?_; first | refine Xd (m3) ?_ | refine Xa (m3) ?_ | refine Xb (m3) ?_) | (refine Xm (.s 8 0) ?_; first | refine Xd (m1) ?_ | refine Xa (m1) ?_ | refine Xb (m1) ?_) | (refine Xm (.s 8 0) ?_; first | refine Xd (m2) ?_ | refine Xa (m2) ?_ | refine Xb (m2) ?_) | (refine Xm (.s 8 0) ?_; first | refine Xd (m3) ?_ | refine Xa (m3) ?_ | refine Xb (m3) ?_) | simp only [go_sem, optI, Option.getD_some, Option.getD_none, Int.reduceToNat, reduceIte, Nat.reduceEqDiff, Nat.reduceAdd, Nat.reduceMul, Nat.reduceSub, Nat.reduceLT, Nat.reduceLeDiff, reduceCtorEq, *] | refine Xs _ (fun h => ?_) (fun h => ?_) | with_reducible refine And.intro ?_ ?_
    all_goals first | (intro r hr; simp at hr; subst hr; rfl) | (simp [bytesC]; omega) | (simp; done) | omega | rfl | skip
    all_goals (refine Xr0 ?_; simp [resOf, Wn.le, Wn.leL, Wn.cw, C.scal, scal])
  | false =>
    refine ⟨97 :: 98 :: s, p, by simp only [List.length_cons]; omega, ?_⟩
    clear f1 f2 f3 hp ht
    refine XM good (fn := Tryz.f8) rfl ?_
    try simp only [List.getD_cons_zero, List.getD_cons_succ]
    repeat' first | refine SW.step good fun K hK => ?_ | refine X2 good fun K hK => ?_ | refine X3 good fun K hK => ?_ | refine SW.seqK fun J hJ => ?_ | refine SW.last good fun K hK => ?_ | (refine hK _ ?_; clear hK K) | (refine hJ _ _ (Wk.refl _) ?_; clear hJ J) | clear hK K | clear hJ J | refine SW.skip ?_ | refine SW.ret ?_ | refine SW.retT ?_ | refine SW.retB ?_ | refine SW.exit ?_ | refine SW.exitT ?_ | refine SW.exitB ?_ | refine XN ?_ | refine SW.block ?_ | refine SW.normB ?_ | refine SW.normT ?_ | refine XT ?_ | refine XF ?_ | refine XC (fun h => ?_) (fun h => ?_) | refine X0 ?_ | refine Xv ?_ | refine X1 (ct) ?_ | refine Xzb (mN) ?_ | refine Xzc (mN) ?_ | refine Xzb (mE) ?_ | refine Xzc (mE) ?_ | (refine Xm (.s 11 0) ?_; first | refine Xd (m1) ?_ | refine Xa (m1) ?_ | refine Xb (m1) ?_) | (refine Xm (.s 11 0) ?_; first | refine Xd (m2) ?_ | refine Xa (m2) ?_ | refine Xb (m2) ?_) | (refine Xm (.s 11 0) ?_; first | refine Xd (m3) ?_ | refine Xa (m3) ?_ | refine Xb (m3) ?_) | (refine Xm (.s 10 0) ?_; first | refine Xd (m1) ?_ | refine Xa (m1) ?_ | refine Xb (m1) ?_) | (refine Xm (.s 10 0) ?_; first | refine Xd (m2) ?_ | refine Xa (m2) ?_ | refine Xb (m2) ?_) | (refine Xm (.s 10 0) ?_; first | refine Xd (m3) ?_ | refine Xa (m3) ?_ | refine Xb (m3) ?_) | (refine Xm (.s 12 0) ?_; first | refine Xd (m1) ?_ | refine Xa (m1) ?_ | refine Xb (m1) ?_) | (refine Xm (.s 12 0) ?_; first | refine Xd (m2) ?_ | refine Xa (m2) ?_ | refine Xb (m2) ?_) | (refine Xm (.s 12 0) ?_; first | refine Xd (m3) ?_ | refine Xa (m3) ?_ | refine Xb (m3) ?_) | (refine Xm (.s 9 0) ?_; first | refine Xd (m1) ?_ | refine Xa (m1) ?_ | refine Xb (m1) ?_) | (refine Xm (.s 9 0) ?_; first | refine Xd (m2) ?_ | refine Xa (m2) ?_ | refine Xb (m2) ?_) | (refine Xm (.s 9 0) ?_; first | refine Xd (m3) ?_ | refine Xa (m3) ?_ | refine Xb (m3) ?_) | (refine Xm (.s 8 0) ?_; first | refine Xd (m1) ?_ | refine Xa (m1) ?_ | refine Xb (m1) ?_) | (refine Xm (.s 8 0) ?_; first | refine Xd (m2) ?_ | refine Xa (m2) ?_ | refine Xb (m2) ?_) | (refine Xm (.s 8 0) ?_; first | refine Xd (m3) ?_ | refine Xa (m3) ?_ | refine Xb (m3) ?_) | simp only [go_sem, optI, Option.getD_some, Option.getD_none, Int.reduceToNat, reduceIte, Nat.reduceEqDiff, Nat.reduceAdd, Nat.reduceMul, Nat.reduceSub, Nat.reduceLT, Nat.reduceLeDiff, reduceCtorEq, *] | refine Xs _ (fun h => ?_) (fun h => ?_) | with_reducible refine And.intro ?_ ?_
    all_goals first | (intro r hr; simp at hr; subst hr; rfl) | (simp [bytesC]; omega) | (simp; done) | omega | rfl | skip
    all_goals (refine Xr0 ?_; simp [resOf, Wn.le, Wn.leL, Wn.cw, C.scal, scal])
theorem lifeList_ex (b : List UInt8) (hb : b.length ≤ 1048576) : ∃ (E : List Event), (8 ≤ E.length ∧ E.length ≤ 61) ∧ MC Tryz.prog 11 [.c false (.sl (bytesC b))] [] (.own (.r 0)) [] [.row false 29 14 (E.map evC)] := by
  obtain ⟨E, hE, m⟩ := list_ex b hb
  refine ⟨E, hE, ?_⟩
  generalize E.map evC = R at *
  refine XM good (fn := Tryz.f11) rfl ?_
  try simp only [List.getD_cons_zero, List.getD_cons_succ]
  repeat' first | refine SW.step good fun K hK => ?_ | refine X2 good fun K hK => ?_ | refine X3 good fun K hK => ?_ | refine SW.seqK fun J hJ => ?_ | refine SW.last good fun K hK => ?_ | (refine hK _ ?_; clear hK K) | (refine hJ _ _ (Wk.refl _) ?_; clear hJ J) | clear hK K | clear hJ J | refine SW.skip ?_ | refine SW.ret ?_ | refine SW.retT ?_ | refine SW.retB ?_ | refine SW.exit ?_ | refine SW.exitT ?_ | refine SW.exitB ?_ | refine XN ?_ | refine SW.block ?_ | refine SW.normB ?_ | refine SW.normT ?_ | refine XT ?_ | refine XF ?_ | refine XC (fun h => ?_) (fun h => ?_) | refine Xzb (m) ?_ | refine Xzc (m) ?_ | simp only [go_sem, optI, Option.getD_some, Option.getD_none, Int.reduceToNat, reduceIte, Nat.reduceEqDiff, Nat.reduceAdd, Nat.reduceMul, Nat.reduceSub, Nat.reduceLT, Nat.reduceLeDiff, reduceCtorEq, *] | refine Xs _ (fun h => ?_) (fun h => ?_) | with_reducible refine And.intro ?_ ?_
  all_goals first | (intro r hr; simp at hr; subst hr; rfl) | (simp [bytesC]; omega) | (simp; done) | omega | rfl | skip
  all_goals (refine Xr1 (i := .s 4 0) ?_ ?_ <;> simp [Wn.leO, resOf, Wn.le, Wn.leL, Wn.cw, C.scal, scal, outM, idsTo, hAR])
theorem readLife_ex (b : List UInt8) (hb : b.length ≤ 1048576) : ∃ (t : List UInt8), t.length ≤ 48001 ∧ MC Tryz.prog 14 [.c false (.sl (bytesC b))] [] (vS t) [] [] := by
  obtain ⟨h0, mN⟩ := mc_New b hb
  obtain ⟨E, hE, mE⟩ := list_ex b hb
  have ct := ac_LifeText' E (by omega)
  have hl := lifeText_len E
  generalize lifeText E = s at *
  generalize lifeFit E = ft at *
  obtain ⟨o, c2, f2, m2⟩ := once_ex ⟨b, 0, h0⟩ 3 ⟨Nat.zero_le _, hb⟩ (by decide) (by decide)
  obtain ⟨t, c3, ht, f3, m3⟩ := spoilt_ex c2 s f2.2 (by omega)
  simp only [evL, cuO] at *
  generalize E.map evC = R at *
  cases o with
  | true =>
    refine ⟨t, by omega, ?_⟩
    clear f2 f3 hl ht hE
    refine XM good (fn := Tryz.f14) rfl ?_
    try simp only [List.getD_cons_zero, List.getD_cons_succ]
    repeat' first | refine SW.step good fun K hK => ?_ | refine X2 good fun K hK => ?_ | refine X3 good fun K hK => ?_ | refine SW.seqK fun J hJ => ?_ | refine SW.last good fun K hK => ?_ | (refine hK _ ?_; clear hK K) | (refine hJ _ _ (Wk.refl _) ?_; clear hJ J) | clear hK K | clear hJ J | refine SW.skip ?_ | refine SW.ret ?_ | refine SW.retT ?_ | refine SW.retB ?_ | refine SW.exit ?_ | refine SW.exitT ?_ | refine SW.exitB ?_ | refine XN ?_ | refine SW.block ?_ | refine SW.normB ?_ | refine SW.normT ?_ | refine XT ?_ | refine XF ?_ | refine XC (fun h => ?_) (fun h => ?_) | refine X0 ?_ | refine Xv ?_ | refine X1 (ct) ?_ | refine Xzb (mN) ?_ | refine Xzc (mN) ?_ | refine Xzb (mE) ?_ | refine Xzc (mE) ?_ | (refine Xm (.s 7 0) ?_; first | refine Xd (m2) ?_ | refine Xa (m2) ?_ | refine Xb (m2) ?_) | (refine Xm (.s 7 0) ?_; first | refine Xd (m3) ?_ | refine Xa (m3) ?_ | refine Xb (m3) ?_) | (refine Xm (.s 6 0) ?_; first | refine Xd (m2) ?_ | refine Xa (m2) ?_ | refine Xb (m2) ?_) | (refine Xm (.s 6 0) ?_; first | refine Xd (m3) ?_ | refine Xa (m3) ?_ | refine Xb (m3) ?_) | (refine Xm (.s 8 0) ?_; first | refine Xd (m2) ?_ | refine Xa (m2) ?_ | refine Xb (m2) ?_) | (refine Xm (.s 8 0) ?_; first | refine Xd (m3) ?_ | refine Xa (m3) ?_ | refine Xb (m3) ?_) | (refine Xm (.s 5 0) ?_; first | refine Xd (m2) ?_ | refine Xa (m2) ?_ | refine Xb (m2) ?_) | (refine Xm (.s 5 0) ?_; first | refine Xd (m3) ?_ | refine Xa (m3) ?_ | refine Xb (m3) ?_) | simp only [go_sem, optI, Option.getD_some, Option.getD_none, Int.reduceToNat, reduceIte, Nat.reduceEqDiff, Nat.reduceAdd, Nat.reduceMul, Nat.reduceSub, Nat.reduceLT, Nat.reduceLeDiff, reduceCtorEq, *] | refine Xs _ (fun h => ?_) (fun h => ?_) | with_reducible refine And.intro ?_ ?_
    all_goals first | (intro r hr; simp at hr; subst hr; rfl) | (simp [bytesC]; omega) | (simp; done) | omega | rfl | skip
    all_goals (refine Xr0 ?_; simp [resOf, Wn.le, Wn.leL, Wn.cw, C.scal, scal])
  | false =>
    refine ⟨s, by omega, ?_⟩
    clear f2 f3 ht hE
    refine XM good (fn := Tryz.f14) rfl ?_
    try simp only [List.getD_cons_zero, List.getD_cons_succ]
    repeat' first | refine SW.step good fun K hK => ?_ | refine X2 good fun K hK => ?_ | refine X3 good fun K hK => ?_ | refine SW.seqK fun J hJ => ?_ | refine SW.last good fun K hK => ?_ | (refine hK _ ?_; clear hK K) | (refine hJ _ _ (Wk.refl _) ?_; clear hJ J) | clear hK K | clear hJ J | refine SW.skip ?_ | refine SW.ret ?_ | refine SW.retT ?_ | refine SW.retB ?_ | refine SW.exit ?_ | refine SW.exitT ?_ | refine SW.exitB ?_ | refine XN ?_ | refine SW.block ?_ | refine SW.normB ?_ | refine SW.normT ?_ | refine XT ?_ | refine XF ?_ | refine XC (fun h => ?_) (fun h => ?_) | refine X0 ?_ | refine Xv ?_ | refine X1 (ct) ?_ | refine Xzb (mN) ?_ | refine Xzc (mN) ?_ | refine Xzb (mE) ?_ | refine Xzc (mE) ?_ | (refine Xm (.s 7 0) ?_; first | refine Xd (m2) ?_ | refine Xa (m2) ?_ | refine Xb (m2) ?_) | (refine Xm (.s 7 0) ?_; first | refine Xd (m3) ?_ | refine Xa (m3) ?_ | refine Xb (m3) ?_) | (refine Xm (.s 6 0) ?_; first | refine Xd (m2) ?_ | refine Xa (m2) ?_ | refine Xb (m2) ?_) | (refine Xm (.s 6 0) ?_; first | refine Xd (m3) ?_ | refine Xa (m3) ?_ | refine Xb (m3) ?_) | (refine Xm (.s 8 0) ?_; first | refine Xd (m2) ?_ | refine Xa (m2) ?_ | refine Xb (m2) ?_) | (refine Xm (.s 8 0) ?_; first | refine Xd (m3) ?_ | refine Xa (m3) ?_ | refine Xb (m3) ?_) | (refine Xm (.s 5 0) ?_; first | refine Xd (m2) ?_ | refine Xa (m2) ?_ | refine Xb (m2) ?_) | (refine Xm (.s 5 0) ?_; first | refine Xd (m3) ?_ | refine Xa (m3) ?_ | refine Xb (m3) ?_) | simp only [go_sem, optI, Option.getD_some, Option.getD_none, Int.reduceToNat, reduceIte, Nat.reduceEqDiff, Nat.reduceAdd, Nat.reduceMul, Nat.reduceSub, Nat.reduceLT, Nat.reduceLeDiff, reduceCtorEq, *] | refine Xs _ (fun h => ?_) (fun h => ?_) | with_reducible refine And.intro ?_ ?_
    all_goals first | (intro r hr; simp at hr; subst hr; rfl) | (simp [bytesC]; omega) | (simp; done) | omega | rfl | skip
    all_goals (refine Xr0 ?_; simp [resOf, Wn.le, Wn.leL, Wn.cw, C.scal, scal])
set_option maxHeartbeats 4000000 in
theorem apart_ex (b : List UInt8) (hb : b.length ≤ 1048576) : ∃ (E F : List Event), (E.length ≤ 61 ∧ F.length ≤ 61) ∧ MC Tryz.prog 17 [.c false (.sl (bytesC b))] [] (.tup [.c false (.sl (E.map evC)), .c false (.sl (F.map evC))]) [] [] := by
  obtain ⟨h0, mN⟩ := mc_New b hb
  obtain ⟨E, hE, mE⟩ := list_ex b hb
  obtain ⟨k, c1, hk, f1, m1⟩ := below_ex ⟨b, 0, h0⟩ 3 ⟨Nat.zero_le _, hb⟩ (by decide) (by decide)
  simp only [cuO] at *
  have hel : (E.map evC).length = E.length := List.length_map ..
  have hel2 := evC_len (E := E)
  by_cases k0 : k = 0
  · subst k0
    refine ⟨E, E, by omega, ?_⟩
    generalize E.map evC = R at *
    have hR : 8 ≤ R.length ∧ R.length ≤ 61 := by omega
    clear hk f1 hE hel
    refine XM good (fn := Tryz.f17) rfl ?_
    try simp only [List.getD_cons_zero, List.getD_cons_succ]
    repeat' first | refine SW.step good fun K hK => ?_ | refine X2 good fun K hK => ?_ | refine X3 good fun K hK => ?_ | refine SW.seqK fun J hJ => ?_ | refine SW.last good fun K hK => ?_ | (refine hK _ ?_; clear hK K) | (refine hJ _ _ (Wk.refl _) ?_; clear hJ J) | clear hK K | clear hJ J | refine SW.skip ?_ | refine SW.ret ?_ | refine SW.retT ?_ | refine SW.retB ?_ | refine SW.exit ?_ | refine SW.exitT ?_ | refine SW.exitB ?_ | refine XN ?_ | refine SW.block ?_ | refine SW.normB ?_ | refine SW.normT ?_ | refine XT ?_ | refine XF ?_ | refine XC (fun h => ?_) (fun h => ?_) | refine Xzb (mN) ?_ | refine Xzc (mN) ?_ | refine Xzb (mE) ?_ | refine Xzc (mE) ?_ | (refine Xm (.s 8 0) ?_; first | refine Xd (m1) ?_ | refine Xa (m1) ?_ | refine Xb (m1) ?_) | (refine Xm (.s 9 0) ?_; first | refine Xd (m1) ?_ | refine Xa (m1) ?_ | refine Xb (m1) ?_) | (refine Xm (.s 7 0) ?_; first | refine Xd (m1) ?_ | refine Xa (m1) ?_ | refine Xb (m1) ?_) | simp only [go_sem, optI, Option.getD_some, Option.getD_none, Int.reduceToNat, reduceIte, Nat.reduceEqDiff, Nat.reduceAdd, Nat.reduceMul, Nat.reduceSub, Nat.reduceLT, Nat.reduceLeDiff, reduceCtorEq, *] | refine Xs _ (fun h => ?_) (fun h => ?_) | with_reducible refine And.intro ?_ ?_
    all_goals first | (intro r hr; simp at hr; subst hr; rfl) | (simp [bytesC]; omega) | (simp; done) | omega | rfl | (intro r hr; exact hel2 r hr) | skip
    all_goals (refine Xr0 ?_; simp only [resOf, Wn.le, Wn.leL, Wn.cw, C.scal, scal, and_true, true_and, or_true, true_or])
    all_goals (refine ⟨⟨goneN, _, _, _, by simp only [outM, go_sem, optI, Option.getD_some, Option.getD_none, Int.reduceToNat, reduceIte, Nat.reduceEqDiff, Nat.reduceAdd, Nat.reduceMul, Nat.reduceSub, Nat.reduceLT, Nat.reduceLeDiff, reduceCtorEq] <;> rfl, ?_⟩, ⟨goneN, _, _, _, by simp only [outM, go_sem, optI, Option.getD_some, Option.getD_none, Int.reduceToNat, reduceIte, Nat.reduceEqDiff, Nat.reduceAdd, Nat.reduceMul, Nat.reduceSub, Nat.reduceLT, Nat.reduceLeDiff, reduceCtorEq] <;> rfl, ?_⟩⟩)
    all_goals first | rfl | (simp; done) | skip
  by_cases k1 : k = 1
  · subst k1
    obtain ⟨m, hm⟩ : ∃ m, E.length / 2 = m := ⟨_, rfl⟩
    have t1 : ((E.map evC).length : Int).tdiv 2 = ((m : Nat) : Int) := by rw [hel, Int.tdiv_eq_ediv_of_nonneg (by omega)]; omega
    have t2 : IntKind.i64.wrap (m : Int) = (m : Int) := wrap64 (by omega) (by omega)
    refine ⟨E, E.take m, by simp; omega, ?_⟩
    rw [List.map_take]
    generalize E.map evC = R at *
    have hR : 8 ≤ R.length ∧ R.length ≤ 61 ∧ m ≤ R.length := by omega
    clear hk f1 hE hel hm k0
    refine XM good (fn := Tryz.f17) rfl ?_
    try simp only [List.getD_cons_zero, List.getD_cons_succ]
    repeat' first | refine SW.step good fun K hK => ?_ | refine X2 good fun K hK => ?_ | refine X3 good fun K hK => ?_ | refine SW.seqK fun J hJ => ?_ | refine SW.last good fun K hK => ?_ | (refine hK _ ?_; clear hK K) | (refine hJ _ _ (Wk.refl _) ?_; clear hJ J) | clear hK K | clear hJ J | refine SW.skip ?_ | refine SW.ret ?_ | refine SW.retT ?_ | refine SW.retB ?_ | refine SW.exit ?_ | refine SW.exitT ?_ | refine SW.exitB ?_ | refine XN ?_ | refine SW.block ?_ | refine SW.normB ?_ | refine SW.normT ?_ | refine XT ?_ | refine XF ?_ | refine XC (fun h => ?_) (fun h => ?_) | refine Xzb (mN) ?_ | refine Xzc (mN) ?_ | refine Xzb (mE) ?_ | refine Xzc (mE) ?_ | (refine Xm (.s 8 0) ?_; first | refine Xd (m1) ?_ | refine Xa (m1) ?_ | refine Xb (m1) ?_) | (refine Xm (.s 9 0) ?_; first | refine Xd (m1) ?_ | refine Xa (m1) ?_ | refine Xb (m1) ?_) | (refine Xm (.s 7 0) ?_; first | refine Xd (m1) ?_ | refine Xa (m1) ?_ | refine Xb (m1) ?_) | simp only [go_sem, optI, Option.getD_some, Option.getD_none, Int.reduceToNat, reduceIte, Nat.reduceEqDiff, Nat.reduceAdd, Nat.reduceMul, Nat.reduceSub, Nat.reduceLT, Nat.reduceLeDiff, reduceCtorEq, *] | refine Xs _ (fun h => ?_) (fun h => ?_) | with_reducible refine And.intro ?_ ?_
    all_goals first | (intro r hr; simp at hr; subst hr; rfl) | (simp [bytesC]; omega) | (simp; done) | omega | rfl | (intro r hr; exact hel2 r hr) | skip
    all_goals (refine Xr0 ?_; simp only [resOf, Wn.le, Wn.leL, Wn.cw, C.scal, scal, and_true, true_and, or_true, true_or])
    all_goals (refine ⟨⟨goneN, _, _, _, by simp only [outM, go_sem, optI, Option.getD_some, Option.getD_none, Int.reduceToNat, reduceIte, Nat.reduceEqDiff, Nat.reduceAdd, Nat.reduceMul, Nat.reduceSub, Nat.reduceLT, Nat.reduceLeDiff, reduceCtorEq] <;> rfl, ?_⟩, ⟨goneN, _, _, _, by simp only [outM, go_sem, optI, Option.getD_some, Option.getD_none, Int.reduceToNat, reduceIte, Nat.reduceEqDiff, Nat.reduceAdd, Nat.reduceMul, Nat.reduceSub, Nat.reduceLT, Nat.reduceLeDiff, reduceCtorEq] <;> rfl, ?_⟩⟩)
    all_goals first | rfl | (simp; done) | skip
  obtain ⟨i, c2, hi, f2, m2⟩ := below_ex c1 (E.length : Int) f1.2 (by omega) (by omega)
  obtain ⟨j, rfl⟩ : ∃ j : Nat, i = (j : Int) := ⟨i.toNat, by omega⟩
  have hj : j < E.length := by omega
  have e2 := getD_map E evC [] hj
  have d0 : decide (k = 0) = false := by simpa using k0
  have d1 : decide (k = 1) = false := by simpa using k1
  refine ⟨E, E.set j { E[j] with place := 5 }, by simp; omega, ?_⟩
  have hset : (E.set j { E[j] with place := 5 }).map evC = (E.map evC).set j (evC { E[j] with place := 5 }) := List.map_set ..
  rw [hset]
  generalize E[j] = x at *
  rw [← hel] at m2
  generalize E.map evC = R at *
  have hR : 8 ≤ R.length ∧ R.length ≤ 61 ∧ j < R.length := by omega
  simp only [cuO] at *
  clear hk f1 f2 hi hj hset hel hE k0 k1
  refine XM good (fn := Tryz.f17) rfl ?_
  try simp only [List.getD_cons_zero, List.getD_cons_succ]
  repeat' first | refine SW.step good fun K hK => ?_ | refine X2 good fun K hK => ?_ | refine X3 good fun K hK => ?_ | refine SW.seqK fun J hJ => ?_ | refine SW.last good fun K hK => ?_ | (refine hK _ ?_; clear hK K) | (refine hJ _ _ (Wk.refl _) ?_; clear hJ J) | clear hK K | clear hJ J | refine SW.skip ?_ | refine SW.ret ?_ | refine SW.retT ?_ | refine SW.retB ?_ | refine SW.exit ?_ | refine SW.exitT ?_ | refine SW.exitB ?_ | refine XN ?_ | refine SW.block ?_ | refine SW.normB ?_ | refine SW.normT ?_ | refine XT ?_ | refine XF ?_ | refine XC (fun h => ?_) (fun h => ?_) | refine Xzb (mN) ?_ | refine Xzc (mN) ?_ | refine Xzb (mE) ?_ | refine Xzc (mE) ?_ | (refine Xm (.s 8 0) ?_; first | refine Xd (m1) ?_ | refine Xa (m1) ?_ | refine Xb (m1) ?_) | (refine Xm (.s 9 0) ?_; first | refine Xd (m1) ?_ | refine Xa (m1) ?_ | refine Xb (m1) ?_) | (refine Xm (.s 7 0) ?_; first | refine Xd (m1) ?_ | refine Xa (m1) ?_ | refine Xb (m1) ?_) | (refine Xm (.s 8 0) ?_; first | refine Xd (m2) ?_ | refine Xa (m2) ?_ | refine Xb (m2) ?_) | (refine Xm (.s 7 0) ?_; first | refine Xd (m2) ?_ | refine Xa (m2) ?_ | refine Xb (m2) ?_) | (refine Xm (.s 9 0) ?_; first | refine Xd (m2) ?_ | refine Xa (m2) ?_ | refine Xb (m2) ?_) | simp only [go_sem, optI, Option.getD_some, Option.getD_none, Int.reduceToNat, reduceIte, Nat.reduceEqDiff, Nat.reduceAdd, Nat.reduceMul, Nat.reduceSub, Nat.reduceLT, Nat.reduceLeDiff, reduceCtorEq, *] | refine Xs _ (fun h => ?_) (fun h => ?_) | with_reducible refine And.intro ?_ ?_
  all_goals first | (intro r hr; simp at hr; subst hr; rfl) | (simp [bytesC]; omega) | (simp; done) | omega | rfl | (intro r hr; exact hel2 r hr) | skip
  all_goals (refine Xr0 ?_; simp only [resOf, Wn.le, Wn.leL, Wn.cw, C.scal, scal, and_true, true_and, or_true, true_or])
  all_goals (refine ⟨⟨goneN, _, _, _, by simp only [outM, go_sem, optI, Option.getD_some, Option.getD_none, Int.reduceToNat, reduceIte, Nat.reduceEqDiff, Nat.reduceAdd, Nat.reduceMul, Nat.reduceSub, Nat.reduceLT, Nat.reduceLeDiff, reduceCtorEq] <;> rfl, ?_⟩, ⟨goneN, _, _, _, by simp only [outM, go_sem, optI, Option.getD_some, Option.getD_none, Int.reduceToNat, reduceIte, Nat.reduceEqDiff, Nat.reduceAdd, Nat.reduceMul, Nat.reduceSub, Nat.reduceLT, Nat.reduceLeDiff, reduceCtorEq] <;> rfl, ?_⟩⟩)
  all_goals first | rfl | (simp; done) | skip
end Go.Proofs.YtoemclhjcbcjaaaGreat.AB
