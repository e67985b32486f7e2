/- Answers shown: both functions, and the law. -/
import Derived.Test.YtkcnljgjlofgiaaGreatDoorAbDdCreds
import Derived.Test.YtkcnljgjlofgiaaGreatDoorAbDaDec
import Derived.Test.YtkcnljgjlofgiaaGreatDoorAbFdShow
import Derived.Test.YtkcnljgjlofgiaaGreatDoorAbFrItems
namespace Go.Proofs.YtkcnljgjlofgiaaGreatDoor.AB
open Go
set_option maxRecDepth 100000
set_option linter.unusedSimpArgs false
set_option linter.unusedVariables false
theorem showCred_len (c : Cred) : (showCred c).length ≤ 20 := by
  have h1 := showRole_len c.of
  have h2 := showRole_len c.a
  have h3 := showRole_len c.b
  have h4 := letr_len 65 c.who
  have h5 := letr_len 114 c.b.name
  unfold showCred
  repeat' split
  all_goals simp only [List.length_append, List.length_cons, List.length_nil, h4, h5]
  all_goals omega
def ansHead (g : Bool) (D E : List UInt8) : List UInt8 := if g then 103 :: 114 :: 97 :: 110 :: 116 :: 101 :: 100 :: 32 :: (D ++ [32, 108, 111, 111, 107, 101, 100, 32] ++ E ++ [10]) else 100 :: 101 :: 110 :: 105 :: 101 :: 100 :: 32 :: (D ++ [32, 108, 111, 111, 107, 101, 100, 32] ++ E ++ [10])
def lineCr (c : Cred) : List UInt8 := showCred c ++ [10]
def linesCr (Q : List Cred) : List UInt8 := Q.flatMap lineCr
theorem linesCr_take {Q : List Cred} {k : Nat} (h : k < Q.length) : linesCr (Q.take (k + 1)) = linesCr (Q.take k) ++ (showCred Q[k] ++ [10]) := by
  unfold linesCr
  rw [List.take_add_one, List.getElem?_eq_getElem h, List.flatMap_append]
  simp [lineCr]
theorem linesCr_len : ∀ (Q : List Cred), (linesCr Q).length ≤ 21 * Q.length
  | [] => by simp [linesCr]
  | c :: Q => by
    have := linesCr_len Q
    have := showCred_len c
    unfold linesCr lineCr at *
    simp only [List.flatMap_cons, List.length_append, List.length_cons, List.length_nil] at *; omega
def showAns (a : Answer) : List UInt8 := ansHead a.granted (decN a.steps.length) (decI a.looked) ++ linesCr (credsI a.steps)
theorem ansHead_len {g : Bool} {D E : List UInt8} (h1 : D.length ≤ 20) (h2 : E.length ≤ 20) : (ansHead g D E).length ≤ 100 := by
  unfold ansHead; split <;> simp only [List.length_append, List.length_cons, List.length_nil] <;> omega
set_option maxHeartbeats 4000000 in
theorem ac_ShowAnswer (a : Answer) (hL : a.steps.length ≤ 1048576) (hlk : a.looked ≤ 9223372036854775807) : AC Tryz.prog 22 [encAnswer true a] (vS (showAns a)) [] := by
  have hcr := ac_CredsIn a.steps hL
  have hql := credsI_len a.steps
  have hf1 : AC Tryz.prog 44 [vI a.steps.length] (vS (decN a.steps.length)) [] := ac_figures a.steps.length (by omega)
  have hf2 := ac_figures a.looked hlk
  have d1 := decN_len (n := a.steps.length) (by omega)
  have d2 : (decI a.looked).length ≤ 20 := decN_len (by omega)
  have hh := ansHead_len (g := a.granted) d1 d2
  unfold showAns
  generalize credsI a.steps = Q at *
  generalize decN a.steps.length = D at *
  generalize decI a.looked = E at *
  have hQ : Q.length ≤ 1048576 := by omega
  generalize hg : a.granted = g at *
  cases g
  all_goals
    refine XA good (fn := Tryz.f22) rfl ?_
    simp only [entry, List.getD_cons_zero, List.getD_cons_succ]
    repeat' first | refine SW.step good fun K hK => ?_ | refine X2 good fun K hK => ?_ | refine X3 good fun K hK => ?_ | refine SW.seqK fun J hJ => ?_ | refine SW.last good fun K hK => ?_ | (refine hK _ ?_; clear hK K) | (refine hJ _ _ (Wk.refl _) ?_; clear hJ J) | clear hK K | clear hJ J | refine SW.skip ?_ | refine SW.ret ?_ | refine SW.retT ?_ | refine SW.retB ?_ | refine SW.exit ?_ | refine SW.exitT ?_ | refine SW.exitB ?_ | refine XN ?_ | refine SW.block ?_ | refine SW.normB ?_ | refine SW.normT ?_ | refine XT ?_ | refine XF ?_ | refine XC (fun h => ?_) (fun h => ?_) | refine X0 ?_ | refine Xv ?_ | refine X1 (hcr) ?_ | refine X1 (hf1) ?_ | refine X1 (hf2) ?_ | simp only [go_sem, optI, Option.getD_some, Option.getD_none, Int.reduceToNat, reduceIte, Nat.reduceEqDiff, Nat.reduceAdd, Nat.reduceMul, Nat.reduceSub, Nat.reduceLT, Nat.reduceLeDiff, reduceCtorEq, *] | refine Xs _ (fun h => ?_) (fun h => ?_) | with_reducible refine And.intro ?_ ?_
    all_goals first | omega | (simp only [List.length_append, List.length_cons, List.length_nil]; omega) | skip
    generalize hH : ansHead _ D E = H at *
    refine SW.loopTo (α := Nat) (fun k => ⟨sl [(4, vS (H ++ linesCr (Q.take k))), (23, .own (.s 23 0)), (24, vI Q.length), (25, vI k)], hl [(.s 23 0, .row false 82 10 (Q.map credC))]⟩) (fun k => Q.length - k) 0 (fun k => k ≤ Q.length) ?_ (by simp) ?_
    · (refine Xto _ _ ?_ ?_ <;> simp only [go_sem, optI, Option.getD_some, Option.getD_none, Int.reduceToNat, reduceIte, Nat.reduceEqDiff, Nat.reduceAdd, Nat.reduceMul, Nat.reduceSub, Nat.reduceLT, Nat.reduceLeDiff, reduceCtorEq, Option.some.injEq, or_true, true_or] <;> (repeat' with_reducible apply And.intro) <;> (try rfl))
      all_goals first | (rw [← hH]; simp [ansHead, linesCr]; done) | skip
    · intro k h2
      have hln := linesCr_len (Q.take k)
      rw [List.length_take] at hln
      by_cases hk : k < Q.length
      · have e := getD_map Q credC [] hk
        have e1 : decide ((k : Int) < Q.length) = true := by simp; omega
        have hw : IntKind.i64.wrap ((k : Int) + 1) = ((k + 1 : Nat) : Int) := wrap64 (by omega) (by omega)
        have ht := linesCr_take hk
        have hsl := showCred_len Q[k]
        have hsc := ac_ShowCred Q[k]
        generalize linesCr (Q.take k) = M at *
        generalize showCred Q[k] = Z at *
        generalize Q[k] = c at *
        simp only [encCred] at hsc
        clear hcr hf1 hf2 hH
        repeat' first | refine SW.step good fun K hK => ?_ | refine X2 good fun K hK => ?_ | refine X3 good fun K hK => ?_ | refine SW.seqK fun J hJ => ?_ | refine SW.last good fun K hK => ?_ | (refine hK _ ?_; clear hK K) | (refine hJ _ _ (Wk.refl _) ?_; clear hJ J) | clear hK K | clear hJ J | refine SW.skip ?_ | refine SW.ret ?_ | refine SW.retT ?_ | refine SW.retB ?_ | refine SW.exit ?_ | refine SW.exitT ?_ | refine SW.exitB ?_ | refine XN ?_ | refine SW.block ?_ | refine SW.normB ?_ | refine SW.normT ?_ | refine XT ?_ | refine XF ?_ | refine XC (fun h => ?_) (fun h => ?_) | refine X0 ?_ | refine Xv ?_ | refine X1 (hsc) ?_ | simp only [go_sem, optI, Option.getD_some, Option.getD_none, Int.reduceToNat, reduceIte, Nat.reduceEqDiff, Nat.reduceAdd, Nat.reduceMul, Nat.reduceSub, Nat.reduceLT, Nat.reduceLeDiff, reduceCtorEq, *] | refine Xs _ (fun h => ?_) (fun h => ?_) | with_reducible refine And.intro ?_ ?_
        all_goals first | omega | (simp only [List.length_append, List.length_cons, List.length_nil]; omega) | (simp [credC]; done) | skip
        all_goals refine ⟨k + 1, by omega, by omega, ?_⟩
        all_goals (refine Xto _ _ ?_ ?_ <;> simp only [go_sem, optI, Option.getD_some, Option.getD_none, Int.reduceToNat, reduceIte, Nat.reduceEqDiff, Nat.reduceAdd, Nat.reduceMul, Nat.reduceSub, Nat.reduceLT, Nat.reduceLeDiff, reduceCtorEq, Option.some.injEq, or_true, true_or] <;> (repeat' with_reducible apply And.intro) <;> (try rfl))
        all_goals first | (rw [ht]; simp; done) | skip
      · have hk : k = Q.length := by omega
        subst hk
        have e1 : decide ((Q.length : Int) < Q.length) = false := by simp
        rw [List.take_length]
        repeat' first | refine SW.step good fun K hK => ?_ | refine X2 good fun K hK => ?_ | refine X3 good fun K hK => ?_ | refine SW.seqK fun J hJ => ?_ | refine SW.last good fun K hK => ?_ | (refine hK _ ?_; clear hK K) | (refine hJ _ _ (Wk.refl _) ?_; clear hJ J) | clear hK K | clear hJ J | refine SW.skip ?_ | refine SW.ret ?_ | refine SW.retT ?_ | refine SW.retB ?_ | refine SW.exit ?_ | refine SW.exitT ?_ | refine SW.exitB ?_ | refine XN ?_ | refine SW.block ?_ | refine SW.normB ?_ | refine SW.normT ?_ | refine XT ?_ | refine XF ?_ | refine XC (fun h => ?_) (fun h => ?_) | simp only [go_sem, optI, Option.getD_some, Option.getD_none, Int.reduceToNat, reduceIte, Nat.reduceEqDiff, Nat.reduceAdd, Nat.reduceMul, Nat.reduceSub, Nat.reduceLT, Nat.reduceLeDiff, reduceCtorEq, *] | refine Xs _ (fun h => ?_) (fun h => ?_) | with_reducible refine And.intro ?_ ?_
        all_goals (refine Xrs ?_; rfl)
set_option maxHeartbeats 4000000 in
theorem ac_ShowAnswer' (a : Answer) (hL : a.steps.length ≤ 1048576) (hlk : a.looked ≤ 9223372036854775807) : AC Tryz.prog 15 [encAnswer true a] (vS (showAns a)) [] := by
  have hcr := ac_CredsIn' a.steps hL
  have hql := credsI_len a.steps
  have hf1 : AC Tryz.prog 34 [vI a.steps.length] (vS (decN a.steps.length)) [] := ac_Decimal' a.steps.length (by omega)
  have hf2 := ac_l27Num a.looked hlk
  have d1 := decN_len (n := a.steps.length) (by omega)
  have d2 : (decI a.looked).length ≤ 20 := decN_len (by omega)
  have hh := ansHead_len (g := a.granted) d1 d2
  unfold showAns
  generalize credsI a.steps = Q at *
  generalize decN a.steps.length = D at *
  generalize decI a.looked = E at *
  have hQ : Q.length ≤ 1048576 := by omega
  generalize hg : a.granted = g at *
  cases g
  all_goals
    refine XA good (fn := Tryz.f15) rfl ?_
    simp only [entry, List.getD_cons_zero, List.getD_cons_succ]
    repeat' first | refine SW.step good fun K hK => ?_ | refine X2 good fun K hK => ?_ | refine X3 good fun K hK => ?_ | refine SW.seqK fun J hJ => ?_ | refine SW.last good fun K hK => ?_ | (refine hK _ ?_; clear hK K) | (refine hJ _ _ (Wk.refl _) ?_; clear hJ J) | clear hK K | clear hJ J | refine SW.skip ?_ | refine SW.ret ?_ | refine SW.retT ?_ | refine SW.retB ?_ | refine SW.exit ?_ | refine SW.exitT ?_ | refine SW.exitB ?_ | refine XN ?_ | refine SW.block ?_ | refine SW.normB ?_ | refine SW.normT ?_ | refine XT ?_ | refine XF ?_ | refine XC (fun h => ?_) (fun h => ?_) | refine X0 ?_ | refine Xv ?_ | refine X1 (hcr) ?_ | refine X1 (hf1) ?_ | refine X1 (hf2) ?_ | simp only [go_sem, optI, Option.getD_some, Option.getD_none, Int.reduceToNat, reduceIte, Nat.reduceEqDiff, Nat.reduceAdd, Nat.reduceMul, Nat.reduceSub, Nat.reduceLT, Nat.reduceLeDiff, reduceCtorEq, *] | refine Xs _ (fun h => ?_) (fun h => ?_) | with_reducible refine And.intro ?_ ?_
    all_goals first | omega | (simp only [List.length_append, List.length_cons, List.length_nil]; omega) | skip
    generalize hH : ansHead _ D E = H at *
    refine SW.loopTo (α := Nat) (fun k => ⟨sl [(3, vS (H ++ linesCr (Q.take k))), (4, .own (.s 23 0)), (5, vI k)], hl [(.s 23 0, .row false 82 10 (Q.map credC))]⟩) (fun k => Q.length - k) 0 (fun k => k ≤ Q.length) ?_ (by simp) ?_
    · (refine Xto _ _ ?_ ?_ <;> simp only [go_sem, optI, Option.getD_some, Option.getD_none, Int.reduceToNat, reduceIte, Nat.reduceEqDiff, Nat.reduceAdd, Nat.reduceMul, Nat.reduceSub, Nat.reduceLT, Nat.reduceLeDiff, reduceCtorEq, Option.some.injEq, or_true, true_or] <;> (repeat' with_reducible apply And.intro) <;> (try rfl))
      all_goals first | (rw [← hH]; simp [ansHead, linesCr]; done) | skip
    · intro k h2
      have hln := linesCr_len (Q.take k)
      rw [List.length_take] at hln
      by_cases hk : k < Q.length
      · have e := getD_map Q credC [] hk
        have e1 : decide ((k : Int) < Q.length) = true := by simp; omega
        have hw : IntKind.i64.wrap ((k : Int) + 1) = ((k + 1 : Nat) : Int) := wrap64 (by omega) (by omega)
        have ht := linesCr_take hk
        have hsl := showCred_len Q[k]
        have hsc := ac_ShowCred' Q[k]
        generalize linesCr (Q.take k) = M at *
        generalize showCred Q[k] = Z at *
        generalize Q[k] = c at *
        simp only [encCred] at hsc
        clear hcr hf1 hf2 hH
        repeat' first | refine SW.step good fun K hK => ?_ | refine X2 good fun K hK => ?_ | refine X3 good fun K hK => ?_ | refine SW.seqK fun J hJ => ?_ | refine SW.last good fun K hK => ?_ | (refine hK _ ?_; clear hK K) | (refine hJ _ _ (Wk.refl _) ?_; clear hJ J) | clear hK K | clear hJ J | refine SW.skip ?_ | refine SW.ret ?_ | refine SW.retT ?_ | refine SW.retB ?_ | refine SW.exit ?_ | refine SW.exitT ?_ | refine SW.exitB ?_ | refine XN ?_ | refine SW.block ?_ | refine SW.normB ?_ | refine SW.normT ?_ | refine XT ?_ | refine XF ?_ | refine XC (fun h => ?_) (fun h => ?_) | refine X0 ?_ | refine Xv ?_ | refine X1 (hsc) ?_ | simp only [go_sem, optI, Option.getD_some, Option.getD_none, Int.reduceToNat, reduceIte, Nat.reduceEqDiff, Nat.reduceAdd, Nat.reduceMul, Nat.reduceSub, Nat.reduceLT, Nat.reduceLeDiff, reduceCtorEq, *] | refine Xs _ (fun h => ?_) (fun h => ?_) | with_reducible refine And.intro ?_ ?_
        all_goals first | omega | (simp only [List.length_append, List.length_cons, List.length_nil]; omega) | (simp [credC]; done) | skip
        all_goals refine ⟨k + 1, by omega, by omega, ?_⟩
        all_goals (refine Xto _ _ ?_ ?_ <;> simp only [go_sem, optI, Option.getD_some, Option.getD_none, Int.reduceToNat, reduceIte, Nat.reduceEqDiff, Nat.reduceAdd, Nat.reduceMul, Nat.reduceSub, Nat.reduceLT, Nat.reduceLeDiff, reduceCtorEq, Option.some.injEq, or_true, true_or] <;> (repeat' with_reducible apply And.intro) <;> (try rfl))
        all_goals first | (rw [ht]; simp; done) | skip
      · have hk : k = Q.length := by omega
        subst hk
        have e1 : decide ((Q.length : Int) < Q.length) = false := by simp
        rw [List.take_length]
        repeat' first | refine SW.step good fun K hK => ?_ | refine X2 good fun K hK => ?_ | refine X3 good fun K hK => ?_ | refine SW.seqK fun J hJ => ?_ | refine SW.last good fun K hK => ?_ | (refine hK _ ?_; clear hK K) | (refine hJ _ _ (Wk.refl _) ?_; clear hJ J) | clear hK K | clear hJ J | refine SW.skip ?_ | refine SW.ret ?_ | refine SW.retT ?_ | refine SW.retB ?_ | refine SW.exit ?_ | refine SW.exitT ?_ | refine SW.exitB ?_ | refine XN ?_ | refine SW.block ?_ | refine SW.normB ?_ | refine SW.normT ?_ | refine XT ?_ | refine XF ?_ | refine XC (fun h => ?_) (fun h => ?_) | simp only [go_sem, optI, Option.getD_some, Option.getD_none, Int.reduceToNat, reduceIte, Nat.reduceEqDiff, Nat.reduceAdd, Nat.reduceMul, Nat.reduceSub, Nat.reduceLT, Nat.reduceLeDiff, reduceCtorEq, *] | refine Xs _ (fun h => ?_) (fun h => ?_) | with_reducible refine And.intro ?_ ?_
        all_goals (refine Xrs ?_; rfl)
end Go.Proofs.YtkcnljgjlofgiaaGreatDoor.AB
