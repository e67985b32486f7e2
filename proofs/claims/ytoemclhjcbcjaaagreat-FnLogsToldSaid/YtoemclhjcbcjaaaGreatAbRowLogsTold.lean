/- The law FnLogsTold returns true for every code; no condition. -/
import Derived.Test.YtoemclhjcbcjaaaGreatAbBbPure
import Derived.Test.YtoemclhjcbcjaaaGreatAbCrDraws
import Derived.Test.YtoemclhjcbcjaaaGreatAbFmHas
namespace Go.Proofs.YtoemclhjcbcjaaaGreat.AB
open Go
set_option maxRecDepth 100000
set_option linter.unusedSimpArgs false
set_option linter.unusedVariables false
def lifeHead (L : List Event) : List UInt8 := L.foldl (fun h e => digest (h ++ eventText e)) (digest [])
theorem lifeHead_take (L : List Event) {k : Nat} (h : k < L.length) : lifeHead (L.take (k + 1)) = digest (lifeHead (L.take k) ++ eventText L[k]) := by
  unfold lifeHead
  rw [List.take_add_one, List.getElem?_eq_getElem h, List.foldl_append]; rfl
theorem digest_len (t : List UInt8) : (digest t).length = 32 := by
  unfold digest
  have h1 := fm_len (dgS (padT t) ((padT t).length / 64))
  rw [(dgS_ok _ _).1] at h1
  simpa [bytesC] using h1
theorem lifeHead_len (L : List Event) : (lifeHead L).length = 32 := by
  rcases List.eq_nil_or_concat L with rfl | ⟨L, e, rfl⟩
  · exact digest_len _
  · unfold lifeHead
    rw [List.concat_eq_append, List.foldl_append]
    exact digest_len _
theorem lifeHead_nil (L : List Event) : lifeHead (L.take 0) = digest [] := rfl
set_option maxHeartbeats 4000000 in
theorem ac_LifeHead (L : List Event) (hL : L.length ≤ 1048576) : AC Tryz.prog 21 [evL L] (vS (lifeHead L)) [] := by
  have hd := ac_Digest [] (by simp)
  refine XA good (fn := Tryz.f21) rfl ?_
  simp only [entry, List.getD_cons_zero, List.getD_cons_succ]
  simp only [evL]
  repeat' first | refine SW.step good fun K hK => ?_ | refine X2 good fun K hK => ?_ | refine X3 good fun K hK => ?_ | refine SW.seqK fun J hJ => ?_ | refine SW.last good fun K hK => ?_ | (refine hK _ ?_; clear hK K) | (refine hJ _ _ (Wk.refl _) ?_; clear hJ J) | clear hK K | clear hJ J | refine SW.skip ?_ | refine SW.ret ?_ | refine SW.retT ?_ | refine SW.retB ?_ | refine SW.exit ?_ | refine SW.exitT ?_ | refine SW.exitB ?_ | refine XN ?_ | refine SW.block ?_ | refine SW.normB ?_ | refine SW.normT ?_ | refine XT ?_ | refine XF ?_ | refine XC (fun h => ?_) (fun h => ?_) | refine X0 ?_ | refine Xv ?_ | refine X1 (hd) ?_ | simp only [go_sem, optI, Option.getD_some, Option.getD_none, Int.reduceToNat, reduceIte, Nat.reduceEqDiff, Nat.reduceAdd, Nat.reduceMul, Nat.reduceSub, Nat.reduceLT, Nat.reduceLeDiff, reduceCtorEq, *] | refine Xs _ (fun h => ?_) (fun h => ?_) | with_reducible refine And.intro ?_ ?_
  refine SW.loopTo (α := Nat) (fun k => ⟨sl [(3, vS (lifeHead (L.take k))), (9, .c true (.sl (L.map evC))), (10, vI L.length), (11, vI k)], hl []⟩) (fun k => L.length - k) 0 (fun k => k ≤ L.length) ?_ (by simp) ?_
  · (refine Xto _ _ ?_ ?_ <;> simp only [go_sem, optI, Option.getD_some, Option.getD_none, Int.reduceToNat, reduceIte, Nat.reduceEqDiff, Nat.reduceAdd, Nat.reduceMul, Nat.reduceSub, Nat.reduceLT, Nat.reduceLeDiff, reduceCtorEq, Option.some.injEq, or_true, true_or] <;> (repeat' with_reducible apply And.intro) <;> (try rfl))
    all_goals trace_state
  · rintro k h2
    clear hd
    by_cases hk : k < L.length
    · have e := getD_map L evC [] hk
      have e1 : decide ((k : Int) < L.length) = true := by simp; omega
      have ht := lifeHead_take L hk
      have hlen := lifeHead_len (L.take k)
      have hlen2 := eventText_len L[k]
      have hd := ac_Digest (lifeHead (L.take k) ++ eventText L[k]) (by rw [List.length_append]; omega)
      rw [← ht] at hd
      have hE := ac_EventText L[k]
      clear ht
      generalize hh1 : lifeHead (L.take (k + 1)) = h1 at *
      generalize lifeHead (L.take k) = h0 at *
      repeat' first | refine SW.step good fun K hK => ?_ | refine X2 good fun K hK => ?_ | refine X3 good fun K hK => ?_ | refine SW.seqK fun J hJ => ?_ | refine SW.last good fun K hK => ?_ | (refine hK _ ?_; clear hK K) | (refine hJ _ _ (Wk.refl _) ?_; clear hJ J) | clear hK K | clear hJ J | refine SW.skip ?_ | refine SW.ret ?_ | refine SW.retT ?_ | refine SW.retB ?_ | refine SW.exit ?_ | refine SW.exitT ?_ | refine SW.exitB ?_ | refine XN ?_ | refine SW.block ?_ | refine SW.normB ?_ | refine SW.normT ?_ | refine XT ?_ | refine XF ?_ | refine XC (fun h => ?_) (fun h => ?_) | refine X0 ?_ | refine Xv ?_ | refine X1 (hE) ?_ | refine X1 (hd) ?_ | simp only [go_sem, optI, Option.getD_some, Option.getD_none, Int.reduceToNat, reduceIte, Nat.reduceEqDiff, Nat.reduceAdd, Nat.reduceMul, Nat.reduceSub, Nat.reduceLT, Nat.reduceLeDiff, reduceCtorEq, *] | refine Xs _ (fun h => ?_) (fun h => ?_) | with_reducible refine And.intro ?_ ?_
      all_goals first | omega | (simp; omega) | skip
      all_goals (refine ⟨k + 1, by omega, by omega, ?_⟩)
      all_goals (refine Xto _ _ ?_ ?_ <;> simp only [go_sem, optI, Option.getD_some, Option.getD_none, Int.reduceToNat, reduceIte, Nat.reduceEqDiff, Nat.reduceAdd, Nat.reduceMul, Nat.reduceSub, Nat.reduceLT, Nat.reduceLeDiff, reduceCtorEq, Option.some.injEq, or_true, true_or] <;> (repeat' with_reducible apply And.intro) <;> (try rfl))
      all_goals first | (rw [wrap64 (by omega) (by omega)]; simp; done) | (rw [hh1]; done) | skip
      all_goals trace_state
    · have hk : k = L.length := by omega
      subst hk
      have e1 : decide ((L.length : Int) < L.length) = false := by simp
      repeat' first | refine SW.step good fun K hK => ?_ | refine X2 good fun K hK => ?_ | refine X3 good fun K hK => ?_ | refine SW.seqK fun J hJ => ?_ | refine SW.last good fun K hK => ?_ | (refine hK _ ?_; clear hK K) | (refine hJ _ _ (Wk.refl _) ?_; clear hJ J) | clear hK K | clear hJ J | refine SW.skip ?_ | refine SW.ret ?_ | refine SW.retT ?_ | refine SW.retB ?_ | refine SW.exit ?_ | refine SW.exitT ?_ | refine SW.exitB ?_ | refine XN ?_ | refine SW.block ?_ | refine SW.normB ?_ | refine SW.normT ?_ | refine XT ?_ | refine XF ?_ | refine XC (fun h => ?_) (fun h => ?_) | simp only [go_sem, optI, Option.getD_some, Option.getD_none, Int.reduceToNat, reduceIte, Nat.reduceEqDiff, Nat.reduceAdd, Nat.reduceMul, Nat.reduceSub, Nat.reduceLT, Nat.reduceLeDiff, reduceCtorEq, *] | refine Xs _ (fun h => ?_) (fun h => ?_) | with_reducible refine And.intro ?_ ?_
      all_goals rw [List.take_length]
      all_goals (refine Xrs ?_; rfl)
set_option maxHeartbeats 4000000 in
theorem ac_LifeHead' (L : List Event) (hL : L.length ≤ 1048576) : AC Tryz.prog 22 [evL L] (vS (lifeHead L)) [] := by
  have hd := ac_Digest' [] (by simp)
  refine XA good (fn := Tryz.f22) rfl ?_
  simp only [entry, List.getD_cons_zero, List.getD_cons_succ]
  simp only [evL]
  repeat' first | refine SW.step good fun K hK => ?_ | refine X2 good fun K hK => ?_ | refine X3 good fun K hK => ?_ | refine SW.seqK fun J hJ => ?_ | refine SW.last good fun K hK => ?_ | (refine hK _ ?_; clear hK K) | (refine hJ _ _ (Wk.refl _) ?_; clear hJ J) | clear hK K | clear hJ J | refine SW.skip ?_ | refine SW.ret ?_ | refine SW.retT ?_ | refine SW.retB ?_ | refine SW.exit ?_ | refine SW.exitT ?_ | refine SW.exitB ?_ | refine XN ?_ | refine SW.block ?_ | refine SW.normB ?_ | refine SW.normT ?_ | refine XT ?_ | refine XF ?_ | refine XC (fun h => ?_) (fun h => ?_) | refine X0 ?_ | refine Xv ?_ | refine X1 (hd) ?_ | simp only [go_sem, optI, Option.getD_some, Option.getD_none, Int.reduceToNat, reduceIte, Nat.reduceEqDiff, Nat.reduceAdd, Nat.reduceMul, Nat.reduceSub, Nat.reduceLT, Nat.reduceLeDiff, reduceCtorEq, *] | refine Xs _ (fun h => ?_) (fun h => ?_) | with_reducible refine And.intro ?_ ?_
  refine SW.loopTo (α := Nat) (fun k => ⟨sl [(0, .c true (.sl (L.map evC))), (3, vS (lifeHead (L.take k))), (4, vI k)], hl []⟩) (fun k => L.length - k) 0 (fun k => k ≤ L.length) ?_ (by simp) ?_
  · (refine Xto _ _ ?_ ?_ <;> simp only [go_sem, optI, Option.getD_some, Option.getD_none, Int.reduceToNat, reduceIte, Nat.reduceEqDiff, Nat.reduceAdd, Nat.reduceMul, Nat.reduceSub, Nat.reduceLT, Nat.reduceLeDiff, reduceCtorEq, Option.some.injEq, or_true, true_or] <;> (repeat' with_reducible apply And.intro) <;> (try rfl))
    all_goals trace_state
  · rintro k h2
    clear hd
    by_cases hk : k < L.length
    · have e := getD_map L evC [] hk
      have e1 : decide ((k : Int) < L.length) = true := by simp; omega
      have ht := lifeHead_take L hk
      have hlen := lifeHead_len (L.take k)
      have hlen2 := eventText_len L[k]
      have hd := ac_Digest' (lifeHead (L.take k) ++ eventText L[k]) (by rw [List.length_append]; omega)
      rw [← ht] at hd
      have hE := ac_EventText' L[k]
      clear ht
      generalize hh1 : lifeHead (L.take (k + 1)) = h1 at *
      generalize lifeHead (L.take k) = h0 at *
      repeat' first | refine SW.step good fun K hK => ?_ | refine X2 good fun K hK => ?_ | refine X3 good fun K hK => ?_ | refine SW.seqK fun J hJ => ?_ | refine SW.last good fun K hK => ?_ | (refine hK _ ?_; clear hK K) | (refine hJ _ _ (Wk.refl _) ?_; clear hJ J) | clear hK K | clear hJ J | refine SW.skip ?_ | refine SW.ret ?_ | refine SW.retT ?_ | refine SW.retB ?_ | refine SW.exit ?_ | refine SW.exitT ?_ | refine SW.exitB ?_ | refine XN ?_ | refine SW.block ?_ | refine SW.normB ?_ | refine SW.normT ?_ | refine XT ?_ | refine XF ?_ | refine XC (fun h => ?_) (fun h => ?_) | refine X0 ?_ | refine Xv ?_ | refine X1 (hE) ?_ | refine X1 (hd) ?_ | simp only [go_sem, optI, Option.getD_some, Option.getD_none, Int.reduceToNat, reduceIte, Nat.reduceEqDiff, Nat.reduceAdd, Nat.reduceMul, Nat.reduceSub, Nat.reduceLT, Nat.reduceLeDiff, reduceCtorEq, *] | refine Xs _ (fun h => ?_) (fun h => ?_) | with_reducible refine And.intro ?_ ?_
      all_goals first | omega | (simp; omega) | skip
      all_goals (refine ⟨k + 1, by omega, by omega, ?_⟩)
      all_goals (refine Xto _ _ ?_ ?_ <;> simp only [go_sem, optI, Option.getD_some, Option.getD_none, Int.reduceToNat, reduceIte, Nat.reduceEqDiff, Nat.reduceAdd, Nat.reduceMul, Nat.reduceSub, Nat.reduceLT, Nat.reduceLeDiff, reduceCtorEq, Option.some.injEq, or_true, true_or] <;> (repeat' with_reducible apply And.intro) <;> (try rfl))
      all_goals first | (rw [wrap64 (by omega) (by omega)]; simp; done) | (rw [hh1]; done) | skip
      all_goals trace_state
    · have hk : k = L.length := by omega
      subst hk
      have e1 : decide ((L.length : Int) < L.length) = false := by simp
      repeat' first | refine SW.step good fun K hK => ?_ | refine X2 good fun K hK => ?_ | refine X3 good fun K hK => ?_ | refine SW.seqK fun J hJ => ?_ | refine SW.last good fun K hK => ?_ | (refine hK _ ?_; clear hK K) | (refine hJ _ _ (Wk.refl _) ?_; clear hJ J) | clear hK K | clear hJ J | refine SW.skip ?_ | refine SW.ret ?_ | refine SW.retT ?_ | refine SW.retB ?_ | refine SW.exit ?_ | refine SW.exitT ?_ | refine SW.exitB ?_ | refine XN ?_ | refine SW.block ?_ | refine SW.normB ?_ | refine SW.normT ?_ | refine XT ?_ | refine XF ?_ | refine XC (fun h => ?_) (fun h => ?_) | simp only [go_sem, optI, Option.getD_some, Option.getD_none, Int.reduceToNat, reduceIte, Nat.reduceEqDiff, Nat.reduceAdd, Nat.reduceMul, Nat.reduceSub, Nat.reduceLT, Nat.reduceLeDiff, reduceCtorEq, *] | refine Xs _ (fun h => ?_) (fun h => ?_) | with_reducible refine And.intro ?_ ?_
      all_goals rw [List.take_length]
      all_goals (refine Xrs ?_; rfl)
end Go.Proofs.YtoemclhjcbcjaaaGreat.AB
namespace Go.Proofs.YtoemclhjcbcjaaaGreat.AB
open Go
set_option maxRecDepth 100000
set_option linter.unusedSimpArgs false
set_option linter.unusedVariables false
theorem ac_big (X : List (List C)) (h : X.length ≤ 9223372036854775807) : AC Tryz.prog 4 [.c true (.sl X)] (vB (decide ((1048576 : Int) < X.length))) [] := by
  refine XA good (fn := Tryz.f4) rfl ?_
  simp only [entry, List.getD_cons_zero, List.getD_cons_succ]
  repeat' first | refine SW.step good fun K hK => ?_ | refine X2 good fun K hK => ?_ | refine X3 good fun K hK => ?_ | refine SW.seqK fun J hJ => ?_ | refine SW.last good fun K hK => ?_ | (refine hK _ ?_; clear hK K) | (refine hJ _ _ (Wk.refl _) ?_; clear hJ J) | clear hK K | clear hJ J | refine SW.skip ?_ | refine SW.ret ?_ | refine SW.retT ?_ | refine SW.retB ?_ | refine SW.exit ?_ | refine SW.exitT ?_ | refine SW.exitB ?_ | refine XN ?_ | refine SW.block ?_ | refine SW.normB ?_ | refine SW.normT ?_ | refine XT ?_ | refine XF ?_ | refine XC (fun h => ?_) (fun h => ?_) | simp only [go_sem, optI, Option.getD_some, Option.getD_none, Int.reduceToNat, reduceIte, Nat.reduceEqDiff, Nat.reduceAdd, Nat.reduceMul, Nat.reduceSub, Nat.reduceLT, Nat.reduceLeDiff, reduceCtorEq, *] | refine Xs _ (fun h => ?_) (fun h => ?_) | with_reducible refine And.intro ?_ ?_
  all_goals first | (intro r hr; simp at hr; subst hr; rfl) | (simp [bytesC]; omega) | (simp; done) | omega | rfl | skip
  all_goals (refine Xrb ?_; rfl)
theorem ac_sameEvents (L : List Event) (hL : L.length ≤ 1048576) : AC Tryz.prog 18 [.c true (.sl (L.map evC)), .c true (.sl (L.map evC))] (vB true) [] := by
  refine XA good (fn := Tryz.f18) rfl ?_
  simp only [entry, List.getD_cons_zero, List.getD_cons_succ]
  repeat' first | refine SW.step good fun K hK => ?_ | refine X2 good fun K hK => ?_ | refine X3 good fun K hK => ?_ | refine SW.seqK fun J hJ => ?_ | refine SW.last good fun K hK => ?_ | (refine hK _ ?_; clear hK K) | (refine hJ _ _ (Wk.refl _) ?_; clear hJ J) | clear hK K | clear hJ J | refine SW.skip ?_ | refine SW.ret ?_ | refine SW.retT ?_ | refine SW.retB ?_ | refine SW.exit ?_ | refine SW.exitT ?_ | refine SW.exitB ?_ | refine XN ?_ | refine SW.block ?_ | refine SW.normB ?_ | refine SW.normT ?_ | refine XT ?_ | refine XF ?_ | refine XC (fun h => ?_) (fun h => ?_) | simp only [go_sem, optI, Option.getD_some, Option.getD_none, Int.reduceToNat, reduceIte, Nat.reduceEqDiff, Nat.reduceAdd, Nat.reduceMul, Nat.reduceSub, Nat.reduceLT, Nat.reduceLeDiff, reduceCtorEq, *] | refine Xs _ (fun h => ?_) (fun h => ?_) | with_reducible refine And.intro ?_ ?_
  all_goals first | (intro r hr; simp at hr; subst hr; rfl) | (simp [bytesC]; omega) | (simp; done) | omega | rfl | skip
  refine SW.loopTo (α := Nat) (fun k => ⟨sl [(0, .c true (.sl (L.map evC))), (1, .c true (.sl (L.map evC))), (5, vI k)], hl []⟩) (fun k => L.length - k) 0 (fun k => k ≤ L.length) ?_ (by simp) ?_
  · (refine Xto _ _ ?_ ?_ <;> simp only [go_sem, optI, Option.getD_some, Option.getD_none, Int.reduceToNat, reduceIte, Nat.reduceEqDiff, Nat.reduceAdd, Nat.reduceMul, Nat.reduceSub, Nat.reduceLT, Nat.reduceLeDiff, reduceCtorEq, Option.some.injEq, or_true, true_or] <;> (repeat' with_reducible apply And.intro) <;> (try rfl))
  · intro k hk
    by_cases hkL : k < L.length
    · have d1 : decide ((k : Int) < (L.length : Int)) = true := decide_eq_true (by omega)
      have hw : IntKind.i64.wrap ((k : Int) + 1) = ((k + 1 : Nat) : Int) := wrap64 (by omega) (by omega)
      have e := getD_map L evC [] hkL
      generalize L[k] = x at *
      repeat' first | refine SW.step good fun K hK => ?_ | refine X2 good fun K hK => ?_ | refine X3 good fun K hK => ?_ | refine SW.seqK fun J hJ => ?_ | refine SW.last good fun K hK => ?_ | (refine hK _ ?_; clear hK K) | (refine hJ _ _ (Wk.refl _) ?_; clear hJ J) | clear hK K | clear hJ J | refine SW.skip ?_ | refine SW.ret ?_ | refine SW.retT ?_ | refine SW.retB ?_ | refine SW.exit ?_ | refine SW.exitT ?_ | refine SW.exitB ?_ | refine XN ?_ | refine SW.block ?_ | refine SW.normB ?_ | refine SW.normT ?_ | refine XT ?_ | refine XF ?_ | refine XC (fun h => ?_) (fun h => ?_) | simp only [go_sem, optI, Option.getD_some, Option.getD_none, Int.reduceToNat, reduceIte, Nat.reduceEqDiff, Nat.reduceAdd, Nat.reduceMul, Nat.reduceSub, Nat.reduceLT, Nat.reduceLeDiff, reduceCtorEq, *] | refine Xs _ (fun h => ?_) (fun h => ?_) | with_reducible refine And.intro ?_ ?_
      all_goals first | (intro r hr; simp at hr; subst hr; rfl) | (simp [bytesC]; omega) | (simp; done) | omega | rfl | skip
      all_goals refine ⟨k + 1, by omega, by omega, ?_⟩
      all_goals (refine Xto _ _ ?_ ?_ <;> simp only [go_sem, optI, Option.getD_some, Option.getD_none, Int.reduceToNat, reduceIte, Nat.reduceEqDiff, Nat.reduceAdd, Nat.reduceMul, Nat.reduceSub, Nat.reduceLT, Nat.reduceLeDiff, reduceCtorEq, Option.some.injEq, or_true, true_or] <;> (repeat' with_reducible apply And.intro) <;> (try rfl))
    · have hkL : k = L.length := by omega
      subst hkL
      have d1 : decide ((L.length : Int) < (L.length : Int)) = false := by simp
      repeat' first | refine SW.step good fun K hK => ?_ | refine X2 good fun K hK => ?_ | refine X3 good fun K hK => ?_ | refine SW.seqK fun J hJ => ?_ | refine SW.last good fun K hK => ?_ | (refine hK _ ?_; clear hK K) | (refine hJ _ _ (Wk.refl _) ?_; clear hJ J) | clear hK K | clear hJ J | refine SW.skip ?_ | refine SW.ret ?_ | refine SW.retT ?_ | refine SW.retB ?_ | refine SW.exit ?_ | refine SW.exitT ?_ | refine SW.exitB ?_ | refine XN ?_ | refine SW.block ?_ | refine SW.normB ?_ | refine SW.normT ?_ | refine XT ?_ | refine XF ?_ | refine XC (fun h => ?_) (fun h => ?_) | simp only [go_sem, optI, Option.getD_some, Option.getD_none, Int.reduceToNat, reduceIte, Nat.reduceEqDiff, Nat.reduceAdd, Nat.reduceMul, Nat.reduceSub, Nat.reduceLT, Nat.reduceLeDiff, reduceCtorEq, *] | refine Xs _ (fun h => ?_) (fun h => ?_) | with_reducible refine And.intro ?_ ?_
      all_goals first | (intro r hr; simp at hr; subst hr; rfl) | (simp [bytesC]; omega) | (simp; done) | omega | rfl | skip
      all_goals (refine Xrb ?_; rfl)
set_option maxHeartbeats 8000000 in
theorem ac_lawLogsTold (b : List UInt8) (hb : b.length ≤ 9223372036854775807) : AC Tryz.prog 3 [.c false (.sl (bytesC b))] (vB true) [] := by
  have hbl := bytesC_len b
  have c0 := ac_big (bytesC b) (by omega)
  by_cases hbig : (1048576 : Int) < (bytesC b).length
  · rw [decide_eq_true hbig] at c0
    generalize bytesC b = X at *
    clear hbl hbig
    refine XA good (fn := Tryz.f3) rfl ?_
    simp only [entry, List.getD_cons_zero, List.getD_cons_succ]
    repeat' first | refine SW.step good fun K hK => ?_ | refine X2 good fun K hK => ?_ | refine X3 good fun K hK => ?_ | refine SW.seqK fun J hJ => ?_ | refine SW.last good fun K hK => ?_ | (refine hK _ ?_; clear hK K) | (refine hJ _ _ (Wk.refl _) ?_; clear hJ J) | clear hK K | clear hJ J | refine SW.skip ?_ | refine SW.ret ?_ | refine SW.retT ?_ | refine SW.retB ?_ | refine SW.exit ?_ | refine SW.exitT ?_ | refine SW.exitB ?_ | refine XN ?_ | refine SW.block ?_ | refine SW.normB ?_ | refine SW.normT ?_ | refine XT ?_ | refine XF ?_ | refine XC (fun h => ?_) (fun h => ?_) | refine X0 ?_ | refine Xv ?_ | refine X1 (c0) ?_ | simp only [go_sem, optI, Option.getD_some, Option.getD_none, Int.reduceToNat, reduceIte, Nat.reduceEqDiff, Nat.reduceAdd, Nat.reduceMul, Nat.reduceSub, Nat.reduceLT, Nat.reduceLeDiff, reduceCtorEq, *] | refine Xs _ (fun h => ?_) (fun h => ?_) | with_reducible refine And.intro ?_ ?_
    all_goals first | (intro r hr; simp at hr; subst hr; rfl) | (simp [bytesC]; omega) | (simp; done) | omega | rfl | skip
    all_goals (refine Xrb ?_; rfl)
  · rw [decide_eq_false hbig] at c0
    have hb2 : b.length ≤ 1048576 := by omega
    obtain ⟨e, m1⟩ := evText_ex b hb2
    obtain ⟨t, p, ht, m2⟩ := readEv_ex b hb2
    obtain ⟨E, hE, m3⟩ := lifeList_ex b hb2
    obtain ⟨s, hs, m4⟩ := readLife_ex b hb2
    obtain ⟨U, V, hUV, m5⟩ := apart_ex b hb2
    have c1 := ac_EventText e
    have c2 := ac_EventText' e
    have c3 := ac_ReadEventI t p (by omega)
    have c4 := ac_ReadEventS t p (by omega)
    have c5 := ac_LifeText E (by omega)
    have c6 := ac_LifeText' E (by omega)
    have c8 := ac_ReadLifeS s (by omega)
    have c10 := ac_FirstApart U V (by omega) (by omega)
    have c11 := ac_FirstApartR U V (by omega) (by omega)
    have c12 := ac_LifeHead E (by omega)
    have c13 := ac_LifeHead' E (by omega)
    generalize bytesC b = X at *
    generalize eventText e = e1 at *
    generalize eventFit e = e2 at *
    obtain ⟨zk, zp, zn, ⟨yk, ⟨p1, p2⟩, yw, ⟨q1, q2⟩, ⟨r1, r2⟩, yt, yn⟩, tx⟩ := e
    generalize readEvS t p = re at *
    obtain ⟨⟨wk, wp, wn, ⟨vk, ⟨u1, u2⟩, vw, ⟨s1, s2⟩, ⟨t1, t2⟩, vt, vn⟩, wx⟩, ri, rb⟩ := re
    generalize lifeText E = l1 at *
    generalize lifeFit E = l2 at *
    generalize lifeHead E = l3 at *
    generalize apart U V 0 = ap at *
    simp only [evL, encEv] at *
    generalize E.map evC = ER at *
    generalize U.map evC = UR at *
    generalize V.map evC = VR0 at *
    clear hbl hbig hb hb2 ht hE hUV
    cases hr : readLife s with
    | some L =>
      have c7 := ac_ReadLife s (by omega) L hr
      have hL : L.length ≤ 1048576 := (by have := rl_len hr; omega)
      have c9 := ac_sameEvents L hL
      rw [hr] at c8
      simp only [Option.isSome_some, Option.getD_some] at c8
      clear hr hs
      generalize L.map evC = LR at *
      refine XA good (fn := Tryz.f3) rfl ?_
      simp only [entry, List.getD_cons_zero, List.getD_cons_succ]
      repeat' first | refine SW.step good fun K hK => ?_ | refine X2 good fun K hK => ?_ | refine X3 good fun K hK => ?_ | refine SW.seqK fun J hJ => ?_ | refine SW.last good fun K hK => ?_ | (refine hK _ ?_; clear hK K) | (refine hJ _ _ (Wk.refl _) ?_; clear hJ J) | clear hK K | clear hJ J | refine SW.skip ?_ | refine SW.ret ?_ | refine SW.retT ?_ | refine SW.retB ?_ | refine SW.exit ?_ | refine SW.exitT ?_ | refine SW.exitB ?_ | refine XN ?_ | refine SW.block ?_ | refine SW.normB ?_ | refine SW.normT ?_ | refine XT ?_ | refine XF ?_ | refine XC (fun h => ?_) (fun h => ?_) | refine X0 ?_ | refine Xv ?_ | refine X1 (c0) ?_ | refine X1 (c1) ?_ | refine X1 (c2) ?_ | refine X1 (c3) ?_ | refine X1 (c4) ?_ | refine X1 (c5) ?_ | refine X1 (c6) ?_ | refine X1 (c7) ?_ | refine X1 (c8) ?_ | refine X1 (c9) ?_ | refine X1 (c10) ?_ | refine X1 (c11) ?_ | refine X1 (c12) ?_ | refine X1 (c13) ?_ | refine Xzb (m1) ?_ | refine Xzc (m1) ?_ | refine Xzb (m2) ?_ | refine Xzc (m2) ?_ | refine Xzb (m3) ?_ | refine Xzc (m3) ?_ | refine Xzb (m4) ?_ | refine Xzc (m4) ?_ | refine Xzb (m5) ?_ | refine Xzc (m5) ?_ | simp only [go_sem, optI, Option.getD_some, Option.getD_none, Int.reduceToNat, reduceIte, Nat.reduceEqDiff, Nat.reduceAdd, Nat.reduceMul, Nat.reduceSub, Nat.reduceLT, Nat.reduceLeDiff, reduceCtorEq, *] | refine Xs _ (fun h => ?_) (fun h => ?_) | with_reducible refine And.intro ?_ ?_
      all_goals first | (intro r hr; simp at hr; subst hr; rfl) | (simp [bytesC]; omega) | (simp; done) | omega | rfl | skip
      all_goals (refine Xrb ?_; first | rfl | (simp; done) | simp_all)
    | none =>
      have c7 := ac_ReadLifeN s (by omega) hr
      have c9 := ac_sameEvents [] (by simp)
      rw [hr] at c8
      simp only [Option.isSome_none, Option.getD_none, List.map_nil] at c8 c9
      clear hr hs
      refine XA good (fn := Tryz.f3) rfl ?_
      simp only [entry, List.getD_cons_zero, List.getD_cons_succ]
      repeat' first | refine SW.step good fun K hK => ?_ | refine X2 good fun K hK => ?_ | refine X3 good fun K hK => ?_ | refine SW.seqK fun J hJ => ?_ | refine SW.last good fun K hK => ?_ | (refine hK _ ?_; clear hK K) | (refine hJ _ _ (Wk.refl _) ?_; clear hJ J) | clear hK K | clear hJ J | refine SW.skip ?_ | refine SW.ret ?_ | refine SW.retT ?_ | refine SW.retB ?_ | refine SW.exit ?_ | refine SW.exitT ?_ | refine SW.exitB ?_ | refine XN ?_ | refine SW.block ?_ | refine SW.normB ?_ | refine SW.normT ?_ | refine XT ?_ | refine XF ?_ | refine XC (fun h => ?_) (fun h => ?_) | refine X0 ?_ | refine Xv ?_ | refine X1 (c0) ?_ | refine X1 (c1) ?_ | refine X1 (c2) ?_ | refine X1 (c3) ?_ | refine X1 (c4) ?_ | refine X1 (c5) ?_ | refine X1 (c6) ?_ | refine X1 (c7) ?_ | refine X1 (c8) ?_ | refine X1 (c9) ?_ | refine X1 (c10) ?_ | refine X1 (c11) ?_ | refine X1 (c12) ?_ | refine X1 (c13) ?_ | refine Xzb (m1) ?_ | refine Xzc (m1) ?_ | refine Xzb (m2) ?_ | refine Xzc (m2) ?_ | refine Xzb (m3) ?_ | refine Xzc (m3) ?_ | refine Xzb (m4) ?_ | refine Xzc (m4) ?_ | refine Xzb (m5) ?_ | refine Xzc (m5) ?_ | simp only [go_sem, optI, Option.getD_some, Option.getD_none, Int.reduceToNat, reduceIte, Nat.reduceEqDiff, Nat.reduceAdd, Nat.reduceMul, Nat.reduceSub, Nat.reduceLT, Nat.reduceLeDiff, reduceCtorEq, *] | refine Xs _ (fun h => ?_) (fun h => ?_) | with_reducible refine And.intro ?_ ?_
      all_goals first | (intro r hr; simp at hr; subst hr; rfl) | (simp [bytesC]; omega) | (simp; done) | omega | rfl | skip
      all_goals (refine Xrb ?_; first | rfl | (simp; done) | simp_all)
end Go.Proofs.YtoemclhjcbcjaaaGreat.AB
namespace Go.Proofs.YtoemclhjcbcjaaaGreat.AB
open Go
set_option maxRecDepth 100000
theorem hasBytes {q : Nat} : ∀ {xs : List (List C)}, (∀ r, r ∈ xs → HasT Tryz.prog (q + 1) 5 r) → ∃ b : List UInt8, xs = bytesC b
  | [], _ => ⟨[], rfl⟩
  | r :: xs, h => by
    have h1 := h r (by simp)
    simp only [HasT, Tryz.underlying5] at h1
    obtain ⟨n, rfl, hn⟩ := h1
    obtain ⟨L, rfl⟩ := hasBytes (xs := xs) (fun r hr => h r (List.mem_cons_of_mem _ hr))
    simp [Lit.wf] at hn
    have e1 : IntKind.u8.min = 0 := by decide
    have e2 : IntKind.u8.max = 255 := by decide
    rw [e1, e2] at hn
    refine ⟨UInt8.ofNat n.toNat :: L, ?_⟩
    have e : ((UInt8.ofNat n.toNat).toNat : Int) = n := by rw [UInt8.toNat_ofNat']; omega
    simp only [bytesC, List.map_cons, e]
theorem args_FnLogsTold {xss : List (List C)} (hx : AllT Tryz.prog 3 [22] xss) : AC Tryz.prog 3 (argsAV Tryz.prog false [22] xss) (vB true) [] := by
  obtain ⟨cs, rfl, hcs⟩ := AllT_one hx
  rw [HasT] at hcs
  simp only [Tryz.underlying22] at hcs
  obtain ⟨xs, rfl, h1, h2⟩ := hcs
  obtain ⟨b, rfl⟩ := hasBytes (q := 1) h2
  have hagg : aggOf Tryz.prog 22 = false := by kernel_rfl
  have hl := bytesC_len b
  unfold maxLen at h1
  have := ac_lawLogsTold b (by omega)
  simpa only [argsAV, argAV_one hagg, cvC] using this
end Go.Proofs.YtoemclhjcbcjaaaGreat.AB
namespace Go.Proofs.YtoemclhjcbcjaaaGreat
open AB
set_option maxRecDepth 100000 in
theorem lifted_FnLogsTold (os : Os) (started : os.Started) (H : Type) (enc : TypeId × Value → H) :
    ReturnsInHanded {} Tryz.checked os 3 .any (Rows.fnLogsToldSpec.pre6 enc Tryz.prog Tryz.f3 Rows.fnLogsToldRow.domain false) (Rows.fnLogsToldSpec.post enc Tryz.prog Tryz.f3 false true false false) := by
  refine returnsInHanded_of_change_sized (C := Tryz.checked) own started (by kernel_rfl) Tryz.func3
    (ChangeSpec.witness6 (enc := enc) (C := Tryz.checked) false ⟨#[], #[.slice none 0 0], []⟩ 8 (by kernel_rfl) (by kernel_rfl) (by kernel_rfl) (by kernel_rfl)) ?_
  intro W base args ds gs before hval hW hcnd hsz _
  refine law_contract good (t4 := 4) (q := 3) laidOut Tryz.func3 (by kernel_rfl) (by kernel_rfl) rfl (by kernel_rfl) (by kernel_rfl) ⟨rfl, fun ds hds => ?_⟩ (fun xss hx => ?_) W base args ds gs before trivial hval hW
  · have hds' : ds.length = 1 := by rw [Tryz.params3] at hds; exact hds
    obtain ⟨d, rfl⟩ := List.length_eq_one_iff.1 hds'
    exact Eq.refl _
  · rw [Tryz.params3] at hx ⊢
    exact args_FnLogsTold hx
set_option maxRecDepth 100000 in
theorem closed_FnLogsTold : joinedFacts Tryz.prog 3 Tryz.f3 Rows.fnLogsToldSpec Rows.fnLogsToldRow = true := by
  unfold joinedFacts
  simp only [Bool.and_eq_true]
  repeat' with_reducible apply And.intro
  all_goals first | (with_reducible exact mayEnter) | (rw [notFinal]; rfl) | (rw [make_is]; kernel_rfl) | kernel_rfl
theorem fnLogsTold_holds : Rows.FnLogsToldSaid :=
  OpenClaim.holds_of_wide 3 Tryz.f3 rfl rfl rfl rfl rfl rfl rfl ⟨rfl, rfl, rfl, rfl, rfl⟩ rfl rfl rfl rfl rfl (by kernel_rfl) Tryz.func3 closed_FnLogsTold
    (of_decide_eq_true (by kernel_rfl)) (by unfold Func.isWrapper; first | (rw [if_pos (by decide +kernel)]; kernel_rfl) | (rw [if_neg (by decide +kernel)]; exact ⟨rfl, rfl⟩))
    (fun os started H enc _ => lifted_FnLogsTold os started H enc)
#print axioms fnLogsTold_holds
end Go.Proofs.YtoemclhjcbcjaaaGreat
