/- Peers that are right: the reference's function. -/
import Derived.Test.YtbpfciidbgkekaaAbGgPeer
namespace Go.Proofs.Ytbpfciidbgkekaa.AB
open Go
set_option maxRecDepth 100000
set_option linter.unusedSimpArgs false
set_option linter.unusedVariables false
theorem any_take {α : Type} (g : α → Bool) (L : List α) {k : Nat} (h : k < L.length) : (L.take (k + 1)).any g = ((L.take k).any g || g L[k]) := by
  rw [List.take_add_one, List.getElem?_eq_getElem h, List.any_append]; simp
theorem any_yes {α : Type} {g : α → Bool} {L : List α} {k : Nat} (h : k < L.length) (hg : g L[k] = true) : L.any g = true := List.any_eq_true.2 ⟨_, List.getElem_mem h, hg⟩
set_option maxHeartbeats 8000000 in
theorem ac_PeerOk' (p : Peer) (hp : p.small) : AC Try.prog 112 [encPeer true p] (vB (peerOk p)) [] := by
  obtain ⟨p1, p2, p3, p4⟩ := hp
  have hpk : peerOk p = peerOk p := rfl
  conv at hpk => rhs; unfold peerOk
  by_cases ha : 0 ≤ p.id ∧ p.id ≤ 255
  · have g0 : decide (0 ≤ p.id ∧ p.id ≤ 255) = true := by simpa using ha
    rw [show inB p.id 0 255 = true from g0] at hpk
    cases hh : p.here with
    | false =>
      simp only [hh, Bool.true_and, Bool.false_eq_true, if_false] at hpk
      refine XA good (fn := Try.f112) rfl ?_
      simp only [entry, List.getD_cons_zero, List.getD_cons_succ]
      repeat' first | refine SW.step good fun K hK => ?_ | refine X2 good fun K hK => ?_ | refine X3 good fun K hK => ?_ | refine SW.seqK fun J hJ => ?_ | refine SW.last good fun K hK => ?_ | (refine hK _ ?_; clear hK K) | (refine hJ _ _ (Wk.refl _) ?_; clear hJ J) | clear hK K | clear hJ J | refine SW.skip ?_ | refine SW.ret ?_ | refine SW.retT ?_ | refine SW.retB ?_ | refine SW.exit ?_ | refine SW.exitT ?_ | refine SW.exitB ?_ | refine XN ?_ | refine SW.block ?_ | refine SW.normB ?_ | refine SW.normT ?_ | refine XT ?_ | refine XF ?_ | refine XC (fun h => ?_) (fun h => ?_) | refine X0 ?_ | refine Xv ?_ | refine X1 (ac_in' _ _ _) ?_ | simp only [go_sem, optI, Option.getD_some, Option.getD_none, Int.reduceToNat, reduceIte, Nat.reduceEqDiff, Nat.reduceAdd, Nat.reduceMul, Nat.reduceSub, Nat.reduceLT, Nat.reduceLeDiff, reduceCtorEq, *] | refine Xs _ (fun h => ?_) (fun h => ?_) | with_reducible refine And.intro ?_ ?_
      all_goals refine Xrb ?_
      all_goals (try rw [hpk])
      all_goals (clear hpk; simp_all)
    | true =>
      simp only [hh, Bool.true_and, if_true] at hpk
      by_cases hah : -1 ≤ p.ahead ∧ p.ahead ≤ 255
      · have g1 : decide (-1 ≤ p.ahead ∧ p.ahead ≤ 255) = true := by simpa using hah
        rw [show inB p.ahead (-1) 255 = true from g1, Bool.true_and] at hpk
        by_cases c1 : p.behind.length ≤ 3
        · have g2 : decide ((3 : Int) < (p.behind.length : Int)) = false := by simp; omega
          rw [show decide (p.behind.length ≤ 3) = true from by simpa using c1, Bool.true_and] at hpk
          by_cases c2 : p.fingers.length = 8
          · have g3 : decide ((p.fingers.length : Int) = 8) = true := by simp; omega
            rw [show decide (p.fingers.length = 8) = true from by simpa using c2, Bool.true_and] at hpk
            by_cases c3 : p.shelves.length ≤ 80
            · have g4 : decide ((80 : Int) < (p.shelves.length : Int)) = false := by simp; omega
              have kb : p.behind.any (badB p) = true → peerOk p = false := fun q => by rw [hpk, q]; rfl
              have kf : p.fingers.any badF = true → peerOk p = false := fun q => by rw [hpk, q]; simp
              have ks : shelvesOk p.shelves = false → peerOk p = false := fun q => by rw [hpk, q]; simp
              have kt : p.behind.any (badB p) = false → p.fingers.any badF = false → shelvesOk p.shelves = true → peerOk p = true := fun q r t => by rw [hpk, q, r, t]; rfl
              clear hpk c1 c2 ha hah
              refine XA good (fn := Try.f112) rfl ?_
              simp only [entry, List.getD_cons_zero, List.getD_cons_succ]
              repeat' first | refine SW.step good fun K hK => ?_ | refine X2 good fun K hK => ?_ | refine X3 good fun K hK => ?_ | refine SW.seqK fun J hJ => ?_ | refine SW.last good fun K hK => ?_ | (refine hK _ ?_; clear hK K) | (refine hJ _ _ (Wk.refl _) ?_; clear hJ J) | clear hK K | clear hJ J | refine SW.skip ?_ | refine SW.ret ?_ | refine SW.retT ?_ | refine SW.retB ?_ | refine SW.exit ?_ | refine SW.exitT ?_ | refine SW.exitB ?_ | refine XN ?_ | refine SW.block ?_ | refine SW.normB ?_ | refine SW.normT ?_ | refine XT ?_ | refine XF ?_ | refine XC (fun h => ?_) (fun h => ?_) | refine X0 ?_ | refine Xv ?_ | refine X1 (ac_in' _ _ _) ?_ | simp only [go_sem, optI, Option.getD_some, Option.getD_none, Int.reduceToNat, reduceIte, Nat.reduceEqDiff, Nat.reduceAdd, Nat.reduceMul, Nat.reduceSub, Nat.reduceLT, Nat.reduceLeDiff, reduceCtorEq, *] | refine Xs _ (fun h => ?_) (fun h => ?_) | with_reducible refine And.intro ?_ ?_
              clear g0 g1 g2 g3 g4
              refine SW.loopTo (α := Nat) (fun k => ⟨sl [(1, .ptr (.s 1 0) 0), (3, vI k)], hl [(.s 1 0, .box [vI p.id, vB true, vI p.ahead, .c true (.sl (p.behind.map intC)), .c true (.sl (p.fingers.map intC)), .c true (.sl (p.shelves.map shelfC))])]⟩) (fun k => p.behind.length - k) 0 (fun k => k ≤ p.behind.length ∧ (p.behind.take k).any (badB p) = false) ?_ ⟨by simp, by simp⟩ ?_
              · (refine Xto _ _ ?_ ?_ <;> simp only [go_sem, optI, Option.getD_some, Option.getD_none, Int.reduceToNat, reduceIte, Nat.reduceEqDiff, Nat.reduceAdd, Nat.reduceMul, Nat.reduceSub, Nat.reduceLT, Nat.reduceLeDiff, reduceCtorEq, Option.some.injEq, or_true, true_or] <;> (repeat' with_reducible apply And.intro) <;> (try rfl))
              · rintro k ⟨h2, h3⟩
                by_cases hk : k < p.behind.length
                · have e := getD_map p.behind intC [] hk
                  have e1 : decide ((k : Int) < p.behind.length) = true := by simp; omega
                  have hw : IntKind.i64.wrap ((k : Int) + 1) = ((k + 1 : Nat) : Int) := wrap64 (by omega) (by omega)
                  have hat := any_take (badB p) p.behind hk
                  rw [h3, Bool.false_or] at hat
                  by_cases d1 : 0 ≤ p.behind[k] ∧ p.behind[k] ≤ 255
                  · have f1 : decide (0 ≤ p.behind[k] ∧ p.behind[k] ≤ 255) = true := by simpa using d1
                    have hbad : badB p p.behind[k] = decide (p.behind[k] = p.id) := by unfold badB; rw [show inB p.behind[k] 0 255 = true from f1]; rfl
                    by_cases d2 : p.behind[k] = p.id
                    · have f2 : decide (p.behind[k] = p.id) = true := by simpa using d2
                      have hn := kb (any_yes hk (by rw [hbad, f2]))
                      clear kb kf ks kt hat h3 d1 d2 hbad
                      repeat' first | refine SW.step good fun K hK => ?_ | refine X2 good fun K hK => ?_ | refine X3 good fun K hK => ?_ | refine SW.seqK fun J hJ => ?_ | refine SW.last good fun K hK => ?_ | (refine hK _ ?_; clear hK K) | (refine hJ _ _ (Wk.refl _) ?_; clear hJ J) | clear hK K | clear hJ J | refine SW.skip ?_ | refine SW.ret ?_ | refine SW.retT ?_ | refine SW.retB ?_ | refine SW.exit ?_ | refine SW.exitT ?_ | refine SW.exitB ?_ | refine XN ?_ | refine SW.block ?_ | refine SW.normB ?_ | refine SW.normT ?_ | refine XT ?_ | refine XF ?_ | refine XC (fun h => ?_) (fun h => ?_) | refine X0 ?_ | refine Xv ?_ | refine X1 (ac_in' _ _ _) ?_ | simp only [go_sem, optI, Option.getD_some, Option.getD_none, Int.reduceToNat, reduceIte, Nat.reduceEqDiff, Nat.reduceAdd, Nat.reduceMul, Nat.reduceSub, Nat.reduceLT, Nat.reduceLeDiff, reduceCtorEq, *] | refine Xs _ (fun h => ?_) (fun h => ?_) | with_reducible refine And.intro ?_ ?_
                      all_goals first | omega | skip
                      all_goals refine Xrb ?_
                      all_goals first | exact hn | rfl
                    · have f2 : decide (p.behind[k] = p.id) = false := by simpa using d2
                      rw [hbad, f2] at hat
                      clear kb kf ks kt h3 d1 d2 hbad
                      repeat' first | refine SW.step good fun K hK => ?_ | refine X2 good fun K hK => ?_ | refine X3 good fun K hK => ?_ | refine SW.seqK fun J hJ => ?_ | refine SW.last good fun K hK => ?_ | (refine hK _ ?_; clear hK K) | (refine hJ _ _ (Wk.refl _) ?_; clear hJ J) | clear hK K | clear hJ J | refine SW.skip ?_ | refine SW.ret ?_ | refine SW.retT ?_ | refine SW.retB ?_ | refine SW.exit ?_ | refine SW.exitT ?_ | refine SW.exitB ?_ | refine XN ?_ | refine SW.block ?_ | refine SW.normB ?_ | refine SW.normT ?_ | refine XT ?_ | refine XF ?_ | refine XC (fun h => ?_) (fun h => ?_) | refine X0 ?_ | refine Xv ?_ | refine X1 (ac_in' _ _ _) ?_ | simp only [go_sem, optI, Option.getD_some, Option.getD_none, Int.reduceToNat, reduceIte, Nat.reduceEqDiff, Nat.reduceAdd, Nat.reduceMul, Nat.reduceSub, Nat.reduceLT, Nat.reduceLeDiff, reduceCtorEq, *] | refine Xs _ (fun h => ?_) (fun h => ?_) | with_reducible refine And.intro ?_ ?_
                      all_goals first | omega | skip
                      all_goals refine ⟨k + 1, ⟨by omega, hat⟩, by omega, ?_⟩
                      all_goals (refine Xto _ _ ?_ ?_ <;> simp only [go_sem, optI, Option.getD_some, Option.getD_none, Int.reduceToNat, reduceIte, Nat.reduceEqDiff, Nat.reduceAdd, Nat.reduceMul, Nat.reduceSub, Nat.reduceLT, Nat.reduceLeDiff, reduceCtorEq, Option.some.injEq, or_true, true_or] <;> (repeat' with_reducible apply And.intro) <;> (try rfl))
                  · have f1 : decide (0 ≤ p.behind[k] ∧ p.behind[k] ≤ 255) = false := by simpa using d1
                    have hn := kb (any_yes hk (by unfold badB; rw [show inB p.behind[k] 0 255 = false from f1]; rfl))
                    clear kb kf ks kt hat h3 d1
                    repeat' first | refine SW.step good fun K hK => ?_ | refine X2 good fun K hK => ?_ | refine X3 good fun K hK => ?_ | refine SW.seqK fun J hJ => ?_ | refine SW.last good fun K hK => ?_ | (refine hK _ ?_; clear hK K) | (refine hJ _ _ (Wk.refl _) ?_; clear hJ J) | clear hK K | clear hJ J | refine SW.skip ?_ | refine SW.ret ?_ | refine SW.retT ?_ | refine SW.retB ?_ | refine SW.exit ?_ | refine SW.exitT ?_ | refine SW.exitB ?_ | refine XN ?_ | refine SW.block ?_ | refine SW.normB ?_ | refine SW.normT ?_ | refine XT ?_ | refine XF ?_ | refine XC (fun h => ?_) (fun h => ?_) | refine X0 ?_ | refine Xv ?_ | refine X1 (ac_in' _ _ _) ?_ | simp only [go_sem, optI, Option.getD_some, Option.getD_none, Int.reduceToNat, reduceIte, Nat.reduceEqDiff, Nat.reduceAdd, Nat.reduceMul, Nat.reduceSub, Nat.reduceLT, Nat.reduceLeDiff, reduceCtorEq, *] | refine Xs _ (fun h => ?_) (fun h => ?_) | with_reducible refine And.intro ?_ ?_
                    all_goals first | omega | skip
                    all_goals refine Xrb ?_
                    all_goals first | exact hn | rfl
                · have hk : k = p.behind.length := by omega
                  subst hk
                  have e1 : decide ((p.behind.length : Int) < p.behind.length) = false := by simp
                  rw [List.take_length] at h3
                  have kt2 := kt h3
                  clear kb kt h3
                  repeat' first | refine SW.step good fun K hK => ?_ | refine X2 good fun K hK => ?_ | refine X3 good fun K hK => ?_ | refine SW.seqK fun J hJ => ?_ | refine SW.last good fun K hK => ?_ | (refine hK _ ?_; clear hK K) | (refine hJ _ _ (Wk.refl _) ?_; clear hJ J) | clear hK K | clear hJ J | refine SW.skip ?_ | refine SW.ret ?_ | refine SW.retT ?_ | refine SW.retB ?_ | refine SW.exit ?_ | refine SW.exitT ?_ | refine SW.exitB ?_ | refine XN ?_ | refine SW.block ?_ | refine SW.normB ?_ | refine SW.normT ?_ | refine XT ?_ | refine XF ?_ | refine XC (fun h => ?_) (fun h => ?_) | simp only [go_sem, optI, Option.getD_some, Option.getD_none, Int.reduceToNat, reduceIte, Nat.reduceEqDiff, Nat.reduceAdd, Nat.reduceMul, Nat.reduceSub, Nat.reduceLT, Nat.reduceLeDiff, reduceCtorEq, *] | refine Xs _ (fun h => ?_) (fun h => ?_) | with_reducible refine And.intro ?_ ?_
                  refine SW.loopTo (α := Nat) (fun k => ⟨sl [(1, .ptr (.s 1 0) 0), (4, vI k)], hl [(.s 1 0, .box [vI p.id, vB true, vI p.ahead, .c true (.sl (p.behind.map intC)), .c true (.sl (p.fingers.map intC)), .c true (.sl (p.shelves.map shelfC))])]⟩) (fun k => p.fingers.length - k) 0 (fun k => k ≤ p.fingers.length ∧ (p.fingers.take k).any badF = false) ?_ ⟨by simp, by simp⟩ ?_
                  · (refine Xto _ _ ?_ ?_ <;> simp only [go_sem, optI, Option.getD_some, Option.getD_none, Int.reduceToNat, reduceIte, Nat.reduceEqDiff, Nat.reduceAdd, Nat.reduceMul, Nat.reduceSub, Nat.reduceLT, Nat.reduceLeDiff, reduceCtorEq, Option.some.injEq, or_true, true_or] <;> (repeat' with_reducible apply And.intro) <;> (try rfl))
                  · rintro k ⟨h2, h3⟩
                    by_cases hk : k < p.fingers.length
                    · have e := getD_map p.fingers intC [] hk
                      have e1 : decide ((k : Int) < p.fingers.length) = true := by simp; omega
                      have hw : IntKind.i64.wrap ((k : Int) + 1) = ((k + 1 : Nat) : Int) := wrap64 (by omega) (by omega)
                      have hat := any_take badF p.fingers hk
                      rw [h3, Bool.false_or] at hat
                      have hbad : badF p.fingers[k] = !decide (-1 ≤ p.fingers[k] ∧ p.fingers[k] ≤ 255) := by
                        unfold badF inB
                        rw [Bool.eq_iff_iff]
                        simp only [Bool.and_eq_true, Bool.not_eq_true', decide_eq_false_iff_not]; omega
                      by_cases d1 : -1 ≤ p.fingers[k] ∧ p.fingers[k] ≤ 255
                      · have f1 : decide (-1 ≤ p.fingers[k] ∧ p.fingers[k] ≤ 255) = true := by simpa using d1
                        rw [hbad, f1] at hat
                        simp only [Bool.not_true] at hat
                        clear kf ks kt2 h3 d1 hbad
                        repeat' first | refine SW.step good fun K hK => ?_ | refine X2 good fun K hK => ?_ | refine X3 good fun K hK => ?_ | refine SW.seqK fun J hJ => ?_ | refine SW.last good fun K hK => ?_ | (refine hK _ ?_; clear hK K) | (refine hJ _ _ (Wk.refl _) ?_; clear hJ J) | clear hK K | clear hJ J | refine SW.skip ?_ | refine SW.ret ?_ | refine SW.retT ?_ | refine SW.retB ?_ | refine SW.exit ?_ | refine SW.exitT ?_ | refine SW.exitB ?_ | refine XN ?_ | refine SW.block ?_ | refine SW.normB ?_ | refine SW.normT ?_ | refine XT ?_ | refine XF ?_ | refine XC (fun h => ?_) (fun h => ?_) | refine X0 ?_ | refine Xv ?_ | refine X1 (ac_in' _ _ _) ?_ | simp only [go_sem, optI, Option.getD_some, Option.getD_none, Int.reduceToNat, reduceIte, Nat.reduceEqDiff, Nat.reduceAdd, Nat.reduceMul, Nat.reduceSub, Nat.reduceLT, Nat.reduceLeDiff, reduceCtorEq, *] | refine Xs _ (fun h => ?_) (fun h => ?_) | with_reducible refine And.intro ?_ ?_
                        all_goals first | omega | skip
                        all_goals refine ⟨k + 1, ⟨by omega, hat⟩, by omega, ?_⟩
                        all_goals (refine Xto _ _ ?_ ?_ <;> simp only [go_sem, optI, Option.getD_some, Option.getD_none, Int.reduceToNat, reduceIte, Nat.reduceEqDiff, Nat.reduceAdd, Nat.reduceMul, Nat.reduceSub, Nat.reduceLT, Nat.reduceLeDiff, reduceCtorEq, Option.some.injEq, or_true, true_or] <;> (repeat' with_reducible apply And.intro) <;> (try rfl))
                      · have f1 : decide (-1 ≤ p.fingers[k] ∧ p.fingers[k] ≤ 255) = false := by simpa using d1
                        have hn := kf (any_yes hk (by rw [hbad, f1]; rfl))
                        clear kf ks kt2 hat h3 d1 hbad
                        repeat' first | refine SW.step good fun K hK => ?_ | refine X2 good fun K hK => ?_ | refine X3 good fun K hK => ?_ | refine SW.seqK fun J hJ => ?_ | refine SW.last good fun K hK => ?_ | (refine hK _ ?_; clear hK K) | (refine hJ _ _ (Wk.refl _) ?_; clear hJ J) | clear hK K | clear hJ J | refine SW.skip ?_ | refine SW.ret ?_ | refine SW.retT ?_ | refine SW.retB ?_ | refine SW.exit ?_ | refine SW.exitT ?_ | refine SW.exitB ?_ | refine XN ?_ | refine SW.block ?_ | refine SW.normB ?_ | refine SW.normT ?_ | refine XT ?_ | refine XF ?_ | refine XC (fun h => ?_) (fun h => ?_) | refine X0 ?_ | refine Xv ?_ | refine X1 (ac_in' _ _ _) ?_ | simp only [go_sem, optI, Option.getD_some, Option.getD_none, Int.reduceToNat, reduceIte, Nat.reduceEqDiff, Nat.reduceAdd, Nat.reduceMul, Nat.reduceSub, Nat.reduceLT, Nat.reduceLeDiff, reduceCtorEq, *] | refine Xs _ (fun h => ?_) (fun h => ?_) | with_reducible refine And.intro ?_ ?_
                        all_goals first | omega | skip
                        all_goals refine Xrb ?_
                        all_goals first | exact hn | rfl
                    · have hk : k = p.fingers.length := by omega
                      subst hk
                      have e1 : decide ((p.fingers.length : Int) < p.fingers.length) = false := by simp
                      rw [List.take_length] at h3
                      have kt3 := kt2 h3
                      clear kf kt2 h3
                      repeat' first | refine SW.step good fun K hK => ?_ | refine X2 good fun K hK => ?_ | refine X3 good fun K hK => ?_ | refine SW.seqK fun J hJ => ?_ | refine SW.last good fun K hK => ?_ | (refine hK _ ?_; clear hK K) | (refine hJ _ _ (Wk.refl _) ?_; clear hJ J) | clear hK K | clear hJ J | refine SW.skip ?_ | refine SW.ret ?_ | refine SW.retT ?_ | refine SW.retB ?_ | refine SW.exit ?_ | refine SW.exitT ?_ | refine SW.exitB ?_ | refine XN ?_ | refine SW.block ?_ | refine SW.normB ?_ | refine SW.normT ?_ | refine XT ?_ | refine XF ?_ | refine XC (fun h => ?_) (fun h => ?_) | simp only [go_sem, optI, Option.getD_some, Option.getD_none, Int.reduceToNat, reduceIte, Nat.reduceEqDiff, Nat.reduceAdd, Nat.reduceMul, Nat.reduceSub, Nat.reduceLT, Nat.reduceLeDiff, reduceCtorEq, *] | refine Xs _ (fun h => ?_) (fun h => ?_) | with_reducible refine And.intro ?_ ?_
                      refine SW.loopTo (α := Nat) (fun k => ⟨sl [(1, .ptr (.s 1 0) 0), (5, vI k)], hl [(.s 1 0, .box [vI p.id, vB true, vI p.ahead, .c true (.sl (p.behind.map intC)), .c true (.sl (p.fingers.map intC)), .c true (.sl (p.shelves.map shelfC))])]⟩) (fun k => p.shelves.length - k) 0 (fun k => k ≤ p.shelves.length ∧ ∀ j, j < k → shelfAt p.shelves j = true) ?_ ⟨by simp, by simp⟩ ?_
                      · (refine Xto _ _ ?_ ?_ <;> simp only [go_sem, optI, Option.getD_some, Option.getD_none, Int.reduceToNat, reduceIte, Nat.reduceEqDiff, Nat.reduceAdd, Nat.reduceMul, Nat.reduceSub, Nat.reduceLT, Nat.reduceLeDiff, reduceCtorEq, Option.some.injEq, or_true, true_or] <;> (repeat' with_reducible apply And.intro) <;> (try rfl))
                      · rintro k ⟨h2, h3⟩
                        by_cases hk : k < p.shelves.length
                        · have e := getD_map p.shelves shelfC [] hk
                          have e1 : decide ((k : Int) < p.shelves.length) = true := by simp; omega
                          have hw : IntKind.i64.wrap ((k : Int) + 1) = ((k + 1 : Nat) : Int) := wrap64 (by omega) (by omega)
                          have hx := ky_at hk
                          have hi := its_at hk
                          have hit := ac_l09Items _ (p4 _ (List.getElem_mem hk))
                          have key : shelfAt p.shelves k = false → peerOk p = false := fun q => ks (by unfold shelvesOk; rw [allN_no hk q]; simp)
                          have key2 : shelfAt p.shelves k = true → ∀ j, j < k + 1 → shelfAt p.shelves j = true := fun q j hj => by
                            by_cases hjk : j < k
                            · exact h3 j hjk
                            · rw [show j = k by omega]; exact q
                          clear h3 ks kt3
                          cases k with
                          | zero =>
                            have g0 : decide ((0 : Int) < ((0 : Nat) : Int)) = false := rfl
                            by_cases d1 : (0 : Int) ≤ p.shelves[0].key ∧ p.shelves[0].key ≤ 255
                            · have f1 : decide ((0 : Int) ≤ p.shelves[0].key ∧ p.shelves[0].key ≤ 255) = true := by simpa using d1
                              have f1' : inB p.shelves[0].key 0 255 = true := f1
                              cases d2 : itemsOk p.shelves[0].items with
                              | true =>
                                rw [d2] at hit
                                have hn := key2 (by simp only [shelfAt]; rw [hx, hi, f1', d2]; rfl)
                                clear key key2 hx hi d1 d2 f1'
                                repeat' first | refine SW.step good fun K hK => ?_ | refine X2 good fun K hK => ?_ | refine X3 good fun K hK => ?_ | refine SW.seqK fun J hJ => ?_ | refine SW.last good fun K hK => ?_ | (refine hK _ ?_; clear hK K) | (refine hJ _ _ (Wk.refl _) ?_; clear hJ J) | clear hK K | clear hJ J | refine SW.skip ?_ | refine SW.ret ?_ | refine SW.retT ?_ | refine SW.retB ?_ | refine SW.exit ?_ | refine SW.exitT ?_ | refine SW.exitB ?_ | refine XN ?_ | refine SW.block ?_ | refine SW.normB ?_ | refine SW.normT ?_ | refine XT ?_ | refine XF ?_ | refine XC (fun h => ?_) (fun h => ?_) | refine X0 ?_ | refine Xv ?_ | refine X1 (ac_in' _ _ _) ?_ | refine X1 (hit) ?_ | simp only [go_sem, optI, Option.getD_some, Option.getD_none, Int.reduceToNat, reduceIte, Nat.reduceEqDiff, Nat.reduceAdd, Nat.reduceMul, Nat.reduceSub, Nat.reduceLT, Nat.reduceLeDiff, reduceCtorEq, *] | refine Xs _ (fun h => ?_) (fun h => ?_) | with_reducible refine And.intro ?_ ?_
                                all_goals first | omega | skip
                                all_goals refine ⟨1, ⟨by omega, hn⟩, by omega, ?_⟩
                                all_goals (refine Xto _ _ ?_ ?_ <;> simp only [go_sem, optI, Option.getD_some, Option.getD_none, Int.reduceToNat, reduceIte, Nat.reduceEqDiff, Nat.reduceAdd, Nat.reduceMul, Nat.reduceSub, Nat.reduceLT, Nat.reduceLeDiff, reduceCtorEq, Option.some.injEq, or_true, true_or] <;> (repeat' with_reducible apply And.intro) <;> (try rfl))
                                all_goals first | rfl | (simp; done) | skip
                              | false =>
                                rw [d2] at hit
                                have hn := key (by simp only [shelfAt]; rw [hi, d2]; simp)
                                clear key key2 hx hi d1 d2 f1'
                                repeat' first | refine SW.step good fun K hK => ?_ | refine X2 good fun K hK => ?_ | refine X3 good fun K hK => ?_ | refine SW.seqK fun J hJ => ?_ | refine SW.last good fun K hK => ?_ | (refine hK _ ?_; clear hK K) | (refine hJ _ _ (Wk.refl _) ?_; clear hJ J) | clear hK K | clear hJ J | refine SW.skip ?_ | refine SW.ret ?_ | refine SW.retT ?_ | refine SW.retB ?_ | refine SW.exit ?_ | refine SW.exitT ?_ | refine SW.exitB ?_ | refine XN ?_ | refine SW.block ?_ | refine SW.normB ?_ | refine SW.normT ?_ | refine XT ?_ | refine XF ?_ | refine XC (fun h => ?_) (fun h => ?_) | refine X0 ?_ | refine Xv ?_ | refine X1 (ac_in' _ _ _) ?_ | refine X1 (hit) ?_ | simp only [go_sem, optI, Option.getD_some, Option.getD_none, Int.reduceToNat, reduceIte, Nat.reduceEqDiff, Nat.reduceAdd, Nat.reduceMul, Nat.reduceSub, Nat.reduceLT, Nat.reduceLeDiff, reduceCtorEq, *] | refine Xs _ (fun h => ?_) (fun h => ?_) | with_reducible refine And.intro ?_ ?_
                                all_goals first | omega | skip
                                all_goals refine Xrb ?_
                                all_goals first | exact hn | rfl
                            · have f1 : decide ((0 : Int) ≤ p.shelves[0].key ∧ p.shelves[0].key ≤ 255) = false := by simpa using d1
                              have f1' : inB p.shelves[0].key 0 255 = false := f1
                              have hn := key (by simp only [shelfAt]; rw [hx, f1']; rfl)
                              clear key key2 hx hi d1 f1'
                              repeat' first | refine SW.step good fun K hK => ?_ | refine X2 good fun K hK => ?_ | refine X3 good fun K hK => ?_ | refine SW.seqK fun J hJ => ?_ | refine SW.last good fun K hK => ?_ | (refine hK _ ?_; clear hK K) | (refine hJ _ _ (Wk.refl _) ?_; clear hJ J) | clear hK K | clear hJ J | refine SW.skip ?_ | refine SW.ret ?_ | refine SW.retT ?_ | refine SW.retB ?_ | refine SW.exit ?_ | refine SW.exitT ?_ | refine SW.exitB ?_ | refine XN ?_ | refine SW.block ?_ | refine SW.normB ?_ | refine SW.normT ?_ | refine XT ?_ | refine XF ?_ | refine XC (fun h => ?_) (fun h => ?_) | refine X0 ?_ | refine Xv ?_ | refine X1 (ac_in' _ _ _) ?_ | simp only [go_sem, optI, Option.getD_some, Option.getD_none, Int.reduceToNat, reduceIte, Nat.reduceEqDiff, Nat.reduceAdd, Nat.reduceMul, Nat.reduceSub, Nat.reduceLT, Nat.reduceLeDiff, reduceCtorEq, *] | refine Xs _ (fun h => ?_) (fun h => ?_) | with_reducible refine And.intro ?_ ?_
                              all_goals first | omega | skip
                              all_goals refine Xrb ?_
                              all_goals first | exact hn | rfl
                          | succ k =>
                            have hk' : k < p.shelves.length := by omega
                            have hx' := ky_at hk'
                            have e' := getD_map p.shelves shelfC [] hk'
                            have g0 : decide ((0 : Int) < ((k + 1 : Nat) : Int)) = true := by rw [decide_eq_true_eq]; omega
                            have hw2 : IntKind.i64.wrap (((k + 1 : Nat) : Int) - 1) = (k : Int) := by rw [wrap64 (by omega) (by omega)]; try omega
                            by_cases d1 : 0 ≤ p.shelves[k + 1].key ∧ p.shelves[k + 1].key ≤ 255
                            · have f1 : decide (0 ≤ p.shelves[k + 1].key ∧ p.shelves[k + 1].key ≤ 255) = true := by simpa using d1
                              have f1' : inB p.shelves[k + 1].key 0 255 = true := f1
                              by_cases d3 : p.shelves[k].key < p.shelves[k + 1].key
                              · have g3 : decide (p.shelves[k + 1].key ≤ p.shelves[k].key) = false := by simp; omega
                                cases d2 : itemsOk p.shelves[k + 1].items with
                                | true =>
                                  rw [d2] at hit
                                  have hn := key2 (by simp only [shelfAt]; rw [hx, hx', hi, f1', d2]; simpa using d3)
                                  clear key key2 hx hx' hi d1 d2 d3 f1'
                                  repeat' first | refine SW.step good fun K hK => ?_ | refine X2 good fun K hK => ?_ | refine X3 good fun K hK => ?_ | refine SW.seqK fun J hJ => ?_ | refine SW.last good fun K hK => ?_ | (refine hK _ ?_; clear hK K) | (refine hJ _ _ (Wk.refl _) ?_; clear hJ J) | clear hK K | clear hJ J | refine SW.skip ?_ | refine SW.ret ?_ | refine SW.retT ?_ | refine SW.retB ?_ | refine SW.exit ?_ | refine SW.exitT ?_ | refine SW.exitB ?_ | refine XN ?_ | refine SW.block ?_ | refine SW.normB ?_ | refine SW.normT ?_ | refine XT ?_ | refine XF ?_ | refine XC (fun h => ?_) (fun h => ?_) | refine X0 ?_ | refine Xv ?_ | refine X1 (ac_in' _ _ _) ?_ | refine X1 (hit) ?_ | simp only [go_sem, optI, Option.getD_some, Option.getD_none, Int.reduceToNat, reduceIte, Nat.reduceEqDiff, Nat.reduceAdd, Nat.reduceMul, Nat.reduceSub, Nat.reduceLT, Nat.reduceLeDiff, reduceCtorEq, *] | refine Xs _ (fun h => ?_) (fun h => ?_) | with_reducible refine And.intro ?_ ?_
                                  all_goals first | omega | skip
                                  all_goals refine ⟨k + 1 + 1, ⟨by omega, hn⟩, by omega, ?_⟩
                                  all_goals (refine Xto _ _ ?_ ?_ <;> simp only [go_sem, optI, Option.getD_some, Option.getD_none, Int.reduceToNat, reduceIte, Nat.reduceEqDiff, Nat.reduceAdd, Nat.reduceMul, Nat.reduceSub, Nat.reduceLT, Nat.reduceLeDiff, reduceCtorEq, Option.some.injEq, or_true, true_or] <;> (repeat' with_reducible apply And.intro) <;> (try rfl))
                                  all_goals first | rfl | (simp; done) | skip
                                | false =>
                                  rw [d2] at hit
                                  have hn := key (by simp only [shelfAt]; rw [hi, d2]; simp)
                                  clear key key2 hx hx' hi d1 d2 d3 f1'
                                  repeat' first | refine SW.step good fun K hK => ?_ | refine X2 good fun K hK => ?_ | refine X3 good fun K hK => ?_ | refine SW.seqK fun J hJ => ?_ | refine SW.last good fun K hK => ?_ | (refine hK _ ?_; clear hK K) | (refine hJ _ _ (Wk.refl _) ?_; clear hJ J) | clear hK K | clear hJ J | refine SW.skip ?_ | refine SW.ret ?_ | refine SW.retT ?_ | refine SW.retB ?_ | refine SW.exit ?_ | refine SW.exitT ?_ | refine SW.exitB ?_ | refine XN ?_ | refine SW.block ?_ | refine SW.normB ?_ | refine SW.normT ?_ | refine XT ?_ | refine XF ?_ | refine XC (fun h => ?_) (fun h => ?_) | refine X0 ?_ | refine Xv ?_ | refine X1 (ac_in' _ _ _) ?_ | refine X1 (hit) ?_ | simp only [go_sem, optI, Option.getD_some, Option.getD_none, Int.reduceToNat, reduceIte, Nat.reduceEqDiff, Nat.reduceAdd, Nat.reduceMul, Nat.reduceSub, Nat.reduceLT, Nat.reduceLeDiff, reduceCtorEq, *] | refine Xs _ (fun h => ?_) (fun h => ?_) | with_reducible refine And.intro ?_ ?_
                                  all_goals first | omega | skip
                                  all_goals refine Xrb ?_
                                  all_goals first | exact hn | rfl
                              · have g3 : decide (p.shelves[k + 1].key ≤ p.shelves[k].key) = true := by simp; omega
                                have hn := key (by simp only [shelfAt]; rw [hx, hx', show decide (p.shelves[k].key < p.shelves[k + 1].key) = false from by simpa using d3]; simp)
                                clear key key2 hx hx' hi d1 d3 f1'
                                repeat' first | refine SW.step good fun K hK => ?_ | refine X2 good fun K hK => ?_ | refine X3 good fun K hK => ?_ | refine SW.seqK fun J hJ => ?_ | refine SW.last good fun K hK => ?_ | (refine hK _ ?_; clear hK K) | (refine hJ _ _ (Wk.refl _) ?_; clear hJ J) | clear hK K | clear hJ J | refine SW.skip ?_ | refine SW.ret ?_ | refine SW.retT ?_ | refine SW.retB ?_ | refine SW.exit ?_ | refine SW.exitT ?_ | refine SW.exitB ?_ | refine XN ?_ | refine SW.block ?_ | refine SW.normB ?_ | refine SW.normT ?_ | refine XT ?_ | refine XF ?_ | refine XC (fun h => ?_) (fun h => ?_) | refine X0 ?_ | refine Xv ?_ | refine X1 (ac_in' _ _ _) ?_ | simp only [go_sem, optI, Option.getD_some, Option.getD_none, Int.reduceToNat, reduceIte, Nat.reduceEqDiff, Nat.reduceAdd, Nat.reduceMul, Nat.reduceSub, Nat.reduceLT, Nat.reduceLeDiff, reduceCtorEq, *] | refine Xs _ (fun h => ?_) (fun h => ?_) | with_reducible refine And.intro ?_ ?_
                                all_goals first | omega | skip
                                all_goals refine Xrb ?_
                                all_goals first | exact hn | rfl
                            · have f1 : decide (0 ≤ p.shelves[k + 1].key ∧ p.shelves[k + 1].key ≤ 255) = false := by simpa using d1
                              have f1' : inB p.shelves[k + 1].key 0 255 = false := f1
                              have hn := key (by simp only [shelfAt]; rw [hx, f1']; rfl)
                              clear key key2 hx hx' hi d1 f1'
                              repeat' first | refine SW.step good fun K hK => ?_ | refine X2 good fun K hK => ?_ | refine X3 good fun K hK => ?_ | refine SW.seqK fun J hJ => ?_ | refine SW.last good fun K hK => ?_ | (refine hK _ ?_; clear hK K) | (refine hJ _ _ (Wk.refl _) ?_; clear hJ J) | clear hK K | clear hJ J | refine SW.skip ?_ | refine SW.ret ?_ | refine SW.retT ?_ | refine SW.retB ?_ | refine SW.exit ?_ | refine SW.exitT ?_ | refine SW.exitB ?_ | refine XN ?_ | refine SW.block ?_ | refine SW.normB ?_ | refine SW.normT ?_ | refine XT ?_ | refine XF ?_ | refine XC (fun h => ?_) (fun h => ?_) | refine X0 ?_ | refine Xv ?_ | refine X1 (ac_in' _ _ _) ?_ | simp only [go_sem, optI, Option.getD_some, Option.getD_none, Int.reduceToNat, reduceIte, Nat.reduceEqDiff, Nat.reduceAdd, Nat.reduceMul, Nat.reduceSub, Nat.reduceLT, Nat.reduceLeDiff, reduceCtorEq, *] | refine Xs _ (fun h => ?_) (fun h => ?_) | with_reducible refine And.intro ?_ ?_
                              all_goals first | omega | skip
                              all_goals refine Xrb ?_
                              all_goals first | exact hn | rfl
                        · have hk : k = p.shelves.length := by omega
                          subst hk
                          have e1 : decide ((p.shelves.length : Int) < p.shelves.length) = false := by simp
                          have hn := kt3 (by unfold shelvesOk; rw [allN_iff.2 h3, Bool.and_true]; simpa using c3)
                          clear kt3 ks h3 c3
                          repeat' first | refine SW.step good fun K hK => ?_ | refine X2 good fun K hK => ?_ | refine X3 good fun K hK => ?_ | refine SW.seqK fun J hJ => ?_ | refine SW.last good fun K hK => ?_ | (refine hK _ ?_; clear hK K) | (refine hJ _ _ (Wk.refl _) ?_; clear hJ J) | clear hK K | clear hJ J | refine SW.skip ?_ | refine SW.ret ?_ | refine SW.retT ?_ | refine SW.retB ?_ | refine SW.exit ?_ | refine SW.exitT ?_ | refine SW.exitB ?_ | refine XN ?_ | refine SW.block ?_ | refine SW.normB ?_ | refine SW.normT ?_ | refine XT ?_ | refine XF ?_ | refine XC (fun h => ?_) (fun h => ?_) | simp only [go_sem, optI, Option.getD_some, Option.getD_none, Int.reduceToNat, reduceIte, Nat.reduceEqDiff, Nat.reduceAdd, Nat.reduceMul, Nat.reduceSub, Nat.reduceLT, Nat.reduceLeDiff, reduceCtorEq, *] | refine Xs _ (fun h => ?_) (fun h => ?_) | with_reducible refine And.intro ?_ ?_
                          all_goals refine Xrb ?_
                          all_goals first | exact hn | rfl
            · have g4 : decide ((80 : Int) < (p.shelves.length : Int)) = true := by simp; omega
              have hn : peerOk p = false := by rw [hpk]; unfold shelvesOk; rw [show decide (p.shelves.length ≤ 80) = false from by simpa using c3]; simp
              clear hpk c1 c2 ha hah
              refine XA good (fn := Try.f112) rfl ?_
              simp only [entry, List.getD_cons_zero, List.getD_cons_succ]
              repeat' first | refine SW.step good fun K hK => ?_ | refine X2 good fun K hK => ?_ | refine X3 good fun K hK => ?_ | refine SW.seqK fun J hJ => ?_ | refine SW.last good fun K hK => ?_ | (refine hK _ ?_; clear hK K) | (refine hJ _ _ (Wk.refl _) ?_; clear hJ J) | clear hK K | clear hJ J | refine SW.skip ?_ | refine SW.ret ?_ | refine SW.retT ?_ | refine SW.retB ?_ | refine SW.exit ?_ | refine SW.exitT ?_ | refine SW.exitB ?_ | refine XN ?_ | refine SW.block ?_ | refine SW.normB ?_ | refine SW.normT ?_ | refine XT ?_ | refine XF ?_ | refine XC (fun h => ?_) (fun h => ?_) | refine X0 ?_ | refine Xv ?_ | refine X1 (ac_in' _ _ _) ?_ | simp only [go_sem, optI, Option.getD_some, Option.getD_none, Int.reduceToNat, reduceIte, Nat.reduceEqDiff, Nat.reduceAdd, Nat.reduceMul, Nat.reduceSub, Nat.reduceLT, Nat.reduceLeDiff, reduceCtorEq, *] | refine Xs _ (fun h => ?_) (fun h => ?_) | with_reducible refine And.intro ?_ ?_
              all_goals refine Xrb ?_
              all_goals first | exact hn | rfl
          · have g3 : decide ((p.fingers.length : Int) = 8) = false := by simp; omega
            have hn : peerOk p = false := by rw [hpk, show decide (p.fingers.length = 8) = false from by simpa using c2]; simp
            clear hpk c1 c2 ha hah
            refine XA good (fn := Try.f112) rfl ?_
            simp only [entry, List.getD_cons_zero, List.getD_cons_succ]
            repeat' first | refine SW.step good fun K hK => ?_ | refine X2 good fun K hK => ?_ | refine X3 good fun K hK => ?_ | refine SW.seqK fun J hJ => ?_ | refine SW.last good fun K hK => ?_ | (refine hK _ ?_; clear hK K) | (refine hJ _ _ (Wk.refl _) ?_; clear hJ J) | clear hK K | clear hJ J | refine SW.skip ?_ | refine SW.ret ?_ | refine SW.retT ?_ | refine SW.retB ?_ | refine SW.exit ?_ | refine SW.exitT ?_ | refine SW.exitB ?_ | refine XN ?_ | refine SW.block ?_ | refine SW.normB ?_ | refine SW.normT ?_ | refine XT ?_ | refine XF ?_ | refine XC (fun h => ?_) (fun h => ?_) | refine X0 ?_ | refine Xv ?_ | refine X1 (ac_in' _ _ _) ?_ | simp only [go_sem, optI, Option.getD_some, Option.getD_none, Int.reduceToNat, reduceIte, Nat.reduceEqDiff, Nat.reduceAdd, Nat.reduceMul, Nat.reduceSub, Nat.reduceLT, Nat.reduceLeDiff, reduceCtorEq, *] | refine Xs _ (fun h => ?_) (fun h => ?_) | with_reducible refine And.intro ?_ ?_
            all_goals refine Xrb ?_
            all_goals first | exact hn | rfl
        · have g2 : decide ((3 : Int) < (p.behind.length : Int)) = true := by simp; omega
          have hn : peerOk p = false := by rw [hpk, show decide (p.behind.length ≤ 3) = false from by simpa using c1]; simp
          clear hpk c1 ha hah
          refine XA good (fn := Try.f112) rfl ?_
          simp only [entry, List.getD_cons_zero, List.getD_cons_succ]
          repeat' first | refine SW.step good fun K hK => ?_ | refine X2 good fun K hK => ?_ | refine X3 good fun K hK => ?_ | refine SW.seqK fun J hJ => ?_ | refine SW.last good fun K hK => ?_ | (refine hK _ ?_; clear hK K) | (refine hJ _ _ (Wk.refl _) ?_; clear hJ J) | clear hK K | clear hJ J | refine SW.skip ?_ | refine SW.ret ?_ | refine SW.retT ?_ | refine SW.retB ?_ | refine SW.exit ?_ | refine SW.exitT ?_ | refine SW.exitB ?_ | refine XN ?_ | refine SW.block ?_ | refine SW.normB ?_ | refine SW.normT ?_ | refine XT ?_ | refine XF ?_ | refine XC (fun h => ?_) (fun h => ?_) | refine X0 ?_ | refine Xv ?_ | refine X1 (ac_in' _ _ _) ?_ | simp only [go_sem, optI, Option.getD_some, Option.getD_none, Int.reduceToNat, reduceIte, Nat.reduceEqDiff, Nat.reduceAdd, Nat.reduceMul, Nat.reduceSub, Nat.reduceLT, Nat.reduceLeDiff, reduceCtorEq, *] | refine Xs _ (fun h => ?_) (fun h => ?_) | with_reducible refine And.intro ?_ ?_
          all_goals refine Xrb ?_
          all_goals first | exact hn | rfl
      · have g1 : decide (-1 ≤ p.ahead ∧ p.ahead ≤ 255) = false := by simpa using hah
        have hn : peerOk p = false := by rw [hpk, show inB p.ahead (-1) 255 = false from g1]; simp
        clear hpk ha hah
        refine XA good (fn := Try.f112) rfl ?_
        simp only [entry, List.getD_cons_zero, List.getD_cons_succ]
        repeat' first | refine SW.step good fun K hK => ?_ | refine X2 good fun K hK => ?_ | refine X3 good fun K hK => ?_ | refine SW.seqK fun J hJ => ?_ | refine SW.last good fun K hK => ?_ | (refine hK _ ?_; clear hK K) | (refine hJ _ _ (Wk.refl _) ?_; clear hJ J) | clear hK K | clear hJ J | refine SW.skip ?_ | refine SW.ret ?_ | refine SW.retT ?_ | refine SW.retB ?_ | refine SW.exit ?_ | refine SW.exitT ?_ | refine SW.exitB ?_ | refine XN ?_ | refine SW.block ?_ | refine SW.normB ?_ | refine SW.normT ?_ | refine XT ?_ | refine XF ?_ | refine XC (fun h => ?_) (fun h => ?_) | refine X0 ?_ | refine Xv ?_ | refine X1 (ac_in' _ _ _) ?_ | simp only [go_sem, optI, Option.getD_some, Option.getD_none, Int.reduceToNat, reduceIte, Nat.reduceEqDiff, Nat.reduceAdd, Nat.reduceMul, Nat.reduceSub, Nat.reduceLT, Nat.reduceLeDiff, reduceCtorEq, *] | refine Xs _ (fun h => ?_) (fun h => ?_) | with_reducible refine And.intro ?_ ?_
        all_goals refine Xrb ?_
        all_goals first | exact hn | rfl
  · have g0 : decide (0 ≤ p.id ∧ p.id ≤ 255) = false := by simpa using ha
    have hn : peerOk p = false := by rw [hpk, show inB p.id 0 255 = false from g0]; simp
    clear hpk ha
    refine XA good (fn := Try.f112) rfl ?_
    simp only [entry, List.getD_cons_zero, List.getD_cons_succ]
    repeat' first | refine SW.step good fun K hK => ?_ | refine X2 good fun K hK => ?_ | refine X3 good fun K hK => ?_ | refine SW.seqK fun J hJ => ?_ | refine SW.last good fun K hK => ?_ | (refine hK _ ?_; clear hK K) | (refine hJ _ _ (Wk.refl _) ?_; clear hJ J) | clear hK K | clear hJ J | refine SW.skip ?_ | refine SW.ret ?_ | refine SW.retT ?_ | refine SW.retB ?_ | refine SW.exit ?_ | refine SW.exitT ?_ | refine SW.exitB ?_ | refine XN ?_ | refine SW.block ?_ | refine SW.normB ?_ | refine SW.normT ?_ | refine XT ?_ | refine XF ?_ | refine XC (fun h => ?_) (fun h => ?_) | refine X0 ?_ | refine Xv ?_ | refine X1 (ac_in' _ _ _) ?_ | simp only [go_sem, optI, Option.getD_some, Option.getD_none, Int.reduceToNat, reduceIte, Nat.reduceEqDiff, Nat.reduceAdd, Nat.reduceMul, Nat.reduceSub, Nat.reduceLT, Nat.reduceLeDiff, reduceCtorEq, *] | refine Xs _ (fun h => ?_) (fun h => ?_) | with_reducible refine And.intro ?_ ?_
    all_goals refine Xrb ?_
    all_goals first | exact hn | rfl
end Go.Proofs.Ytbpfciidbgkekaa.AB
