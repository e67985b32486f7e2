/- Rings that are right: the reference's function. -/
import Derived.Test.YtbpfciidbgkekaaAbGnRing
namespace Go.Proofs.Ytbpfciidbgkekaa.AB
open Go
set_option maxRecDepth 100000
set_option linter.unusedSimpArgs false
set_option linter.unusedVariables false
set_option maxHeartbeats 4000000 in
theorem ac_RingOk' (L : List Peer) (hL : L.length ≤ 1048576) (hL2 : ∀ p, p ∈ L → p.small) : AC Try.prog 125 [encRing true L] (vB (ringOk L)) [] := by
  by_cases h0 : 4 ≤ (L.length : Int) ∧ (L.length : Int) ≤ 8
  · have g0 : decide (4 ≤ (L.length : Int) ∧ (L.length : Int) ≤ 8) = true := by simpa using h0
    have hrk : ringOk L = allN L.length (okAt L) := by unfold ringOk; rw [g0]; rfl
    clear h0
    refine XA good (fn := Try.f125) rfl ?_
    simp only [entry, List.getD_cons_zero, List.getD_cons_succ]
    repeat' first | refine SW.step good fun K hK => ?_ | refine X2 good fun K hK => ?_ | refine X3 good fun K hK => ?_ | refine SW.seqK fun J hJ => ?_ | refine SW.last good fun K hK => ?_ | (refine hK _ ?_; clear hK K) | (refine hJ _ _ (Wk.refl _) ?_; clear hJ J) | clear hK K | clear hJ J | refine SW.skip ?_ | refine SW.ret ?_ | refine SW.retT ?_ | refine SW.retB ?_ | refine SW.exit ?_ | refine SW.exitT ?_ | refine SW.exitB ?_ | refine XN ?_ | refine SW.block ?_ | refine SW.normB ?_ | refine SW.normT ?_ | refine XT ?_ | refine XF ?_ | refine XC (fun h => ?_) (fun h => ?_) | refine X0 ?_ | refine Xv ?_ | refine X1 (ac_in' _ _ _) ?_ | simp only [go_sem, optI, Option.getD_some, Option.getD_none, Int.reduceToNat, reduceIte, Nat.reduceEqDiff, Nat.reduceAdd, Nat.reduceMul, Nat.reduceSub, Nat.reduceLT, Nat.reduceLeDiff, reduceCtorEq, *] | refine Xs _ (fun h => ?_) (fun h => ?_) | with_reducible refine And.intro ?_ ?_
    refine SW.loopTo (α := Nat) (fun k => ⟨sl [(1, .ptr (.s 1 0) 0), (3, vI k)], hl [(.s 1 0, .box [.c true (.sl (L.map peerC))])]⟩) (fun k => L.length - k) 0 (fun k => k ≤ L.length ∧ ∀ j, j < k → okAt L j = true) ?_ ⟨by simp, by simp⟩ ?_
    · (refine Xto _ _ ?_ ?_ <;> simp only [go_sem, optI, Option.getD_some, Option.getD_none, Int.reduceToNat, reduceIte, Nat.reduceEqDiff, Nat.reduceAdd, Nat.reduceMul, Nat.reduceSub, Nat.reduceLT, Nat.reduceLeDiff, reduceCtorEq, Option.some.injEq, or_true, true_or] <;> (repeat' with_reducible apply And.intro) <;> (try rfl))
    · rintro k ⟨h2, h3⟩
      clear g0
      by_cases hk : k < L.length
      · have e := getD_map L peerC [] hk
        have e1 : decide ((k : Int) < L.length) = true := by simp; omega
        have hw : IntKind.i64.wrap ((k : Int) + 1) = ((k + 1 : Nat) : Int) := wrap64 (by omega) (by omega)
        have key : okAt L k = false → allN L.length (okAt L) = false := fun q => allN_no hk q
        clear hrk
        have key2 : okAt L k = true → ∀ j, j < k + 1 → okAt L j = true := fun q j hj => by
          by_cases hjk : j < k
          · exact h3 j hjk
          · rw [show j = k by omega]; exact q
        have hat := okAtS_at hk
        have c1 := ac_PeerOk' L[k] (hL2 _ (List.getElem_mem hk))
        have c2 := ac_NextOf L L[k].id hL hL2
        generalize nextOf L L[k].id = nx at *
        generalize peerOk L[k] = ok at *
        clear h3
        cases ok with
        | false =>
          simp only [Bool.not_true, Bool.not_false, Bool.and_true, Bool.and_false, Bool.true_and, Bool.false_and, Bool.or_true, Bool.or_false, Bool.true_or, Bool.false_or, Bool.and_self, Bool.or_self] at hat
          have hn := key hat
          clear key key2 hat
          repeat' first | refine SW.step good fun K hK => ?_ | refine X2 good fun K hK => ?_ | refine X3 good fun K hK => ?_ | refine SW.seqK fun J hJ => ?_ | refine SW.last good fun K hK => ?_ | (refine hK _ ?_; clear hK K) | (refine hJ _ _ (Wk.refl _) ?_; clear hJ J) | clear hK K | clear hJ J | refine SW.skip ?_ | refine SW.ret ?_ | refine SW.retT ?_ | refine SW.retB ?_ | refine SW.exit ?_ | refine SW.exitT ?_ | refine SW.exitB ?_ | refine XN ?_ | refine SW.block ?_ | refine SW.normB ?_ | refine SW.normT ?_ | refine XT ?_ | refine XF ?_ | refine XC (fun h => ?_) (fun h => ?_) | refine X0 ?_ | refine Xv ?_ | refine X1 (c1) ?_ | refine X1 (c2) ?_ | simp only [go_sem, optI, Option.getD_some, Option.getD_none, Int.reduceToNat, reduceIte, Nat.reduceEqDiff, Nat.reduceAdd, Nat.reduceMul, Nat.reduceSub, Nat.reduceLT, Nat.reduceLeDiff, reduceCtorEq, *] | refine Xs _ (fun h => ?_) (fun h => ?_) | with_reducible refine And.intro ?_ ?_
          all_goals first | omega | (refine Xrb ?_; first | exact hn | rfl) | skip
        | true =>
          cases hh : L[k].here with
          | true =>
            rw [hh] at hat
            simp only [encPeer, hh] at c1
            cases hkn : decide (nx < 0) with
            | true =>
              rw [hkn] at hat
              simp only [Bool.not_true, Bool.not_false, Bool.and_true, Bool.and_false, Bool.true_and, Bool.false_and, Bool.or_true, Bool.or_false, Bool.true_or, Bool.false_or, Bool.and_self, Bool.or_self] at hat
              have hn := key hat
              clear key key2 hat
              repeat' first | refine SW.step good fun K hK => ?_ | refine X2 good fun K hK => ?_ | refine X3 good fun K hK => ?_ | refine SW.seqK fun J hJ => ?_ | refine SW.last good fun K hK => ?_ | (refine hK _ ?_; clear hK K) | (refine hJ _ _ (Wk.refl _) ?_; clear hJ J) | clear hK K | clear hJ J | refine SW.skip ?_ | refine SW.ret ?_ | refine SW.retT ?_ | refine SW.retB ?_ | refine SW.exit ?_ | refine SW.exitT ?_ | refine SW.exitB ?_ | refine XN ?_ | refine SW.block ?_ | refine SW.normB ?_ | refine SW.normT ?_ | refine XT ?_ | refine XF ?_ | refine XC (fun h => ?_) (fun h => ?_) | refine X0 ?_ | refine Xv ?_ | refine X1 (c1) ?_ | refine X1 (c2) ?_ | simp only [go_sem, optI, Option.getD_some, Option.getD_none, Int.reduceToNat, reduceIte, Nat.reduceEqDiff, Nat.reduceAdd, Nat.reduceMul, Nat.reduceSub, Nat.reduceLT, Nat.reduceLeDiff, reduceCtorEq, *] | refine Xs _ (fun h => ?_) (fun h => ?_) | with_reducible refine And.intro ?_ ?_
              all_goals first | omega | (refine Xrb ?_; first | exact hn | rfl) | skip
            | false =>
              rw [hkn] at hat
              simp only [Bool.not_true, Bool.not_false, Bool.and_true, Bool.and_false, Bool.true_and, Bool.false_and, Bool.or_true, Bool.or_false, Bool.true_or, Bool.false_or, Bool.and_self, Bool.or_self] at hat
              cases hki : decide ((k : Int) < 4)
              all_goals (
                repeat' first | refine SW.step good fun K hK => ?_ | refine X2 good fun K hK => ?_ | refine X3 good fun K hK => ?_ | refine SW.seqK fun J hJ => ?_ | refine SW.last good fun K hK => ?_ | (refine hK _ ?_; clear hK K) | (refine hJ _ _ (Wk.refl _) ?_; clear hJ J) | clear hK K | clear hJ J | refine SW.skip ?_ | refine SW.ret ?_ | refine SW.retT ?_ | refine SW.retB ?_ | refine SW.exit ?_ | refine SW.exitT ?_ | refine SW.exitB ?_ | refine XN ?_ | refine SW.block ?_ | refine SW.normB ?_ | refine SW.normT ?_ | refine XT ?_ | refine XF ?_ | refine XC (fun h => ?_) (fun h => ?_) | refine X0 ?_ | refine Xv ?_ | refine X1 (c1) ?_ | refine X1 (c2) ?_ | simp only [go_sem, optI, Option.getD_some, Option.getD_none, Int.reduceToNat, reduceIte, Nat.reduceEqDiff, Nat.reduceAdd, Nat.reduceMul, Nat.reduceSub, Nat.reduceLT, Nat.reduceLeDiff, reduceCtorEq, *] | refine Xs _ (fun h => ?_) (fun h => ?_) | with_reducible refine And.intro ?_ ?_
                all_goals first | omega | skip
                refine SW.loopTo (α := Nat) (fun j => ⟨sl [(1, .ptr (.s 1 0) 0), (3, vI k), (4, .ptr (.s 4 0) 0), (5, vI j)], hl [(.s 1 0, .box [.c true (.sl (L.map peerC))]), (.s 4 0, .box [vI L[k].id, vB true, vI L[k].ahead, .c true (.sl (L[k].behind.map intC)), .c true (.sl (L[k].fingers.map intC)), .c true (.sl (L[k].shelves.map shelfC))])]⟩) (fun j => k - j) 0 (fun j => j ≤ k ∧ ∀ i, ∀ hi : i < L.length, i < j → decide (L[i].id = L[k].id) = false) ?_ ⟨by simp, by simp⟩ ?_
                · (refine Xto _ _ ?_ ?_ <;> simp only [go_sem, optI, Option.getD_some, Option.getD_none, Int.reduceToNat, reduceIte, Nat.reduceEqDiff, Nat.reduceAdd, Nat.reduceMul, Nat.reduceSub, Nat.reduceLT, Nat.reduceLeDiff, reduceCtorEq, Option.some.injEq, or_true, true_or] <;> (repeat' with_reducible apply And.intro) <;> (try rfl))
                  all_goals first | rfl | (rw [hh]; done) | (simp [hh]; done) | skip
                · rintro j ⟨j2, j3⟩
                  by_cases hj : j < k
                  · have hjl : j < L.length := by omega
                    have ej := getD_map L peerC [] hjl
                    have ej1 : decide ((j : Int) < (k : Int)) = true := by simp; omega
                    have hwj : IntKind.i64.wrap ((j : Int) + 1) = ((j + 1 : Nat) : Int) := wrap64 (by omega) (by omega)
                    by_cases hid : L[j].id = L[k].id
                    · have gid : decide (L[j].id = L[k].id) = true := by simpa using hid
                      have hn := key (by rw [hat, show ((L.take k).any fun q => decide (q.id = L[k].id)) = true from List.any_eq_true.2 ⟨L[j], List.mem_take_iff_getElem.2 ⟨j, by omega, rfl⟩, gid⟩]; rfl)
                      clear key key2 hat j3 hid c1 c2
                      repeat' first | refine SW.step good fun K hK => ?_ | refine X2 good fun K hK => ?_ | refine X3 good fun K hK => ?_ | refine SW.seqK fun J hJ => ?_ | refine SW.last good fun K hK => ?_ | (refine hK _ ?_; clear hK K) | (refine hJ _ _ (Wk.refl _) ?_; clear hJ J) | clear hK K | clear hJ J | refine SW.skip ?_ | refine SW.ret ?_ | refine SW.retT ?_ | refine SW.retB ?_ | refine SW.exit ?_ | refine SW.exitT ?_ | refine SW.exitB ?_ | refine XN ?_ | refine SW.block ?_ | refine SW.normB ?_ | refine SW.normT ?_ | refine XT ?_ | refine XF ?_ | refine XC (fun h => ?_) (fun h => ?_) | simp only [go_sem, optI, Option.getD_some, Option.getD_none, Int.reduceToNat, reduceIte, Nat.reduceEqDiff, Nat.reduceAdd, Nat.reduceMul, Nat.reduceSub, Nat.reduceLT, Nat.reduceLeDiff, reduceCtorEq, *] | refine Xs _ (fun h => ?_) (fun h => ?_) | with_reducible refine And.intro ?_ ?_
                      all_goals first | omega | skip
                      all_goals refine Xrb ?_
                      all_goals first | exact hn | rfl
                    · have gid : decide (L[j].id = L[k].id) = false := by simpa using hid
                      have hn : ∀ i, ∀ hi : i < L.length, i < j + 1 → decide (L[i].id = L[k].id) = false := fun i hi hij => by
                        by_cases q : i < j
                        · exact j3 i hi q
                        · have : i = j := by omega
                          subst this; exact gid
                      clear key key2 hat j3 hid c1 c2
                      repeat' first | refine SW.step good fun K hK => ?_ | refine X2 good fun K hK => ?_ | refine X3 good fun K hK => ?_ | refine SW.seqK fun J hJ => ?_ | refine SW.last good fun K hK => ?_ | (refine hK _ ?_; clear hK K) | (refine hJ _ _ (Wk.refl _) ?_; clear hJ J) | clear hK K | clear hJ J | refine SW.skip ?_ | refine SW.ret ?_ | refine SW.retT ?_ | refine SW.retB ?_ | refine SW.exit ?_ | refine SW.exitT ?_ | refine SW.exitB ?_ | refine XN ?_ | refine SW.block ?_ | refine SW.normB ?_ | refine SW.normT ?_ | refine XT ?_ | refine XF ?_ | refine XC (fun h => ?_) (fun h => ?_) | simp only [go_sem, optI, Option.getD_some, Option.getD_none, Int.reduceToNat, reduceIte, Nat.reduceEqDiff, Nat.reduceAdd, Nat.reduceMul, Nat.reduceSub, Nat.reduceLT, Nat.reduceLeDiff, reduceCtorEq, *] | refine Xs _ (fun h => ?_) (fun h => ?_) | with_reducible refine And.intro ?_ ?_
                      all_goals first | omega | skip
                      all_goals refine ⟨j + 1, ⟨by omega, hn⟩, by omega, ?_⟩
                      all_goals (refine Xto _ _ ?_ ?_ <;> simp only [go_sem, optI, Option.getD_some, Option.getD_none, Int.reduceToNat, reduceIte, Nat.reduceEqDiff, Nat.reduceAdd, Nat.reduceMul, Nat.reduceSub, Nat.reduceLT, Nat.reduceLeDiff, reduceCtorEq, Option.some.injEq, or_true, true_or] <;> (repeat' with_reducible apply And.intro) <;> (try rfl))
                  · have hj : j = k := by omega
                    subst hj
                    have ej1 : decide ((j : Int) < (j : Int)) = false := by simp
                    have hn := key2 (by
                      rw [hat, show ((L.take j).any fun q => decide (q.id = L[j].id)) = false from ?_]
                      · rfl
                      · rw [List.any_eq_false]
                        intro x hx
                        obtain ⟨i, hi, rfl⟩ := List.mem_take_iff_getElem.1 hx
                        have := j3 i (by omega) (by omega)
                        simpa using this)
                    clear key key2 hat j3 c1 c2
                    repeat' first | refine SW.step good fun K hK => ?_ | refine X2 good fun K hK => ?_ | refine X3 good fun K hK => ?_ | refine SW.seqK fun J hJ => ?_ | refine SW.last good fun K hK => ?_ | (refine hK _ ?_; clear hK K) | (refine hJ _ _ (Wk.refl _) ?_; clear hJ J) | clear hK K | clear hJ J | refine SW.skip ?_ | refine SW.ret ?_ | refine SW.retT ?_ | refine SW.retB ?_ | refine SW.exit ?_ | refine SW.exitT ?_ | refine SW.exitB ?_ | refine XN ?_ | refine SW.block ?_ | refine SW.normB ?_ | refine SW.normT ?_ | refine XT ?_ | refine XF ?_ | refine XC (fun h => ?_) (fun h => ?_) | simp only [go_sem, optI, Option.getD_some, Option.getD_none, Int.reduceToNat, reduceIte, Nat.reduceEqDiff, Nat.reduceAdd, Nat.reduceMul, Nat.reduceSub, Nat.reduceLT, Nat.reduceLeDiff, reduceCtorEq, *] | refine Xs _ (fun h => ?_) (fun h => ?_) | with_reducible refine And.intro ?_ ?_
                    all_goals first | omega | skip
                    all_goals refine ⟨j + 1, ⟨by omega, hn⟩, by omega, ?_⟩
                    all_goals (refine Xto _ _ ?_ ?_ <;> simp only [go_sem, optI, Option.getD_some, Option.getD_none, Int.reduceToNat, reduceIte, Nat.reduceEqDiff, Nat.reduceAdd, Nat.reduceMul, Nat.reduceSub, Nat.reduceLT, Nat.reduceLeDiff, reduceCtorEq, Option.some.injEq, or_true, true_or] <;> (repeat' with_reducible apply And.intro) <;> (try rfl)))
          | false =>
            rw [hh] at hat
            simp only [encPeer, hh] at c1
            cases hki : decide ((k : Int) < 4) with
            | true =>
              rw [hki] at hat
              simp only [Bool.not_true, Bool.not_false, Bool.and_true, Bool.and_false, Bool.true_and, Bool.false_and, Bool.or_true, Bool.or_false, Bool.true_or, Bool.false_or, Bool.and_self, Bool.or_self] at hat
              have hn := key hat
              clear key key2 hat
              repeat' first | refine SW.step good fun K hK => ?_ | refine X2 good fun K hK => ?_ | refine X3 good fun K hK => ?_ | refine SW.seqK fun J hJ => ?_ | refine SW.last good fun K hK => ?_ | (refine hK _ ?_; clear hK K) | (refine hJ _ _ (Wk.refl _) ?_; clear hJ J) | clear hK K | clear hJ J | refine SW.skip ?_ | refine SW.ret ?_ | refine SW.retT ?_ | refine SW.retB ?_ | refine SW.exit ?_ | refine SW.exitT ?_ | refine SW.exitB ?_ | refine XN ?_ | refine SW.block ?_ | refine SW.normB ?_ | refine SW.normT ?_ | refine XT ?_ | refine XF ?_ | refine XC (fun h => ?_) (fun h => ?_) | refine X0 ?_ | refine Xv ?_ | refine X1 (c1) ?_ | refine X1 (c2) ?_ | simp only [go_sem, optI, Option.getD_some, Option.getD_none, Int.reduceToNat, reduceIte, Nat.reduceEqDiff, Nat.reduceAdd, Nat.reduceMul, Nat.reduceSub, Nat.reduceLT, Nat.reduceLeDiff, reduceCtorEq, *] | refine Xs _ (fun h => ?_) (fun h => ?_) | with_reducible refine And.intro ?_ ?_
              all_goals first | omega | (refine Xrb ?_; first | exact hn | rfl) | skip
            | false =>
              rw [hki] at hat
              simp only [Bool.not_true, Bool.not_false, Bool.and_true, Bool.and_false, Bool.true_and, Bool.false_and, Bool.or_true, Bool.or_false, Bool.true_or, Bool.false_or, Bool.and_self, Bool.or_self] at hat
              repeat' first | refine SW.step good fun K hK => ?_ | refine X2 good fun K hK => ?_ | refine X3 good fun K hK => ?_ | refine SW.seqK fun J hJ => ?_ | refine SW.last good fun K hK => ?_ | (refine hK _ ?_; clear hK K) | (refine hJ _ _ (Wk.refl _) ?_; clear hJ J) | clear hK K | clear hJ J | refine SW.skip ?_ | refine SW.ret ?_ | refine SW.retT ?_ | refine SW.retB ?_ | refine SW.exit ?_ | refine SW.exitT ?_ | refine SW.exitB ?_ | refine XN ?_ | refine SW.block ?_ | refine SW.normB ?_ | refine SW.normT ?_ | refine XT ?_ | refine XF ?_ | refine XC (fun h => ?_) (fun h => ?_) | refine X0 ?_ | refine Xv ?_ | refine X1 (c1) ?_ | refine X1 (c2) ?_ | simp only [go_sem, optI, Option.getD_some, Option.getD_none, Int.reduceToNat, reduceIte, Nat.reduceEqDiff, Nat.reduceAdd, Nat.reduceMul, Nat.reduceSub, Nat.reduceLT, Nat.reduceLeDiff, reduceCtorEq, *] | refine Xs _ (fun h => ?_) (fun h => ?_) | with_reducible refine And.intro ?_ ?_
              all_goals first | omega | skip
              refine SW.loopTo (α := Nat) (fun j => ⟨sl [(1, .ptr (.s 1 0) 0), (3, vI k), (4, .ptr (.s 4 0) 0), (5, vI j)], hl [(.s 1 0, .box [.c true (.sl (L.map peerC))]), (.s 4 0, .box [vI L[k].id, vB false, vI L[k].ahead, .c true (.sl (L[k].behind.map intC)), .c true (.sl (L[k].fingers.map intC)), .c true (.sl (L[k].shelves.map shelfC))])]⟩) (fun j => k - j) 0 (fun j => j ≤ k ∧ ∀ i, ∀ hi : i < L.length, i < j → decide (L[i].id = L[k].id) = false) ?_ ⟨by simp, by simp⟩ ?_
              · (refine Xto _ _ ?_ ?_ <;> simp only [go_sem, optI, Option.getD_some, Option.getD_none, Int.reduceToNat, reduceIte, Nat.reduceEqDiff, Nat.reduceAdd, Nat.reduceMul, Nat.reduceSub, Nat.reduceLT, Nat.reduceLeDiff, reduceCtorEq, Option.some.injEq, or_true, true_or] <;> (repeat' with_reducible apply And.intro) <;> (try rfl))
                all_goals first | rfl | (rw [hh]; done) | (simp [hh]; done) | skip
              · rintro j ⟨j2, j3⟩
                by_cases hj : j < k
                · have hjl : j < L.length := by omega
                  have ej := getD_map L peerC [] hjl
                  have ej1 : decide ((j : Int) < (k : Int)) = true := by simp; omega
                  have hwj : IntKind.i64.wrap ((j : Int) + 1) = ((j + 1 : Nat) : Int) := wrap64 (by omega) (by omega)
                  by_cases hid : L[j].id = L[k].id
                  · have gid : decide (L[j].id = L[k].id) = true := by simpa using hid
                    have hn := key (by rw [hat, show ((L.take k).any fun q => decide (q.id = L[k].id)) = true from List.any_eq_true.2 ⟨L[j], List.mem_take_iff_getElem.2 ⟨j, by omega, rfl⟩, gid⟩]; rfl)
                    clear key key2 hat j3 hid c1 c2
                    repeat' first | refine SW.step good fun K hK => ?_ | refine X2 good fun K hK => ?_ | refine X3 good fun K hK => ?_ | refine SW.seqK fun J hJ => ?_ | refine SW.last good fun K hK => ?_ | (refine hK _ ?_; clear hK K) | (refine hJ _ _ (Wk.refl _) ?_; clear hJ J) | clear hK K | clear hJ J | refine SW.skip ?_ | refine SW.ret ?_ | refine SW.retT ?_ | refine SW.retB ?_ | refine SW.exit ?_ | refine SW.exitT ?_ | refine SW.exitB ?_ | refine XN ?_ | refine SW.block ?_ | refine SW.normB ?_ | refine SW.normT ?_ | refine XT ?_ | refine XF ?_ | refine XC (fun h => ?_) (fun h => ?_) | simp only [go_sem, optI, Option.getD_some, Option.getD_none, Int.reduceToNat, reduceIte, Nat.reduceEqDiff, Nat.reduceAdd, Nat.reduceMul, Nat.reduceSub, Nat.reduceLT, Nat.reduceLeDiff, reduceCtorEq, *] | refine Xs _ (fun h => ?_) (fun h => ?_) | with_reducible refine And.intro ?_ ?_
                    all_goals first | omega | skip
                    all_goals refine Xrb ?_
                    all_goals first | exact hn | rfl
                  · have gid : decide (L[j].id = L[k].id) = false := by simpa using hid
                    have hn : ∀ i, ∀ hi : i < L.length, i < j + 1 → decide (L[i].id = L[k].id) = false := fun i hi hij => by
                      by_cases q : i < j
                      · exact j3 i hi q
                      · have : i = j := by omega
                        subst this; exact gid
                    clear key key2 hat j3 hid c1 c2
                    repeat' first | refine SW.step good fun K hK => ?_ | refine X2 good fun K hK => ?_ | refine X3 good fun K hK => ?_ | refine SW.seqK fun J hJ => ?_ | refine SW.last good fun K hK => ?_ | (refine hK _ ?_; clear hK K) | (refine hJ _ _ (Wk.refl _) ?_; clear hJ J) | clear hK K | clear hJ J | refine SW.skip ?_ | refine SW.ret ?_ | refine SW.retT ?_ | refine SW.retB ?_ | refine SW.exit ?_ | refine SW.exitT ?_ | refine SW.exitB ?_ | refine XN ?_ | refine SW.block ?_ | refine SW.normB ?_ | refine SW.normT ?_ | refine XT ?_ | refine XF ?_ | refine XC (fun h => ?_) (fun h => ?_) | simp only [go_sem, optI, Option.getD_some, Option.getD_none, Int.reduceToNat, reduceIte, Nat.reduceEqDiff, Nat.reduceAdd, Nat.reduceMul, Nat.reduceSub, Nat.reduceLT, Nat.reduceLeDiff, reduceCtorEq, *] | refine Xs _ (fun h => ?_) (fun h => ?_) | with_reducible refine And.intro ?_ ?_
                    all_goals first | omega | skip
                    all_goals refine ⟨j + 1, ⟨by omega, hn⟩, by omega, ?_⟩
                    all_goals (refine Xto _ _ ?_ ?_ <;> simp only [go_sem, optI, Option.getD_some, Option.getD_none, Int.reduceToNat, reduceIte, Nat.reduceEqDiff, Nat.reduceAdd, Nat.reduceMul, Nat.reduceSub, Nat.reduceLT, Nat.reduceLeDiff, reduceCtorEq, Option.some.injEq, or_true, true_or] <;> (repeat' with_reducible apply And.intro) <;> (try rfl))
                · have hj : j = k := by omega
                  subst hj
                  have ej1 : decide ((j : Int) < (j : Int)) = false := by simp
                  have hn := key2 (by
                    rw [hat, show ((L.take j).any fun q => decide (q.id = L[j].id)) = false from ?_]
                    · rfl
                    · rw [List.any_eq_false]
                      intro x hx
                      obtain ⟨i, hi, rfl⟩ := List.mem_take_iff_getElem.1 hx
                      have := j3 i (by omega) (by omega)
                      simpa using this)
                  clear key key2 hat j3 c1 c2
                  repeat' first | refine SW.step good fun K hK => ?_ | refine X2 good fun K hK => ?_ | refine X3 good fun K hK => ?_ | refine SW.seqK fun J hJ => ?_ | refine SW.last good fun K hK => ?_ | (refine hK _ ?_; clear hK K) | (refine hJ _ _ (Wk.refl _) ?_; clear hJ J) | clear hK K | clear hJ J | refine SW.skip ?_ | refine SW.ret ?_ | refine SW.retT ?_ | refine SW.retB ?_ | refine SW.exit ?_ | refine SW.exitT ?_ | refine SW.exitB ?_ | refine XN ?_ | refine SW.block ?_ | refine SW.normB ?_ | refine SW.normT ?_ | refine XT ?_ | refine XF ?_ | refine XC (fun h => ?_) (fun h => ?_) | simp only [go_sem, optI, Option.getD_some, Option.getD_none, Int.reduceToNat, reduceIte, Nat.reduceEqDiff, Nat.reduceAdd, Nat.reduceMul, Nat.reduceSub, Nat.reduceLT, Nat.reduceLeDiff, reduceCtorEq, *] | refine Xs _ (fun h => ?_) (fun h => ?_) | with_reducible refine And.intro ?_ ?_
                  all_goals first | omega | skip
                  all_goals refine ⟨j + 1, ⟨by omega, hn⟩, by omega, ?_⟩
                  all_goals (refine Xto _ _ ?_ ?_ <;> simp only [go_sem, optI, Option.getD_some, Option.getD_none, Int.reduceToNat, reduceIte, Nat.reduceEqDiff, Nat.reduceAdd, Nat.reduceMul, Nat.reduceSub, Nat.reduceLT, Nat.reduceLeDiff, reduceCtorEq, Option.some.injEq, or_true, true_or] <;> (repeat' with_reducible apply And.intro) <;> (try rfl))
      · have hk : k = L.length := by omega
        subst hk
        have e1 : decide ((L.length : Int) < L.length) = false := by simp
        have hn : ringOk L = true := by rw [hrk, allN_iff]; exact h3
        clear h3 hrk
        repeat' first | refine SW.step good fun K hK => ?_ | refine X2 good fun K hK => ?_ | refine X3 good fun K hK => ?_ | refine SW.seqK fun J hJ => ?_ | refine SW.last good fun K hK => ?_ | (refine hK _ ?_; clear hK K) | (refine hJ _ _ (Wk.refl _) ?_; clear hJ J) | clear hK K | clear hJ J | refine SW.skip ?_ | refine SW.ret ?_ | refine SW.retT ?_ | refine SW.retB ?_ | refine SW.exit ?_ | refine SW.exitT ?_ | refine SW.exitB ?_ | refine XN ?_ | refine SW.block ?_ | refine SW.normB ?_ | refine SW.normT ?_ | refine XT ?_ | refine XF ?_ | refine XC (fun h => ?_) (fun h => ?_) | simp only [go_sem, optI, Option.getD_some, Option.getD_none, Int.reduceToNat, reduceIte, Nat.reduceEqDiff, Nat.reduceAdd, Nat.reduceMul, Nat.reduceSub, Nat.reduceLT, Nat.reduceLeDiff, reduceCtorEq, *] | refine Xs _ (fun h => ?_) (fun h => ?_) | with_reducible refine And.intro ?_ ?_
        all_goals refine Xrb ?_
        all_goals first | exact hn | rfl
  · have g0 : decide (4 ≤ (L.length : Int) ∧ (L.length : Int) ≤ 8) = false := by simpa using h0
    have hn : ringOk L = false := by unfold ringOk; rw [g0]; rfl
    clear h0
    refine XA good (fn := Try.f125) rfl ?_
    simp only [entry, List.getD_cons_zero, List.getD_cons_succ]
    repeat' first | refine SW.step good fun K hK => ?_ | refine X2 good fun K hK => ?_ | refine X3 good fun K hK => ?_ | refine SW.seqK fun J hJ => ?_ | refine SW.last good fun K hK => ?_ | (refine hK _ ?_; clear hK K) | (refine hJ _ _ (Wk.refl _) ?_; clear hJ J) | clear hK K | clear hJ J | refine SW.skip ?_ | refine SW.ret ?_ | refine SW.retT ?_ | refine SW.retB ?_ | refine SW.exit ?_ | refine SW.exitT ?_ | refine SW.exitB ?_ | refine XN ?_ | refine SW.block ?_ | refine SW.normB ?_ | refine SW.normT ?_ | refine XT ?_ | refine XF ?_ | refine XC (fun h => ?_) (fun h => ?_) | refine X0 ?_ | refine Xv ?_ | refine X1 (ac_in' _ _ _) ?_ | simp only [go_sem, optI, Option.getD_some, Option.getD_none, Int.reduceToNat, reduceIte, Nat.reduceEqDiff, Nat.reduceAdd, Nat.reduceMul, Nat.reduceSub, Nat.reduceLT, Nat.reduceLeDiff, reduceCtorEq, *] | refine Xs _ (fun h => ?_) (fun h => ?_) | with_reducible refine And.intro ?_ ?_
    all_goals refine Xrb ?_
    all_goals first | exact hn | rfl
end Go.Proofs.Ytbpfciidbgkekaa.AB
