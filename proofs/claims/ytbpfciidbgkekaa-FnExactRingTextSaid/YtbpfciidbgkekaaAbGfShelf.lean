/- Shelves that are right: the program's function. -/
import Derived.Test.YtbpfciidbgkekaaAbGeItems
namespace Go.Proofs.Ytbpfciidbgkekaa.AB
open Go
set_option maxRecDepth 100000
set_option linter.unusedSimpArgs false
set_option linter.unusedVariables false
set_option maxHeartbeats 8000000 in
theorem ac_shelvesOk (L : List Shelf) (hL : L.length ≤ 1048576) (hL2 : ∀ s, s ∈ L → s.items.length ≤ 1048576) : AC Try.prog 163 [.c true (.sl (L.map shelfC))] (vB (shelvesOk L)) [] := by
  by_cases h80 : L.length ≤ 80
  · have g80 : decide ((80 : Int) < (L.length : Int)) = false := by simp; omega
    refine XA good (fn := Try.f163) rfl ?_
    simp only [entry, List.getD_cons_zero, List.getD_cons_succ]
    repeat' first | refine SW.step good fun K hK => ?_ | refine X2 good fun K hK => ?_ | refine X3 good fun K hK => ?_ | refine SW.seqK fun J hJ => ?_ | refine SW.last good fun K hK => ?_ | (refine hK _ ?_; clear hK K) | (refine hJ _ _ (Wk.refl _) ?_; clear hJ J) | clear hK K | clear hJ J | refine SW.skip ?_ | refine SW.ret ?_ | refine SW.retT ?_ | refine SW.retB ?_ | refine SW.exit ?_ | refine SW.exitT ?_ | refine SW.exitB ?_ | refine XN ?_ | refine SW.block ?_ | refine SW.normB ?_ | refine SW.normT ?_ | refine XT ?_ | refine XF ?_ | refine XC (fun h => ?_) (fun h => ?_) | simp only [go_sem, optI, Option.getD_some, Option.getD_none, Int.reduceToNat, reduceIte, Nat.reduceEqDiff, Nat.reduceAdd, Nat.reduceMul, Nat.reduceSub, Nat.reduceLT, Nat.reduceLeDiff, reduceCtorEq, *] | refine Xs _ (fun h => ?_) (fun h => ?_) | with_reducible refine And.intro ?_ ?_
    refine SW.loopTo (α := Nat) (fun k => ⟨sl [(0, .c true (.sl (L.map shelfC))), (10, .c true (.sl (L.map shelfC))), (11, vI L.length), (12, vI k)], hl []⟩) (fun k => L.length - k) 0 (fun k => k ≤ L.length ∧ ∀ j, j < k → shelfAt L j = true) ?_ ⟨by simp, by simp⟩ ?_
    · (refine Xto _ _ ?_ ?_ <;> simp only [go_sem, optI, Option.getD_some, Option.getD_none, Int.reduceToNat, reduceIte, Nat.reduceEqDiff, Nat.reduceAdd, Nat.reduceMul, Nat.reduceSub, Nat.reduceLT, Nat.reduceLeDiff, reduceCtorEq, Option.some.injEq, or_true, true_or] <;> (repeat' with_reducible apply And.intro) <;> (try rfl))
    · rintro k ⟨h2, h3⟩
      by_cases hk : k < L.length
      · have e := getD_map L shelfC [] hk
        have e1 : decide ((k : Int) < L.length) = true := by simp; omega
        have hw : IntKind.i64.wrap ((k : Int) + 1) = ((k + 1 : Nat) : Int) := wrap64 (by omega) (by omega)
        have hx := ky_at hk
        have hi := its_at hk
        have hil := hL2 _ (List.getElem_mem hk)
        have key : shelfAt L k = false → shelvesOk L = false := fun q => by unfold shelvesOk; rw [allN_no hk q]; simp
        have key2 : shelfAt L k = true → ∀ j, j < k + 1 → shelfAt L j = true := fun q j hj => by
          by_cases hjk : j < k
          · exact h3 j hjk
          · rw [show j = k by omega]; exact q
        clear h3
        have hpl := ac_isPlace L[k].key
        cases k with
        | zero =>
          have g0 : decide ((0 : Int) < ((0 : Nat) : Int)) = false := rfl
          cases c1 : inB L[0].key 0 255 with
          | false =>
            have hn := key (by simp only [shelfAt]; rw [hx, c1]; rfl)
            rw [c1] at hpl
            clear key key2 hx hi c1
            repeat' first | refine SW.step good fun K hK => ?_ | refine X2 good fun K hK => ?_ | refine X3 good fun K hK => ?_ | refine SW.seqK fun J hJ => ?_ | refine SW.last good fun K hK => ?_ | (refine hK _ ?_; clear hK K) | (refine hJ _ _ (Wk.refl _) ?_; clear hJ J) | clear hK K | clear hJ J | refine SW.skip ?_ | refine SW.ret ?_ | refine SW.retT ?_ | refine SW.retB ?_ | refine SW.exit ?_ | refine SW.exitT ?_ | refine SW.exitB ?_ | refine XN ?_ | refine SW.block ?_ | refine SW.normB ?_ | refine SW.normT ?_ | refine XT ?_ | refine XF ?_ | refine XC (fun h => ?_) (fun h => ?_) | refine X0 ?_ | refine Xv ?_ | refine X1 (hpl) ?_ | simp only [go_sem, optI, Option.getD_some, Option.getD_none, Int.reduceToNat, reduceIte, Nat.reduceEqDiff, Nat.reduceAdd, Nat.reduceMul, Nat.reduceSub, Nat.reduceLT, Nat.reduceLeDiff, reduceCtorEq, *] | refine Xs _ (fun h => ?_) (fun h => ?_) | with_reducible refine And.intro ?_ ?_
            all_goals first | omega | skip
            all_goals refine Xrb ?_
            all_goals first | exact hn | rfl
          | true =>
            rw [c1] at hpl
            by_cases c2 : L[0].items.length ≤ 300
            · have g2 : decide ((300 : Int) < (L[0].items.length : Int)) = false := by simp; omega
              have kbad : itemsOk L[0].items = false → shelvesOk L = false := fun q => key (by simp only [shelfAt]; rw [hi, q]; simp)
              have kgood : itemsOk L[0].items = true → ∀ j, j < 0 + 1 → shelfAt L j = true := fun q => key2 (by simp only [shelfAt]; rw [hx, c1, hi, q]; rfl)
              clear key key2 hx hi c1
              repeat' first | refine SW.step good fun K hK => ?_ | refine X2 good fun K hK => ?_ | refine X3 good fun K hK => ?_ | refine SW.seqK fun J hJ => ?_ | refine SW.last good fun K hK => ?_ | (refine hK _ ?_; clear hK K) | (refine hJ _ _ (Wk.refl _) ?_; clear hJ J) | clear hK K | clear hJ J | refine SW.skip ?_ | refine SW.ret ?_ | refine SW.retT ?_ | refine SW.retB ?_ | refine SW.exit ?_ | refine SW.exitT ?_ | refine SW.exitB ?_ | refine XN ?_ | refine SW.block ?_ | refine SW.normB ?_ | refine SW.normT ?_ | refine XT ?_ | refine XF ?_ | refine XC (fun h => ?_) (fun h => ?_) | refine X0 ?_ | refine Xv ?_ | refine X1 (hpl) ?_ | simp only [go_sem, optI, Option.getD_some, Option.getD_none, Int.reduceToNat, reduceIte, Nat.reduceEqDiff, Nat.reduceAdd, Nat.reduceMul, Nat.reduceSub, Nat.reduceLT, Nat.reduceLeDiff, reduceCtorEq, *] | refine Xs _ (fun h => ?_) (fun h => ?_) | with_reducible refine And.intro ?_ ?_
              all_goals first | omega | skip
              refine SW.loopTo (α := Nat) (fun j => ⟨sl [(0, .c true (.sl (L.map shelfC))), (4, .ptr (.s 4 0) 0), (10, .c true (.sl (L.map shelfC))), (11, vI L.length), (12, vI (0 : Nat)), (43, .c true (.sl (L[0].items.map itemC))), (44, vI L[0].items.length), (45, vI j)], hl [(.s 4 0, .box [vI L[0].key, .c true (.sl (L[0].items.map itemC))])]⟩) (fun j => L[0].items.length - j) 0 (fun j => j ≤ L[0].items.length ∧ ∀ i, i < j → itemAt L[0].items i = true) ?_ ⟨by simp, by simp⟩ ?_
              · (refine Xto _ _ ?_ ?_ <;> simp only [go_sem, optI, Option.getD_some, Option.getD_none, Int.reduceToNat, reduceIte, Nat.reduceEqDiff, Nat.reduceAdd, Nat.reduceMul, Nat.reduceSub, Nat.reduceLT, Nat.reduceLeDiff, reduceCtorEq, Option.some.injEq, or_true, true_or] <;> (repeat' with_reducible apply And.intro) <;> (try rfl))
              · rintro j ⟨j2, j3⟩
                by_cases hj : j < L[0].items.length
                · have ej := getD_map L[0].items itemC [] hj
                  have ej1 : decide ((j : Int) < L[0].items.length) = true := by simp; omega
                  have hwj : IntKind.i64.wrap ((j : Int) + 1) = ((j + 1 : Nat) : Int) := wrap64 (by omega) (by omega)
                  have hjx := tx_at hj
                  have jbad : itemAt L[0].items j = false → shelvesOk L = false := fun q => kbad (by unfold itemsOk; rw [allN_no hj q]; simp)
                  have jgood : itemAt L[0].items j = true → ∀ i, i < j + 1 → itemAt L[0].items i = true := fun q i hi => by
                    by_cases hij : i < j
                    · exact j3 i hij
                    · rw [show i = j by omega]; exact q
                  clear j3 kbad kgood
                  cases j with
                  | zero =>
                    have f0 : decide ((0 : Int) < ((0 : Nat) : Int)) = false := rfl
                    by_cases d1 : (sb L[0].items[0].text).length ≤ 600
                    · have f1 : decide ((600 : Int) < ((sb L[0].items[0].text).length : Int)) = false := by simp; omega
                      have hn := jgood (by simp only [itemAt]; rw [hjx]; simpa using d1)
                      clear jbad jgood d1 hjx
                      repeat' first | refine SW.step good fun K hK => ?_ | refine X2 good fun K hK => ?_ | refine X3 good fun K hK => ?_ | refine SW.seqK fun J hJ => ?_ | refine SW.last good fun K hK => ?_ | (refine hK _ ?_; clear hK K) | (refine hJ _ _ (Wk.refl _) ?_; clear hJ J) | clear hK K | clear hJ J | refine SW.skip ?_ | refine SW.ret ?_ | refine SW.retT ?_ | refine SW.retB ?_ | refine SW.exit ?_ | refine SW.exitT ?_ | refine SW.exitB ?_ | refine XN ?_ | refine SW.block ?_ | refine SW.normB ?_ | refine SW.normT ?_ | refine XT ?_ | refine XF ?_ | refine XC (fun h => ?_) (fun h => ?_) | simp only [go_sem, optI, Option.getD_some, Option.getD_none, Int.reduceToNat, reduceIte, Nat.reduceEqDiff, Nat.reduceAdd, Nat.reduceMul, Nat.reduceSub, Nat.reduceLT, Nat.reduceLeDiff, reduceCtorEq, *] | refine Xs _ (fun h => ?_) (fun h => ?_) | with_reducible refine And.intro ?_ ?_
                      all_goals first | omega | skip
                      all_goals refine ⟨1, ⟨by omega, hn⟩, by omega, ?_⟩
                      all_goals (refine Xto _ _ ?_ ?_ <;> simp only [go_sem, optI, Option.getD_some, Option.getD_none, Int.reduceToNat, reduceIte, Nat.reduceEqDiff, Nat.reduceAdd, Nat.reduceMul, Nat.reduceSub, Nat.reduceLT, Nat.reduceLeDiff, reduceCtorEq, Option.some.injEq, or_true, true_or] <;> (repeat' with_reducible apply And.intro) <;> (try rfl))
                      all_goals first | rfl | (simp; done) | skip
                    · have f1 : decide ((600 : Int) < ((sb L[0].items[0].text).length : Int)) = true := by simp; omega
                      have hn := jbad (by simp only [itemAt]; rw [hjx]; simpa using d1)
                      clear jbad jgood d1 hjx
                      repeat' first | refine SW.step good fun K hK => ?_ | refine X2 good fun K hK => ?_ | refine X3 good fun K hK => ?_ | refine SW.seqK fun J hJ => ?_ | refine SW.last good fun K hK => ?_ | (refine hK _ ?_; clear hK K) | (refine hJ _ _ (Wk.refl _) ?_; clear hJ J) | clear hK K | clear hJ J | refine SW.skip ?_ | refine SW.ret ?_ | refine SW.retT ?_ | refine SW.retB ?_ | refine SW.exit ?_ | refine SW.exitT ?_ | refine SW.exitB ?_ | refine XN ?_ | refine SW.block ?_ | refine SW.normB ?_ | refine SW.normT ?_ | refine XT ?_ | refine XF ?_ | refine XC (fun h => ?_) (fun h => ?_) | simp only [go_sem, optI, Option.getD_some, Option.getD_none, Int.reduceToNat, reduceIte, Nat.reduceEqDiff, Nat.reduceAdd, Nat.reduceMul, Nat.reduceSub, Nat.reduceLT, Nat.reduceLeDiff, reduceCtorEq, *] | refine Xs _ (fun h => ?_) (fun h => ?_) | with_reducible refine And.intro ?_ ?_
                      all_goals first | omega | skip
                      all_goals refine Xrb ?_
                      all_goals first | exact hn | rfl
                  | succ j =>
                    have hj' : j < L[0].items.length := by omega
                    have hjx' := tx_at hj'
                    have ej' := getD_map L[0].items itemC [] hj'
                    have f0 : decide ((0 : Int) < ((j + 1 : Nat) : Int)) = true := by rw [decide_eq_true_eq]; omega
                    have hwj2 : IntKind.i64.wrap (((j + 1 : Nat) : Int) - 1) = (j : Int) := by rw [wrap64 (by omega) (by omega)]; try omega
                    by_cases d1 : (sb L[0].items[j + 1].text).length ≤ 600
                    · have f1 : decide ((600 : Int) < ((sb L[0].items[j + 1].text).length : Int)) = false := by simp; omega
                      cases d2 : Op.bytesLess (sb L[0].items[j].text) (sb L[0].items[j + 1].text) with
                      | true =>
                        have hn := jgood (by simp only [itemAt]; rw [hjx, hjx', d2]; simpa using d1)
                        clear jbad jgood d1 hjx hjx'
                        repeat' first | refine SW.step good fun K hK => ?_ | refine X2 good fun K hK => ?_ | refine X3 good fun K hK => ?_ | refine SW.seqK fun J hJ => ?_ | refine SW.last good fun K hK => ?_ | (refine hK _ ?_; clear hK K) | (refine hJ _ _ (Wk.refl _) ?_; clear hJ J) | clear hK K | clear hJ J | refine SW.skip ?_ | refine SW.ret ?_ | refine SW.retT ?_ | refine SW.retB ?_ | refine SW.exit ?_ | refine SW.exitT ?_ | refine SW.exitB ?_ | refine XN ?_ | refine SW.block ?_ | refine SW.normB ?_ | refine SW.normT ?_ | refine XT ?_ | refine XF ?_ | refine XC (fun h => ?_) (fun h => ?_) | simp only [go_sem, optI, Option.getD_some, Option.getD_none, Int.reduceToNat, reduceIte, Nat.reduceEqDiff, Nat.reduceAdd, Nat.reduceMul, Nat.reduceSub, Nat.reduceLT, Nat.reduceLeDiff, reduceCtorEq, *] | refine Xs _ (fun h => ?_) (fun h => ?_) | with_reducible refine And.intro ?_ ?_
                        all_goals first | omega | skip
                        all_goals refine ⟨j + 1 + 1, ⟨by omega, hn⟩, by omega, ?_⟩
                        all_goals (refine Xto _ _ ?_ ?_ <;> simp only [go_sem, optI, Option.getD_some, Option.getD_none, Int.reduceToNat, reduceIte, Nat.reduceEqDiff, Nat.reduceAdd, Nat.reduceMul, Nat.reduceSub, Nat.reduceLT, Nat.reduceLeDiff, reduceCtorEq, Option.some.injEq, or_true, true_or] <;> (repeat' with_reducible apply And.intro) <;> (try rfl))
                      | false =>
                        have hn := jbad (by simp only [itemAt]; rw [hjx, hjx', d2]; simp)
                        clear jbad jgood d1 hjx hjx'
                        repeat' first | refine SW.step good fun K hK => ?_ | refine X2 good fun K hK => ?_ | refine X3 good fun K hK => ?_ | refine SW.seqK fun J hJ => ?_ | refine SW.last good fun K hK => ?_ | (refine hK _ ?_; clear hK K) | (refine hJ _ _ (Wk.refl _) ?_; clear hJ J) | clear hK K | clear hJ J | refine SW.skip ?_ | refine SW.ret ?_ | refine SW.retT ?_ | refine SW.retB ?_ | refine SW.exit ?_ | refine SW.exitT ?_ | refine SW.exitB ?_ | refine XN ?_ | refine SW.block ?_ | refine SW.normB ?_ | refine SW.normT ?_ | refine XT ?_ | refine XF ?_ | refine XC (fun h => ?_) (fun h => ?_) | simp only [go_sem, optI, Option.getD_some, Option.getD_none, Int.reduceToNat, reduceIte, Nat.reduceEqDiff, Nat.reduceAdd, Nat.reduceMul, Nat.reduceSub, Nat.reduceLT, Nat.reduceLeDiff, reduceCtorEq, *] | refine Xs _ (fun h => ?_) (fun h => ?_) | with_reducible refine And.intro ?_ ?_
                        all_goals first | omega | skip
                        all_goals refine Xrb ?_
                        all_goals first | exact hn | rfl
                    · have f1 : decide ((600 : Int) < ((sb L[0].items[j + 1].text).length : Int)) = true := by simp; omega
                      have hn := jbad (by simp only [itemAt]; rw [hjx, show decide ((sb L[0].items[j + 1].text).length ≤ 600) = false from by simpa using d1]; rfl)
                      clear jbad jgood d1 hjx hjx'
                      repeat' first | refine SW.step good fun K hK => ?_ | refine X2 good fun K hK => ?_ | refine X3 good fun K hK => ?_ | refine SW.seqK fun J hJ => ?_ | refine SW.last good fun K hK => ?_ | (refine hK _ ?_; clear hK K) | (refine hJ _ _ (Wk.refl _) ?_; clear hJ J) | clear hK K | clear hJ J | refine SW.skip ?_ | refine SW.ret ?_ | refine SW.retT ?_ | refine SW.retB ?_ | refine SW.exit ?_ | refine SW.exitT ?_ | refine SW.exitB ?_ | refine XN ?_ | refine SW.block ?_ | refine SW.normB ?_ | refine SW.normT ?_ | refine XT ?_ | refine XF ?_ | refine XC (fun h => ?_) (fun h => ?_) | simp only [go_sem, optI, Option.getD_some, Option.getD_none, Int.reduceToNat, reduceIte, Nat.reduceEqDiff, Nat.reduceAdd, Nat.reduceMul, Nat.reduceSub, Nat.reduceLT, Nat.reduceLeDiff, reduceCtorEq, *] | refine Xs _ (fun h => ?_) (fun h => ?_) | with_reducible refine And.intro ?_ ?_
                      all_goals first | omega | skip
                      all_goals refine Xrb ?_
                      all_goals first | exact hn | rfl
                · have hj : j = L[0].items.length := by omega
                  subst hj
                  have ej1 : decide ((L[0].items.length : Int) < L[0].items.length) = false := by simp
                  have hn := kgood (by unfold itemsOk; rw [allN_iff.2 j3, Bool.and_true]; simpa using c2)
                  clear j3 kbad kgood c2
                  repeat' first | refine SW.step good fun K hK => ?_ | refine X2 good fun K hK => ?_ | refine X3 good fun K hK => ?_ | refine SW.seqK fun J hJ => ?_ | refine SW.last good fun K hK => ?_ | (refine hK _ ?_; clear hK K) | (refine hJ _ _ (Wk.refl _) ?_; clear hJ J) | clear hK K | clear hJ J | refine SW.skip ?_ | refine SW.ret ?_ | refine SW.retT ?_ | refine SW.retB ?_ | refine SW.exit ?_ | refine SW.exitT ?_ | refine SW.exitB ?_ | refine XN ?_ | refine SW.block ?_ | refine SW.normB ?_ | refine SW.normT ?_ | refine XT ?_ | refine XF ?_ | refine XC (fun h => ?_) (fun h => ?_) | simp only [go_sem, optI, Option.getD_some, Option.getD_none, Int.reduceToNat, reduceIte, Nat.reduceEqDiff, Nat.reduceAdd, Nat.reduceMul, Nat.reduceSub, Nat.reduceLT, Nat.reduceLeDiff, reduceCtorEq, *] | refine Xs _ (fun h => ?_) (fun h => ?_) | with_reducible refine And.intro ?_ ?_
                  all_goals first | omega | skip
                  all_goals refine ⟨0 + 1, ⟨by omega, hn⟩, by omega, ?_⟩
                  all_goals (refine Xto _ _ ?_ ?_ <;> simp only [go_sem, optI, Option.getD_some, Option.getD_none, Int.reduceToNat, reduceIte, Nat.reduceEqDiff, Nat.reduceAdd, Nat.reduceMul, Nat.reduceSub, Nat.reduceLT, Nat.reduceLeDiff, reduceCtorEq, Option.some.injEq, or_true, true_or] <;> (repeat' with_reducible apply And.intro) <;> (try rfl))
                  all_goals first | rfl | (simp; done) | skip
            · have g2 : decide ((300 : Int) < (L[0].items.length : Int)) = true := by simp; omega
              have hn := key (by simp only [shelfAt]; rw [hi, show itemsOk L[0].items = false from by unfold itemsOk; rw [show decide (L[0].items.length ≤ 300) = false from by simpa using c2]; rfl]; simp)
              clear key key2 hx hi c1
              repeat' first | refine SW.step good fun K hK => ?_ | refine X2 good fun K hK => ?_ | refine X3 good fun K hK => ?_ | refine SW.seqK fun J hJ => ?_ | refine SW.last good fun K hK => ?_ | (refine hK _ ?_; clear hK K) | (refine hJ _ _ (Wk.refl _) ?_; clear hJ J) | clear hK K | clear hJ J | refine SW.skip ?_ | refine SW.ret ?_ | refine SW.retT ?_ | refine SW.retB ?_ | refine SW.exit ?_ | refine SW.exitT ?_ | refine SW.exitB ?_ | refine XN ?_ | refine SW.block ?_ | refine SW.normB ?_ | refine SW.normT ?_ | refine XT ?_ | refine XF ?_ | refine XC (fun h => ?_) (fun h => ?_) | refine X0 ?_ | refine Xv ?_ | refine X1 (hpl) ?_ | simp only [go_sem, optI, Option.getD_some, Option.getD_none, Int.reduceToNat, reduceIte, Nat.reduceEqDiff, Nat.reduceAdd, Nat.reduceMul, Nat.reduceSub, Nat.reduceLT, Nat.reduceLeDiff, reduceCtorEq, *] | refine Xs _ (fun h => ?_) (fun h => ?_) | with_reducible refine And.intro ?_ ?_
              all_goals first | omega | skip
              all_goals refine Xrb ?_
              all_goals first | exact hn | rfl
        | succ k =>
          have hk' : k < L.length := by omega
          have hx' := ky_at hk'
          have e' := getD_map L shelfC [] hk'
          have g0 : decide ((0 : Int) < ((k + 1 : Nat) : Int)) = true := by rw [decide_eq_true_eq]; omega
          have hw2 : IntKind.i64.wrap (((k + 1 : Nat) : Int) - 1) = (k : Int) := by rw [wrap64 (by omega) (by omega)]; try omega
          cases c1 : inB L[k + 1].key 0 255 with
          | false =>
            have hn := key (by simp only [shelfAt]; rw [hx, c1]; rfl)
            rw [c1] at hpl
            clear key key2 hx hi c1
            repeat' first | refine SW.step good fun K hK => ?_ | refine X2 good fun K hK => ?_ | refine X3 good fun K hK => ?_ | refine SW.seqK fun J hJ => ?_ | refine SW.last good fun K hK => ?_ | (refine hK _ ?_; clear hK K) | (refine hJ _ _ (Wk.refl _) ?_; clear hJ J) | clear hK K | clear hJ J | refine SW.skip ?_ | refine SW.ret ?_ | refine SW.retT ?_ | refine SW.retB ?_ | refine SW.exit ?_ | refine SW.exitT ?_ | refine SW.exitB ?_ | refine XN ?_ | refine SW.block ?_ | refine SW.normB ?_ | refine SW.normT ?_ | refine XT ?_ | refine XF ?_ | refine XC (fun h => ?_) (fun h => ?_) | refine X0 ?_ | refine Xv ?_ | refine X1 (hpl) ?_ | simp only [go_sem, optI, Option.getD_some, Option.getD_none, Int.reduceToNat, reduceIte, Nat.reduceEqDiff, Nat.reduceAdd, Nat.reduceMul, Nat.reduceSub, Nat.reduceLT, Nat.reduceLeDiff, reduceCtorEq, *] | refine Xs _ (fun h => ?_) (fun h => ?_) | with_reducible refine And.intro ?_ ?_
            all_goals first | omega | skip
            all_goals refine Xrb ?_
            all_goals first | exact hn | rfl
          | true =>
            rw [c1] at hpl
            by_cases c3 : L[k].key < L[k + 1].key
            · have g3 : decide (L[k + 1].key ≤ L[k].key) = false := by simp; omega
              by_cases c2 : L[k + 1].items.length ≤ 300
              · have g2 : decide ((300 : Int) < (L[k + 1].items.length : Int)) = false := by simp; omega
                have kbad : itemsOk L[k + 1].items = false → shelvesOk L = false := fun q => key (by simp only [shelfAt]; rw [hi, q]; simp)
                have kgood : itemsOk L[k + 1].items = true → ∀ j, j < k + 1 + 1 → shelfAt L j = true := fun q => key2 (by simp only [shelfAt]; rw [hx, hx', c1, hi, q]; simpa using c3)
                clear key key2 hx hx' hi c1 c3
                repeat' first | refine SW.step good fun K hK => ?_ | refine X2 good fun K hK => ?_ | refine X3 good fun K hK => ?_ | refine SW.seqK fun J hJ => ?_ | refine SW.last good fun K hK => ?_ | (refine hK _ ?_; clear hK K) | (refine hJ _ _ (Wk.refl _) ?_; clear hJ J) | clear hK K | clear hJ J | refine SW.skip ?_ | refine SW.ret ?_ | refine SW.retT ?_ | refine SW.retB ?_ | refine SW.exit ?_ | refine SW.exitT ?_ | refine SW.exitB ?_ | refine XN ?_ | refine SW.block ?_ | refine SW.normB ?_ | refine SW.normT ?_ | refine XT ?_ | refine XF ?_ | refine XC (fun h => ?_) (fun h => ?_) | refine X0 ?_ | refine Xv ?_ | refine X1 (hpl) ?_ | simp only [go_sem, optI, Option.getD_some, Option.getD_none, Int.reduceToNat, reduceIte, Nat.reduceEqDiff, Nat.reduceAdd, Nat.reduceMul, Nat.reduceSub, Nat.reduceLT, Nat.reduceLeDiff, reduceCtorEq, *] | refine Xs _ (fun h => ?_) (fun h => ?_) | with_reducible refine And.intro ?_ ?_
                all_goals first | omega | skip
                refine SW.loopTo (α := Nat) (fun j => ⟨sl [(0, .c true (.sl (L.map shelfC))), (4, .ptr (.s 4 0) 0), (10, .c true (.sl (L.map shelfC))), (11, vI L.length), (12, vI (k + 1 : Nat)), (43, .c true (.sl (L[k + 1].items.map itemC))), (44, vI L[k + 1].items.length), (45, vI j)], hl [(.s 4 0, .box [vI L[k + 1].key, .c true (.sl (L[k + 1].items.map itemC))])]⟩) (fun j => L[k + 1].items.length - j) 0 (fun j => j ≤ L[k + 1].items.length ∧ ∀ i, i < j → itemAt L[k + 1].items i = true) ?_ ⟨by simp, by simp⟩ ?_
                · (refine Xto _ _ ?_ ?_ <;> simp only [go_sem, optI, Option.getD_some, Option.getD_none, Int.reduceToNat, reduceIte, Nat.reduceEqDiff, Nat.reduceAdd, Nat.reduceMul, Nat.reduceSub, Nat.reduceLT, Nat.reduceLeDiff, reduceCtorEq, Option.some.injEq, or_true, true_or] <;> (repeat' with_reducible apply And.intro) <;> (try rfl))
                · rintro j ⟨j2, j3⟩
                  by_cases hj : j < L[k + 1].items.length
                  · have ej := getD_map L[k + 1].items itemC [] hj
                    have ej1 : decide ((j : Int) < L[k + 1].items.length) = true := by simp; omega
                    have hwj : IntKind.i64.wrap ((j : Int) + 1) = ((j + 1 : Nat) : Int) := wrap64 (by omega) (by omega)
                    have hjx := tx_at hj
                    have jbad : itemAt L[k + 1].items j = false → shelvesOk L = false := fun q => kbad (by unfold itemsOk; rw [allN_no hj q]; simp)
                    have jgood : itemAt L[k + 1].items j = true → ∀ i, i < j + 1 → itemAt L[k + 1].items i = true := fun q i hi => by
                      by_cases hij : i < j
                      · exact j3 i hij
                      · rw [show i = j by omega]; exact q
                    clear j3 kbad kgood
                    cases j with
                    | zero =>
                      have f0 : decide ((0 : Int) < ((0 : Nat) : Int)) = false := rfl
                      by_cases d1 : (sb L[k + 1].items[0].text).length ≤ 600
                      · have f1 : decide ((600 : Int) < ((sb L[k + 1].items[0].text).length : Int)) = false := by simp; omega
                        have hn := jgood (by simp only [itemAt]; rw [hjx]; simpa using d1)
                        clear jbad jgood d1 hjx
                        repeat' first | refine SW.step good fun K hK => ?_ | refine X2 good fun K hK => ?_ | refine X3 good fun K hK => ?_ | refine SW.seqK fun J hJ => ?_ | refine SW.last good fun K hK => ?_ | (refine hK _ ?_; clear hK K) | (refine hJ _ _ (Wk.refl _) ?_; clear hJ J) | clear hK K | clear hJ J | refine SW.skip ?_ | refine SW.ret ?_ | refine SW.retT ?_ | refine SW.retB ?_ | refine SW.exit ?_ | refine SW.exitT ?_ | refine SW.exitB ?_ | refine XN ?_ | refine SW.block ?_ | refine SW.normB ?_ | refine SW.normT ?_ | refine XT ?_ | refine XF ?_ | refine XC (fun h => ?_) (fun h => ?_) | simp only [go_sem, optI, Option.getD_some, Option.getD_none, Int.reduceToNat, reduceIte, Nat.reduceEqDiff, Nat.reduceAdd, Nat.reduceMul, Nat.reduceSub, Nat.reduceLT, Nat.reduceLeDiff, reduceCtorEq, *] | refine Xs _ (fun h => ?_) (fun h => ?_) | with_reducible refine And.intro ?_ ?_
                        all_goals first | omega | skip
                        all_goals refine ⟨1, ⟨by omega, hn⟩, by omega, ?_⟩
                        all_goals (refine Xto _ _ ?_ ?_ <;> simp only [go_sem, optI, Option.getD_some, Option.getD_none, Int.reduceToNat, reduceIte, Nat.reduceEqDiff, Nat.reduceAdd, Nat.reduceMul, Nat.reduceSub, Nat.reduceLT, Nat.reduceLeDiff, reduceCtorEq, Option.some.injEq, or_true, true_or] <;> (repeat' with_reducible apply And.intro) <;> (try rfl))
                        all_goals first | rfl | (simp; done) | skip
                      · have f1 : decide ((600 : Int) < ((sb L[k + 1].items[0].text).length : Int)) = true := by simp; omega
                        have hn := jbad (by simp only [itemAt]; rw [hjx]; simpa using d1)
                        clear jbad jgood d1 hjx
                        repeat' first | refine SW.step good fun K hK => ?_ | refine X2 good fun K hK => ?_ | refine X3 good fun K hK => ?_ | refine SW.seqK fun J hJ => ?_ | refine SW.last good fun K hK => ?_ | (refine hK _ ?_; clear hK K) | (refine hJ _ _ (Wk.refl _) ?_; clear hJ J) | clear hK K | clear hJ J | refine SW.skip ?_ | refine SW.ret ?_ | refine SW.retT ?_ | refine SW.retB ?_ | refine SW.exit ?_ | refine SW.exitT ?_ | refine SW.exitB ?_ | refine XN ?_ | refine SW.block ?_ | refine SW.normB ?_ | refine SW.normT ?_ | refine XT ?_ | refine XF ?_ | refine XC (fun h => ?_) (fun h => ?_) | simp only [go_sem, optI, Option.getD_some, Option.getD_none, Int.reduceToNat, reduceIte, Nat.reduceEqDiff, Nat.reduceAdd, Nat.reduceMul, Nat.reduceSub, Nat.reduceLT, Nat.reduceLeDiff, reduceCtorEq, *] | refine Xs _ (fun h => ?_) (fun h => ?_) | with_reducible refine And.intro ?_ ?_
                        all_goals first | omega | skip
                        all_goals refine Xrb ?_
                        all_goals first | exact hn | rfl
                    | succ j =>
                      have hj' : j < L[k + 1].items.length := by omega
                      have hjx' := tx_at hj'
                      have ej' := getD_map L[k + 1].items itemC [] hj'
                      have f0 : decide ((0 : Int) < ((j + 1 : Nat) : Int)) = true := by rw [decide_eq_true_eq]; omega
                      have hwj2 : IntKind.i64.wrap (((j + 1 : Nat) : Int) - 1) = (j : Int) := by rw [wrap64 (by omega) (by omega)]; try omega
                      by_cases d1 : (sb L[k + 1].items[j + 1].text).length ≤ 600
                      · have f1 : decide ((600 : Int) < ((sb L[k + 1].items[j + 1].text).length : Int)) = false := by simp; omega
                        cases d2 : Op.bytesLess (sb L[k + 1].items[j].text) (sb L[k + 1].items[j + 1].text) with
                        | true =>
                          have hn := jgood (by simp only [itemAt]; rw [hjx, hjx', d2]; simpa using d1)
                          clear jbad jgood d1 hjx hjx'
                          repeat' first | refine SW.step good fun K hK => ?_ | refine X2 good fun K hK => ?_ | refine X3 good fun K hK => ?_ | refine SW.seqK fun J hJ => ?_ | refine SW.last good fun K hK => ?_ | (refine hK _ ?_; clear hK K) | (refine hJ _ _ (Wk.refl _) ?_; clear hJ J) | clear hK K | clear hJ J | refine SW.skip ?_ | refine SW.ret ?_ | refine SW.retT ?_ | refine SW.retB ?_ | refine SW.exit ?_ | refine SW.exitT ?_ | refine SW.exitB ?_ | refine XN ?_ | refine SW.block ?_ | refine SW.normB ?_ | refine SW.normT ?_ | refine XT ?_ | refine XF ?_ | refine XC (fun h => ?_) (fun h => ?_) | simp only [go_sem, optI, Option.getD_some, Option.getD_none, Int.reduceToNat, reduceIte, Nat.reduceEqDiff, Nat.reduceAdd, Nat.reduceMul, Nat.reduceSub, Nat.reduceLT, Nat.reduceLeDiff, reduceCtorEq, *] | refine Xs _ (fun h => ?_) (fun h => ?_) | with_reducible refine And.intro ?_ ?_
                          all_goals first | omega | skip
                          all_goals refine ⟨j + 1 + 1, ⟨by omega, hn⟩, by omega, ?_⟩
                          all_goals (refine Xto _ _ ?_ ?_ <;> simp only [go_sem, optI, Option.getD_some, Option.getD_none, Int.reduceToNat, reduceIte, Nat.reduceEqDiff, Nat.reduceAdd, Nat.reduceMul, Nat.reduceSub, Nat.reduceLT, Nat.reduceLeDiff, reduceCtorEq, Option.some.injEq, or_true, true_or] <;> (repeat' with_reducible apply And.intro) <;> (try rfl))
                        | false =>
                          have hn := jbad (by simp only [itemAt]; rw [hjx, hjx', d2]; simp)
                          clear jbad jgood d1 hjx hjx'
                          repeat' first | refine SW.step good fun K hK => ?_ | refine X2 good fun K hK => ?_ | refine X3 good fun K hK => ?_ | refine SW.seqK fun J hJ => ?_ | refine SW.last good fun K hK => ?_ | (refine hK _ ?_; clear hK K) | (refine hJ _ _ (Wk.refl _) ?_; clear hJ J) | clear hK K | clear hJ J | refine SW.skip ?_ | refine SW.ret ?_ | refine SW.retT ?_ | refine SW.retB ?_ | refine SW.exit ?_ | refine SW.exitT ?_ | refine SW.exitB ?_ | refine XN ?_ | refine SW.block ?_ | refine SW.normB ?_ | refine SW.normT ?_ | refine XT ?_ | refine XF ?_ | refine XC (fun h => ?_) (fun h => ?_) | simp only [go_sem, optI, Option.getD_some, Option.getD_none, Int.reduceToNat, reduceIte, Nat.reduceEqDiff, Nat.reduceAdd, Nat.reduceMul, Nat.reduceSub, Nat.reduceLT, Nat.reduceLeDiff, reduceCtorEq, *] | refine Xs _ (fun h => ?_) (fun h => ?_) | with_reducible refine And.intro ?_ ?_
                          all_goals first | omega | skip
                          all_goals refine Xrb ?_
                          all_goals first | exact hn | rfl
                      · have f1 : decide ((600 : Int) < ((sb L[k + 1].items[j + 1].text).length : Int)) = true := by simp; omega
                        have hn := jbad (by simp only [itemAt]; rw [hjx, show decide ((sb L[k + 1].items[j + 1].text).length ≤ 600) = false from by simpa using d1]; rfl)
                        clear jbad jgood d1 hjx hjx'
                        repeat' first | refine SW.step good fun K hK => ?_ | refine X2 good fun K hK => ?_ | refine X3 good fun K hK => ?_ | refine SW.seqK fun J hJ => ?_ | refine SW.last good fun K hK => ?_ | (refine hK _ ?_; clear hK K) | (refine hJ _ _ (Wk.refl _) ?_; clear hJ J) | clear hK K | clear hJ J | refine SW.skip ?_ | refine SW.ret ?_ | refine SW.retT ?_ | refine SW.retB ?_ | refine SW.exit ?_ | refine SW.exitT ?_ | refine SW.exitB ?_ | refine XN ?_ | refine SW.block ?_ | refine SW.normB ?_ | refine SW.normT ?_ | refine XT ?_ | refine XF ?_ | refine XC (fun h => ?_) (fun h => ?_) | simp only [go_sem, optI, Option.getD_some, Option.getD_none, Int.reduceToNat, reduceIte, Nat.reduceEqDiff, Nat.reduceAdd, Nat.reduceMul, Nat.reduceSub, Nat.reduceLT, Nat.reduceLeDiff, reduceCtorEq, *] | refine Xs _ (fun h => ?_) (fun h => ?_) | with_reducible refine And.intro ?_ ?_
                        all_goals first | omega | skip
                        all_goals refine Xrb ?_
                        all_goals first | exact hn | rfl
                  · have hj : j = L[k + 1].items.length := by omega
                    subst hj
                    have ej1 : decide ((L[k + 1].items.length : Int) < L[k + 1].items.length) = false := by simp
                    have hn := kgood (by unfold itemsOk; rw [allN_iff.2 j3, Bool.and_true]; simpa using c2)
                    clear j3 kbad kgood c2
                    repeat' first | refine SW.step good fun K hK => ?_ | refine X2 good fun K hK => ?_ | refine X3 good fun K hK => ?_ | refine SW.seqK fun J hJ => ?_ | refine SW.last good fun K hK => ?_ | (refine hK _ ?_; clear hK K) | (refine hJ _ _ (Wk.refl _) ?_; clear hJ J) | clear hK K | clear hJ J | refine SW.skip ?_ | refine SW.ret ?_ | refine SW.retT ?_ | refine SW.retB ?_ | refine SW.exit ?_ | refine SW.exitT ?_ | refine SW.exitB ?_ | refine XN ?_ | refine SW.block ?_ | refine SW.normB ?_ | refine SW.normT ?_ | refine XT ?_ | refine XF ?_ | refine XC (fun h => ?_) (fun h => ?_) | simp only [go_sem, optI, Option.getD_some, Option.getD_none, Int.reduceToNat, reduceIte, Nat.reduceEqDiff, Nat.reduceAdd, Nat.reduceMul, Nat.reduceSub, Nat.reduceLT, Nat.reduceLeDiff, reduceCtorEq, *] | refine Xs _ (fun h => ?_) (fun h => ?_) | with_reducible refine And.intro ?_ ?_
                    all_goals first | omega | skip
                    all_goals refine ⟨k + 1 + 1, ⟨by omega, hn⟩, by omega, ?_⟩
                    all_goals (refine Xto _ _ ?_ ?_ <;> simp only [go_sem, optI, Option.getD_some, Option.getD_none, Int.reduceToNat, reduceIte, Nat.reduceEqDiff, Nat.reduceAdd, Nat.reduceMul, Nat.reduceSub, Nat.reduceLT, Nat.reduceLeDiff, reduceCtorEq, Option.some.injEq, or_true, true_or] <;> (repeat' with_reducible apply And.intro) <;> (try rfl))
                    all_goals first | rfl | (simp; done) | skip
              · have g2 : decide ((300 : Int) < (L[k + 1].items.length : Int)) = true := by simp; omega
                have hn := key (by simp only [shelfAt]; rw [hi, show itemsOk L[k + 1].items = false from by unfold itemsOk; rw [show decide (L[k + 1].items.length ≤ 300) = false from by simpa using c2]; rfl]; simp)
                clear key key2 hx hx' hi c1 c3
                repeat' first | refine SW.step good fun K hK => ?_ | refine X2 good fun K hK => ?_ | refine X3 good fun K hK => ?_ | refine SW.seqK fun J hJ => ?_ | refine SW.last good fun K hK => ?_ | (refine hK _ ?_; clear hK K) | (refine hJ _ _ (Wk.refl _) ?_; clear hJ J) | clear hK K | clear hJ J | refine SW.skip ?_ | refine SW.ret ?_ | refine SW.retT ?_ | refine SW.retB ?_ | refine SW.exit ?_ | refine SW.exitT ?_ | refine SW.exitB ?_ | refine XN ?_ | refine SW.block ?_ | refine SW.normB ?_ | refine SW.normT ?_ | refine XT ?_ | refine XF ?_ | refine XC (fun h => ?_) (fun h => ?_) | refine X0 ?_ | refine Xv ?_ | refine X1 (hpl) ?_ | simp only [go_sem, optI, Option.getD_some, Option.getD_none, Int.reduceToNat, reduceIte, Nat.reduceEqDiff, Nat.reduceAdd, Nat.reduceMul, Nat.reduceSub, Nat.reduceLT, Nat.reduceLeDiff, reduceCtorEq, *] | refine Xs _ (fun h => ?_) (fun h => ?_) | with_reducible refine And.intro ?_ ?_
                all_goals first | omega | skip
                all_goals refine Xrb ?_
                all_goals first | exact hn | rfl
            · have g3 : decide (L[k + 1].key ≤ L[k].key) = true := by simp; omega
              have hn := key (by simp only [shelfAt]; rw [hx, hx', show decide (L[k].key < L[k + 1].key) = false from by simpa using c3]; simp)
              clear key key2 hx hx' hi c1 c3
              repeat' first | refine SW.step good fun K hK => ?_ | refine X2 good fun K hK => ?_ | refine X3 good fun K hK => ?_ | refine SW.seqK fun J hJ => ?_ | refine SW.last good fun K hK => ?_ | (refine hK _ ?_; clear hK K) | (refine hJ _ _ (Wk.refl _) ?_; clear hJ J) | clear hK K | clear hJ J | refine SW.skip ?_ | refine SW.ret ?_ | refine SW.retT ?_ | refine SW.retB ?_ | refine SW.exit ?_ | refine SW.exitT ?_ | refine SW.exitB ?_ | refine XN ?_ | refine SW.block ?_ | refine SW.normB ?_ | refine SW.normT ?_ | refine XT ?_ | refine XF ?_ | refine XC (fun h => ?_) (fun h => ?_) | refine X0 ?_ | refine Xv ?_ | refine X1 (hpl) ?_ | simp only [go_sem, optI, Option.getD_some, Option.getD_none, Int.reduceToNat, reduceIte, Nat.reduceEqDiff, Nat.reduceAdd, Nat.reduceMul, Nat.reduceSub, Nat.reduceLT, Nat.reduceLeDiff, reduceCtorEq, *] | refine Xs _ (fun h => ?_) (fun h => ?_) | with_reducible refine And.intro ?_ ?_
              all_goals first | omega | skip
              all_goals refine Xrb ?_
              all_goals first | exact hn | rfl
      · have hk : k = L.length := by omega
        subst hk
        have e1 : decide ((L.length : Int) < L.length) = false := by simp
        have hall : allN L.length (shelfAt L) = true := allN_iff.2 h3
        clear h3
        repeat' first | refine SW.step good fun K hK => ?_ | refine X2 good fun K hK => ?_ | refine X3 good fun K hK => ?_ | refine SW.seqK fun J hJ => ?_ | refine SW.last good fun K hK => ?_ | (refine hK _ ?_; clear hK K) | (refine hJ _ _ (Wk.refl _) ?_; clear hJ J) | clear hK K | clear hJ J | refine SW.skip ?_ | refine SW.ret ?_ | refine SW.retT ?_ | refine SW.retB ?_ | refine SW.exit ?_ | refine SW.exitT ?_ | refine SW.exitB ?_ | refine XN ?_ | refine SW.block ?_ | refine SW.normB ?_ | refine SW.normT ?_ | refine XT ?_ | refine XF ?_ | refine XC (fun h => ?_) (fun h => ?_) | simp only [go_sem, optI, Option.getD_some, Option.getD_none, Int.reduceToNat, reduceIte, Nat.reduceEqDiff, Nat.reduceAdd, Nat.reduceMul, Nat.reduceSub, Nat.reduceLT, Nat.reduceLeDiff, reduceCtorEq, *] | refine Xs _ (fun h => ?_) (fun h => ?_) | with_reducible refine And.intro ?_ ?_
        all_goals refine Xrb ?_
        all_goals (unfold shelvesOk; rw [hall, Bool.and_true]; simpa using h80)
  · have g80 : decide ((80 : Int) < (L.length : Int)) = true := by simp; omega
    refine XA good (fn := Try.f163) rfl ?_
    simp only [entry, List.getD_cons_zero, List.getD_cons_succ]
    repeat' first | refine SW.step good fun K hK => ?_ | refine X2 good fun K hK => ?_ | refine X3 good fun K hK => ?_ | refine SW.seqK fun J hJ => ?_ | refine SW.last good fun K hK => ?_ | (refine hK _ ?_; clear hK K) | (refine hJ _ _ (Wk.refl _) ?_; clear hJ J) | clear hK K | clear hJ J | refine SW.skip ?_ | refine SW.ret ?_ | refine SW.retT ?_ | refine SW.retB ?_ | refine SW.exit ?_ | refine SW.exitT ?_ | refine SW.exitB ?_ | refine XN ?_ | refine SW.block ?_ | refine SW.normB ?_ | refine SW.normT ?_ | refine XT ?_ | refine XF ?_ | refine XC (fun h => ?_) (fun h => ?_) | simp only [go_sem, optI, Option.getD_some, Option.getD_none, Int.reduceToNat, reduceIte, Nat.reduceEqDiff, Nat.reduceAdd, Nat.reduceMul, Nat.reduceSub, Nat.reduceLT, Nat.reduceLeDiff, reduceCtorEq, *] | refine Xs _ (fun h => ?_) (fun h => ?_) | with_reducible refine And.intro ?_ ?_
    all_goals refine Xrb ?_
    all_goals (unfold shelvesOk; rw [show decide (L.length ≤ 80) = false from by simpa using h80]; rfl)
end Go.Proofs.Ytbpfciidbgkekaa.AB
