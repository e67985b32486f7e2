/- Peers as texts: the program's function. -/
import Derived.Test.YtbpfciidbgkekaaAbGiText
namespace Go.Proofs.Ytbpfciidbgkekaa.AB
open Go
set_option maxRecDepth 100000
set_option linter.unusedSimpArgs false
set_option linter.unusedVariables false
set_option maxHeartbeats 8000000 in
theorem ac_PeerText (p : Peer) (hp : p.small) : AC Try.prog 56 [encPeer true p] (.tup [vS (peerText p), vB (peerOk p)]) [] := by
  have hk := ac_PeerOk p hp
  cases hok : peerOk p with
  | false =>
    have hres : peerText p = [] := by unfold peerText; rw [hok]; rfl
    rw [hok] at hk
    clear hok
    refine XA good (fn := Try.f56) rfl ?_
    simp only [entry, List.getD_cons_zero, List.getD_cons_succ]
    repeat' first | refine SW.step good fun K hK => ?_ | refine X2 good fun K hK => ?_ | refine X3 good fun K hK => ?_ | refine SW.seqK fun J hJ => ?_ | refine SW.last good fun K hK => ?_ | (refine hK _ ?_; clear hK K) | (refine hJ _ _ (Wk.refl _) ?_; clear hJ J) | clear hK K | clear hJ J | refine SW.skip ?_ | refine SW.ret ?_ | refine SW.retT ?_ | refine SW.retB ?_ | refine SW.exit ?_ | refine SW.exitT ?_ | refine SW.exitB ?_ | refine XN ?_ | refine SW.block ?_ | refine SW.normB ?_ | refine SW.normT ?_ | refine XT ?_ | refine XF ?_ | refine XC (fun h => ?_) (fun h => ?_) | refine X0 ?_ | refine Xv ?_ | refine X1 (hk) ?_ | simp only [go_sem, optI, Option.getD_some, Option.getD_none, Int.reduceToNat, reduceIte, Nat.reduceEqDiff, Nat.reduceAdd, Nat.reduceMul, Nat.reduceSub, Nat.reduceLT, Nat.reduceLeDiff, reduceCtorEq, *] | refine Xs _ (fun h => ?_) (fun h => ?_) | with_reducible refine And.intro ?_ ?_
    all_goals first | (refine Xrp ?_; simp [resOf, Wn.le, Wn.leL, Wn.cw, C.scal, scal, hres]; done) | (exfalso; simp_all; done) | skip
    all_goals trace_state
  | true =>
    have hres : peerText p = headT p ++ shelvesT p.shelves := by unfold peerText; rw [hok]; rfl
    rw [hok] at hk
    obtain ⟨⟨f1, f2⟩, ⟨f3, f4⟩, f5, f6, f7, f8, f9⟩ := peerOk_facts hok
    obtain ⟨s1, s2⟩ := shelvesOk_facts f9
    have hwa : IntKind.i64.wrap (p.ahead + 1) = p.ahead + 1 := wrap64 (by omega) (by omega)
    have hb := ac_bit p.here
    obtain ⟨b1, b2⟩ := bitI_le p.here
    have hl1 := ac_listText p.behind 0 (by omega) f7
    have hl2 := ac_listText p.fingers 1 (by omega) f8
    have v1 := ac_var p.id (by omega) (by omega)
    have v2 := ac_var (bitI p.here) (by omega) (by omega)
    have v3 := ac_var (p.ahead + 1) (by omega) (by omega)
    have v4 := ac_var (p.shelves.length : Int) (by omega) (by omega)
    have l1 := varI_len p.id
    have l2 := varI_len (bitI p.here)
    have l3 := varI_len (p.ahead + 1)
    have l4 := varI_len p.behind.length
    have l5 := varI_len p.fingers.length
    have l6 := varI_len p.shelves.length
    have l7 := listT_len 0 p.behind
    have l8 := listT_len 1 p.fingers
    clear hok f7 f8
    refine XA good (fn := Try.f56) rfl ?_
    simp only [entry, List.getD_cons_zero, List.getD_cons_succ]
    repeat' first | refine SW.step good fun K hK => ?_ | refine X2 good fun K hK => ?_ | refine X3 good fun K hK => ?_ | refine SW.seqK fun J hJ => ?_ | refine SW.last good fun K hK => ?_ | (refine hK _ ?_; clear hK K) | (refine hJ _ _ (Wk.refl _) ?_; clear hJ J) | clear hK K | clear hJ J | refine SW.skip ?_ | refine SW.ret ?_ | refine SW.retT ?_ | refine SW.retB ?_ | refine SW.exit ?_ | refine SW.exitT ?_ | refine SW.exitB ?_ | refine XN ?_ | refine SW.block ?_ | refine SW.normB ?_ | refine SW.normT ?_ | refine XT ?_ | refine XF ?_ | refine XC (fun h => ?_) (fun h => ?_) | refine X0 ?_ | refine Xv ?_ | refine X1 (hk) ?_ | refine X1 (hb) ?_ | refine X1 (hl1) ?_ | refine X1 (hl2) ?_ | refine X1 (v1) ?_ | refine X1 (v2) ?_ | refine X1 (v3) ?_ | refine X1 (v4) ?_ | simp only [go_sem, optI, Option.getD_some, Option.getD_none, Int.reduceToNat, reduceIte, Nat.reduceEqDiff, Nat.reduceAdd, Nat.reduceMul, Nat.reduceSub, Nat.reduceLT, Nat.reduceLeDiff, reduceCtorEq, *] | refine Xs _ (fun h => ?_) (fun h => ?_) | with_reducible refine And.intro ?_ ?_
    all_goals first | omega | (simp only [List.length_append]; omega) | skip
    clear hb v1 v2 v3 v4 hl1 hl2 hk hwa
    have hhl : (headT p).length ≤ 200 := by unfold headT; simp only [List.length_append]; omega
    refine SW.loopTo (α := Nat) (fun k => ⟨sl [(4, vS (headT p ++ shelvesT (p.shelves.take k))), (39, .c true (.sl (p.shelves.map shelfC))), (40, vI p.shelves.length), (41, vI k)], hl []⟩) (fun k => p.shelves.length - k) 0 (fun k => k ≤ p.shelves.length) ?_ (by simp) ?_
    · (refine Xto _ _ ?_ ?_ <;> simp only [go_sem, optI, Option.getD_some, Option.getD_none, Int.reduceToNat, reduceIte, Nat.reduceEqDiff, Nat.reduceAdd, Nat.reduceMul, Nat.reduceSub, Nat.reduceLT, Nat.reduceLeDiff, reduceCtorEq, Option.some.injEq, or_true, true_or] <;> (repeat' with_reducible apply And.intro) <;> (try rfl))
      all_goals first | (simp [headT, shelvesT]; done) | skip
    · intro k h2
      by_cases hk : k < p.shelves.length
      · have e := getD_map p.shelves shelfC [] hk
        have e1 : decide ((k : Int) < p.shelves.length) = true := by simp; omega
        have hw : IntKind.i64.wrap ((k : Int) + 1) = ((k + 1 : Nat) : Int) := wrap64 (by omega) (by omega)
        obtain ⟨t1, t2, t3⟩ := s2 _ (List.getElem_mem hk)
        obtain ⟨t4, t5⟩ := itemsOk_facts t3
        have u1 := ac_var p.shelves[k].key (by omega) (by omega)
        have u2 := ac_var (p.shelves[k].items.length : Int) (by omega) (by omega)
        have l9 := varI_len p.shelves[k].key
        have l10 := varI_len p.shelves[k].items.length
        have hsl := shelvesT_len (L := p.shelves.take k) (fun s hs => (s2 s (List.mem_of_mem_take hs)).2.2)
        rw [List.length_take] at hsl
        have hst := shelvesT_take p.shelves hk
        repeat' first | refine SW.step good fun K hK => ?_ | refine X2 good fun K hK => ?_ | refine X3 good fun K hK => ?_ | refine SW.seqK fun J hJ => ?_ | refine SW.last good fun K hK => ?_ | (refine hK _ ?_; clear hK K) | (refine hJ _ _ (Wk.refl _) ?_; clear hJ J) | clear hK K | clear hJ J | refine SW.skip ?_ | refine SW.ret ?_ | refine SW.retT ?_ | refine SW.retB ?_ | refine SW.exit ?_ | refine SW.exitT ?_ | refine SW.exitB ?_ | refine XN ?_ | refine SW.block ?_ | refine SW.normB ?_ | refine SW.normT ?_ | refine XT ?_ | refine XF ?_ | refine XC (fun h => ?_) (fun h => ?_) | refine X0 ?_ | refine Xv ?_ | refine X1 (u1) ?_ | refine X1 (u2) ?_ | simp only [go_sem, optI, Option.getD_some, Option.getD_none, Int.reduceToNat, reduceIte, Nat.reduceEqDiff, Nat.reduceAdd, Nat.reduceMul, Nat.reduceSub, Nat.reduceLT, Nat.reduceLeDiff, reduceCtorEq, *] | refine Xs _ (fun h => ?_) (fun h => ?_) | with_reducible refine And.intro ?_ ?_
        all_goals first | omega | (simp only [List.length_append]; omega) | skip
        clear u1 u2
        refine SW.loopTo (α := Nat) (fun j => ⟨sl [(4, vS ((headT p ++ shelvesT (p.shelves.take k)) ++ (varI p.shelves[k].key ++ varI p.shelves[k].items.length) ++ itemsT (p.shelves[k].items.take j))), (39, .c true (.sl (p.shelves.map shelfC))), (40, vI p.shelves.length), (41, vI k), (56, .c true (.sl (p.shelves[k].items.map itemC))), (57, vI p.shelves[k].items.length), (58, vI j)], hl []⟩) (fun j => p.shelves[k].items.length - j) 0 (fun j => j ≤ p.shelves[k].items.length) ?_ (by simp) ?_
        · (refine Xto _ _ ?_ ?_ <;> simp only [go_sem, optI, Option.getD_some, Option.getD_none, Int.reduceToNat, reduceIte, Nat.reduceEqDiff, Nat.reduceAdd, Nat.reduceMul, Nat.reduceSub, Nat.reduceLT, Nat.reduceLeDiff, reduceCtorEq, Option.some.injEq, or_true, true_or] <;> (repeat' with_reducible apply And.intro) <;> (try rfl))
          all_goals first | (simp [itemsT]; done) | skip
        · intro j j2
          by_cases hj : j < p.shelves[k].items.length
          · have ej := getD_map p.shelves[k].items itemC [] hj
            have ej1 : decide ((j : Int) < p.shelves[k].items.length) = true := by simp; omega
            have hwj : IntKind.i64.wrap ((j : Int) + 1) = ((j + 1 : Nat) : Int) := wrap64 (by omega) (by omega)
            have x1 := t5 _ (List.getElem_mem hj)
            have w1 := ac_var ((sb p.shelves[k].items[j].text).length : Int) (by omega) (by omega)
            obtain ⟨b3, b4⟩ := bitI_le p.shelves[k].items[j].gone
            have hb := ac_bit p.shelves[k].items[j].gone
            have w2 := ac_var (bitI p.shelves[k].items[j].gone) (by omega) (by omega)
            have l11 := varI_len (sb p.shelves[k].items[j].text).length
            have l12 := varI_len (bitI p.shelves[k].items[j].gone)
            have hil := itemsT_len (L := p.shelves[k].items.take j) (fun s hs => t5 s (List.mem_of_mem_take hs))
            rw [List.length_take] at hil
            have hit := itemsT_take p.shelves[k].items hj
            repeat' first | refine SW.step good fun K hK => ?_ | refine X2 good fun K hK => ?_ | refine X3 good fun K hK => ?_ | refine SW.seqK fun J hJ => ?_ | refine SW.last good fun K hK => ?_ | (refine hK _ ?_; clear hK K) | (refine hJ _ _ (Wk.refl _) ?_; clear hJ J) | clear hK K | clear hJ J | refine SW.skip ?_ | refine SW.ret ?_ | refine SW.retT ?_ | refine SW.retB ?_ | refine SW.exit ?_ | refine SW.exitT ?_ | refine SW.exitB ?_ | refine XN ?_ | refine SW.block ?_ | refine SW.normB ?_ | refine SW.normT ?_ | refine XT ?_ | refine XF ?_ | refine XC (fun h => ?_) (fun h => ?_) | refine X0 ?_ | refine Xv ?_ | refine X1 (w1) ?_ | refine X1 (w2) ?_ | refine X1 (hb) ?_ | simp only [go_sem, optI, Option.getD_some, Option.getD_none, Int.reduceToNat, reduceIte, Nat.reduceEqDiff, Nat.reduceAdd, Nat.reduceMul, Nat.reduceSub, Nat.reduceLT, Nat.reduceLeDiff, reduceCtorEq, *] | refine Xs _ (fun h => ?_) (fun h => ?_) | with_reducible refine And.intro ?_ ?_
            all_goals first | omega | (simp only [List.length_append]; omega) | skip
            all_goals refine ⟨j + 1, by omega, by omega, ?_⟩
            all_goals (refine Xto _ _ ?_ ?_ <;> simp only [go_sem, optI, Option.getD_some, Option.getD_none, Int.reduceToNat, reduceIte, Nat.reduceEqDiff, Nat.reduceAdd, Nat.reduceMul, Nat.reduceSub, Nat.reduceLT, Nat.reduceLeDiff, reduceCtorEq, Option.some.injEq, or_true, true_or] <;> (repeat' with_reducible apply And.intro) <;> (try rfl))
            all_goals first | (rw [hit]; simp [itemT]; done) | (simp [itemT]; done) | skip
          · have hj : j = p.shelves[k].items.length := by omega
            subst hj
            have ej1 : decide ((p.shelves[k].items.length : Int) < p.shelves[k].items.length) = false := by simp
            repeat' first | refine SW.step good fun K hK => ?_ | refine X2 good fun K hK => ?_ | refine X3 good fun K hK => ?_ | refine SW.seqK fun J hJ => ?_ | refine SW.last good fun K hK => ?_ | (refine hK _ ?_; clear hK K) | (refine hJ _ _ (Wk.refl _) ?_; clear hJ J) | clear hK K | clear hJ J | refine SW.skip ?_ | refine SW.ret ?_ | refine SW.retT ?_ | refine SW.retB ?_ | refine SW.exit ?_ | refine SW.exitT ?_ | refine SW.exitB ?_ | refine XN ?_ | refine SW.block ?_ | refine SW.normB ?_ | refine SW.normT ?_ | refine XT ?_ | refine XF ?_ | refine XC (fun h => ?_) (fun h => ?_) | simp only [go_sem, optI, Option.getD_some, Option.getD_none, Int.reduceToNat, reduceIte, Nat.reduceEqDiff, Nat.reduceAdd, Nat.reduceMul, Nat.reduceSub, Nat.reduceLT, Nat.reduceLeDiff, reduceCtorEq, *] | refine Xs _ (fun h => ?_) (fun h => ?_) | with_reducible refine And.intro ?_ ?_
            all_goals first | omega | skip
            all_goals refine ⟨k + 1, by omega, by omega, ?_⟩
            all_goals (refine Xto _ _ ?_ ?_ <;> simp only [go_sem, optI, Option.getD_some, Option.getD_none, Int.reduceToNat, reduceIte, Nat.reduceEqDiff, Nat.reduceAdd, Nat.reduceMul, Nat.reduceSub, Nat.reduceLT, Nat.reduceLeDiff, reduceCtorEq, Option.some.injEq, or_true, true_or] <;> (repeat' with_reducible apply And.intro) <;> (try rfl))
            all_goals first | (rw [hst]; simp [shelfT]; done) | (simp [shelfT]; done) | skip
      · have hk : k = p.shelves.length := by omega
        subst hk
        have e1 : decide ((p.shelves.length : Int) < p.shelves.length) = false := by simp
        repeat' first | refine SW.step good fun K hK => ?_ | refine X2 good fun K hK => ?_ | refine X3 good fun K hK => ?_ | refine SW.seqK fun J hJ => ?_ | refine SW.last good fun K hK => ?_ | (refine hK _ ?_; clear hK K) | (refine hJ _ _ (Wk.refl _) ?_; clear hJ J) | clear hK K | clear hJ J | refine SW.skip ?_ | refine SW.ret ?_ | refine SW.retT ?_ | refine SW.retB ?_ | refine SW.exit ?_ | refine SW.exitT ?_ | refine SW.exitB ?_ | refine XN ?_ | refine SW.block ?_ | refine SW.normB ?_ | refine SW.normT ?_ | refine XT ?_ | refine XF ?_ | refine XC (fun h => ?_) (fun h => ?_) | simp only [go_sem, optI, Option.getD_some, Option.getD_none, Int.reduceToNat, reduceIte, Nat.reduceEqDiff, Nat.reduceAdd, Nat.reduceMul, Nat.reduceSub, Nat.reduceLT, Nat.reduceLeDiff, reduceCtorEq, *] | refine Xs _ (fun h => ?_) (fun h => ?_) | with_reducible refine And.intro ?_ ?_
        all_goals rw [List.take_length]
        all_goals (refine Xrp ?_; simp [resOf, Wn.le, Wn.leL, Wn.cw, C.scal, scal])
end Go.Proofs.Ytbpfciidbgkekaa.AB
