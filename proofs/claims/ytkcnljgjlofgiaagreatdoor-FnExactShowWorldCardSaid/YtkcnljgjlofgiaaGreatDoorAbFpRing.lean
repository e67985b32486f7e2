/- Rings: measured. Sizes: a list's is its length and its elements' sizes. -/
import Derived.Test.YtkcnljgjlofgiaaGreatDoorAbFgRing
namespace Go.Proofs.YtkcnljgjlofgiaaGreatDoor.AB
open Go
set_option maxRecDepth 100000
set_option linter.unusedSimpArgs false
set_option linter.unusedVariables false
def sumOf {α : Type} (f : α → Nat) (L : List α) : Nat := (L.map f).sum
theorem sumOf_take {α : Type} (f : α → Nat) (L : List α) {k : Nat} (h : k < L.length) : sumOf f (L.take (k + 1)) = sumOf f (L.take k) + f L[k] := by
  unfold sumOf
  rw [List.take_add_one, List.getElem?_eq_getElem h, List.map_append, List.sum_append]; simp
theorem sumOf_le {α : Type} (f : α → Nat) (L : List α) (k : Nat) : sumOf f (L.take k) ≤ sumOf f L := by
  have h := congrArg (sumOf f) (List.take_append_drop k L)
  unfold sumOf at h ⊢
  rw [List.map_append, List.sum_append] at h; omega
def itemSz (x : Item) : Nat := (sb x.text).length
def itemsSz (L : List Item) : Nat := L.length + sumOf itemSz L
def shelfSz (s : Shelf) : Nat := itemsSz s.items
def shelvesSz (L : List Shelf) : Nat := L.length + sumOf shelfSz L
def peerSz (p : Peer) : Nat := p.behind.length + p.fingers.length + shelvesSz p.shelves
def peersSz (L : List Peer) : Nat := L.length + sumOf peerSz L
theorem ac_szItem (e : Item) (left : Int) (h0 : 0 ≤ left) (h1 : left ≤ 1048576) (he : itemSz e ≤ 9223372036854775807) : AC Tryz.prog 122 [encItem e, vI left] (vI (szOf (itemSz e) left)) [] := by
  unfold itemSz at he ⊢
  refine XA good (fn := Tryz.f122) rfl ?_
  simp only [entry, List.getD_cons_zero, List.getD_cons_succ]
  repeat' first | refine SW.step good fun K hK => ?_ | refine X2 good fun K hK => ?_ | refine X3 good fun K hK => ?_ | refine SW.seqK fun J hJ => ?_ | refine SW.last good fun K hK => ?_ | (refine hK _ ?_; clear hK K) | (refine hJ _ _ (Wk.refl _) ?_; clear hJ J) | clear hK K | clear hJ J | refine SW.skip ?_ | refine SW.ret ?_ | refine SW.retT ?_ | refine SW.retB ?_ | refine SW.exit ?_ | refine SW.exitT ?_ | refine SW.exitB ?_ | refine XN ?_ | refine SW.block ?_ | refine SW.normB ?_ | refine SW.normT ?_ | refine XT ?_ | refine XF ?_ | refine XC (fun h => ?_) (fun h => ?_) | simp only [go_sem, optI, Option.getD_some, Option.getD_none, Int.reduceToNat, reduceIte, Nat.reduceEqDiff, Nat.reduceAdd, Nat.reduceMul, Nat.reduceSub, Nat.reduceLT, Nat.reduceLeDiff, reduceCtorEq, *] | refine Xs _ (fun h => ?_) (fun h => ?_) | with_reducible refine And.intro ?_ ?_
  all_goals first | (intro r hr; simp at hr; subst hr; rfl) | (simp [bytesC]; omega) | (simp; done) | omega | rfl | skip
  all_goals (rw [wrap64 (by omega) (by omega)] at h; simp only [decide_eq_true_eq, decide_eq_false_iff_not] at h)
  all_goals refine Xri ?_
  · unfold szOf; rw [if_pos (by omega)]
  · unfold szOf; rw [if_neg (by omega), wrap64 (by omega) (by omega)]
set_option maxHeartbeats 1000000 in
theorem ac_szItemS (L : List Item) (left : Int) (h0 : 0 ≤ left) (h1 : left ≤ 1048576) (hL : L.length ≤ 9223372036854775807) (hT : ∀ e, e ∈ L → itemSz e ≤ 9223372036854775807) :
    AC Tryz.prog 109 [.c true (.sl (L.map itemC)), vI left] (vI (szOf (itemsSz L) left)) [] := by
  refine XA good (fn := Tryz.f109) rfl ?_
  simp only [entry, List.getD_cons_zero, List.getD_cons_succ]
  repeat' first | refine SW.step good fun K hK => ?_ | refine X2 good fun K hK => ?_ | refine X3 good fun K hK => ?_ | refine SW.seqK fun J hJ => ?_ | refine SW.last good fun K hK => ?_ | (refine hK _ ?_; clear hK K) | (refine hJ _ _ (Wk.refl _) ?_; clear hJ J) | clear hK K | clear hJ J | refine SW.skip ?_ | refine SW.ret ?_ | refine SW.retT ?_ | refine SW.retB ?_ | refine SW.exit ?_ | refine SW.exitT ?_ | refine SW.exitB ?_ | refine XN ?_ | refine SW.block ?_ | refine SW.normB ?_ | refine SW.normT ?_ | refine XT ?_ | refine XF ?_ | refine XC (fun h => ?_) (fun h => ?_) | simp only [go_sem, optI, Option.getD_some, Option.getD_none, Int.reduceToNat, reduceIte, Nat.reduceEqDiff, Nat.reduceAdd, Nat.reduceMul, Nat.reduceSub, Nat.reduceLT, Nat.reduceLeDiff, reduceCtorEq, *] | refine Xs _ (fun h => ?_) (fun h => ?_) | with_reducible refine And.intro ?_ ?_
  · rw [wrap64 (by omega) (by omega)] at h; simp only [decide_eq_true_eq] at h
    refine Xri ?_
    unfold szOf itemsSz; rw [if_pos (by omega)]
  · rw [wrap64 (by omega) (by omega)] at h; simp only [decide_eq_false_iff_not] at h
    refine SW.loopTo (α := Nat) (fun k => ⟨sl [(0, .c true (.sl (L.map itemC))), (1, vI (left - L.length - sumOf itemSz (L.take k))), (5, vI k)], hl []⟩) (fun k => L.length - k) 0 (fun k => k ≤ L.length ∧ L.length + sumOf itemSz (L.take k) ≤ left) ?_ ⟨by simp, by simp [sumOf]; omega⟩ ?_
    · (refine Xto _ _ ?_ ?_ <;> simp only [go_sem, optI, Option.getD_some, Option.getD_none, Int.reduceToNat, reduceIte, Nat.reduceEqDiff, Nat.reduceAdd, Nat.reduceMul, Nat.reduceSub, Nat.reduceLT, Nat.reduceLeDiff, reduceCtorEq, Option.some.injEq, or_true, true_or] <;> (repeat' with_reducible apply And.intro) <;> (try rfl))
      all_goals (simp [sumOf]; rw [wrap64 (by omega) (by omega)])
    · rintro k ⟨h2, h3⟩
      by_cases hk : k < L.length
      · have e := getD_map L itemC [] hk
        have e1 : decide ((k : Int) < L.length) = true := by simp; omega
        have ht := sumOf_take itemSz L hk
        have hle := sumOf_le itemSz L (k + 1)
        have hh := hT L[k] (List.getElem_mem hk)
        repeat' first | refine SW.step good fun K hK => ?_ | refine X2 good fun K hK => ?_ | refine X3 good fun K hK => ?_ | refine SW.seqK fun J hJ => ?_ | refine SW.last good fun K hK => ?_ | (refine hK _ ?_; clear hK K) | (refine hJ _ _ (Wk.refl _) ?_; clear hJ J) | clear hK K | clear hJ J | refine SW.skip ?_ | refine SW.ret ?_ | refine SW.retT ?_ | refine SW.retB ?_ | refine SW.exit ?_ | refine SW.exitT ?_ | refine SW.exitB ?_ | refine XN ?_ | refine SW.block ?_ | refine SW.normB ?_ | refine SW.normT ?_ | refine XT ?_ | refine XF ?_ | refine XC (fun h => ?_) (fun h => ?_) | refine X0 ?_ | refine Xv ?_ | refine X1 (ac_szItem L[k] _ (by omega) (by omega) hh) ?_ | simp only [go_sem, optI, Option.getD_some, Option.getD_none, Int.reduceToNat, reduceIte, Nat.reduceEqDiff, Nat.reduceAdd, Nat.reduceMul, Nat.reduceSub, Nat.reduceLT, Nat.reduceLeDiff, reduceCtorEq, *] | refine Xs _ (fun h => ?_) (fun h => ?_) | with_reducible refine And.intro ?_ ?_
        all_goals first | omega | skip
        · have h4 : (left - L.length - sumOf itemSz (L.take k)) < (itemSz L[k] : Int) := by
            apply Classical.byContradiction; intro hn
            simp only [szOf, if_neg hn, decide_eq_true_eq] at h; omega
          refine Xri ?_
          unfold szOf itemsSz; rw [if_pos (by omega)]
        · have h4 : ¬ (left - L.length - sumOf itemSz (L.take k)) < (itemSz L[k] : Int) := by
            intro hn
            simp only [szOf, if_pos hn] at h; cases h
          refine ⟨k + 1, ⟨by omega, by omega⟩, by omega, ?_⟩
          (refine Xto _ _ ?_ ?_ <;> simp only [go_sem, optI, Option.getD_some, Option.getD_none, Int.reduceToNat, reduceIte, Nat.reduceEqDiff, Nat.reduceAdd, Nat.reduceMul, Nat.reduceSub, Nat.reduceLT, Nat.reduceLeDiff, reduceCtorEq, Option.some.injEq, or_true, true_or] <;> (repeat' with_reducible apply And.intro) <;> (try rfl))
          · unfold szOf; rw [if_neg h4, ht]; congr 2; omega
          · rw [wrap64 (by omega) (by omega)]; simp
      · have hk : k = L.length := by omega
        subst hk
        have e1 : decide ((L.length : Int) < L.length) = false := by simp
        repeat' first | refine SW.step good fun K hK => ?_ | refine X2 good fun K hK => ?_ | refine X3 good fun K hK => ?_ | refine SW.seqK fun J hJ => ?_ | refine SW.last good fun K hK => ?_ | (refine hK _ ?_; clear hK K) | (refine hJ _ _ (Wk.refl _) ?_; clear hJ J) | clear hK K | clear hJ J | refine SW.skip ?_ | refine SW.ret ?_ | refine SW.retT ?_ | refine SW.retB ?_ | refine SW.exit ?_ | refine SW.exitT ?_ | refine SW.exitB ?_ | refine XN ?_ | refine SW.block ?_ | refine SW.normB ?_ | refine SW.normT ?_ | refine XT ?_ | refine XF ?_ | refine XC (fun h => ?_) (fun h => ?_) | simp only [go_sem, optI, Option.getD_some, Option.getD_none, Int.reduceToNat, reduceIte, Nat.reduceEqDiff, Nat.reduceAdd, Nat.reduceMul, Nat.reduceSub, Nat.reduceLT, Nat.reduceLeDiff, reduceCtorEq, *] | refine Xs _ (fun h => ?_) (fun h => ?_) | with_reducible refine And.intro ?_ ?_
        all_goals refine Xri ?_
        rw [List.take_length] at h3 ⊢
        unfold szOf itemsSz; rw [if_neg (by omega)]; omega
def Shelf.ok (s : Shelf) : Prop := s.items.length ≤ 9223372036854775807 ∧ ∀ e, e ∈ s.items → itemSz e ≤ 9223372036854775807
theorem ac_szShelf (s : Shelf) (left : Int) (h0 : 0 ≤ left) (h1 : left ≤ 1048576) (he : s.ok) : AC Tryz.prog 94 [encShelf true s, vI left] (vI (szOf (shelfSz s) left)) [] := by
  obtain ⟨he1, he2⟩ := he
  refine XA good (fn := Tryz.f94) rfl ?_
  simp only [entry, List.getD_cons_zero, List.getD_cons_succ]
  repeat' first | refine SW.step good fun K hK => ?_ | refine X2 good fun K hK => ?_ | refine X3 good fun K hK => ?_ | refine SW.seqK fun J hJ => ?_ | refine SW.last good fun K hK => ?_ | (refine hK _ ?_; clear hK K) | (refine hJ _ _ (Wk.refl _) ?_; clear hJ J) | clear hK K | clear hJ J | refine SW.skip ?_ | refine SW.ret ?_ | refine SW.retT ?_ | refine SW.retB ?_ | refine SW.exit ?_ | refine SW.exitT ?_ | refine SW.exitB ?_ | refine XN ?_ | refine SW.block ?_ | refine SW.normB ?_ | refine SW.normT ?_ | refine XT ?_ | refine XF ?_ | refine XC (fun h => ?_) (fun h => ?_) | refine X0 ?_ | refine Xv ?_ | refine X1 (ac_szItemS _ _ h0 h1 he1 he2) ?_ | simp only [go_sem, optI, Option.getD_some, Option.getD_none, Int.reduceToNat, reduceIte, Nat.reduceEqDiff, Nat.reduceAdd, Nat.reduceMul, Nat.reduceSub, Nat.reduceLT, Nat.reduceLeDiff, reduceCtorEq, *] | refine Xs _ (fun h => ?_) (fun h => ?_) | with_reducible refine And.intro ?_ ?_
  all_goals first | (intro r hr; simp at hr; subst hr; rfl) | (simp [bytesC]; omega) | (simp; done) | omega | rfl | skip
  all_goals refine Xri ?_
  all_goals simp only [decide_eq_true_eq, decide_eq_false_iff_not] at h
  · unfold szOf shelfSz at *; split at h <;> simp_all <;> omega
  · rfl
set_option maxHeartbeats 1000000 in
theorem ac_szShelfS (L : List Shelf) (left : Int) (h0 : 0 ≤ left) (h1 : left ≤ 1048576) (hL : L.length ≤ 9223372036854775807) (hT : ∀ e, e ∈ L → e.ok) :
    AC Tryz.prog 77 [.c true (.sl (L.map shelfC)), vI left] (vI (szOf (shelvesSz L) left)) [] := by
  refine XA good (fn := Tryz.f77) rfl ?_
  simp only [entry, List.getD_cons_zero, List.getD_cons_succ]
  repeat' first | refine SW.step good fun K hK => ?_ | refine X2 good fun K hK => ?_ | refine X3 good fun K hK => ?_ | refine SW.seqK fun J hJ => ?_ | refine SW.last good fun K hK => ?_ | (refine hK _ ?_; clear hK K) | (refine hJ _ _ (Wk.refl _) ?_; clear hJ J) | clear hK K | clear hJ J | refine SW.skip ?_ | refine SW.ret ?_ | refine SW.retT ?_ | refine SW.retB ?_ | refine SW.exit ?_ | refine SW.exitT ?_ | refine SW.exitB ?_ | refine XN ?_ | refine SW.block ?_ | refine SW.normB ?_ | refine SW.normT ?_ | refine XT ?_ | refine XF ?_ | refine XC (fun h => ?_) (fun h => ?_) | simp only [go_sem, optI, Option.getD_some, Option.getD_none, Int.reduceToNat, reduceIte, Nat.reduceEqDiff, Nat.reduceAdd, Nat.reduceMul, Nat.reduceSub, Nat.reduceLT, Nat.reduceLeDiff, reduceCtorEq, *] | refine Xs _ (fun h => ?_) (fun h => ?_) | with_reducible refine And.intro ?_ ?_
  · rw [wrap64 (by omega) (by omega)] at h; simp only [decide_eq_true_eq] at h
    refine Xri ?_
    unfold szOf shelvesSz; rw [if_pos (by omega)]
  · rw [wrap64 (by omega) (by omega)] at h; simp only [decide_eq_false_iff_not] at h
    refine SW.loopTo (α := Nat) (fun k => ⟨sl [(0, .c true (.sl (L.map shelfC))), (1, vI (left - L.length - sumOf shelfSz (L.take k))), (5, vI k)], hl []⟩) (fun k => L.length - k) 0 (fun k => k ≤ L.length ∧ L.length + sumOf shelfSz (L.take k) ≤ left) ?_ ⟨by simp, by simp [sumOf]; omega⟩ ?_
    · (refine Xto _ _ ?_ ?_ <;> simp only [go_sem, optI, Option.getD_some, Option.getD_none, Int.reduceToNat, reduceIte, Nat.reduceEqDiff, Nat.reduceAdd, Nat.reduceMul, Nat.reduceSub, Nat.reduceLT, Nat.reduceLeDiff, reduceCtorEq, Option.some.injEq, or_true, true_or] <;> (repeat' with_reducible apply And.intro) <;> (try rfl))
      all_goals (simp [sumOf]; rw [wrap64 (by omega) (by omega)])
    · rintro k ⟨h2, h3⟩
      by_cases hk : k < L.length
      · have e := getD_map L shelfC [] hk
        have e1 : decide ((k : Int) < L.length) = true := by simp; omega
        have ht := sumOf_take shelfSz L hk
        have hle := sumOf_le shelfSz L (k + 1)
        have hh := hT L[k] (List.getElem_mem hk)
        repeat' first | refine SW.step good fun K hK => ?_ | refine X2 good fun K hK => ?_ | refine X3 good fun K hK => ?_ | refine SW.seqK fun J hJ => ?_ | refine SW.last good fun K hK => ?_ | (refine hK _ ?_; clear hK K) | (refine hJ _ _ (Wk.refl _) ?_; clear hJ J) | clear hK K | clear hJ J | refine SW.skip ?_ | refine SW.ret ?_ | refine SW.retT ?_ | refine SW.retB ?_ | refine SW.exit ?_ | refine SW.exitT ?_ | refine SW.exitB ?_ | refine XN ?_ | refine SW.block ?_ | refine SW.normB ?_ | refine SW.normT ?_ | refine XT ?_ | refine XF ?_ | refine XC (fun h => ?_) (fun h => ?_) | refine X0 ?_ | refine Xv ?_ | refine X1 (ac_szShelf L[k] _ (by omega) (by omega) hh) ?_ | simp only [go_sem, optI, Option.getD_some, Option.getD_none, Int.reduceToNat, reduceIte, Nat.reduceEqDiff, Nat.reduceAdd, Nat.reduceMul, Nat.reduceSub, Nat.reduceLT, Nat.reduceLeDiff, reduceCtorEq, *] | refine Xs _ (fun h => ?_) (fun h => ?_) | with_reducible refine And.intro ?_ ?_
        all_goals first | omega | skip
        · have h4 : (left - L.length - sumOf shelfSz (L.take k)) < (shelfSz L[k] : Int) := by
            apply Classical.byContradiction; intro hn
            simp only [szOf, if_neg hn, decide_eq_true_eq] at h; omega
          refine Xri ?_
          unfold szOf shelvesSz; rw [if_pos (by omega)]
        · have h4 : ¬ (left - L.length - sumOf shelfSz (L.take k)) < (shelfSz L[k] : Int) := by
            intro hn
            simp only [szOf, if_pos hn] at h; cases h
          refine ⟨k + 1, ⟨by omega, by omega⟩, by omega, ?_⟩
          (refine Xto _ _ ?_ ?_ <;> simp only [go_sem, optI, Option.getD_some, Option.getD_none, Int.reduceToNat, reduceIte, Nat.reduceEqDiff, Nat.reduceAdd, Nat.reduceMul, Nat.reduceSub, Nat.reduceLT, Nat.reduceLeDiff, reduceCtorEq, Option.some.injEq, or_true, true_or] <;> (repeat' with_reducible apply And.intro) <;> (try rfl))
          · unfold szOf; rw [if_neg h4, ht]; congr 2; omega
          · rw [wrap64 (by omega) (by omega)]; simp
      · have hk : k = L.length := by omega
        subst hk
        have e1 : decide ((L.length : Int) < L.length) = false := by simp
        repeat' first | refine SW.step good fun K hK => ?_ | refine X2 good fun K hK => ?_ | refine X3 good fun K hK => ?_ | refine SW.seqK fun J hJ => ?_ | refine SW.last good fun K hK => ?_ | (refine hK _ ?_; clear hK K) | (refine hJ _ _ (Wk.refl _) ?_; clear hJ J) | clear hK K | clear hJ J | refine SW.skip ?_ | refine SW.ret ?_ | refine SW.retT ?_ | refine SW.retB ?_ | refine SW.exit ?_ | refine SW.exitT ?_ | refine SW.exitB ?_ | refine XN ?_ | refine SW.block ?_ | refine SW.normB ?_ | refine SW.normT ?_ | refine XT ?_ | refine XF ?_ | refine XC (fun h => ?_) (fun h => ?_) | simp only [go_sem, optI, Option.getD_some, Option.getD_none, Int.reduceToNat, reduceIte, Nat.reduceEqDiff, Nat.reduceAdd, Nat.reduceMul, Nat.reduceSub, Nat.reduceLT, Nat.reduceLeDiff, reduceCtorEq, *] | refine Xs _ (fun h => ?_) (fun h => ?_) | with_reducible refine And.intro ?_ ?_
        all_goals refine Xri ?_
        rw [List.take_length] at h3 ⊢
        unfold szOf shelvesSz; rw [if_neg (by omega)]; omega
theorem ac_szIntS (L : List Int) (left : Int) (h0 : 0 ≤ left) (h1 : left ≤ 1048576) (hL : L.length ≤ 9223372036854775807) : AC Tryz.prog 10 [.c true (.sl (L.map intC)), vI left] (vI (szOf L.length left)) [] := by
  refine XA good (fn := Tryz.f10) rfl ?_
  simp only [entry, List.getD_cons_zero, List.getD_cons_succ]
  repeat' first | refine SW.step good fun K hK => ?_ | refine X2 good fun K hK => ?_ | refine X3 good fun K hK => ?_ | refine SW.seqK fun J hJ => ?_ | refine SW.last good fun K hK => ?_ | (refine hK _ ?_; clear hK K) | (refine hJ _ _ (Wk.refl _) ?_; clear hJ J) | clear hK K | clear hJ J | refine SW.skip ?_ | refine SW.ret ?_ | refine SW.retT ?_ | refine SW.retB ?_ | refine SW.exit ?_ | refine SW.exitT ?_ | refine SW.exitB ?_ | refine XN ?_ | refine SW.block ?_ | refine SW.normB ?_ | refine SW.normT ?_ | refine XT ?_ | refine XF ?_ | refine XC (fun h => ?_) (fun h => ?_) | simp only [go_sem, optI, Option.getD_some, Option.getD_none, Int.reduceToNat, reduceIte, Nat.reduceEqDiff, Nat.reduceAdd, Nat.reduceMul, Nat.reduceSub, Nat.reduceLT, Nat.reduceLeDiff, reduceCtorEq, *] | refine Xs _ (fun h => ?_) (fun h => ?_) | with_reducible refine And.intro ?_ ?_
  all_goals (rw [wrap64 (by omega) (by omega)] at h; simp only [decide_eq_true_eq, decide_eq_false_iff_not] at h)
  all_goals refine Xri ?_
  · unfold szOf; rw [if_pos (by omega)]
  · unfold szOf; rw [if_neg (by omega), wrap64 (by omega) (by omega)]
theorem szOf_n {n : Nat} {l : Int} (h : l < n) : szOf n l = -1 := by unfold szOf; rw [if_pos h]
theorem szOf_p {n : Nat} {l : Int} (h : ¬ l < n) : szOf n l = l - n := by unfold szOf; rw [if_neg h]
def Peer.ok (p : Peer) : Prop := p.behind.length ≤ 9223372036854775807 ∧ p.fingers.length ≤ 9223372036854775807 ∧ p.shelves.length ≤ 9223372036854775807 ∧ ∀ s, s ∈ p.shelves → s.ok
theorem ac_szPeer (p : Peer) (left : Int) (h0 : 0 ≤ left) (h1 : left ≤ 1048576) (hp : p.ok) : AC Tryz.prog 54 [encPeer true p, vI left] (vI (szOf (peerSz p) left)) [] := by
  obtain ⟨p1, p2, p3, p4⟩ := hp
  have a1 := ac_szIntS p.behind left h0 h1 p1
  by_cases c1 : left < p.behind.length
  · rw [szOf_n c1] at a1
    rw [szOf_n (show left < (peerSz p : Nat) by unfold peerSz; omega)]
    refine XA good (fn := Tryz.f54) rfl ?_
    simp only [entry, List.getD_cons_zero, List.getD_cons_succ]
    repeat' first | refine SW.step good fun K hK => ?_ | refine X2 good fun K hK => ?_ | refine X3 good fun K hK => ?_ | refine SW.seqK fun J hJ => ?_ | refine SW.last good fun K hK => ?_ | (refine hK _ ?_; clear hK K) | (refine hJ _ _ (Wk.refl _) ?_; clear hJ J) | clear hK K | clear hJ J | refine SW.skip ?_ | refine SW.ret ?_ | refine SW.retT ?_ | refine SW.retB ?_ | refine SW.exit ?_ | refine SW.exitT ?_ | refine SW.exitB ?_ | refine XN ?_ | refine SW.block ?_ | refine SW.normB ?_ | refine SW.normT ?_ | refine XT ?_ | refine XF ?_ | refine XC (fun h => ?_) (fun h => ?_) | refine X0 ?_ | refine Xv ?_ | refine X1 (a1) ?_ | simp only [go_sem, optI, Option.getD_some, Option.getD_none, Int.reduceToNat, reduceIte, Nat.reduceEqDiff, Nat.reduceAdd, Nat.reduceMul, Nat.reduceSub, Nat.reduceLT, Nat.reduceLeDiff, reduceCtorEq, *] | refine Xs _ (fun h => ?_) (fun h => ?_) | with_reducible refine And.intro ?_ ?_
    all_goals (refine Xri ?_; rfl)
  · rw [szOf_p c1] at a1
    have e1 : decide (left - p.behind.length < 0) = false := by simp only [decide_eq_false_iff_not]; omega
    have a2 := ac_szIntS p.fingers (left - p.behind.length) (by omega) (by omega) p2
    by_cases c2 : left - p.behind.length < p.fingers.length
    · rw [szOf_n c2] at a2
      rw [szOf_n (show left < (peerSz p : Nat) by unfold peerSz; omega)]
      refine XA good (fn := Tryz.f54) rfl ?_
      simp only [entry, List.getD_cons_zero, List.getD_cons_succ]
      repeat' first | refine SW.step good fun K hK => ?_ | refine X2 good fun K hK => ?_ | refine X3 good fun K hK => ?_ | refine SW.seqK fun J hJ => ?_ | refine SW.last good fun K hK => ?_ | (refine hK _ ?_; clear hK K) | (refine hJ _ _ (Wk.refl _) ?_; clear hJ J) | clear hK K | clear hJ J | refine SW.skip ?_ | refine SW.ret ?_ | refine SW.retT ?_ | refine SW.retB ?_ | refine SW.exit ?_ | refine SW.exitT ?_ | refine SW.exitB ?_ | refine XN ?_ | refine SW.block ?_ | refine SW.normB ?_ | refine SW.normT ?_ | refine XT ?_ | refine XF ?_ | refine XC (fun h => ?_) (fun h => ?_) | refine X0 ?_ | refine Xv ?_ | refine X1 (a1) ?_ | refine X1 (a2) ?_ | simp only [go_sem, optI, Option.getD_some, Option.getD_none, Int.reduceToNat, reduceIte, Nat.reduceEqDiff, Nat.reduceAdd, Nat.reduceMul, Nat.reduceSub, Nat.reduceLT, Nat.reduceLeDiff, reduceCtorEq, *] | refine Xs _ (fun h => ?_) (fun h => ?_) | with_reducible refine And.intro ?_ ?_
      all_goals (refine Xri ?_; rfl)
    · rw [szOf_p c2] at a2
      have e2 : decide (left - p.behind.length - p.fingers.length < 0) = false := by simp only [decide_eq_false_iff_not]; omega
      have a3 := ac_szShelfS p.shelves (left - p.behind.length - p.fingers.length) (by omega) (by omega) p3 p4
      by_cases c3 : left - p.behind.length - p.fingers.length < shelvesSz p.shelves
      · rw [szOf_n c3] at a3
        rw [szOf_n (show left < (peerSz p : Nat) by unfold peerSz; omega)]
        refine XA good (fn := Tryz.f54) rfl ?_
        simp only [entry, List.getD_cons_zero, List.getD_cons_succ]
        repeat' first | refine SW.step good fun K hK => ?_ | refine X2 good fun K hK => ?_ | refine X3 good fun K hK => ?_ | refine SW.seqK fun J hJ => ?_ | refine SW.last good fun K hK => ?_ | (refine hK _ ?_; clear hK K) | (refine hJ _ _ (Wk.refl _) ?_; clear hJ J) | clear hK K | clear hJ J | refine SW.skip ?_ | refine SW.ret ?_ | refine SW.retT ?_ | refine SW.retB ?_ | refine SW.exit ?_ | refine SW.exitT ?_ | refine SW.exitB ?_ | refine XN ?_ | refine SW.block ?_ | refine SW.normB ?_ | refine SW.normT ?_ | refine XT ?_ | refine XF ?_ | refine XC (fun h => ?_) (fun h => ?_) | refine X0 ?_ | refine Xv ?_ | refine X1 (a1) ?_ | refine X1 (a2) ?_ | refine X1 (a3) ?_ | simp only [go_sem, optI, Option.getD_some, Option.getD_none, Int.reduceToNat, reduceIte, Nat.reduceEqDiff, Nat.reduceAdd, Nat.reduceMul, Nat.reduceSub, Nat.reduceLT, Nat.reduceLeDiff, reduceCtorEq, *] | refine Xs _ (fun h => ?_) (fun h => ?_) | with_reducible refine And.intro ?_ ?_
        all_goals (refine Xri ?_; rfl)
      · rw [szOf_p c3] at a3
        have e3 : decide (left - p.behind.length - p.fingers.length - shelvesSz p.shelves < 0) = false := by simp only [decide_eq_false_iff_not]; omega
        rw [szOf_p (show ¬ left < (peerSz p : Nat) by unfold peerSz; omega)]
        refine XA good (fn := Tryz.f54) rfl ?_
        simp only [entry, List.getD_cons_zero, List.getD_cons_succ]
        repeat' first | refine SW.step good fun K hK => ?_ | refine X2 good fun K hK => ?_ | refine X3 good fun K hK => ?_ | refine SW.seqK fun J hJ => ?_ | refine SW.last good fun K hK => ?_ | (refine hK _ ?_; clear hK K) | (refine hJ _ _ (Wk.refl _) ?_; clear hJ J) | clear hK K | clear hJ J | refine SW.skip ?_ | refine SW.ret ?_ | refine SW.retT ?_ | refine SW.retB ?_ | refine SW.exit ?_ | refine SW.exitT ?_ | refine SW.exitB ?_ | refine XN ?_ | refine SW.block ?_ | refine SW.normB ?_ | refine SW.normT ?_ | refine XT ?_ | refine XF ?_ | refine XC (fun h => ?_) (fun h => ?_) | refine X0 ?_ | refine Xv ?_ | refine X1 (a1) ?_ | refine X1 (a2) ?_ | refine X1 (a3) ?_ | simp only [go_sem, optI, Option.getD_some, Option.getD_none, Int.reduceToNat, reduceIte, Nat.reduceEqDiff, Nat.reduceAdd, Nat.reduceMul, Nat.reduceSub, Nat.reduceLT, Nat.reduceLeDiff, reduceCtorEq, *] | refine Xs _ (fun h => ?_) (fun h => ?_) | with_reducible refine And.intro ?_ ?_
        all_goals (refine Xri ?_; unfold peerSz; omega)
set_option maxHeartbeats 1000000 in
theorem ac_szPeerS (L : List Peer) (left : Int) (h0 : 0 ≤ left) (h1 : left ≤ 1048576) (hL : L.length ≤ 9223372036854775807) (hT : ∀ e, e ∈ L → e.ok) :
    AC Tryz.prog 29 [.c true (.sl (L.map peerC)), vI left] (vI (szOf (peersSz L) left)) [] := by
  refine XA good (fn := Tryz.f29) rfl ?_
  simp only [entry, List.getD_cons_zero, List.getD_cons_succ]
  repeat' first | refine SW.step good fun K hK => ?_ | refine X2 good fun K hK => ?_ | refine X3 good fun K hK => ?_ | refine SW.seqK fun J hJ => ?_ | refine SW.last good fun K hK => ?_ | (refine hK _ ?_; clear hK K) | (refine hJ _ _ (Wk.refl _) ?_; clear hJ J) | clear hK K | clear hJ J | refine SW.skip ?_ | refine SW.ret ?_ | refine SW.retT ?_ | refine SW.retB ?_ | refine SW.exit ?_ | refine SW.exitT ?_ | refine SW.exitB ?_ | refine XN ?_ | refine SW.block ?_ | refine SW.normB ?_ | refine SW.normT ?_ | refine XT ?_ | refine XF ?_ | refine XC (fun h => ?_) (fun h => ?_) | simp only [go_sem, optI, Option.getD_some, Option.getD_none, Int.reduceToNat, reduceIte, Nat.reduceEqDiff, Nat.reduceAdd, Nat.reduceMul, Nat.reduceSub, Nat.reduceLT, Nat.reduceLeDiff, reduceCtorEq, *] | refine Xs _ (fun h => ?_) (fun h => ?_) | with_reducible refine And.intro ?_ ?_
  · rw [wrap64 (by omega) (by omega)] at h; simp only [decide_eq_true_eq] at h
    refine Xri ?_
    unfold szOf peersSz; rw [if_pos (by omega)]
  · rw [wrap64 (by omega) (by omega)] at h; simp only [decide_eq_false_iff_not] at h
    refine SW.loopTo (α := Nat) (fun k => ⟨sl [(0, .c true (.sl (L.map peerC))), (1, vI (left - L.length - sumOf peerSz (L.take k))), (5, vI k)], hl []⟩) (fun k => L.length - k) 0 (fun k => k ≤ L.length ∧ L.length + sumOf peerSz (L.take k) ≤ left) ?_ ⟨by simp, by simp [sumOf]; omega⟩ ?_
    · (refine Xto _ _ ?_ ?_ <;> simp only [go_sem, optI, Option.getD_some, Option.getD_none, Int.reduceToNat, reduceIte, Nat.reduceEqDiff, Nat.reduceAdd, Nat.reduceMul, Nat.reduceSub, Nat.reduceLT, Nat.reduceLeDiff, reduceCtorEq, Option.some.injEq, or_true, true_or] <;> (repeat' with_reducible apply And.intro) <;> (try rfl))
      all_goals (simp [sumOf]; rw [wrap64 (by omega) (by omega)])
    · rintro k ⟨h2, h3⟩
      by_cases hk : k < L.length
      · have e := getD_map L peerC [] hk
        have e1 : decide ((k : Int) < L.length) = true := by simp; omega
        have ht := sumOf_take peerSz L hk
        have hle := sumOf_le peerSz L (k + 1)
        have hh := hT L[k] (List.getElem_mem hk)
        repeat' first | refine SW.step good fun K hK => ?_ | refine X2 good fun K hK => ?_ | refine X3 good fun K hK => ?_ | refine SW.seqK fun J hJ => ?_ | refine SW.last good fun K hK => ?_ | (refine hK _ ?_; clear hK K) | (refine hJ _ _ (Wk.refl _) ?_; clear hJ J) | clear hK K | clear hJ J | refine SW.skip ?_ | refine SW.ret ?_ | refine SW.retT ?_ | refine SW.retB ?_ | refine SW.exit ?_ | refine SW.exitT ?_ | refine SW.exitB ?_ | refine XN ?_ | refine SW.block ?_ | refine SW.normB ?_ | refine SW.normT ?_ | refine XT ?_ | refine XF ?_ | refine XC (fun h => ?_) (fun h => ?_) | refine X0 ?_ | refine Xv ?_ | refine X1 (ac_szPeer L[k] _ (by omega) (by omega) hh) ?_ | simp only [go_sem, optI, Option.getD_some, Option.getD_none, Int.reduceToNat, reduceIte, Nat.reduceEqDiff, Nat.reduceAdd, Nat.reduceMul, Nat.reduceSub, Nat.reduceLT, Nat.reduceLeDiff, reduceCtorEq, *] | refine Xs _ (fun h => ?_) (fun h => ?_) | with_reducible refine And.intro ?_ ?_
        all_goals first | omega | skip
        · have h4 : (left - L.length - sumOf peerSz (L.take k)) < (peerSz L[k] : Int) := by
            apply Classical.byContradiction; intro hn
            simp only [szOf, if_neg hn, decide_eq_true_eq] at h; omega
          refine Xri ?_
          unfold szOf peersSz; rw [if_pos (by omega)]
        · have h4 : ¬ (left - L.length - sumOf peerSz (L.take k)) < (peerSz L[k] : Int) := by
            intro hn
            simp only [szOf, if_pos hn] at h; cases h
          refine ⟨k + 1, ⟨by omega, by omega⟩, by omega, ?_⟩
          (refine Xto _ _ ?_ ?_ <;> simp only [go_sem, optI, Option.getD_some, Option.getD_none, Int.reduceToNat, reduceIte, Nat.reduceEqDiff, Nat.reduceAdd, Nat.reduceMul, Nat.reduceSub, Nat.reduceLT, Nat.reduceLeDiff, reduceCtorEq, Option.some.injEq, or_true, true_or] <;> (repeat' with_reducible apply And.intro) <;> (try rfl))
          · unfold szOf; rw [if_neg h4, ht]; congr 2; omega
          · rw [wrap64 (by omega) (by omega)]; simp
      · have hk : k = L.length := by omega
        subst hk
        have e1 : decide ((L.length : Int) < L.length) = false := by simp
        repeat' first | refine SW.step good fun K hK => ?_ | refine X2 good fun K hK => ?_ | refine X3 good fun K hK => ?_ | refine SW.seqK fun J hJ => ?_ | refine SW.last good fun K hK => ?_ | (refine hK _ ?_; clear hK K) | (refine hJ _ _ (Wk.refl _) ?_; clear hJ J) | clear hK K | clear hJ J | refine SW.skip ?_ | refine SW.ret ?_ | refine SW.retT ?_ | refine SW.retB ?_ | refine SW.exit ?_ | refine SW.exitT ?_ | refine SW.exitB ?_ | refine XN ?_ | refine SW.block ?_ | refine SW.normB ?_ | refine SW.normT ?_ | refine XT ?_ | refine XF ?_ | refine XC (fun h => ?_) (fun h => ?_) | simp only [go_sem, optI, Option.getD_some, Option.getD_none, Int.reduceToNat, reduceIte, Nat.reduceEqDiff, Nat.reduceAdd, Nat.reduceMul, Nat.reduceSub, Nat.reduceLT, Nat.reduceLeDiff, reduceCtorEq, *] | refine Xs _ (fun h => ?_) (fun h => ?_) | with_reducible refine And.intro ?_ ?_
        all_goals refine Xri ?_
        rw [List.take_length] at h3 ⊢
        unfold szOf peersSz; rw [if_neg (by omega)]; omega
theorem ac_szRing (L : List Peer) (left : Int) (h0 : 0 ≤ left) (h1 : left ≤ 1048576) (hL : L.length ≤ 9223372036854775807) (hT : ∀ p, p ∈ L → p.ok) : AC Tryz.prog 9 [encRing true L, vI left] (vI (szOf (peersSz L) left)) [] := by
  refine XA good (fn := Tryz.f9) rfl ?_
  simp only [entry, List.getD_cons_zero, List.getD_cons_succ]
  repeat' first | refine SW.step good fun K hK => ?_ | refine X2 good fun K hK => ?_ | refine X3 good fun K hK => ?_ | refine SW.seqK fun J hJ => ?_ | refine SW.last good fun K hK => ?_ | (refine hK _ ?_; clear hK K) | (refine hJ _ _ (Wk.refl _) ?_; clear hJ J) | clear hK K | clear hJ J | refine SW.skip ?_ | refine SW.ret ?_ | refine SW.retT ?_ | refine SW.retB ?_ | refine SW.exit ?_ | refine SW.exitT ?_ | refine SW.exitB ?_ | refine XN ?_ | refine SW.block ?_ | refine SW.normB ?_ | refine SW.normT ?_ | refine XT ?_ | refine XF ?_ | refine XC (fun h => ?_) (fun h => ?_) | refine X0 ?_ | refine Xv ?_ | refine X1 (ac_szPeerS _ _ h0 h1 hL hT) ?_ | simp only [go_sem, optI, Option.getD_some, Option.getD_none, Int.reduceToNat, reduceIte, Nat.reduceEqDiff, Nat.reduceAdd, Nat.reduceMul, Nat.reduceSub, Nat.reduceLT, Nat.reduceLeDiff, reduceCtorEq, *] | refine Xs _ (fun h => ?_) (fun h => ?_) | with_reducible refine And.intro ?_ ?_
  all_goals first | (intro r hr; simp at hr; subst hr; rfl) | (simp [bytesC]; omega) | (simp; done) | omega | rfl | skip
  all_goals refine Xri ?_
  all_goals simp only [decide_eq_true_eq, decide_eq_false_iff_not] at h
  · unfold szOf at *; split at h <;> simp_all <;> omega
  · rfl
end Go.Proofs.YtkcnljgjlofgiaaGreatDoor.AB
