/- Items and shelves that are right. -/
import Derived.Test.YtbpfciidbgkekaaAbFvIdx
namespace Go.Proofs.Ytbpfciidbgkekaa.AB
open Go
set_option maxRecDepth 100000
set_option linter.unusedSimpArgs false
set_option linter.unusedVariables false
def allN (n : Nat) (p : Nat → Bool) : Bool := (List.range n).all p
theorem allN_iff {n : Nat} {p : Nat → Bool} : allN n p = true ↔ ∀ k, k < n → p k = true := by simp [allN]
theorem allN_no {n k : Nat} {p : Nat → Bool} (h : k < n) (hp : p k = false) : allN n p = false := by
  rw [Bool.eq_false_iff, ne_eq, allN_iff]
  intro q; rw [q k h] at hp; cases hp
theorem ac_isPlace (n : Int) : AC Try.prog 132 [vI n] (vB (inB n 0 255)) [] := by
  refine XA good (fn := Try.f132) rfl ?_
  simp only [entry, List.getD_cons_zero, List.getD_cons_succ]
  repeat' first | refine SW.step good fun K hK => ?_ | refine X2 good fun K hK => ?_ | refine X3 good fun K hK => ?_ | refine SW.seqK fun J hJ => ?_ | refine SW.last good fun K hK => ?_ | (refine hK _ ?_; clear hK K) | (refine hJ _ _ (Wk.refl _) ?_; clear hJ J) | clear hK K | clear hJ J | refine SW.skip ?_ | refine SW.ret ?_ | refine SW.retT ?_ | refine SW.retB ?_ | refine SW.exit ?_ | refine SW.exitT ?_ | refine SW.exitB ?_ | refine XN ?_ | refine SW.block ?_ | refine SW.normB ?_ | refine SW.normT ?_ | refine XT ?_ | refine XF ?_ | refine XC (fun h => ?_) (fun h => ?_) | refine X0 ?_ | refine Xv ?_ | refine X1 (ac_in _ _ _) ?_ | simp only [go_sem, optI, Option.getD_some, Option.getD_none, Int.reduceToNat, reduceIte, Nat.reduceEqDiff, Nat.reduceAdd, Nat.reduceMul, Nat.reduceSub, Nat.reduceLT, Nat.reduceLeDiff, reduceCtorEq, *] | refine Xs _ (fun h => ?_) (fun h => ?_) | with_reducible refine And.intro ?_ ?_
  all_goals refine Xrb ?_
  all_goals rfl
def tx (L : List Item) (k : Nat) : List UInt8 := sb ((L[k]?.map Item.text).getD ⟨#[]⟩)
theorem tx_at {L : List Item} {k : Nat} (h : k < L.length) : tx L k = sb L[k].text := by unfold tx; rw [List.getElem?_eq_getElem h]; rfl
def itemAt (L : List Item) : Nat → Bool
  | 0 => decide ((tx L 0).length ≤ 600)
  | k + 1 => decide ((tx L (k + 1)).length ≤ 600) && Op.bytesLess (tx L k) (tx L (k + 1))
def itemsOk (L : List Item) : Bool := decide (L.length ≤ 300) && allN L.length (itemAt L)
set_option maxHeartbeats 2000000 in
theorem ac_l09Items (L : List Item) (hL : L.length ≤ 1048576) : AC Try.prog 158 [.c true (.sl (L.map itemC))] (vB (itemsOk L)) [] := by
  refine XA good (fn := Try.f158) rfl ?_
  simp only [entry, List.getD_cons_zero, List.getD_cons_succ]
  repeat' first | refine SW.step good fun K hK => ?_ | refine X2 good fun K hK => ?_ | refine X3 good fun K hK => ?_ | refine SW.seqK fun J hJ => ?_ | refine SW.last good fun K hK => ?_ | (refine hK _ ?_; clear hK K) | (refine hJ _ _ (Wk.refl _) ?_; clear hJ J) | clear hK K | clear hJ J | refine SW.skip ?_ | refine SW.ret ?_ | refine SW.retT ?_ | refine SW.retB ?_ | refine SW.exit ?_ | refine SW.exitT ?_ | refine SW.exitB ?_ | refine XN ?_ | refine SW.block ?_ | refine SW.normB ?_ | refine SW.normT ?_ | refine XT ?_ | refine XF ?_ | refine XC (fun h => ?_) (fun h => ?_) | simp only [go_sem, optI, Option.getD_some, Option.getD_none, Int.reduceToNat, reduceIte, Nat.reduceEqDiff, Nat.reduceAdd, Nat.reduceMul, Nat.reduceSub, Nat.reduceLT, Nat.reduceLeDiff, reduceCtorEq, *] | refine Xs _ (fun h => ?_) (fun h => ?_) | with_reducible refine And.intro ?_ ?_
  refine SW.loopTo (α := Nat) (fun k => ⟨sl [(0, .c true (.sl (L.map itemC))), (3, vI k)], hl []⟩) (fun k => L.length - k) 0 (fun k => k ≤ L.length ∧ ∀ j, j < k → itemAt L j = true) ?_ ⟨by simp, by simp⟩ ?_
  · (refine Xto _ _ ?_ ?_ <;> simp only [go_sem, optI, Option.getD_some, Option.getD_none, Int.reduceToNat, reduceIte, Nat.reduceEqDiff, Nat.reduceAdd, Nat.reduceMul, Nat.reduceSub, Nat.reduceLT, Nat.reduceLeDiff, reduceCtorEq, Option.some.injEq, or_true, true_or] <;> (repeat' with_reducible apply And.intro) <;> (try rfl))
  · rintro k ⟨h2, h3⟩
    by_cases hk : k < L.length
    · have e := getD_map L itemC [] hk
      have e1 : decide ((k : Int) < L.length) = true := by simp; omega
      have hw : IntKind.i64.wrap ((k : Int) + 1) = ((k + 1 : Nat) : Int) := wrap64 (by omega) (by omega)
      have hx := tx_at hk
      have key : itemAt L k = false → itemsOk L = false := fun q => by unfold itemsOk; rw [allN_no hk q]; simp
      have key2 : itemAt L k = true → ∀ j, j < k + 1 → itemAt L j = true := fun q j hj => by
        by_cases hjk : j < k
        · exact h3 j hjk
        · rw [show j = k by omega]; exact q
      clear h3
      cases k with
      | zero =>
        have g0 : decide ((0 : Int) < ((0 : Nat) : Int)) = false := rfl
        by_cases c1 : (sb L[0].text).length ≤ 600
        · have g1 : decide ((600 : Int) < ((sb L[0].text).length : Int)) = false := by simp; omega
          have hn := key2 (by simp only [itemAt]; rw [hx]; simpa using c1)
          clear key key2 c1 hx
          repeat' first | refine SW.step good fun K hK => ?_ | refine X2 good fun K hK => ?_ | refine X3 good fun K hK => ?_ | refine SW.seqK fun J hJ => ?_ | refine SW.last good fun K hK => ?_ | (refine hK _ ?_; clear hK K) | (refine hJ _ _ (Wk.refl _) ?_; clear hJ J) | clear hK K | clear hJ J | refine SW.skip ?_ | refine SW.ret ?_ | refine SW.retT ?_ | refine SW.retB ?_ | refine SW.exit ?_ | refine SW.exitT ?_ | refine SW.exitB ?_ | refine XN ?_ | refine SW.block ?_ | refine SW.normB ?_ | refine SW.normT ?_ | refine XT ?_ | refine XF ?_ | refine XC (fun h => ?_) (fun h => ?_) | simp only [go_sem, optI, Option.getD_some, Option.getD_none, Int.reduceToNat, reduceIte, Nat.reduceEqDiff, Nat.reduceAdd, Nat.reduceMul, Nat.reduceSub, Nat.reduceLT, Nat.reduceLeDiff, reduceCtorEq, *] | refine Xs _ (fun h => ?_) (fun h => ?_) | with_reducible refine And.intro ?_ ?_
          all_goals first | omega | skip
          all_goals refine ⟨1, ⟨by omega, hn⟩, by omega, ?_⟩
          all_goals (refine Xto _ _ ?_ ?_ <;> simp only [go_sem, optI, Option.getD_some, Option.getD_none, Int.reduceToNat, reduceIte, Nat.reduceEqDiff, Nat.reduceAdd, Nat.reduceMul, Nat.reduceSub, Nat.reduceLT, Nat.reduceLeDiff, reduceCtorEq, Option.some.injEq, or_true, true_or] <;> (repeat' with_reducible apply And.intro) <;> (try rfl))
          all_goals first | rfl | (simp; done) | skip
        · have g1 : decide ((600 : Int) < ((sb L[0].text).length : Int)) = true := by simp; omega
          have hn := key (by simp only [itemAt]; rw [hx]; simpa using c1)
          clear key key2 c1 hx
          repeat' first | refine SW.step good fun K hK => ?_ | refine X2 good fun K hK => ?_ | refine X3 good fun K hK => ?_ | refine SW.seqK fun J hJ => ?_ | refine SW.last good fun K hK => ?_ | (refine hK _ ?_; clear hK K) | (refine hJ _ _ (Wk.refl _) ?_; clear hJ J) | clear hK K | clear hJ J | refine SW.skip ?_ | refine SW.ret ?_ | refine SW.retT ?_ | refine SW.retB ?_ | refine SW.exit ?_ | refine SW.exitT ?_ | refine SW.exitB ?_ | refine XN ?_ | refine SW.block ?_ | refine SW.normB ?_ | refine SW.normT ?_ | refine XT ?_ | refine XF ?_ | refine XC (fun h => ?_) (fun h => ?_) | simp only [go_sem, optI, Option.getD_some, Option.getD_none, Int.reduceToNat, reduceIte, Nat.reduceEqDiff, Nat.reduceAdd, Nat.reduceMul, Nat.reduceSub, Nat.reduceLT, Nat.reduceLeDiff, reduceCtorEq, *] | refine Xs _ (fun h => ?_) (fun h => ?_) | with_reducible refine And.intro ?_ ?_
          all_goals first | omega | skip
          all_goals refine Xrb ?_
          all_goals first | exact hn | rfl
      | succ k =>
        have hk' : k < L.length := by omega
        have hx' := tx_at hk'
        have e' := getD_map L itemC [] hk'
        have g0 : decide ((0 : Int) < ((k + 1 : Nat) : Int)) = true := by rw [decide_eq_true_eq]; omega
        have hw2 : IntKind.i64.wrap (((k + 1 : Nat) : Int) - 1) = (k : Int) := by rw [wrap64 (by omega) (by omega)]; try omega
        by_cases c1 : (sb L[k + 1].text).length ≤ 600
        · have g1 : decide ((600 : Int) < ((sb L[k + 1].text).length : Int)) = false := by simp; omega
          cases c2 : Op.bytesLess (sb L[k].text) (sb L[k + 1].text) with
          | true =>
            have hn := key2 (by simp only [itemAt]; rw [hx, hx', c2]; simpa using c1)
            clear key key2 c1 hx hx'
            repeat' first | refine SW.step good fun K hK => ?_ | refine X2 good fun K hK => ?_ | refine X3 good fun K hK => ?_ | refine SW.seqK fun J hJ => ?_ | refine SW.last good fun K hK => ?_ | (refine hK _ ?_; clear hK K) | (refine hJ _ _ (Wk.refl _) ?_; clear hJ J) | clear hK K | clear hJ J | refine SW.skip ?_ | refine SW.ret ?_ | refine SW.retT ?_ | refine SW.retB ?_ | refine SW.exit ?_ | refine SW.exitT ?_ | refine SW.exitB ?_ | refine XN ?_ | refine SW.block ?_ | refine SW.normB ?_ | refine SW.normT ?_ | refine XT ?_ | refine XF ?_ | refine XC (fun h => ?_) (fun h => ?_) | simp only [go_sem, optI, Option.getD_some, Option.getD_none, Int.reduceToNat, reduceIte, Nat.reduceEqDiff, Nat.reduceAdd, Nat.reduceMul, Nat.reduceSub, Nat.reduceLT, Nat.reduceLeDiff, reduceCtorEq, *] | refine Xs _ (fun h => ?_) (fun h => ?_) | with_reducible refine And.intro ?_ ?_
            all_goals first | omega | skip
            all_goals refine ⟨k + 1 + 1, ⟨by omega, hn⟩, by omega, ?_⟩
            all_goals (refine Xto _ _ ?_ ?_ <;> simp only [go_sem, optI, Option.getD_some, Option.getD_none, Int.reduceToNat, reduceIte, Nat.reduceEqDiff, Nat.reduceAdd, Nat.reduceMul, Nat.reduceSub, Nat.reduceLT, Nat.reduceLeDiff, reduceCtorEq, Option.some.injEq, or_true, true_or] <;> (repeat' with_reducible apply And.intro) <;> (try rfl))
          | false =>
            have hn := key (by simp only [itemAt]; rw [hx, hx', c2]; simp)
            clear key key2 c1 hx hx'
            repeat' first | refine SW.step good fun K hK => ?_ | refine X2 good fun K hK => ?_ | refine X3 good fun K hK => ?_ | refine SW.seqK fun J hJ => ?_ | refine SW.last good fun K hK => ?_ | (refine hK _ ?_; clear hK K) | (refine hJ _ _ (Wk.refl _) ?_; clear hJ J) | clear hK K | clear hJ J | refine SW.skip ?_ | refine SW.ret ?_ | refine SW.retT ?_ | refine SW.retB ?_ | refine SW.exit ?_ | refine SW.exitT ?_ | refine SW.exitB ?_ | refine XN ?_ | refine SW.block ?_ | refine SW.normB ?_ | refine SW.normT ?_ | refine XT ?_ | refine XF ?_ | refine XC (fun h => ?_) (fun h => ?_) | simp only [go_sem, optI, Option.getD_some, Option.getD_none, Int.reduceToNat, reduceIte, Nat.reduceEqDiff, Nat.reduceAdd, Nat.reduceMul, Nat.reduceSub, Nat.reduceLT, Nat.reduceLeDiff, reduceCtorEq, *] | refine Xs _ (fun h => ?_) (fun h => ?_) | with_reducible refine And.intro ?_ ?_
            all_goals first | omega | skip
            all_goals refine Xrb ?_
            all_goals first | exact hn | rfl
        · have g1 : decide ((600 : Int) < ((sb L[k + 1].text).length : Int)) = true := by simp; omega
          have hn := key (by simp only [itemAt]; rw [hx, show decide ((sb L[k + 1].text).length ≤ 600) = false from by simpa using c1]; rfl)
          clear key key2 c1 hx hx'
          repeat' first | refine SW.step good fun K hK => ?_ | refine X2 good fun K hK => ?_ | refine X3 good fun K hK => ?_ | refine SW.seqK fun J hJ => ?_ | refine SW.last good fun K hK => ?_ | (refine hK _ ?_; clear hK K) | (refine hJ _ _ (Wk.refl _) ?_; clear hJ J) | clear hK K | clear hJ J | refine SW.skip ?_ | refine SW.ret ?_ | refine SW.retT ?_ | refine SW.retB ?_ | refine SW.exit ?_ | refine SW.exitT ?_ | refine SW.exitB ?_ | refine XN ?_ | refine SW.block ?_ | refine SW.normB ?_ | refine SW.normT ?_ | refine XT ?_ | refine XF ?_ | refine XC (fun h => ?_) (fun h => ?_) | simp only [go_sem, optI, Option.getD_some, Option.getD_none, Int.reduceToNat, reduceIte, Nat.reduceEqDiff, Nat.reduceAdd, Nat.reduceMul, Nat.reduceSub, Nat.reduceLT, Nat.reduceLeDiff, reduceCtorEq, *] | refine Xs _ (fun h => ?_) (fun h => ?_) | with_reducible refine And.intro ?_ ?_
          all_goals first | omega | skip
          all_goals refine Xrb ?_
          all_goals first | exact hn | rfl
    · have hk : k = L.length := by omega
      subst hk
      have e1 : decide ((L.length : Int) < L.length) = false := by simp
      have hall : allN L.length (itemAt L) = true := allN_iff.2 h3
      clear h3
      repeat' first | refine SW.step good fun K hK => ?_ | refine X2 good fun K hK => ?_ | refine X3 good fun K hK => ?_ | refine SW.seqK fun J hJ => ?_ | refine SW.last good fun K hK => ?_ | (refine hK _ ?_; clear hK K) | (refine hJ _ _ (Wk.refl _) ?_; clear hJ J) | clear hK K | clear hJ J | refine SW.skip ?_ | refine SW.ret ?_ | refine SW.retT ?_ | refine SW.retB ?_ | refine SW.exit ?_ | refine SW.exitT ?_ | refine SW.exitB ?_ | refine XN ?_ | refine SW.block ?_ | refine SW.normB ?_ | refine SW.normT ?_ | refine XT ?_ | refine XF ?_ | refine XC (fun h => ?_) (fun h => ?_) | simp only [go_sem, optI, Option.getD_some, Option.getD_none, Int.reduceToNat, reduceIte, Nat.reduceEqDiff, Nat.reduceAdd, Nat.reduceMul, Nat.reduceSub, Nat.reduceLT, Nat.reduceLeDiff, reduceCtorEq, *] | refine Xs _ (fun h => ?_) (fun h => ?_) | with_reducible refine And.intro ?_ ?_
      all_goals refine Xrb ?_
      all_goals (unfold itemsOk; rw [hall, Bool.and_true]; try (rw [decide_eq_decide]; omega))

def ky (L : List Shelf) (k : Nat) : Int := (L[k]?.map Shelf.key).getD 0
theorem ky_at {L : List Shelf} {k : Nat} (h : k < L.length) : ky L k = L[k].key := by unfold ky; rw [List.getElem?_eq_getElem h]; rfl
def its (L : List Shelf) (k : Nat) : List Item := (L[k]?.map Shelf.items).getD []
theorem its_at {L : List Shelf} {k : Nat} (h : k < L.length) : its L k = L[k].items := by unfold its; rw [List.getElem?_eq_getElem h]; rfl
def shelfAt (L : List Shelf) : Nat → Bool
  | 0 => inB (ky L 0) 0 255 && itemsOk (its L 0)
  | k + 1 => inB (ky L (k + 1)) 0 255 && (decide (ky L k < ky L (k + 1)) && itemsOk (its L (k + 1)))
def shelvesOk (L : List Shelf) : Bool := decide (L.length ≤ 80) && allN L.length (shelfAt L)
def itemsIn (L : List Item) : Bool := allN L.length (itemAt L)
end Go.Proofs.Ytbpfciidbgkekaa.AB
