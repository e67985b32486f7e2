/- Where two lives part. -/
import Derived.Test.YtbpfciidbgkekaaAbFeEv
namespace Go.Proofs.Ytbpfciidbgkekaa.AB
open Go
set_option maxRecDepth 100000
set_option linter.unusedSimpArgs false
set_option linter.unusedVariables false
def sameEv (x y : Event) : Bool := x.kind == y.kind && (x.place == y.place && (x.num == y.num && (x.cred.kind == y.cred.kind && (x.cred.of.who == y.cred.of.who && (x.cred.of.name == y.cred.of.name && (x.cred.who == y.cred.who && (x.cred.a.who == y.cred.a.who && (x.cred.a.name == y.cred.a.name && (x.cred.b.who == y.cred.b.who && (x.cred.b.name == y.cred.b.name && (x.cred.till == y.cred.till && (x.cred.nonce == y.cred.nonce && (x.text.data.toList == y.text.data.toList)))))))))))))
def apart : List Event → List Event → Nat → Int
  | [], [], _ => -1
  | x :: xs, y :: ys, k => if sameEv x y then apart xs ys (k + 1) else k
  | _, _, k => k
theorem apart_step (L M : List Event) {k : Nat} (h1 : k < L.length) (h2 : k < M.length) : apart (L.drop k) (M.drop k) k = if sameEv L[k] M[k] then apart (L.drop (k + 1)) (M.drop (k + 1)) (k + 1) else k := by
  rw [List.drop_eq_getElem_cons h1, List.drop_eq_getElem_cons h2]; rfl
theorem apart_end (L M : List Event) (h : L.length = M.length) : apart (L.drop L.length) (M.drop L.length) L.length = -1 := by
  rw [List.drop_length, h, List.drop_length]; rfl
theorem apart_l (L M : List Event) (h : L.length < M.length) : apart (L.drop L.length) (M.drop L.length) L.length = L.length := by
  rw [List.drop_length, List.drop_eq_getElem_cons h]; rfl
theorem apart_r (L M : List Event) (h : M.length < L.length) : apart (L.drop M.length) (M.drop M.length) M.length = M.length := by
  rw [List.drop_length, List.drop_eq_getElem_cons h]; rfl
set_option maxHeartbeats 1000000 in
theorem ac_FirstApart (L M : List Event) (hL : L.length ≤ 1048576) (hM : M.length ≤ 1048576) : AC Try.prog 31 [evL L, evL M] (vI (apart L M 0)) [] := by
  refine AC.walk good (fn := Try.f31) rfl (sc := ?sc) (N := ?N) (rv := ?rv) ?hd (by kernel_rfl) ?hn (by simp) ?_
  case hd => (cbv <;> rfl)
  case hn => (simp only [List.length]; decide)
  simp only [entry, List.getD_cons_zero, List.getD_cons_succ]
  simp only [evL]
  repeat' first
    | refine SW.step good fun K hK => ?_
    | refine SW.seqK fun J hJ => ?_
    | refine SW.last good fun K hK => ?_
    | (refine hK _ ?_; clear hK K)
    | (refine hJ _ _ (Wk.refl _) ?_; clear hJ J)
    | clear hK K
    | clear hJ J
    | refine SW.skip ?_
    | refine SW.ret ?_
    | refine SW.retT ?_
    | refine SW.retB ?_
    | refine SW.exit ?_
    | refine SW.exitT ?_
    | refine SW.exitB ?_
    | refine SW.exitN rfl ?_
    | refine SW.block ?_
    | refine SW.normB ?_
    | refine SW.normT ?_
    | refine SW.condT (by simp only [go_sem, reduceIte, Nat.reduceEqDiff, Nat.reduceAdd, Nat.reduceMul, Nat.reduceSub, Nat.reduceLT, Nat.reduceLeDiff, reduceCtorEq] <;> rfl) ?_
    | refine SW.condF (by simp only [go_sem, reduceIte, Nat.reduceEqDiff, Nat.reduceAdd, Nat.reduceMul, Nat.reduceSub, Nat.reduceLT, Nat.reduceLeDiff, reduceCtorEq] <;> rfl) ?_
    | refine SW.cond (by simp only [go_sem, reduceIte, Nat.reduceEqDiff, Nat.reduceAdd, Nat.reduceMul, Nat.reduceSub, Nat.reduceLT, Nat.reduceLeDiff, reduceCtorEq] <;> rfl) (fun h => ?_) (fun h => ?_)
    | simp only [go_sem, reduceIte, Nat.reduceEqDiff, Nat.reduceAdd, Nat.reduceMul, Nat.reduceSub, Nat.reduceLT, Nat.reduceLeDiff, reduceCtorEq, *]
    | refine L_split _ (by simp only [go_sem, reduceIte, Nat.reduceEqDiff, Nat.reduceAdd, Nat.reduceMul, Nat.reduceSub, Nat.reduceLT, Nat.reduceLeDiff, reduceCtorEq] <;> rfl) (fun h => ?_) (fun h => ?_)
    | with_reducible refine And.intro ?_ ?_
  have hmin : (if (M.length : Int) < L.length then (M.length : Int) else L.length) = ((min L.length M.length : Nat) : Int) := by split <;> omega
  refine SW.loopTo (α := Nat) (fun k => ⟨sl [(0, .c true (.sl (L.map evC))), (1, .c true (.sl (M.map evC))), (5, vI (min L.length M.length : Nat)), (12, vI (min L.length M.length : Nat)), (13, vI k)], hl []⟩) (fun k => min L.length M.length - k) 0
    (fun k => k ≤ min L.length M.length ∧ apart (L.drop k) (M.drop k) k = apart L M 0) ?_ ⟨by simp, by simp⟩ ?_
  · (refine Wk.to _ _ [] ?_ (by simp [ren]) ?_ (by simp) <;> simp only [leHl, leSl, toW, ren, Wn.leO, Wn.le, Wn.cw, Wn.leL, go_sem, reduceIte, Nat.reduceEqDiff, Nat.reduceAdd, Nat.reduceMul, Nat.reduceSub, Nat.reduceLT, Nat.reduceLeDiff, reduceCtorEq, Option.some.injEq, exists_eq_left', Ob.row.injEq, Ob.box.injEq, AV.own.injEq, Option.isSome_some, true_and, and_true, or_true, true_or] <;> (repeat' with_reducible apply And.intro) <;> (try rfl))
    all_goals rw [hmin]
  · rintro k ⟨h2, h3⟩
    by_cases hk : k < min L.length M.length
    · have hk1 : k < L.length := by omega
      have hk2 : k < M.length := by omega
      have e := getD_map L evC [] hk1
      have e' := getD_map M evC [] hk2
      have e1 : decide ((k : Int) < (min L.length M.length : Nat)) = true := by simp only [decide_eq_true_eq]; omega
      have hs := apart_step L M hk1 hk2
      by_cases hv : sameEv L[k] M[k] = true
      · rw [if_pos hv] at hs
        have hv' := hv
        simp only [sameEv] at hv'
        repeat' first
          | refine SW.step good fun K hK => ?_
          | refine SW.seqK fun J hJ => ?_
          | refine SW.last good fun K hK => ?_
          | (refine hK _ ?_; clear hK K)
          | (refine hJ _ _ (Wk.refl _) ?_; clear hJ J)
          | clear hK K
          | clear hJ J
          | refine SW.skip ?_
          | refine SW.ret ?_
          | refine SW.retT ?_
          | refine SW.retB ?_
          | refine SW.exit ?_
          | refine SW.exitT ?_
          | refine SW.exitB ?_
          | refine SW.exitN rfl ?_
          | refine SW.block ?_
          | refine SW.normB ?_
          | refine SW.normT ?_
          | refine SW.condT (by simp only [go_sem, reduceIte, Nat.reduceEqDiff, Nat.reduceAdd, Nat.reduceMul, Nat.reduceSub, Nat.reduceLT, Nat.reduceLeDiff, reduceCtorEq] <;> rfl) ?_
          | refine SW.condF (by simp only [go_sem, reduceIte, Nat.reduceEqDiff, Nat.reduceAdd, Nat.reduceMul, Nat.reduceSub, Nat.reduceLT, Nat.reduceLeDiff, reduceCtorEq] <;> rfl) ?_
          | refine SW.cond (by simp only [go_sem, reduceIte, Nat.reduceEqDiff, Nat.reduceAdd, Nat.reduceMul, Nat.reduceSub, Nat.reduceLT, Nat.reduceLeDiff, reduceCtorEq] <;> rfl) (fun h => ?_) (fun h => ?_)
          | simp only [go_sem, reduceIte, Nat.reduceEqDiff, Nat.reduceAdd, Nat.reduceMul, Nat.reduceSub, Nat.reduceLT, Nat.reduceLeDiff, reduceCtorEq, *]
          | refine L_split _ (by simp only [go_sem, reduceIte, Nat.reduceEqDiff, Nat.reduceAdd, Nat.reduceMul, Nat.reduceSub, Nat.reduceLT, Nat.reduceLeDiff, reduceCtorEq] <;> rfl) (fun h => ?_) (fun h => ?_)
          | with_reducible refine And.intro ?_ ?_
        all_goals first | omega | skip
        refine ⟨k + 1, ⟨by omega, by rw [← hs]; exact h3⟩, by omega, ?_⟩
        (refine Wk.to _ _ [] ?_ (by simp [ren]) ?_ (by simp) <;> simp only [leHl, leSl, toW, ren, Wn.leO, Wn.le, Wn.cw, Wn.leL, go_sem, reduceIte, Nat.reduceEqDiff, Nat.reduceAdd, Nat.reduceMul, Nat.reduceSub, Nat.reduceLT, Nat.reduceLeDiff, reduceCtorEq, Option.some.injEq, exists_eq_left', Ob.row.injEq, Ob.box.injEq, AV.own.injEq, Option.isSome_some, true_and, and_true, or_true, true_or] <;> (repeat' with_reducible apply And.intro) <;> (try rfl))
        all_goals (rw [wrap64 (by omega) (by omega)]; simp)
      · rw [if_neg hv] at hs
        have hv' : sameEv L[k] M[k] = false := by simpa using hv
        simp only [sameEv] at hv'
        repeat' first
          | refine SW.step good fun K hK => ?_
          | refine SW.seqK fun J hJ => ?_
          | refine SW.last good fun K hK => ?_
          | (refine hK _ ?_; clear hK K)
          | (refine hJ _ _ (Wk.refl _) ?_; clear hJ J)
          | clear hK K
          | clear hJ J
          | refine SW.skip ?_
          | refine SW.ret ?_
          | refine SW.retT ?_
          | refine SW.retB ?_
          | refine SW.exit ?_
          | refine SW.exitT ?_
          | refine SW.exitB ?_
          | refine SW.exitN rfl ?_
          | refine SW.block ?_
          | refine SW.normB ?_
          | refine SW.normT ?_
          | refine SW.condT (by simp only [go_sem, reduceIte, Nat.reduceEqDiff, Nat.reduceAdd, Nat.reduceMul, Nat.reduceSub, Nat.reduceLT, Nat.reduceLeDiff, reduceCtorEq] <;> rfl) ?_
          | refine SW.condF (by simp only [go_sem, reduceIte, Nat.reduceEqDiff, Nat.reduceAdd, Nat.reduceMul, Nat.reduceSub, Nat.reduceLT, Nat.reduceLeDiff, reduceCtorEq] <;> rfl) ?_
          | refine SW.cond (by simp only [go_sem, reduceIte, Nat.reduceEqDiff, Nat.reduceAdd, Nat.reduceMul, Nat.reduceSub, Nat.reduceLT, Nat.reduceLeDiff, reduceCtorEq] <;> rfl) (fun h => ?_) (fun h => ?_)
          | simp only [go_sem, reduceIte, Nat.reduceEqDiff, Nat.reduceAdd, Nat.reduceMul, Nat.reduceSub, Nat.reduceLT, Nat.reduceLeDiff, reduceCtorEq, *]
          | refine L_split _ (by simp only [go_sem, reduceIte, Nat.reduceEqDiff, Nat.reduceAdd, Nat.reduceMul, Nat.reduceSub, Nat.reduceLT, Nat.reduceLeDiff, reduceCtorEq] <;> rfl) (fun h => ?_) (fun h => ?_)
          | with_reducible refine And.intro ?_ ?_
        all_goals first | omega | skip
        refine ret_int (by simp only [Ty.isAgg, go_sem, reduceIte, Nat.reduceEqDiff, Nat.reduceAdd, Nat.reduceMul, Nat.reduceSub, Nat.reduceLT, Nat.reduceLeDiff, reduceCtorEq] <;> rfl) (by simp) ?_
        rw [← h3, hs]
    · have hk : k = min L.length M.length := by omega
      subst hk
      have e1 : decide (((min L.length M.length : Nat) : Int) < (min L.length M.length : Nat)) = false := by simp
      repeat' first
        | refine SW.step good fun K hK => ?_
        | refine SW.seqK fun J hJ => ?_
        | refine SW.last good fun K hK => ?_
        | (refine hK _ ?_; clear hK K)
        | (refine hJ _ _ (Wk.refl _) ?_; clear hJ J)
        | clear hK K
        | clear hJ J
        | refine SW.skip ?_
        | refine SW.ret ?_
        | refine SW.retT ?_
        | refine SW.retB ?_
        | refine SW.exit ?_
        | refine SW.exitT ?_
        | refine SW.exitB ?_
        | refine SW.exitN rfl ?_
        | refine SW.block ?_
        | refine SW.normB ?_
        | refine SW.normT ?_
        | refine SW.condT (by simp only [go_sem, reduceIte, Nat.reduceEqDiff, Nat.reduceAdd, Nat.reduceMul, Nat.reduceSub, Nat.reduceLT, Nat.reduceLeDiff, reduceCtorEq] <;> rfl) ?_
        | refine SW.condF (by simp only [go_sem, reduceIte, Nat.reduceEqDiff, Nat.reduceAdd, Nat.reduceMul, Nat.reduceSub, Nat.reduceLT, Nat.reduceLeDiff, reduceCtorEq] <;> rfl) ?_
        | refine SW.cond (by simp only [go_sem, reduceIte, Nat.reduceEqDiff, Nat.reduceAdd, Nat.reduceMul, Nat.reduceSub, Nat.reduceLT, Nat.reduceLeDiff, reduceCtorEq] <;> rfl) (fun h => ?_) (fun h => ?_)
        | simp only [go_sem, reduceIte, Nat.reduceEqDiff, Nat.reduceAdd, Nat.reduceMul, Nat.reduceSub, Nat.reduceLT, Nat.reduceLeDiff, reduceCtorEq, *]
        | refine L_split _ (by simp only [go_sem, reduceIte, Nat.reduceEqDiff, Nat.reduceAdd, Nat.reduceMul, Nat.reduceSub, Nat.reduceLT, Nat.reduceLeDiff, reduceCtorEq] <;> rfl) (fun h => ?_) (fun h => ?_)
        | with_reducible refine And.intro ?_ ?_
      · simp only [decide_eq_true_eq] at h
        have hl' : min L.length M.length = L.length := by omega
        rw [hl', apart_end L M (by omega)] at h3
        refine ret_int (by simp only [Ty.isAgg, go_sem, reduceIte, Nat.reduceEqDiff, Nat.reduceAdd, Nat.reduceMul, Nat.reduceSub, Nat.reduceLT, Nat.reduceLeDiff, reduceCtorEq] <;> rfl) (by simp) ?_
        rw [← h3]; try rfl
      · simp only [decide_eq_false_iff_not] at h
        refine ret_int (by simp only [Ty.isAgg, go_sem, reduceIte, Nat.reduceEqDiff, Nat.reduceAdd, Nat.reduceMul, Nat.reduceSub, Nat.reduceLT, Nat.reduceLeDiff, reduceCtorEq] <;> rfl) (by simp) ?_
        rw [← h3]
        rcases Nat.lt_or_gt_of_ne (show L.length ≠ M.length by omega) with hh | hh
        · rw [show min L.length M.length = L.length by omega, apart_l L M hh]
        · rw [show min L.length M.length = M.length by omega, apart_r L M hh]
end Go.Proofs.Ytbpfciidbgkekaa.AB
