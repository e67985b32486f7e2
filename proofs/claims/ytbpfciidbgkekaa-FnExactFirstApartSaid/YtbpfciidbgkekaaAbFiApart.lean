/- Where two lives part: the reference, and the law. -/
import Derived.Test.YtbpfciidbgkekaaAbFhApart
namespace Go.Proofs.Ytbpfciidbgkekaa.AB
open Go
set_option maxRecDepth 100000
set_option linter.unusedSimpArgs false
set_option linter.unusedVariables false
set_option maxHeartbeats 1000000 in
theorem ac_FirstApartR (L M : List Event) (hL : L.length ≤ 1048576) (hM : M.length ≤ 1048576) : AC Try.prog 29 [evL L, evL M] (vI (apart L M 0)) [] := by
  refine AC.walk good (fn := Try.f29) rfl (sc := ?sc) (N := ?N) (rv := ?rv) ?hd (by kernel_rfl) ?hn (by simp) ?_
  case hd => (cbv <;> rfl)
  case hn => (simp only [List.length]; decide)
  simp only [entry, List.getD_cons_zero, List.getD_cons_succ]
  simp only [evL]
  repeat' first
    | refine SW.step good fun K hK => ?_
    | refine SW.seqK fun J hJ => ?_
    | refine SW.last good fun K hK => ?_
    | (refine hK _ ?_; clear hK K)
    | (refine hJ _ _ (Wk.refl _) ?_; clear hJ J)
    | clear hK K
    | clear hJ J
    | refine SW.skip ?_
    | refine SW.ret ?_
    | refine SW.retT ?_
    | refine SW.retB ?_
    | refine SW.exit ?_
    | refine SW.exitT ?_
    | refine SW.exitB ?_
    | refine SW.exitN rfl ?_
    | refine SW.block ?_
    | refine SW.normB ?_
    | refine SW.normT ?_
    | refine SW.condT (by simp only [go_sem, reduceIte, Nat.reduceEqDiff, Nat.reduceAdd, Nat.reduceMul, Nat.reduceSub, Nat.reduceLT, Nat.reduceLeDiff, reduceCtorEq] <;> rfl) ?_
    | refine SW.condF (by simp only [go_sem, reduceIte, Nat.reduceEqDiff, Nat.reduceAdd, Nat.reduceMul, Nat.reduceSub, Nat.reduceLT, Nat.reduceLeDiff, reduceCtorEq] <;> rfl) ?_
    | refine SW.cond (by simp only [go_sem, reduceIte, Nat.reduceEqDiff, Nat.reduceAdd, Nat.reduceMul, Nat.reduceSub, Nat.reduceLT, Nat.reduceLeDiff, reduceCtorEq] <;> rfl) (fun h => ?_) (fun h => ?_)
    | simp only [go_sem, reduceIte, Nat.reduceEqDiff, Nat.reduceAdd, Nat.reduceMul, Nat.reduceSub, Nat.reduceLT, Nat.reduceLeDiff, reduceCtorEq, *]
    | refine L_split _ (by simp only [go_sem, reduceIte, Nat.reduceEqDiff, Nat.reduceAdd, Nat.reduceMul, Nat.reduceSub, Nat.reduceLT, Nat.reduceLeDiff, reduceCtorEq] <;> rfl) (fun h => ?_) (fun h => ?_)
    | with_reducible refine And.intro ?_ ?_
  refine SW.loopTo (α := Nat) (fun k => ⟨sl [(0, .c true (.sl (L.map evC))), (1, .c true (.sl (M.map evC))), (5, vI k)], hl []⟩) (fun k => max L.length M.length - k) 0
    (fun k => k ≤ L.length ∧ k ≤ M.length ∧ apart (L.drop k) (M.drop k) k = apart L M 0) ?_ ⟨by simp, by simp, by simp⟩ ?_
  · (refine Wk.to _ _ [] ?_ (by simp [ren]) ?_ (by simp) <;> simp only [leHl, leSl, toW, ren, Wn.leO, Wn.le, Wn.cw, Wn.leL, go_sem, reduceIte, Nat.reduceEqDiff, Nat.reduceAdd, Nat.reduceMul, Nat.reduceSub, Nat.reduceLT, Nat.reduceLeDiff, reduceCtorEq, Option.some.injEq, exists_eq_left', Ob.row.injEq, Ob.box.injEq, AV.own.injEq, Option.isSome_some, true_and, and_true, or_true, true_or] <;> (repeat' with_reducible apply And.intro) <;> (try rfl))
  · rintro k ⟨h1, h2, h3⟩
    by_cases hk1 : k < L.length
    · have e1 : decide ((k : Int) < L.length) = true := by simp; omega
      by_cases hk2 : k < M.length
      · have e := getD_map L evC [] hk1
        have e' := getD_map M evC [] hk2
        have e2 : decide ((k : Int) ≥ L.length) = false := by simp; omega
        have e3 : decide ((k : Int) ≥ M.length) = false := by simp; omega
        have hs := apart_step L M hk1 hk2
        by_cases hv : sameEv L[k] M[k] = true
        · rw [if_pos hv] at hs
          have hv' := hv
          simp only [sameEv] at hv'
          repeat' first
            | refine SW.step good fun K hK => ?_
            | refine SW.seqK fun J hJ => ?_
            | refine SW.last good fun K hK => ?_
            | (refine hK _ ?_; clear hK K)
            | (refine hJ _ _ (Wk.refl _) ?_; clear hJ J)
            | clear hK K
            | clear hJ J
            | refine SW.skip ?_
            | refine SW.ret ?_
            | refine SW.retT ?_
            | refine SW.retB ?_
            | refine SW.exit ?_
            | refine SW.exitT ?_
            | refine SW.exitB ?_
            | refine SW.exitN rfl ?_
            | refine SW.block ?_
            | refine SW.normB ?_
            | refine SW.normT ?_
            | refine SW.condT (by simp only [go_sem, reduceIte, Nat.reduceEqDiff, Nat.reduceAdd, Nat.reduceMul, Nat.reduceSub, Nat.reduceLT, Nat.reduceLeDiff, reduceCtorEq] <;> rfl) ?_
            | refine SW.condF (by simp only [go_sem, reduceIte, Nat.reduceEqDiff, Nat.reduceAdd, Nat.reduceMul, Nat.reduceSub, Nat.reduceLT, Nat.reduceLeDiff, reduceCtorEq] <;> rfl) ?_
            | refine SW.cond (by simp only [go_sem, reduceIte, Nat.reduceEqDiff, Nat.reduceAdd, Nat.reduceMul, Nat.reduceSub, Nat.reduceLT, Nat.reduceLeDiff, reduceCtorEq] <;> rfl) (fun h => ?_) (fun h => ?_)
            | simp only [go_sem, reduceIte, Nat.reduceEqDiff, Nat.reduceAdd, Nat.reduceMul, Nat.reduceSub, Nat.reduceLT, Nat.reduceLeDiff, reduceCtorEq, *]
            | refine L_split _ (by simp only [go_sem, reduceIte, Nat.reduceEqDiff, Nat.reduceAdd, Nat.reduceMul, Nat.reduceSub, Nat.reduceLT, Nat.reduceLeDiff, reduceCtorEq] <;> rfl) (fun h => ?_) (fun h => ?_)
            | with_reducible refine And.intro ?_ ?_
          all_goals first | omega | skip
          refine ⟨k + 1, ⟨by omega, by omega, by rw [← hs]; exact h3⟩, by omega, ?_⟩
          (refine Wk.to _ _ [] ?_ (by simp [ren]) ?_ (by simp) <;> simp only [leHl, leSl, toW, ren, Wn.leO, Wn.le, Wn.cw, Wn.leL, go_sem, reduceIte, Nat.reduceEqDiff, Nat.reduceAdd, Nat.reduceMul, Nat.reduceSub, Nat.reduceLT, Nat.reduceLeDiff, reduceCtorEq, Option.some.injEq, exists_eq_left', Ob.row.injEq, Ob.box.injEq, AV.own.injEq, Option.isSome_some, true_and, and_true, or_true, true_or] <;> (repeat' with_reducible apply And.intro) <;> (try rfl))
          all_goals (rw [wrap64 (by omega) (by omega)]; simp)
        · rw [if_neg hv] at hs
          have hv' : sameEv L[k] M[k] = false := by simpa using hv
          simp only [sameEv] at hv'
          repeat' first
            | refine SW.step good fun K hK => ?_
            | refine SW.seqK fun J hJ => ?_
            | refine SW.last good fun K hK => ?_
            | (refine hK _ ?_; clear hK K)
            | (refine hJ _ _ (Wk.refl _) ?_; clear hJ J)
            | clear hK K
            | clear hJ J
            | refine SW.skip ?_
            | refine SW.ret ?_
            | refine SW.retT ?_
            | refine SW.retB ?_
            | refine SW.exit ?_
            | refine SW.exitT ?_
            | refine SW.exitB ?_
            | refine SW.exitN rfl ?_
            | refine SW.block ?_
            | refine SW.normB ?_
            | refine SW.normT ?_
            | refine SW.condT (by simp only [go_sem, reduceIte, Nat.reduceEqDiff, Nat.reduceAdd, Nat.reduceMul, Nat.reduceSub, Nat.reduceLT, Nat.reduceLeDiff, reduceCtorEq] <;> rfl) ?_
            | refine SW.condF (by simp only [go_sem, reduceIte, Nat.reduceEqDiff, Nat.reduceAdd, Nat.reduceMul, Nat.reduceSub, Nat.reduceLT, Nat.reduceLeDiff, reduceCtorEq] <;> rfl) ?_
            | refine SW.cond (by simp only [go_sem, reduceIte, Nat.reduceEqDiff, Nat.reduceAdd, Nat.reduceMul, Nat.reduceSub, Nat.reduceLT, Nat.reduceLeDiff, reduceCtorEq] <;> rfl) (fun h => ?_) (fun h => ?_)
            | simp only [go_sem, reduceIte, Nat.reduceEqDiff, Nat.reduceAdd, Nat.reduceMul, Nat.reduceSub, Nat.reduceLT, Nat.reduceLeDiff, reduceCtorEq, *]
            | refine L_split _ (by simp only [go_sem, reduceIte, Nat.reduceEqDiff, Nat.reduceAdd, Nat.reduceMul, Nat.reduceSub, Nat.reduceLT, Nat.reduceLeDiff, reduceCtorEq] <;> rfl) (fun h => ?_) (fun h => ?_)
            | with_reducible refine And.intro ?_ ?_
          all_goals first | omega | skip
          all_goals refine ret_int (by simp only [Ty.isAgg, go_sem, reduceIte, Nat.reduceEqDiff, Nat.reduceAdd, Nat.reduceMul, Nat.reduceSub, Nat.reduceLT, Nat.reduceLeDiff, reduceCtorEq] <;> rfl) (by simp) ?_
          all_goals rw [← h3, hs]
      · have hk : k = M.length := by omega
        subst hk
        have e2 : decide ((M.length : Int) ≥ L.length) = false := by simp; omega
        have e3 : decide ((M.length : Int) ≥ M.length) = true := by simp
        repeat' first
          | refine SW.step good fun K hK => ?_
          | refine SW.seqK fun J hJ => ?_
          | refine SW.last good fun K hK => ?_
          | (refine hK _ ?_; clear hK K)
          | (refine hJ _ _ (Wk.refl _) ?_; clear hJ J)
          | clear hK K
          | clear hJ J
          | refine SW.skip ?_
          | refine SW.ret ?_
          | refine SW.retT ?_
          | refine SW.retB ?_
          | refine SW.exit ?_
          | refine SW.exitT ?_
          | refine SW.exitB ?_
          | refine SW.exitN rfl ?_
          | refine SW.block ?_
          | refine SW.normB ?_
          | refine SW.normT ?_
          | refine SW.condT (by simp only [go_sem, reduceIte, Nat.reduceEqDiff, Nat.reduceAdd, Nat.reduceMul, Nat.reduceSub, Nat.reduceLT, Nat.reduceLeDiff, reduceCtorEq] <;> rfl) ?_
          | refine SW.condF (by simp only [go_sem, reduceIte, Nat.reduceEqDiff, Nat.reduceAdd, Nat.reduceMul, Nat.reduceSub, Nat.reduceLT, Nat.reduceLeDiff, reduceCtorEq] <;> rfl) ?_
          | refine SW.cond (by simp only [go_sem, reduceIte, Nat.reduceEqDiff, Nat.reduceAdd, Nat.reduceMul, Nat.reduceSub, Nat.reduceLT, Nat.reduceLeDiff, reduceCtorEq] <;> rfl) (fun h => ?_) (fun h => ?_)
          | simp only [go_sem, reduceIte, Nat.reduceEqDiff, Nat.reduceAdd, Nat.reduceMul, Nat.reduceSub, Nat.reduceLT, Nat.reduceLeDiff, reduceCtorEq, *]
          | refine L_split _ (by simp only [go_sem, reduceIte, Nat.reduceEqDiff, Nat.reduceAdd, Nat.reduceMul, Nat.reduceSub, Nat.reduceLT, Nat.reduceLeDiff, reduceCtorEq] <;> rfl) (fun h => ?_) (fun h => ?_)
          | with_reducible refine And.intro ?_ ?_
        all_goals refine ret_int (by simp only [Ty.isAgg, go_sem, reduceIte, Nat.reduceEqDiff, Nat.reduceAdd, Nat.reduceMul, Nat.reduceSub, Nat.reduceLT, Nat.reduceLeDiff, reduceCtorEq] <;> rfl) (by simp) ?_
        all_goals rw [← h3, apart_r L M hk1]
    · have hk : k = L.length := by omega
      subst hk
      have e1 : decide ((L.length : Int) < L.length) = false := by simp
      have e2 : decide ((L.length : Int) ≥ L.length) = true := by simp
      by_cases hk2 : L.length < M.length
      · have e3 : decide ((L.length : Int) < M.length) = true := by simp; omega
        repeat' first
          | refine SW.step good fun K hK => ?_
          | refine SW.seqK fun J hJ => ?_
          | refine SW.last good fun K hK => ?_
          | (refine hK _ ?_; clear hK K)
          | (refine hJ _ _ (Wk.refl _) ?_; clear hJ J)
          | clear hK K
          | clear hJ J
          | refine SW.skip ?_
          | refine SW.ret ?_
          | refine SW.retT ?_
          | refine SW.retB ?_
          | refine SW.exit ?_
          | refine SW.exitT ?_
          | refine SW.exitB ?_
          | refine SW.exitN rfl ?_
          | refine SW.block ?_
          | refine SW.normB ?_
          | refine SW.normT ?_
          | refine SW.condT (by simp only [go_sem, reduceIte, Nat.reduceEqDiff, Nat.reduceAdd, Nat.reduceMul, Nat.reduceSub, Nat.reduceLT, Nat.reduceLeDiff, reduceCtorEq] <;> rfl) ?_
          | refine SW.condF (by simp only [go_sem, reduceIte, Nat.reduceEqDiff, Nat.reduceAdd, Nat.reduceMul, Nat.reduceSub, Nat.reduceLT, Nat.reduceLeDiff, reduceCtorEq] <;> rfl) ?_
          | refine SW.cond (by simp only [go_sem, reduceIte, Nat.reduceEqDiff, Nat.reduceAdd, Nat.reduceMul, Nat.reduceSub, Nat.reduceLT, Nat.reduceLeDiff, reduceCtorEq] <;> rfl) (fun h => ?_) (fun h => ?_)
          | simp only [go_sem, reduceIte, Nat.reduceEqDiff, Nat.reduceAdd, Nat.reduceMul, Nat.reduceSub, Nat.reduceLT, Nat.reduceLeDiff, reduceCtorEq, *]
          | refine L_split _ (by simp only [go_sem, reduceIte, Nat.reduceEqDiff, Nat.reduceAdd, Nat.reduceMul, Nat.reduceSub, Nat.reduceLT, Nat.reduceLeDiff, reduceCtorEq] <;> rfl) (fun h => ?_) (fun h => ?_)
          | with_reducible refine And.intro ?_ ?_
        all_goals refine ret_int (by simp only [Ty.isAgg, go_sem, reduceIte, Nat.reduceEqDiff, Nat.reduceAdd, Nat.reduceMul, Nat.reduceSub, Nat.reduceLT, Nat.reduceLeDiff, reduceCtorEq] <;> rfl) (by simp) ?_
        all_goals rw [← h3, apart_l L M hk2]
      · have e3 : decide ((L.length : Int) < M.length) = false := by simp; omega
        repeat' first
          | refine SW.step good fun K hK => ?_
          | refine SW.seqK fun J hJ => ?_
          | refine SW.last good fun K hK => ?_
          | (refine hK _ ?_; clear hK K)
          | (refine hJ _ _ (Wk.refl _) ?_; clear hJ J)
          | clear hK K
          | clear hJ J
          | refine SW.skip ?_
          | refine SW.ret ?_
          | refine SW.retT ?_
          | refine SW.retB ?_
          | refine SW.exit ?_
          | refine SW.exitT ?_
          | refine SW.exitB ?_
          | refine SW.exitN rfl ?_
          | refine SW.block ?_
          | refine SW.normB ?_
          | refine SW.normT ?_
          | refine SW.condT (by simp only [go_sem, reduceIte, Nat.reduceEqDiff, Nat.reduceAdd, Nat.reduceMul, Nat.reduceSub, Nat.reduceLT, Nat.reduceLeDiff, reduceCtorEq] <;> rfl) ?_
          | refine SW.condF (by simp only [go_sem, reduceIte, Nat.reduceEqDiff, Nat.reduceAdd, Nat.reduceMul, Nat.reduceSub, Nat.reduceLT, Nat.reduceLeDiff, reduceCtorEq] <;> rfl) ?_
          | refine SW.cond (by simp only [go_sem, reduceIte, Nat.reduceEqDiff, Nat.reduceAdd, Nat.reduceMul, Nat.reduceSub, Nat.reduceLT, Nat.reduceLeDiff, reduceCtorEq] <;> rfl) (fun h => ?_) (fun h => ?_)
          | simp only [go_sem, reduceIte, Nat.reduceEqDiff, Nat.reduceAdd, Nat.reduceMul, Nat.reduceSub, Nat.reduceLT, Nat.reduceLeDiff, reduceCtorEq, *]
          | refine L_split _ (by simp only [go_sem, reduceIte, Nat.reduceEqDiff, Nat.reduceAdd, Nat.reduceMul, Nat.reduceSub, Nat.reduceLT, Nat.reduceLeDiff, reduceCtorEq] <;> rfl) (fun h => ?_) (fun h => ?_)
          | with_reducible refine And.intro ?_ ?_
        all_goals refine ret_int (by simp only [Ty.isAgg, go_sem, reduceIte, Nat.reduceEqDiff, Nat.reduceAdd, Nat.reduceMul, Nat.reduceSub, Nat.reduceLT, Nat.reduceLeDiff, reduceCtorEq] <;> rfl) (by simp) ?_
        all_goals rw [← h3, apart_end L M (by omega)]
end Go.Proofs.Ytbpfciidbgkekaa.AB
