/- Rings: compared with themselves. -/
import Derived.Test.YtbpfciidbgkekaaAbFpRing
namespace Go.Proofs.Ytbpfciidbgkekaa.AB
open Go
set_option maxRecDepth 100000
set_option linter.unusedSimpArgs false
set_option linter.unusedVariables false
theorem ac_eqIntS (L : List Int) (hL : L.length ≤ 1048576) : AC Try.prog 49 [.c true (.sl (L.map intC)), .c true (.sl (L.map intC))] (vB true) [] := by
  refine AC.walk good (fn := Try.f49) rfl (sc := ?sc) (N := ?N) (rv := ?rv) ?hd (by kernel_rfl) ?hn (by simp) ?_
  case hd => (cbv <;> rfl)
  case hn => (simp only [List.length]; decide)
  simp only [entry, List.getD_cons_zero, List.getD_cons_succ]
  repeat' first
    | refine SW.step good fun K hK => ?_
    | refine SW.seqK fun J hJ => ?_
    | refine SW.last good fun K hK => ?_
    | (refine hK _ ?_; clear hK K)
    | (refine hJ _ _ (Wk.refl _) ?_; clear hJ J)
    | clear hK K
    | clear hJ J
    | refine SW.skip ?_
    | refine SW.ret ?_
    | refine SW.retT ?_
    | refine SW.retB ?_
    | refine SW.exit ?_
    | refine SW.exitT ?_
    | refine SW.exitB ?_
    | refine SW.exitN rfl ?_
    | refine SW.block ?_
    | refine SW.normB ?_
    | refine SW.normT ?_
    | refine SW.condT (by simp only [go_sem, reduceIte, Nat.reduceEqDiff, Nat.reduceAdd, Nat.reduceMul, Nat.reduceSub, Nat.reduceLT, Nat.reduceLeDiff, reduceCtorEq] <;> rfl) ?_
    | refine SW.condF (by simp only [go_sem, reduceIte, Nat.reduceEqDiff, Nat.reduceAdd, Nat.reduceMul, Nat.reduceSub, Nat.reduceLT, Nat.reduceLeDiff, reduceCtorEq] <;> rfl) ?_
    | refine SW.cond (by simp only [go_sem, reduceIte, Nat.reduceEqDiff, Nat.reduceAdd, Nat.reduceMul, Nat.reduceSub, Nat.reduceLT, Nat.reduceLeDiff, reduceCtorEq] <;> rfl) (fun h => ?_) (fun h => ?_)
    | simp only [go_sem, reduceIte, Nat.reduceEqDiff, Nat.reduceAdd, Nat.reduceMul, Nat.reduceSub, Nat.reduceLT, Nat.reduceLeDiff, reduceCtorEq, *]
    | refine L_split _ (by simp only [go_sem, reduceIte, Nat.reduceEqDiff, Nat.reduceAdd, Nat.reduceMul, Nat.reduceSub, Nat.reduceLT, Nat.reduceLeDiff, reduceCtorEq] <;> rfl) (fun h => ?_) (fun h => ?_)
    | with_reducible refine And.intro ?_ ?_
  refine SW.loopTo (α := Nat) (fun k => ⟨sl [(0, .c true (.sl (L.map intC))), (1, .c true (.sl (L.map intC))), (5, vI k)], hl []⟩) (fun k => L.length - k) 0 (fun k => k ≤ L.length) ?_ (by simp) ?_
  · (refine Wk.to _ _ [] ?_ (by simp [ren]) ?_ (by simp) <;> simp only [leHl, leSl, toW, ren, Wn.leO, Wn.le, Wn.cw, Wn.leL, go_sem, reduceIte, Nat.reduceEqDiff, Nat.reduceAdd, Nat.reduceMul, Nat.reduceSub, Nat.reduceLT, Nat.reduceLeDiff, reduceCtorEq, Option.some.injEq, exists_eq_left', Ob.row.injEq, Ob.box.injEq, AV.own.injEq, Option.isSome_some, true_and, and_true, or_true, true_or] <;> (repeat' with_reducible apply And.intro) <;> (try rfl))
  · intro k h2
    by_cases hk : k < L.length
    · have e := getD_map L intC [] hk
      have e1 : decide ((k : Int) < L.length) = true := by simp; omega
      repeat' first
        | refine SW.step good fun K hK => ?_
        | refine SW.seqK fun J hJ => ?_
        | refine SW.last good fun K hK => ?_
        | (refine hK _ ?_; clear hK K)
        | (refine hJ _ _ (Wk.refl _) ?_; clear hJ J)
        | clear hK K
        | clear hJ J
        | refine SW.skip ?_
        | refine SW.ret ?_
        | refine SW.retT ?_
        | refine SW.retB ?_
        | refine SW.exit ?_
        | refine SW.exitT ?_
        | refine SW.exitB ?_
        | refine SW.exitN rfl ?_
        | refine SW.block ?_
        | refine SW.normB ?_
        | refine SW.normT ?_
        | refine SW.condT (by simp only [go_sem, reduceIte, Nat.reduceEqDiff, Nat.reduceAdd, Nat.reduceMul, Nat.reduceSub, Nat.reduceLT, Nat.reduceLeDiff, reduceCtorEq] <;> rfl) ?_
        | refine SW.condF (by simp only [go_sem, reduceIte, Nat.reduceEqDiff, Nat.reduceAdd, Nat.reduceMul, Nat.reduceSub, Nat.reduceLT, Nat.reduceLeDiff, reduceCtorEq] <;> rfl) ?_
        | refine SW.cond (by simp only [go_sem, reduceIte, Nat.reduceEqDiff, Nat.reduceAdd, Nat.reduceMul, Nat.reduceSub, Nat.reduceLT, Nat.reduceLeDiff, reduceCtorEq] <;> rfl) (fun h => ?_) (fun h => ?_)
        | simp only [go_sem, reduceIte, Nat.reduceEqDiff, Nat.reduceAdd, Nat.reduceMul, Nat.reduceSub, Nat.reduceLT, Nat.reduceLeDiff, reduceCtorEq, *]
        | refine L_split _ (by simp only [go_sem, reduceIte, Nat.reduceEqDiff, Nat.reduceAdd, Nat.reduceMul, Nat.reduceSub, Nat.reduceLT, Nat.reduceLeDiff, reduceCtorEq] <;> rfl) (fun h => ?_) (fun h => ?_)
        | with_reducible refine And.intro ?_ ?_
      all_goals first | omega | skip
      refine ⟨k + 1, by omega, by omega, ?_⟩
      (refine Wk.to _ _ [] ?_ (by simp [ren]) ?_ (by simp) <;> simp only [leHl, leSl, toW, ren, Wn.leO, Wn.le, Wn.cw, Wn.leL, go_sem, reduceIte, Nat.reduceEqDiff, Nat.reduceAdd, Nat.reduceMul, Nat.reduceSub, Nat.reduceLT, Nat.reduceLeDiff, reduceCtorEq, Option.some.injEq, exists_eq_left', Ob.row.injEq, Ob.box.injEq, AV.own.injEq, Option.isSome_some, true_and, and_true, or_true, true_or] <;> (repeat' with_reducible apply And.intro) <;> (try rfl))
      all_goals (rw [wrap64 (by omega) (by omega)]; simp)
    · have hk : k = L.length := by omega
      subst hk
      have e1 : decide ((L.length : Int) < L.length) = false := by simp
      repeat' first
        | refine SW.step good fun K hK => ?_
        | refine SW.seqK fun J hJ => ?_
        | refine SW.last good fun K hK => ?_
        | (refine hK _ ?_; clear hK K)
        | (refine hJ _ _ (Wk.refl _) ?_; clear hJ J)
        | clear hK K
        | clear hJ J
        | refine SW.skip ?_
        | refine SW.ret ?_
        | refine SW.retT ?_
        | refine SW.retB ?_
        | refine SW.exit ?_
        | refine SW.exitT ?_
        | refine SW.exitB ?_
        | refine SW.exitN rfl ?_
        | refine SW.block ?_
        | refine SW.normB ?_
        | refine SW.normT ?_
        | refine SW.condT (by simp only [go_sem, reduceIte, Nat.reduceEqDiff, Nat.reduceAdd, Nat.reduceMul, Nat.reduceSub, Nat.reduceLT, Nat.reduceLeDiff, reduceCtorEq] <;> rfl) ?_
        | refine SW.condF (by simp only [go_sem, reduceIte, Nat.reduceEqDiff, Nat.reduceAdd, Nat.reduceMul, Nat.reduceSub, Nat.reduceLT, Nat.reduceLeDiff, reduceCtorEq] <;> rfl) ?_
        | refine SW.cond (by simp only [go_sem, reduceIte, Nat.reduceEqDiff, Nat.reduceAdd, Nat.reduceMul, Nat.reduceSub, Nat.reduceLT, Nat.reduceLeDiff, reduceCtorEq] <;> rfl) (fun h => ?_) (fun h => ?_)
        | simp only [go_sem, reduceIte, Nat.reduceEqDiff, Nat.reduceAdd, Nat.reduceMul, Nat.reduceSub, Nat.reduceLT, Nat.reduceLeDiff, reduceCtorEq, *]
        | refine L_split _ (by simp only [go_sem, reduceIte, Nat.reduceEqDiff, Nat.reduceAdd, Nat.reduceMul, Nat.reduceSub, Nat.reduceLT, Nat.reduceLeDiff, reduceCtorEq] <;> rfl) (fun h => ?_) (fun h => ?_)
        | with_reducible refine And.intro ?_ ?_
      all_goals refine ret_bool (by simp only [Ty.isAgg, go_sem, reduceIte, Nat.reduceEqDiff, Nat.reduceAdd, Nat.reduceMul, Nat.reduceSub, Nat.reduceLT, Nat.reduceLeDiff, reduceCtorEq] <;> rfl) (by simp) ?_
      all_goals rfl
theorem ac_eqItem (x : Item) : AC Try.prog 227 [encItem x, encItem x] (vB true) [] := by
  refine AC.walk good (fn := Try.f227) rfl (sc := ?sc) (N := ?N) (rv := ?rv) ?hd (by kernel_rfl) ?hn (by simp) ?_
  case hd => (cbv <;> rfl)
  case hn => (simp only [List.length]; decide)
  simp only [entry, List.getD_cons_zero, List.getD_cons_succ]
  repeat' first
    | refine SW.step good fun K hK => ?_
    | refine SW.seqK fun J hJ => ?_
    | refine SW.last good fun K hK => ?_
    | (refine hK _ ?_; clear hK K)
    | (refine hJ _ _ (Wk.refl _) ?_; clear hJ J)
    | clear hK K
    | clear hJ J
    | refine SW.skip ?_
    | refine SW.ret ?_
    | refine SW.retT ?_
    | refine SW.retB ?_
    | refine SW.exit ?_
    | refine SW.exitT ?_
    | refine SW.exitB ?_
    | refine SW.exitN rfl ?_
    | refine SW.block ?_
    | refine SW.normB ?_
    | refine SW.normT ?_
    | refine SW.condT (by simp only [go_sem, reduceIte, Nat.reduceEqDiff, Nat.reduceAdd, Nat.reduceMul, Nat.reduceSub, Nat.reduceLT, Nat.reduceLeDiff, reduceCtorEq] <;> rfl) ?_
    | refine SW.condF (by simp only [go_sem, reduceIte, Nat.reduceEqDiff, Nat.reduceAdd, Nat.reduceMul, Nat.reduceSub, Nat.reduceLT, Nat.reduceLeDiff, reduceCtorEq] <;> rfl) ?_
    | refine SW.cond (by simp only [go_sem, reduceIte, Nat.reduceEqDiff, Nat.reduceAdd, Nat.reduceMul, Nat.reduceSub, Nat.reduceLT, Nat.reduceLeDiff, reduceCtorEq] <;> rfl) (fun h => ?_) (fun h => ?_)
    | simp only [go_sem, reduceIte, Nat.reduceEqDiff, Nat.reduceAdd, Nat.reduceMul, Nat.reduceSub, Nat.reduceLT, Nat.reduceLeDiff, reduceCtorEq, *]
    | refine L_split _ (by simp only [go_sem, reduceIte, Nat.reduceEqDiff, Nat.reduceAdd, Nat.reduceMul, Nat.reduceSub, Nat.reduceLT, Nat.reduceLeDiff, reduceCtorEq] <;> rfl) (fun h => ?_) (fun h => ?_)
    | with_reducible refine And.intro ?_ ?_
  all_goals refine ret_bool (by simp only [Ty.isAgg, go_sem, reduceIte, Nat.reduceEqDiff, Nat.reduceAdd, Nat.reduceMul, Nat.reduceSub, Nat.reduceLT, Nat.reduceLeDiff, reduceCtorEq] <;> rfl) (by simp) ?_
  all_goals simp_all
theorem ac_eqItemS (L : List Item) (hL : L.length ≤ 1048576) : AC Try.prog 199 [.c true (.sl (L.map itemC)), .c true (.sl (L.map itemC))] (vB true) [] := by
  refine AC.walk good (fn := Try.f199) rfl (sc := ?sc) (N := ?N) (rv := ?rv) ?hd (by kernel_rfl) ?hn (by simp) ?_
  case hd => (cbv <;> rfl)
  case hn => (simp only [List.length]; decide)
  simp only [entry, List.getD_cons_zero, List.getD_cons_succ]
  repeat' first
    | refine SW.step good fun K hK => ?_
    | refine SW.seqK fun J hJ => ?_
    | refine SW.last good fun K hK => ?_
    | (refine hK _ ?_; clear hK K)
    | (refine hJ _ _ (Wk.refl _) ?_; clear hJ J)
    | clear hK K
    | clear hJ J
    | refine SW.skip ?_
    | refine SW.ret ?_
    | refine SW.retT ?_
    | refine SW.retB ?_
    | refine SW.exit ?_
    | refine SW.exitT ?_
    | refine SW.exitB ?_
    | refine SW.exitN rfl ?_
    | refine SW.block ?_
    | refine SW.normB ?_
    | refine SW.normT ?_
    | refine SW.condT (by simp only [go_sem, reduceIte, Nat.reduceEqDiff, Nat.reduceAdd, Nat.reduceMul, Nat.reduceSub, Nat.reduceLT, Nat.reduceLeDiff, reduceCtorEq] <;> rfl) ?_
    | refine SW.condF (by simp only [go_sem, reduceIte, Nat.reduceEqDiff, Nat.reduceAdd, Nat.reduceMul, Nat.reduceSub, Nat.reduceLT, Nat.reduceLeDiff, reduceCtorEq] <;> rfl) ?_
    | refine SW.cond (by simp only [go_sem, reduceIte, Nat.reduceEqDiff, Nat.reduceAdd, Nat.reduceMul, Nat.reduceSub, Nat.reduceLT, Nat.reduceLeDiff, reduceCtorEq] <;> rfl) (fun h => ?_) (fun h => ?_)
    | simp only [go_sem, reduceIte, Nat.reduceEqDiff, Nat.reduceAdd, Nat.reduceMul, Nat.reduceSub, Nat.reduceLT, Nat.reduceLeDiff, reduceCtorEq, *]
    | refine L_split _ (by simp only [go_sem, reduceIte, Nat.reduceEqDiff, Nat.reduceAdd, Nat.reduceMul, Nat.reduceSub, Nat.reduceLT, Nat.reduceLeDiff, reduceCtorEq] <;> rfl) (fun h => ?_) (fun h => ?_)
    | with_reducible refine And.intro ?_ ?_
  refine SW.loopTo (α := Nat) (fun k => ⟨sl [(0, .c true (.sl (L.map itemC))), (1, .c true (.sl (L.map itemC))), (5, vI k)], hl []⟩) (fun k => L.length - k) 0 (fun k => k ≤ L.length) ?_ (by simp) ?_
  · (refine Wk.to _ _ [] ?_ (by simp [ren]) ?_ (by simp) <;> simp only [leHl, leSl, toW, ren, Wn.leO, Wn.le, Wn.cw, Wn.leL, go_sem, reduceIte, Nat.reduceEqDiff, Nat.reduceAdd, Nat.reduceMul, Nat.reduceSub, Nat.reduceLT, Nat.reduceLeDiff, reduceCtorEq, Option.some.injEq, exists_eq_left', Ob.row.injEq, Ob.box.injEq, AV.own.injEq, Option.isSome_some, true_and, and_true, or_true, true_or] <;> (repeat' with_reducible apply And.intro) <;> (try rfl))
  · intro k h2
    by_cases hk : k < L.length
    · have e := getD_map L itemC [] hk
      have e1 : decide ((k : Int) < L.length) = true := by simp; omega
      repeat' first
        | refine SW.step good fun K hK => ?_
        | refine SW.seqK fun J hJ => ?_
        | refine SW.last good fun K hK => ?_
        | (refine hK _ ?_; clear hK K)
        | (refine hJ _ _ (Wk.refl _) ?_; clear hJ J)
        | clear hK K
        | clear hJ J
        | refine SW.skip ?_
        | refine SW.ret ?_
        | refine SW.retT ?_
        | refine SW.retB ?_
        | refine SW.exit ?_
        | refine SW.exitT ?_
        | refine SW.exitB ?_
        | refine SW.exitN rfl ?_
        | refine SW.block ?_
        | refine SW.normB ?_
        | refine SW.normT ?_
        | refine SW.condT (by simp only [go_sem, reduceIte, Nat.reduceEqDiff, Nat.reduceAdd, Nat.reduceMul, Nat.reduceSub, Nat.reduceLT, Nat.reduceLeDiff, reduceCtorEq] <;> rfl) ?_
        | refine SW.condF (by simp only [go_sem, reduceIte, Nat.reduceEqDiff, Nat.reduceAdd, Nat.reduceMul, Nat.reduceSub, Nat.reduceLT, Nat.reduceLeDiff, reduceCtorEq] <;> rfl) ?_
        | refine SW.cond (by simp only [go_sem, reduceIte, Nat.reduceEqDiff, Nat.reduceAdd, Nat.reduceMul, Nat.reduceSub, Nat.reduceLT, Nat.reduceLeDiff, reduceCtorEq] <;> rfl) (fun h => ?_) (fun h => ?_)
        | refine L_call0 (by simp only [go_sem, reduceIte, Nat.reduceEqDiff, Nat.reduceAdd, Nat.reduceMul, Nat.reduceSub, Nat.reduceLT, Nat.reduceLeDiff, reduceCtorEq] <;> rfl) ?_
        | refine L_callv0 (by simp only [go_sem, reduceIte, Nat.reduceEqDiff, Nat.reduceAdd, Nat.reduceMul, Nat.reduceSub, Nat.reduceLT, Nat.reduceLeDiff, reduceCtorEq] <;> rfl) (by simp only [go_sem, reduceIte, Nat.reduceEqDiff, Nat.reduceAdd, Nat.reduceMul, Nat.reduceSub, Nat.reduceLT, Nat.reduceLeDiff, reduceCtorEq] <;> rfl) ?_
        | refine L_call1 (ac_eqItem L[k]) ⟨rfl, by simp [Ob.clean]⟩ (by simp only [hfree, hputs, go_sem, reduceIte, Nat.reduceEqDiff, Nat.reduceAdd, Nat.reduceMul, Nat.reduceSub, Nat.reduceLT, Nat.reduceLeDiff, reduceCtorEq]) ?_
        | simp only [go_sem, reduceIte, Nat.reduceEqDiff, Nat.reduceAdd, Nat.reduceMul, Nat.reduceSub, Nat.reduceLT, Nat.reduceLeDiff, reduceCtorEq, *]
        | refine L_split _ (by simp only [go_sem, reduceIte, Nat.reduceEqDiff, Nat.reduceAdd, Nat.reduceMul, Nat.reduceSub, Nat.reduceLT, Nat.reduceLeDiff, reduceCtorEq] <;> rfl) (fun h => ?_) (fun h => ?_)
        | with_reducible refine And.intro ?_ ?_
      all_goals first | omega | skip
      refine ⟨k + 1, by omega, by omega, ?_⟩
      (refine Wk.to _ _ [] ?_ (by simp [ren]) ?_ (by simp) <;> simp only [leHl, leSl, toW, ren, Wn.leO, Wn.le, Wn.cw, Wn.leL, go_sem, reduceIte, Nat.reduceEqDiff, Nat.reduceAdd, Nat.reduceMul, Nat.reduceSub, Nat.reduceLT, Nat.reduceLeDiff, reduceCtorEq, Option.some.injEq, exists_eq_left', Ob.row.injEq, Ob.box.injEq, AV.own.injEq, Option.isSome_some, true_and, and_true, or_true, true_or] <;> (repeat' with_reducible apply And.intro) <;> (try rfl))
      all_goals (rw [wrap64 (by omega) (by omega)]; simp)
    · have hk : k = L.length := by omega
      subst hk
      have e1 : decide ((L.length : Int) < L.length) = false := by simp
      repeat' first
        | refine SW.step good fun K hK => ?_
        | refine SW.seqK fun J hJ => ?_
        | refine SW.last good fun K hK => ?_
        | (refine hK _ ?_; clear hK K)
        | (refine hJ _ _ (Wk.refl _) ?_; clear hJ J)
        | clear hK K
        | clear hJ J
        | refine SW.skip ?_
        | refine SW.ret ?_
        | refine SW.retT ?_
        | refine SW.retB ?_
        | refine SW.exit ?_
        | refine SW.exitT ?_
        | refine SW.exitB ?_
        | refine SW.exitN rfl ?_
        | refine SW.block ?_
        | refine SW.normB ?_
        | refine SW.normT ?_
        | refine SW.condT (by simp only [go_sem, reduceIte, Nat.reduceEqDiff, Nat.reduceAdd, Nat.reduceMul, Nat.reduceSub, Nat.reduceLT, Nat.reduceLeDiff, reduceCtorEq] <;> rfl) ?_
        | refine SW.condF (by simp only [go_sem, reduceIte, Nat.reduceEqDiff, Nat.reduceAdd, Nat.reduceMul, Nat.reduceSub, Nat.reduceLT, Nat.reduceLeDiff, reduceCtorEq] <;> rfl) ?_
        | refine SW.cond (by simp only [go_sem, reduceIte, Nat.reduceEqDiff, Nat.reduceAdd, Nat.reduceMul, Nat.reduceSub, Nat.reduceLT, Nat.reduceLeDiff, reduceCtorEq] <;> rfl) (fun h => ?_) (fun h => ?_)
        | simp only [go_sem, reduceIte, Nat.reduceEqDiff, Nat.reduceAdd, Nat.reduceMul, Nat.reduceSub, Nat.reduceLT, Nat.reduceLeDiff, reduceCtorEq, *]
        | refine L_split _ (by simp only [go_sem, reduceIte, Nat.reduceEqDiff, Nat.reduceAdd, Nat.reduceMul, Nat.reduceSub, Nat.reduceLT, Nat.reduceLeDiff, reduceCtorEq] <;> rfl) (fun h => ?_) (fun h => ?_)
        | with_reducible refine And.intro ?_ ?_
      all_goals refine ret_bool (by simp only [Ty.isAgg, go_sem, reduceIte, Nat.reduceEqDiff, Nat.reduceAdd, Nat.reduceMul, Nat.reduceSub, Nat.reduceLT, Nat.reduceLeDiff, reduceCtorEq] <;> rfl) (by simp) ?_
      all_goals rfl
theorem ac_eqShelf (s : Shelf) (hL : s.items.length ≤ 1048576) : AC Try.prog 164 [encShelf true s, encShelf true s] (vB true) [] := by
  refine AC.walk good (fn := Try.f164) rfl (sc := ?sc) (N := ?N) (rv := ?rv) ?hd (by kernel_rfl) ?hn (by simp) ?_
  case hd => (cbv <;> rfl)
  case hn => (simp only [List.length]; decide)
  simp only [entry, List.getD_cons_zero, List.getD_cons_succ]
  repeat' first
    | refine SW.step good fun K hK => ?_
    | refine SW.seqK fun J hJ => ?_
    | refine SW.last good fun K hK => ?_
    | (refine hK _ ?_; clear hK K)
    | (refine hJ _ _ (Wk.refl _) ?_; clear hJ J)
    | clear hK K
    | clear hJ J
    | refine SW.skip ?_
    | refine SW.ret ?_
    | refine SW.retT ?_
    | refine SW.retB ?_
    | refine SW.exit ?_
    | refine SW.exitT ?_
    | refine SW.exitB ?_
    | refine SW.exitN rfl ?_
    | refine SW.block ?_
    | refine SW.normB ?_
    | refine SW.normT ?_
    | refine SW.condT (by simp only [go_sem, reduceIte, Nat.reduceEqDiff, Nat.reduceAdd, Nat.reduceMul, Nat.reduceSub, Nat.reduceLT, Nat.reduceLeDiff, reduceCtorEq] <;> rfl) ?_
    | refine SW.condF (by simp only [go_sem, reduceIte, Nat.reduceEqDiff, Nat.reduceAdd, Nat.reduceMul, Nat.reduceSub, Nat.reduceLT, Nat.reduceLeDiff, reduceCtorEq] <;> rfl) ?_
    | refine SW.cond (by simp only [go_sem, reduceIte, Nat.reduceEqDiff, Nat.reduceAdd, Nat.reduceMul, Nat.reduceSub, Nat.reduceLT, Nat.reduceLeDiff, reduceCtorEq] <;> rfl) (fun h => ?_) (fun h => ?_)
    | refine L_call0 (by simp only [go_sem, reduceIte, Nat.reduceEqDiff, Nat.reduceAdd, Nat.reduceMul, Nat.reduceSub, Nat.reduceLT, Nat.reduceLeDiff, reduceCtorEq] <;> rfl) ?_
    | refine L_callv0 (by simp only [go_sem, reduceIte, Nat.reduceEqDiff, Nat.reduceAdd, Nat.reduceMul, Nat.reduceSub, Nat.reduceLT, Nat.reduceLeDiff, reduceCtorEq] <;> rfl) (by simp only [go_sem, reduceIte, Nat.reduceEqDiff, Nat.reduceAdd, Nat.reduceMul, Nat.reduceSub, Nat.reduceLT, Nat.reduceLeDiff, reduceCtorEq] <;> rfl) ?_
    | refine L_call1 (ac_eqItemS _ hL) ⟨rfl, by simp [Ob.clean]⟩ (by simp only [hfree, hputs, go_sem, reduceIte, Nat.reduceEqDiff, Nat.reduceAdd, Nat.reduceMul, Nat.reduceSub, Nat.reduceLT, Nat.reduceLeDiff, reduceCtorEq]) ?_
    | simp only [go_sem, reduceIte, Nat.reduceEqDiff, Nat.reduceAdd, Nat.reduceMul, Nat.reduceSub, Nat.reduceLT, Nat.reduceLeDiff, reduceCtorEq, *]
    | refine L_split _ (by simp only [go_sem, reduceIte, Nat.reduceEqDiff, Nat.reduceAdd, Nat.reduceMul, Nat.reduceSub, Nat.reduceLT, Nat.reduceLeDiff, reduceCtorEq] <;> rfl) (fun h => ?_) (fun h => ?_)
    | with_reducible refine And.intro ?_ ?_
  all_goals refine ret_bool (by simp only [Ty.isAgg, go_sem, reduceIte, Nat.reduceEqDiff, Nat.reduceAdd, Nat.reduceMul, Nat.reduceSub, Nat.reduceLT, Nat.reduceLeDiff, reduceCtorEq] <;> rfl) (by simp) ?_
  all_goals simp_all
theorem ac_eqShelfS (L : List Shelf) (hL : L.length ≤ 1048576) (hL2 : ∀ s, s ∈ L → s.items.length ≤ 1048576) : AC Try.prog 119 [.c true (.sl (L.map shelfC)), .c true (.sl (L.map shelfC))] (vB true) [] := by
  refine AC.walk good (fn := Try.f119) rfl (sc := ?sc) (N := ?N) (rv := ?rv) ?hd (by kernel_rfl) ?hn (by simp) ?_
  case hd => (cbv <;> rfl)
  case hn => (simp only [List.length]; decide)
  simp only [entry, List.getD_cons_zero, List.getD_cons_succ]
  repeat' first
    | refine SW.step good fun K hK => ?_
    | refine SW.seqK fun J hJ => ?_
    | refine SW.last good fun K hK => ?_
    | (refine hK _ ?_; clear hK K)
    | (refine hJ _ _ (Wk.refl _) ?_; clear hJ J)
    | clear hK K
    | clear hJ J
    | refine SW.skip ?_
    | refine SW.ret ?_
    | refine SW.retT ?_
    | refine SW.retB ?_
    | refine SW.exit ?_
    | refine SW.exitT ?_
    | refine SW.exitB ?_
    | refine SW.exitN rfl ?_
    | refine SW.block ?_
    | refine SW.normB ?_
    | refine SW.normT ?_
    | refine SW.condT (by simp only [go_sem, reduceIte, Nat.reduceEqDiff, Nat.reduceAdd, Nat.reduceMul, Nat.reduceSub, Nat.reduceLT, Nat.reduceLeDiff, reduceCtorEq] <;> rfl) ?_
    | refine SW.condF (by simp only [go_sem, reduceIte, Nat.reduceEqDiff, Nat.reduceAdd, Nat.reduceMul, Nat.reduceSub, Nat.reduceLT, Nat.reduceLeDiff, reduceCtorEq] <;> rfl) ?_
    | refine SW.cond (by simp only [go_sem, reduceIte, Nat.reduceEqDiff, Nat.reduceAdd, Nat.reduceMul, Nat.reduceSub, Nat.reduceLT, Nat.reduceLeDiff, reduceCtorEq] <;> rfl) (fun h => ?_) (fun h => ?_)
    | simp only [go_sem, reduceIte, Nat.reduceEqDiff, Nat.reduceAdd, Nat.reduceMul, Nat.reduceSub, Nat.reduceLT, Nat.reduceLeDiff, reduceCtorEq, *]
    | refine L_split _ (by simp only [go_sem, reduceIte, Nat.reduceEqDiff, Nat.reduceAdd, Nat.reduceMul, Nat.reduceSub, Nat.reduceLT, Nat.reduceLeDiff, reduceCtorEq] <;> rfl) (fun h => ?_) (fun h => ?_)
    | with_reducible refine And.intro ?_ ?_
  refine SW.loopTo (α := Nat) (fun k => ⟨sl [(0, .c true (.sl (L.map shelfC))), (1, .c true (.sl (L.map shelfC))), (5, vI k)], hl []⟩) (fun k => L.length - k) 0 (fun k => k ≤ L.length) ?_ (by simp) ?_
  · (refine Wk.to _ _ [] ?_ (by simp [ren]) ?_ (by simp) <;> simp only [leHl, leSl, toW, ren, Wn.leO, Wn.le, Wn.cw, Wn.leL, go_sem, reduceIte, Nat.reduceEqDiff, Nat.reduceAdd, Nat.reduceMul, Nat.reduceSub, Nat.reduceLT, Nat.reduceLeDiff, reduceCtorEq, Option.some.injEq, exists_eq_left', Ob.row.injEq, Ob.box.injEq, AV.own.injEq, Option.isSome_some, true_and, and_true, or_true, true_or] <;> (repeat' with_reducible apply And.intro) <;> (try rfl))
  · intro k h2
    by_cases hk : k < L.length
    · have e := getD_map L shelfC [] hk
      have e1 : decide ((k : Int) < L.length) = true := by simp; omega
      repeat' first
        | refine SW.step good fun K hK => ?_
        | refine SW.seqK fun J hJ => ?_
        | refine SW.last good fun K hK => ?_
        | (refine hK _ ?_; clear hK K)
        | (refine hJ _ _ (Wk.refl _) ?_; clear hJ J)
        | clear hK K
        | clear hJ J
        | refine SW.skip ?_
        | refine SW.ret ?_
        | refine SW.retT ?_
        | refine SW.retB ?_
        | refine SW.exit ?_
        | refine SW.exitT ?_
        | refine SW.exitB ?_
        | refine SW.exitN rfl ?_
        | refine SW.block ?_
        | refine SW.normB ?_
        | refine SW.normT ?_
        | refine SW.condT (by simp only [go_sem, reduceIte, Nat.reduceEqDiff, Nat.reduceAdd, Nat.reduceMul, Nat.reduceSub, Nat.reduceLT, Nat.reduceLeDiff, reduceCtorEq] <;> rfl) ?_
        | refine SW.condF (by simp only [go_sem, reduceIte, Nat.reduceEqDiff, Nat.reduceAdd, Nat.reduceMul, Nat.reduceSub, Nat.reduceLT, Nat.reduceLeDiff, reduceCtorEq] <;> rfl) ?_
        | refine SW.cond (by simp only [go_sem, reduceIte, Nat.reduceEqDiff, Nat.reduceAdd, Nat.reduceMul, Nat.reduceSub, Nat.reduceLT, Nat.reduceLeDiff, reduceCtorEq] <;> rfl) (fun h => ?_) (fun h => ?_)
        | refine L_call0 (by simp only [go_sem, reduceIte, Nat.reduceEqDiff, Nat.reduceAdd, Nat.reduceMul, Nat.reduceSub, Nat.reduceLT, Nat.reduceLeDiff, reduceCtorEq] <;> rfl) ?_
        | refine L_callv0 (by simp only [go_sem, reduceIte, Nat.reduceEqDiff, Nat.reduceAdd, Nat.reduceMul, Nat.reduceSub, Nat.reduceLT, Nat.reduceLeDiff, reduceCtorEq] <;> rfl) (by simp only [go_sem, reduceIte, Nat.reduceEqDiff, Nat.reduceAdd, Nat.reduceMul, Nat.reduceSub, Nat.reduceLT, Nat.reduceLeDiff, reduceCtorEq] <;> rfl) ?_
        | refine L_call1 (ac_eqShelf L[k] (hL2 _ (List.getElem_mem hk))) ⟨rfl, by simp [Ob.clean]⟩ (by simp only [hfree, hputs, go_sem, reduceIte, Nat.reduceEqDiff, Nat.reduceAdd, Nat.reduceMul, Nat.reduceSub, Nat.reduceLT, Nat.reduceLeDiff, reduceCtorEq]) ?_
        | simp only [go_sem, reduceIte, Nat.reduceEqDiff, Nat.reduceAdd, Nat.reduceMul, Nat.reduceSub, Nat.reduceLT, Nat.reduceLeDiff, reduceCtorEq, *]
        | refine L_split _ (by simp only [go_sem, reduceIte, Nat.reduceEqDiff, Nat.reduceAdd, Nat.reduceMul, Nat.reduceSub, Nat.reduceLT, Nat.reduceLeDiff, reduceCtorEq] <;> rfl) (fun h => ?_) (fun h => ?_)
        | with_reducible refine And.intro ?_ ?_
      all_goals first | omega | skip
      refine ⟨k + 1, by omega, by omega, ?_⟩
      (refine Wk.to _ _ [] ?_ (by simp [ren]) ?_ (by simp) <;> simp only [leHl, leSl, toW, ren, Wn.leO, Wn.le, Wn.cw, Wn.leL, go_sem, reduceIte, Nat.reduceEqDiff, Nat.reduceAdd, Nat.reduceMul, Nat.reduceSub, Nat.reduceLT, Nat.reduceLeDiff, reduceCtorEq, Option.some.injEq, exists_eq_left', Ob.row.injEq, Ob.box.injEq, AV.own.injEq, Option.isSome_some, true_and, and_true, or_true, true_or] <;> (repeat' with_reducible apply And.intro) <;> (try rfl))
      all_goals (rw [wrap64 (by omega) (by omega)]; simp)
    · have hk : k = L.length := by omega
      subst hk
      have e1 : decide ((L.length : Int) < L.length) = false := by simp
      repeat' first
        | refine SW.step good fun K hK => ?_
        | refine SW.seqK fun J hJ => ?_
        | refine SW.last good fun K hK => ?_
        | (refine hK _ ?_; clear hK K)
        | (refine hJ _ _ (Wk.refl _) ?_; clear hJ J)
        | clear hK K
        | clear hJ J
        | refine SW.skip ?_
        | refine SW.ret ?_
        | refine SW.retT ?_
        | refine SW.retB ?_
        | refine SW.exit ?_
        | refine SW.exitT ?_
        | refine SW.exitB ?_
        | refine SW.exitN rfl ?_
        | refine SW.block ?_
        | refine SW.normB ?_
        | refine SW.normT ?_
        | refine SW.condT (by simp only [go_sem, reduceIte, Nat.reduceEqDiff, Nat.reduceAdd, Nat.reduceMul, Nat.reduceSub, Nat.reduceLT, Nat.reduceLeDiff, reduceCtorEq] <;> rfl) ?_
        | refine SW.condF (by simp only [go_sem, reduceIte, Nat.reduceEqDiff, Nat.reduceAdd, Nat.reduceMul, Nat.reduceSub, Nat.reduceLT, Nat.reduceLeDiff, reduceCtorEq] <;> rfl) ?_
        | refine SW.cond (by simp only [go_sem, reduceIte, Nat.reduceEqDiff, Nat.reduceAdd, Nat.reduceMul, Nat.reduceSub, Nat.reduceLT, Nat.reduceLeDiff, reduceCtorEq] <;> rfl) (fun h => ?_) (fun h => ?_)
        | simp only [go_sem, reduceIte, Nat.reduceEqDiff, Nat.reduceAdd, Nat.reduceMul, Nat.reduceSub, Nat.reduceLT, Nat.reduceLeDiff, reduceCtorEq, *]
        | refine L_split _ (by simp only [go_sem, reduceIte, Nat.reduceEqDiff, Nat.reduceAdd, Nat.reduceMul, Nat.reduceSub, Nat.reduceLT, Nat.reduceLeDiff, reduceCtorEq] <;> rfl) (fun h => ?_) (fun h => ?_)
        | with_reducible refine And.intro ?_ ?_
      all_goals refine ret_bool (by simp only [Ty.isAgg, go_sem, reduceIte, Nat.reduceEqDiff, Nat.reduceAdd, Nat.reduceMul, Nat.reduceSub, Nat.reduceLT, Nat.reduceLeDiff, reduceCtorEq] <;> rfl) (by simp) ?_
      all_goals rfl
theorem ac_eqPeer (p : Peer) (hp : p.small) : AC Try.prog 57 [encPeer true p, encPeer true p] (vB true) [] := by
  obtain ⟨h1, h2, h3, h4⟩ := hp
  refine AC.walk good (fn := Try.f57) rfl (sc := ?sc) (N := ?N) (rv := ?rv) ?hd (by kernel_rfl) ?hn (by simp) ?_
  case hd => (cbv <;> rfl)
  case hn => (simp only [List.length]; decide)
  simp only [entry, List.getD_cons_zero, List.getD_cons_succ]
  repeat' first
    | refine SW.step good fun K hK => ?_
    | refine SW.seqK fun J hJ => ?_
    | refine SW.last good fun K hK => ?_
    | (refine hK _ ?_; clear hK K)
    | (refine hJ _ _ (Wk.refl _) ?_; clear hJ J)
    | clear hK K
    | clear hJ J
    | refine SW.skip ?_
    | refine SW.ret ?_
    | refine SW.retT ?_
    | refine SW.retB ?_
    | refine SW.exit ?_
    | refine SW.exitT ?_
    | refine SW.exitB ?_
    | refine SW.exitN rfl ?_
    | refine SW.block ?_
    | refine SW.normB ?_
    | refine SW.normT ?_
    | refine SW.condT (by simp only [go_sem, reduceIte, Nat.reduceEqDiff, Nat.reduceAdd, Nat.reduceMul, Nat.reduceSub, Nat.reduceLT, Nat.reduceLeDiff, reduceCtorEq] <;> rfl) ?_
    | refine SW.condF (by simp only [go_sem, reduceIte, Nat.reduceEqDiff, Nat.reduceAdd, Nat.reduceMul, Nat.reduceSub, Nat.reduceLT, Nat.reduceLeDiff, reduceCtorEq] <;> rfl) ?_
    | refine SW.cond (by simp only [go_sem, reduceIte, Nat.reduceEqDiff, Nat.reduceAdd, Nat.reduceMul, Nat.reduceSub, Nat.reduceLT, Nat.reduceLeDiff, reduceCtorEq] <;> rfl) (fun h => ?_) (fun h => ?_)
    | refine L_call0 (by simp only [go_sem, reduceIte, Nat.reduceEqDiff, Nat.reduceAdd, Nat.reduceMul, Nat.reduceSub, Nat.reduceLT, Nat.reduceLeDiff, reduceCtorEq] <;> rfl) ?_
    | refine L_callv0 (by simp only [go_sem, reduceIte, Nat.reduceEqDiff, Nat.reduceAdd, Nat.reduceMul, Nat.reduceSub, Nat.reduceLT, Nat.reduceLeDiff, reduceCtorEq] <;> rfl) (by simp only [go_sem, reduceIte, Nat.reduceEqDiff, Nat.reduceAdd, Nat.reduceMul, Nat.reduceSub, Nat.reduceLT, Nat.reduceLeDiff, reduceCtorEq] <;> rfl) ?_
    | refine L_call1 (ac_eqIntS _ h1) ⟨rfl, by simp [Ob.clean]⟩ (by simp only [hfree, hputs, go_sem, reduceIte, Nat.reduceEqDiff, Nat.reduceAdd, Nat.reduceMul, Nat.reduceSub, Nat.reduceLT, Nat.reduceLeDiff, reduceCtorEq]) ?_
    | refine L_call1 (ac_eqIntS _ h2) ⟨rfl, by simp [Ob.clean]⟩ (by simp only [hfree, hputs, go_sem, reduceIte, Nat.reduceEqDiff, Nat.reduceAdd, Nat.reduceMul, Nat.reduceSub, Nat.reduceLT, Nat.reduceLeDiff, reduceCtorEq]) ?_
    | refine L_call1 (ac_eqShelfS _ h3 h4) ⟨rfl, by simp [Ob.clean]⟩ (by simp only [hfree, hputs, go_sem, reduceIte, Nat.reduceEqDiff, Nat.reduceAdd, Nat.reduceMul, Nat.reduceSub, Nat.reduceLT, Nat.reduceLeDiff, reduceCtorEq]) ?_
    | simp only [go_sem, reduceIte, Nat.reduceEqDiff, Nat.reduceAdd, Nat.reduceMul, Nat.reduceSub, Nat.reduceLT, Nat.reduceLeDiff, reduceCtorEq, *]
    | refine L_split _ (by simp only [go_sem, reduceIte, Nat.reduceEqDiff, Nat.reduceAdd, Nat.reduceMul, Nat.reduceSub, Nat.reduceLT, Nat.reduceLeDiff, reduceCtorEq] <;> rfl) (fun h => ?_) (fun h => ?_)
    | with_reducible refine And.intro ?_ ?_
  all_goals refine ret_bool (by simp only [Ty.isAgg, go_sem, reduceIte, Nat.reduceEqDiff, Nat.reduceAdd, Nat.reduceMul, Nat.reduceSub, Nat.reduceLT, Nat.reduceLeDiff, reduceCtorEq] <;> rfl) (by simp) ?_
  all_goals simp_all
theorem ac_eqPeerS (L : List Peer) (hL : L.length ≤ 1048576) (hL2 : ∀ p, p ∈ L → p.small) : AC Try.prog 100 [.c true (.sl (L.map peerC)), .c true (.sl (L.map peerC))] (vB true) [] := by
  refine AC.walk good (fn := Try.f100) rfl (sc := ?sc) (N := ?N) (rv := ?rv) ?hd (by kernel_rfl) ?hn (by simp) ?_
  case hd => (cbv <;> rfl)
  case hn => (simp only [List.length]; decide)
  simp only [entry, List.getD_cons_zero, List.getD_cons_succ]
  repeat' first
    | refine SW.step good fun K hK => ?_
    | refine SW.seqK fun J hJ => ?_
    | refine SW.last good fun K hK => ?_
    | (refine hK _ ?_; clear hK K)
    | (refine hJ _ _ (Wk.refl _) ?_; clear hJ J)
    | clear hK K
    | clear hJ J
    | refine SW.skip ?_
    | refine SW.ret ?_
    | refine SW.retT ?_
    | refine SW.retB ?_
    | refine SW.exit ?_
    | refine SW.exitT ?_
    | refine SW.exitB ?_
    | refine SW.exitN rfl ?_
    | refine SW.block ?_
    | refine SW.normB ?_
    | refine SW.normT ?_
    | refine SW.condT (by simp only [go_sem, reduceIte, Nat.reduceEqDiff, Nat.reduceAdd, Nat.reduceMul, Nat.reduceSub, Nat.reduceLT, Nat.reduceLeDiff, reduceCtorEq] <;> rfl) ?_
    | refine SW.condF (by simp only [go_sem, reduceIte, Nat.reduceEqDiff, Nat.reduceAdd, Nat.reduceMul, Nat.reduceSub, Nat.reduceLT, Nat.reduceLeDiff, reduceCtorEq] <;> rfl) ?_
    | refine SW.cond (by simp only [go_sem, reduceIte, Nat.reduceEqDiff, Nat.reduceAdd, Nat.reduceMul, Nat.reduceSub, Nat.reduceLT, Nat.reduceLeDiff, reduceCtorEq] <;> rfl) (fun h => ?_) (fun h => ?_)
    | simp only [go_sem, reduceIte, Nat.reduceEqDiff, Nat.reduceAdd, Nat.reduceMul, Nat.reduceSub, Nat.reduceLT, Nat.reduceLeDiff, reduceCtorEq, *]
    | refine L_split _ (by simp only [go_sem, reduceIte, Nat.reduceEqDiff, Nat.reduceAdd, Nat.reduceMul, Nat.reduceSub, Nat.reduceLT, Nat.reduceLeDiff, reduceCtorEq] <;> rfl) (fun h => ?_) (fun h => ?_)
    | with_reducible refine And.intro ?_ ?_
  refine SW.loopTo (α := Nat) (fun k => ⟨sl [(0, .c true (.sl (L.map peerC))), (1, .c true (.sl (L.map peerC))), (5, vI k)], hl []⟩) (fun k => L.length - k) 0 (fun k => k ≤ L.length) ?_ (by simp) ?_
  · (refine Wk.to _ _ [] ?_ (by simp [ren]) ?_ (by simp) <;> simp only [leHl, leSl, toW, ren, Wn.leO, Wn.le, Wn.cw, Wn.leL, go_sem, reduceIte, Nat.reduceEqDiff, Nat.reduceAdd, Nat.reduceMul, Nat.reduceSub, Nat.reduceLT, Nat.reduceLeDiff, reduceCtorEq, Option.some.injEq, exists_eq_left', Ob.row.injEq, Ob.box.injEq, AV.own.injEq, Option.isSome_some, true_and, and_true, or_true, true_or] <;> (repeat' with_reducible apply And.intro) <;> (try rfl))
  · intro k h2
    by_cases hk : k < L.length
    · have e := getD_map L peerC [] hk
      have e1 : decide ((k : Int) < L.length) = true := by simp; omega
      repeat' first
        | refine SW.step good fun K hK => ?_
        | refine SW.seqK fun J hJ => ?_
        | refine SW.last good fun K hK => ?_
        | (refine hK _ ?_; clear hK K)
        | (refine hJ _ _ (Wk.refl _) ?_; clear hJ J)
        | clear hK K
        | clear hJ J
        | refine SW.skip ?_
        | refine SW.ret ?_
        | refine SW.retT ?_
        | refine SW.retB ?_
        | refine SW.exit ?_
        | refine SW.exitT ?_
        | refine SW.exitB ?_
        | refine SW.exitN rfl ?_
        | refine SW.block ?_
        | refine SW.normB ?_
        | refine SW.normT ?_
        | refine SW.condT (by simp only [go_sem, reduceIte, Nat.reduceEqDiff, Nat.reduceAdd, Nat.reduceMul, Nat.reduceSub, Nat.reduceLT, Nat.reduceLeDiff, reduceCtorEq] <;> rfl) ?_
        | refine SW.condF (by simp only [go_sem, reduceIte, Nat.reduceEqDiff, Nat.reduceAdd, Nat.reduceMul, Nat.reduceSub, Nat.reduceLT, Nat.reduceLeDiff, reduceCtorEq] <;> rfl) ?_
        | refine SW.cond (by simp only [go_sem, reduceIte, Nat.reduceEqDiff, Nat.reduceAdd, Nat.reduceMul, Nat.reduceSub, Nat.reduceLT, Nat.reduceLeDiff, reduceCtorEq] <;> rfl) (fun h => ?_) (fun h => ?_)
        | refine L_call0 (by simp only [go_sem, reduceIte, Nat.reduceEqDiff, Nat.reduceAdd, Nat.reduceMul, Nat.reduceSub, Nat.reduceLT, Nat.reduceLeDiff, reduceCtorEq] <;> rfl) ?_
        | refine L_callv0 (by simp only [go_sem, reduceIte, Nat.reduceEqDiff, Nat.reduceAdd, Nat.reduceMul, Nat.reduceSub, Nat.reduceLT, Nat.reduceLeDiff, reduceCtorEq] <;> rfl) (by simp only [go_sem, reduceIte, Nat.reduceEqDiff, Nat.reduceAdd, Nat.reduceMul, Nat.reduceSub, Nat.reduceLT, Nat.reduceLeDiff, reduceCtorEq] <;> rfl) ?_
        | refine L_call1 (ac_eqPeer L[k] (hL2 _ (List.getElem_mem hk))) ⟨rfl, by simp [Ob.clean]⟩ (by simp only [hfree, hputs, go_sem, reduceIte, Nat.reduceEqDiff, Nat.reduceAdd, Nat.reduceMul, Nat.reduceSub, Nat.reduceLT, Nat.reduceLeDiff, reduceCtorEq]) ?_
        | simp only [go_sem, reduceIte, Nat.reduceEqDiff, Nat.reduceAdd, Nat.reduceMul, Nat.reduceSub, Nat.reduceLT, Nat.reduceLeDiff, reduceCtorEq, *]
        | refine L_split _ (by simp only [go_sem, reduceIte, Nat.reduceEqDiff, Nat.reduceAdd, Nat.reduceMul, Nat.reduceSub, Nat.reduceLT, Nat.reduceLeDiff, reduceCtorEq] <;> rfl) (fun h => ?_) (fun h => ?_)
        | with_reducible refine And.intro ?_ ?_
      all_goals first | omega | skip
      refine ⟨k + 1, by omega, by omega, ?_⟩
      (refine Wk.to _ _ [] ?_ (by simp [ren]) ?_ (by simp) <;> simp only [leHl, leSl, toW, ren, Wn.leO, Wn.le, Wn.cw, Wn.leL, go_sem, reduceIte, Nat.reduceEqDiff, Nat.reduceAdd, Nat.reduceMul, Nat.reduceSub, Nat.reduceLT, Nat.reduceLeDiff, reduceCtorEq, Option.some.injEq, exists_eq_left', Ob.row.injEq, Ob.box.injEq, AV.own.injEq, Option.isSome_some, true_and, and_true, or_true, true_or] <;> (repeat' with_reducible apply And.intro) <;> (try rfl))
      all_goals (rw [wrap64 (by omega) (by omega)]; simp)
    · have hk : k = L.length := by omega
      subst hk
      have e1 : decide ((L.length : Int) < L.length) = false := by simp
      repeat' first
        | refine SW.step good fun K hK => ?_
        | refine SW.seqK fun J hJ => ?_
        | refine SW.last good fun K hK => ?_
        | (refine hK _ ?_; clear hK K)
        | (refine hJ _ _ (Wk.refl _) ?_; clear hJ J)
        | clear hK K
        | clear hJ J
        | refine SW.skip ?_
        | refine SW.ret ?_
        | refine SW.retT ?_
        | refine SW.retB ?_
        | refine SW.exit ?_
        | refine SW.exitT ?_
        | refine SW.exitB ?_
        | refine SW.exitN rfl ?_
        | refine SW.block ?_
        | refine SW.normB ?_
        | refine SW.normT ?_
        | refine SW.condT (by simp only [go_sem, reduceIte, Nat.reduceEqDiff, Nat.reduceAdd, Nat.reduceMul, Nat.reduceSub, Nat.reduceLT, Nat.reduceLeDiff, reduceCtorEq] <;> rfl) ?_
        | refine SW.condF (by simp only [go_sem, reduceIte, Nat.reduceEqDiff, Nat.reduceAdd, Nat.reduceMul, Nat.reduceSub, Nat.reduceLT, Nat.reduceLeDiff, reduceCtorEq] <;> rfl) ?_
        | refine SW.cond (by simp only [go_sem, reduceIte, Nat.reduceEqDiff, Nat.reduceAdd, Nat.reduceMul, Nat.reduceSub, Nat.reduceLT, Nat.reduceLeDiff, reduceCtorEq] <;> rfl) (fun h => ?_) (fun h => ?_)
        | simp only [go_sem, reduceIte, Nat.reduceEqDiff, Nat.reduceAdd, Nat.reduceMul, Nat.reduceSub, Nat.reduceLT, Nat.reduceLeDiff, reduceCtorEq, *]
        | refine L_split _ (by simp only [go_sem, reduceIte, Nat.reduceEqDiff, Nat.reduceAdd, Nat.reduceMul, Nat.reduceSub, Nat.reduceLT, Nat.reduceLeDiff, reduceCtorEq] <;> rfl) (fun h => ?_) (fun h => ?_)
        | with_reducible refine And.intro ?_ ?_
      all_goals refine ret_bool (by simp only [Ty.isAgg, go_sem, reduceIte, Nat.reduceEqDiff, Nat.reduceAdd, Nat.reduceMul, Nat.reduceSub, Nat.reduceLT, Nat.reduceLeDiff, reduceCtorEq] <;> rfl) (by simp) ?_
      all_goals rfl
theorem ac_eqRing (L : List Peer) (hL : L.length ≤ 1048576) (hL2 : ∀ p, p ∈ L → p.small) : AC Try.prog 41 [encRing true L, encRing true L] (vB true) [] := by
  refine AC.walk good (fn := Try.f41) rfl (sc := ?sc) (N := ?N) (rv := ?rv) ?hd (by kernel_rfl) ?hn (by simp) ?_
  case hd => (cbv <;> rfl)
  case hn => (simp only [List.length]; decide)
  simp only [entry, List.getD_cons_zero, List.getD_cons_succ]
  repeat' first
    | refine SW.step good fun K hK => ?_
    | refine SW.seqK fun J hJ => ?_
    | refine SW.last good fun K hK => ?_
    | (refine hK _ ?_; clear hK K)
    | (refine hJ _ _ (Wk.refl _) ?_; clear hJ J)
    | clear hK K
    | clear hJ J
    | refine SW.skip ?_
    | refine SW.ret ?_
    | refine SW.retT ?_
    | refine SW.retB ?_
    | refine SW.exit ?_
    | refine SW.exitT ?_
    | refine SW.exitB ?_
    | refine SW.exitN rfl ?_
    | refine SW.block ?_
    | refine SW.normB ?_
    | refine SW.normT ?_
    | refine SW.condT (by simp only [go_sem, reduceIte, Nat.reduceEqDiff, Nat.reduceAdd, Nat.reduceMul, Nat.reduceSub, Nat.reduceLT, Nat.reduceLeDiff, reduceCtorEq] <;> rfl) ?_
    | refine SW.condF (by simp only [go_sem, reduceIte, Nat.reduceEqDiff, Nat.reduceAdd, Nat.reduceMul, Nat.reduceSub, Nat.reduceLT, Nat.reduceLeDiff, reduceCtorEq] <;> rfl) ?_
    | refine SW.cond (by simp only [go_sem, reduceIte, Nat.reduceEqDiff, Nat.reduceAdd, Nat.reduceMul, Nat.reduceSub, Nat.reduceLT, Nat.reduceLeDiff, reduceCtorEq] <;> rfl) (fun h => ?_) (fun h => ?_)
    | refine L_call0 (by simp only [go_sem, reduceIte, Nat.reduceEqDiff, Nat.reduceAdd, Nat.reduceMul, Nat.reduceSub, Nat.reduceLT, Nat.reduceLeDiff, reduceCtorEq] <;> rfl) ?_
    | refine L_callv0 (by simp only [go_sem, reduceIte, Nat.reduceEqDiff, Nat.reduceAdd, Nat.reduceMul, Nat.reduceSub, Nat.reduceLT, Nat.reduceLeDiff, reduceCtorEq] <;> rfl) (by simp only [go_sem, reduceIte, Nat.reduceEqDiff, Nat.reduceAdd, Nat.reduceMul, Nat.reduceSub, Nat.reduceLT, Nat.reduceLeDiff, reduceCtorEq] <;> rfl) ?_
    | refine L_call1 (ac_eqPeerS _ hL hL2) ⟨rfl, by simp [Ob.clean]⟩ (by simp only [hfree, hputs, go_sem, reduceIte, Nat.reduceEqDiff, Nat.reduceAdd, Nat.reduceMul, Nat.reduceSub, Nat.reduceLT, Nat.reduceLeDiff, reduceCtorEq]) ?_
    | simp only [go_sem, reduceIte, Nat.reduceEqDiff, Nat.reduceAdd, Nat.reduceMul, Nat.reduceSub, Nat.reduceLT, Nat.reduceLeDiff, reduceCtorEq, *]
    | refine L_split _ (by simp only [go_sem, reduceIte, Nat.reduceEqDiff, Nat.reduceAdd, Nat.reduceMul, Nat.reduceSub, Nat.reduceLT, Nat.reduceLeDiff, reduceCtorEq] <;> rfl) (fun h => ?_) (fun h => ?_)
    | with_reducible refine And.intro ?_ ?_
  all_goals refine ret_bool (by simp only [Ty.isAgg, go_sem, reduceIte, Nat.reduceEqDiff, Nat.reduceAdd, Nat.reduceMul, Nat.reduceSub, Nat.reduceLT, Nat.reduceLeDiff, reduceCtorEq] <;> rfl) (by simp) ?_
  all_goals simp_all
end Go.Proofs.Ytbpfciidbgkekaa.AB
