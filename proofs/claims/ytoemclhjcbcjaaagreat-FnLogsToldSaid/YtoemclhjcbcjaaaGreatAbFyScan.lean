/- The readers' methods: a number, a text. -/
import Derived.Test.YtoemclhjcbcjaaaGreatAbFxScan
namespace Go.Proofs.YtoemclhjcbcjaaaGreat.AB
open Go
set_option maxRecDepth 100000
set_option linter.unusedSimpArgs false
set_option linter.unusedVariables false
def scO (t : List UInt8) (s : Sc) : Ob := .box [vS t, vI s.1, vB s.2]
set_option maxHeartbeats 1000000 in
theorem mc_number (t : List UInt8) (most : Int) (s : Sc) (ht : t.length ≤ 4611686018427387904) : MC Tryz.prog 34 [.ptr (.a 0) 0, vI most] [scO t s] (vI (scNum t most s).1) [some (scO t (scNum t most s).2)] [] := by
  obtain ⟨p, b⟩ := s
  have hR := ac_ReadVar t p ht
  unfold rvV rvE rvB at hR
  by_cases hb : b = true
  · subst hb
    rw [scNum_bad rfl]
    cases hr : readVar t p with
    | none =>
      rw [hr] at hR
      simp only [scO]
      refine XM good (fn := Tryz.f34) rfl ?_
      try simp only [List.getD_cons_zero, List.getD_cons_succ]
      repeat' first | refine SW.step good fun K hK => ?_ | refine X2 good fun K hK => ?_ | refine X3 good fun K hK => ?_ | refine SW.seqK fun J hJ => ?_ | refine SW.last good fun K hK => ?_ | (refine hK _ ?_; clear hK K) | (refine hJ _ _ (Wk.refl _) ?_; clear hJ J) | clear hK K | clear hJ J | refine SW.skip ?_ | refine SW.ret ?_ | refine SW.retT ?_ | refine SW.retB ?_ | refine SW.exit ?_ | refine SW.exitT ?_ | refine SW.exitB ?_ | refine XN ?_ | refine SW.block ?_ | refine SW.normB ?_ | refine SW.normT ?_ | refine XT ?_ | refine XF ?_ | refine XC (fun h => ?_) (fun h => ?_) | refine X0 ?_ | refine Xv ?_ | refine X1 (hR) ?_ | simp only [go_sem, optI, Option.getD_some, Option.getD_none, Int.reduceToNat, reduceIte, Nat.reduceEqDiff, Nat.reduceAdd, Nat.reduceMul, Nat.reduceSub, Nat.reduceLT, Nat.reduceLeDiff, reduceCtorEq, *] | refine Xs _ (fun h => ?_) (fun h => ?_) | with_reducible refine And.intro ?_ ?_
      all_goals first | omega | skip
      all_goals first | (refine Xrm ?_ ?_ <;> simp [Wn.leO, scO, resOf, Wn.le, Wn.leL, Wn.cw, C.scal, scal] <;> done) | (exfalso; simp_all; done)
    | some ne =>
      obtain ⟨n, e⟩ := ne
      rw [hr] at hR
      simp only [scO]
      refine XM good (fn := Tryz.f34) rfl ?_
      try simp only [List.getD_cons_zero, List.getD_cons_succ]
      repeat' first | refine SW.step good fun K hK => ?_ | refine X2 good fun K hK => ?_ | refine X3 good fun K hK => ?_ | refine SW.seqK fun J hJ => ?_ | refine SW.last good fun K hK => ?_ | (refine hK _ ?_; clear hK K) | (refine hJ _ _ (Wk.refl _) ?_; clear hJ J) | clear hK K | clear hJ J | refine SW.skip ?_ | refine SW.ret ?_ | refine SW.retT ?_ | refine SW.retB ?_ | refine SW.exit ?_ | refine SW.exitT ?_ | refine SW.exitB ?_ | refine XN ?_ | refine SW.block ?_ | refine SW.normB ?_ | refine SW.normT ?_ | refine XT ?_ | refine XF ?_ | refine XC (fun h => ?_) (fun h => ?_) | refine X0 ?_ | refine Xv ?_ | refine X1 (hR) ?_ | simp only [go_sem, optI, Option.getD_some, Option.getD_none, Int.reduceToNat, reduceIte, Nat.reduceEqDiff, Nat.reduceAdd, Nat.reduceMul, Nat.reduceSub, Nat.reduceLT, Nat.reduceLeDiff, reduceCtorEq, *] | refine Xs _ (fun h => ?_) (fun h => ?_) | with_reducible refine And.intro ?_ ?_
      all_goals first | omega | skip
      all_goals first | (refine Xrm ?_ ?_ <;> simp [Wn.leO, scO, resOf, Wn.le, Wn.leL, Wn.cw, C.scal, scal] <;> done) | (exfalso; simp_all; done)
  · have hb : b = false := by simpa using hb
    subst hb
    cases hr : readVar t p with
    | none =>
      have hres : scNum t most (p, false) = (0, p, true) := by unfold scNum; simp only [hr]; rfl
      rw [hr] at hR
      rw [hres]
      simp only [scO]
      refine XM good (fn := Tryz.f34) rfl ?_
      try simp only [List.getD_cons_zero, List.getD_cons_succ]
      repeat' first | refine SW.step good fun K hK => ?_ | refine X2 good fun K hK => ?_ | refine X3 good fun K hK => ?_ | refine SW.seqK fun J hJ => ?_ | refine SW.last good fun K hK => ?_ | (refine hK _ ?_; clear hK K) | (refine hJ _ _ (Wk.refl _) ?_; clear hJ J) | clear hK K | clear hJ J | refine SW.skip ?_ | refine SW.ret ?_ | refine SW.retT ?_ | refine SW.retB ?_ | refine SW.exit ?_ | refine SW.exitT ?_ | refine SW.exitB ?_ | refine XN ?_ | refine SW.block ?_ | refine SW.normB ?_ | refine SW.normT ?_ | refine XT ?_ | refine XF ?_ | refine XC (fun h => ?_) (fun h => ?_) | refine X0 ?_ | refine Xv ?_ | refine X1 (hR) ?_ | simp only [go_sem, optI, Option.getD_some, Option.getD_none, Int.reduceToNat, reduceIte, Nat.reduceEqDiff, Nat.reduceAdd, Nat.reduceMul, Nat.reduceSub, Nat.reduceLT, Nat.reduceLeDiff, reduceCtorEq, *] | refine Xs _ (fun h => ?_) (fun h => ?_) | with_reducible refine And.intro ?_ ?_
      all_goals first | omega | skip
      all_goals first | (refine Xrm ?_ ?_ <;> simp [Wn.leO, scO, resOf, Wn.le, Wn.leL, Wn.cw, C.scal, scal] <;> done) | (exfalso; simp_all; done)
    | some ne =>
      obtain ⟨n, e⟩ := ne
      rw [hr] at hR
      by_cases hm : most < n
      · have hres : scNum t most (p, false) = (0, p, true) := by unfold scNum; simp only [hr]; rw [if_pos hm]; rfl
        have g1 : decide (most < (n : Int)) = true := by simpa using hm
        rw [hres]
        simp only [scO]
        refine XM good (fn := Tryz.f34) rfl ?_
        try simp only [List.getD_cons_zero, List.getD_cons_succ]
        repeat' first | refine SW.step good fun K hK => ?_ | refine X2 good fun K hK => ?_ | refine X3 good fun K hK => ?_ | refine SW.seqK fun J hJ => ?_ | refine SW.last good fun K hK => ?_ | (refine hK _ ?_; clear hK K) | (refine hJ _ _ (Wk.refl _) ?_; clear hJ J) | clear hK K | clear hJ J | refine SW.skip ?_ | refine SW.ret ?_ | refine SW.retT ?_ | refine SW.retB ?_ | refine SW.exit ?_ | refine SW.exitT ?_ | refine SW.exitB ?_ | refine XN ?_ | refine SW.block ?_ | refine SW.normB ?_ | refine SW.normT ?_ | refine XT ?_ | refine XF ?_ | refine XC (fun h => ?_) (fun h => ?_) | refine X0 ?_ | refine Xv ?_ | refine X1 (hR) ?_ | simp only [go_sem, optI, Option.getD_some, Option.getD_none, Int.reduceToNat, reduceIte, Nat.reduceEqDiff, Nat.reduceAdd, Nat.reduceMul, Nat.reduceSub, Nat.reduceLT, Nat.reduceLeDiff, reduceCtorEq, *] | refine Xs _ (fun h => ?_) (fun h => ?_) | with_reducible refine And.intro ?_ ?_
        all_goals first | omega | skip
        all_goals first | (refine Xrm ?_ ?_ <;> simp [Wn.leO, scO, resOf, Wn.le, Wn.leL, Wn.cw, C.scal, scal] <;> done) | (exfalso; simp_all; done)
      · have hres : scNum t most (p, false) = ((n : Int), (e : Int), false) := by unfold scNum; simp only [hr]; rw [if_neg hm]; rfl
        have g1 : decide (most < (n : Int)) = false := by simpa using hm
        rw [hres]
        simp only [scO]
        refine XM good (fn := Tryz.f34) rfl ?_
        try simp only [List.getD_cons_zero, List.getD_cons_succ]
        repeat' first | refine SW.step good fun K hK => ?_ | refine X2 good fun K hK => ?_ | refine X3 good fun K hK => ?_ | refine SW.seqK fun J hJ => ?_ | refine SW.last good fun K hK => ?_ | (refine hK _ ?_; clear hK K) | (refine hJ _ _ (Wk.refl _) ?_; clear hJ J) | clear hK K | clear hJ J | refine SW.skip ?_ | refine SW.ret ?_ | refine SW.retT ?_ | refine SW.retB ?_ | refine SW.exit ?_ | refine SW.exitT ?_ | refine SW.exitB ?_ | refine XN ?_ | refine SW.block ?_ | refine SW.normB ?_ | refine SW.normT ?_ | refine XT ?_ | refine XF ?_ | refine XC (fun h => ?_) (fun h => ?_) | refine X0 ?_ | refine Xv ?_ | refine X1 (hR) ?_ | simp only [go_sem, optI, Option.getD_some, Option.getD_none, Int.reduceToNat, reduceIte, Nat.reduceEqDiff, Nat.reduceAdd, Nat.reduceMul, Nat.reduceSub, Nat.reduceLT, Nat.reduceLeDiff, reduceCtorEq, *] | refine Xs _ (fun h => ?_) (fun h => ?_) | with_reducible refine And.intro ?_ ?_
        all_goals first | omega | skip
        all_goals first | (refine Xrm ?_ ?_ <;> simp [Wn.leO, scO, resOf, Wn.le, Wn.leL, Wn.cw, C.scal, scal] <;> done) | (exfalso; simp_all; done)
set_option maxHeartbeats 1000000 in
theorem mc_num (t : List UInt8) (most : Int) (s : Sc) (ht : t.length ≤ 4611686018427387904) : MC Tryz.prog 37 [.ptr (.a 0) 0, vI most] [scO t s] (vI (scNum t most s).1) [some (scO t (scNum t most s).2)] [] := by
  obtain ⟨p, b⟩ := s
  have hR := ac_ReadVar' t p ht
  unfold rvV rvE rvB at hR
  by_cases hb : b = true
  · subst hb
    rw [scNum_bad rfl]
    cases hr : readVar t p with
    | none =>
      rw [hr] at hR
      simp only [scO]
      refine XM good (fn := Tryz.f37) rfl ?_
      try simp only [List.getD_cons_zero, List.getD_cons_succ]
      repeat' first | refine SW.step good fun K hK => ?_ | refine X2 good fun K hK => ?_ | refine X3 good fun K hK => ?_ | refine SW.seqK fun J hJ => ?_ | refine SW.last good fun K hK => ?_ | (refine hK _ ?_; clear hK K) | (refine hJ _ _ (Wk.refl _) ?_; clear hJ J) | clear hK K | clear hJ J | refine SW.skip ?_ | refine SW.ret ?_ | refine SW.retT ?_ | refine SW.retB ?_ | refine SW.exit ?_ | refine SW.exitT ?_ | refine SW.exitB ?_ | refine XN ?_ | refine SW.block ?_ | refine SW.normB ?_ | refine SW.normT ?_ | refine XT ?_ | refine XF ?_ | refine XC (fun h => ?_) (fun h => ?_) | refine X0 ?_ | refine Xv ?_ | refine X1 (hR) ?_ | simp only [go_sem, optI, Option.getD_some, Option.getD_none, Int.reduceToNat, reduceIte, Nat.reduceEqDiff, Nat.reduceAdd, Nat.reduceMul, Nat.reduceSub, Nat.reduceLT, Nat.reduceLeDiff, reduceCtorEq, *] | refine Xs _ (fun h => ?_) (fun h => ?_) | with_reducible refine And.intro ?_ ?_
      all_goals first | omega | skip
      all_goals first | (refine Xrm ?_ ?_ <;> simp [Wn.leO, scO, resOf, Wn.le, Wn.leL, Wn.cw, C.scal, scal] <;> done) | (exfalso; simp_all; done)
    | some ne =>
      obtain ⟨n, e⟩ := ne
      rw [hr] at hR
      simp only [scO]
      refine XM good (fn := Tryz.f37) rfl ?_
      try simp only [List.getD_cons_zero, List.getD_cons_succ]
      repeat' first | refine SW.step good fun K hK => ?_ | refine X2 good fun K hK => ?_ | refine X3 good fun K hK => ?_ | refine SW.seqK fun J hJ => ?_ | refine SW.last good fun K hK => ?_ | (refine hK _ ?_; clear hK K) | (refine hJ _ _ (Wk.refl _) ?_; clear hJ J) | clear hK K | clear hJ J | refine SW.skip ?_ | refine SW.ret ?_ | refine SW.retT ?_ | refine SW.retB ?_ | refine SW.exit ?_ | refine SW.exitT ?_ | refine SW.exitB ?_ | refine XN ?_ | refine SW.block ?_ | refine SW.normB ?_ | refine SW.normT ?_ | refine XT ?_ | refine XF ?_ | refine XC (fun h => ?_) (fun h => ?_) | refine X0 ?_ | refine Xv ?_ | refine X1 (hR) ?_ | simp only [go_sem, optI, Option.getD_some, Option.getD_none, Int.reduceToNat, reduceIte, Nat.reduceEqDiff, Nat.reduceAdd, Nat.reduceMul, Nat.reduceSub, Nat.reduceLT, Nat.reduceLeDiff, reduceCtorEq, *] | refine Xs _ (fun h => ?_) (fun h => ?_) | with_reducible refine And.intro ?_ ?_
      all_goals first | omega | skip
      all_goals first | (refine Xrm ?_ ?_ <;> simp [Wn.leO, scO, resOf, Wn.le, Wn.leL, Wn.cw, C.scal, scal] <;> done) | (exfalso; simp_all; done)
  · have hb : b = false := by simpa using hb
    subst hb
    cases hr : readVar t p with
    | none =>
      have hres : scNum t most (p, false) = (0, p, true) := by unfold scNum; simp only [hr]; rfl
      rw [hr] at hR
      rw [hres]
      simp only [scO]
      refine XM good (fn := Tryz.f37) rfl ?_
      try simp only [List.getD_cons_zero, List.getD_cons_succ]
      repeat' first | refine SW.step good fun K hK => ?_ | refine X2 good fun K hK => ?_ | refine X3 good fun K hK => ?_ | refine SW.seqK fun J hJ => ?_ | refine SW.last good fun K hK => ?_ | (refine hK _ ?_; clear hK K) | (refine hJ _ _ (Wk.refl _) ?_; clear hJ J) | clear hK K | clear hJ J | refine SW.skip ?_ | refine SW.ret ?_ | refine SW.retT ?_ | refine SW.retB ?_ | refine SW.exit ?_ | refine SW.exitT ?_ | refine SW.exitB ?_ | refine XN ?_ | refine SW.block ?_ | refine SW.normB ?_ | refine SW.normT ?_ | refine XT ?_ | refine XF ?_ | refine XC (fun h => ?_) (fun h => ?_) | refine X0 ?_ | refine Xv ?_ | refine X1 (hR) ?_ | simp only [go_sem, optI, Option.getD_some, Option.getD_none, Int.reduceToNat, reduceIte, Nat.reduceEqDiff, Nat.reduceAdd, Nat.reduceMul, Nat.reduceSub, Nat.reduceLT, Nat.reduceLeDiff, reduceCtorEq, *] | refine Xs _ (fun h => ?_) (fun h => ?_) | with_reducible refine And.intro ?_ ?_
      all_goals first | omega | skip
      all_goals first | (refine Xrm ?_ ?_ <;> simp [Wn.leO, scO, resOf, Wn.le, Wn.leL, Wn.cw, C.scal, scal] <;> done) | (exfalso; simp_all; done)
    | some ne =>
      obtain ⟨n, e⟩ := ne
      rw [hr] at hR
      by_cases hm : most < n
      · have hres : scNum t most (p, false) = (0, p, true) := by unfold scNum; simp only [hr]; rw [if_pos hm]; rfl
        have g1 : decide (most < (n : Int)) = true := by simpa using hm
        rw [hres]
        simp only [scO]
        refine XM good (fn := Tryz.f37) rfl ?_
        try simp only [List.getD_cons_zero, List.getD_cons_succ]
        repeat' first | refine SW.step good fun K hK => ?_ | refine X2 good fun K hK => ?_ | refine X3 good fun K hK => ?_ | refine SW.seqK fun J hJ => ?_ | refine SW.last good fun K hK => ?_ | (refine hK _ ?_; clear hK K) | (refine hJ _ _ (Wk.refl _) ?_; clear hJ J) | clear hK K | clear hJ J | refine SW.skip ?_ | refine SW.ret ?_ | refine SW.retT ?_ | refine SW.retB ?_ | refine SW.exit ?_ | refine SW.exitT ?_ | refine SW.exitB ?_ | refine XN ?_ | refine SW.block ?_ | refine SW.normB ?_ | refine SW.normT ?_ | refine XT ?_ | refine XF ?_ | refine XC (fun h => ?_) (fun h => ?_) | refine X0 ?_ | refine Xv ?_ | refine X1 (hR) ?_ | simp only [go_sem, optI, Option.getD_some, Option.getD_none, Int.reduceToNat, reduceIte, Nat.reduceEqDiff, Nat.reduceAdd, Nat.reduceMul, Nat.reduceSub, Nat.reduceLT, Nat.reduceLeDiff, reduceCtorEq, *] | refine Xs _ (fun h => ?_) (fun h => ?_) | with_reducible refine And.intro ?_ ?_
        all_goals first | omega | skip
        all_goals first | (refine Xrm ?_ ?_ <;> simp [Wn.leO, scO, resOf, Wn.le, Wn.leL, Wn.cw, C.scal, scal] <;> done) | (exfalso; simp_all; done)
      · have hres : scNum t most (p, false) = ((n : Int), (e : Int), false) := by unfold scNum; simp only [hr]; rw [if_neg hm]; rfl
        have g1 : decide (most < (n : Int)) = false := by simpa using hm
        rw [hres]
        simp only [scO]
        refine XM good (fn := Tryz.f37) rfl ?_
        try simp only [List.getD_cons_zero, List.getD_cons_succ]
        repeat' first | refine SW.step good fun K hK => ?_ | refine X2 good fun K hK => ?_ | refine X3 good fun K hK => ?_ | refine SW.seqK fun J hJ => ?_ | refine SW.last good fun K hK => ?_ | (refine hK _ ?_; clear hK K) | (refine hJ _ _ (Wk.refl _) ?_; clear hJ J) | clear hK K | clear hJ J | refine SW.skip ?_ | refine SW.ret ?_ | refine SW.retT ?_ | refine SW.retB ?_ | refine SW.exit ?_ | refine SW.exitT ?_ | refine SW.exitB ?_ | refine XN ?_ | refine SW.block ?_ | refine SW.normB ?_ | refine SW.normT ?_ | refine XT ?_ | refine XF ?_ | refine XC (fun h => ?_) (fun h => ?_) | refine X0 ?_ | refine Xv ?_ | refine X1 (hR) ?_ | simp only [go_sem, optI, Option.getD_some, Option.getD_none, Int.reduceToNat, reduceIte, Nat.reduceEqDiff, Nat.reduceAdd, Nat.reduceMul, Nat.reduceSub, Nat.reduceLT, Nat.reduceLeDiff, reduceCtorEq, *] | refine Xs _ (fun h => ?_) (fun h => ?_) | with_reducible refine And.intro ?_ ?_
        all_goals first | omega | skip
        all_goals first | (refine Xrm ?_ ?_ <;> simp [Wn.leO, scO, resOf, Wn.le, Wn.leL, Wn.cw, C.scal, scal] <;> done) | (exfalso; simp_all; done)
set_option maxHeartbeats 1000000 in
theorem mc_text (t : List UInt8) (s : Sc) (ht : t.length ≤ 4611686018427387904) : MC Tryz.prog 35 [.ptr (.a 0) 0] [scO t s] (vS (scText t s).1) [some (scO t (scText t s).2)] [] := by
  obtain ⟨p, b⟩ := s
  have hR := ac_ReadShort t p ht
  unfold rsT rsE rsB at hR
  by_cases hb : b = true
  · subst hb
    rw [scText_bad rfl]
    cases hr : readShort t p with
    | none =>
      rw [hr] at hR
      simp only [scO]
      refine XM good (fn := Tryz.f35) rfl ?_
      try simp only [List.getD_cons_zero, List.getD_cons_succ]
      repeat' first | refine SW.step good fun K hK => ?_ | refine X2 good fun K hK => ?_ | refine X3 good fun K hK => ?_ | refine SW.seqK fun J hJ => ?_ | refine SW.last good fun K hK => ?_ | (refine hK _ ?_; clear hK K) | (refine hJ _ _ (Wk.refl _) ?_; clear hJ J) | clear hK K | clear hJ J | refine SW.skip ?_ | refine SW.ret ?_ | refine SW.retT ?_ | refine SW.retB ?_ | refine SW.exit ?_ | refine SW.exitT ?_ | refine SW.exitB ?_ | refine XN ?_ | refine SW.block ?_ | refine SW.normB ?_ | refine SW.normT ?_ | refine XT ?_ | refine XF ?_ | refine XC (fun h => ?_) (fun h => ?_) | refine X0 ?_ | refine Xv ?_ | refine X1 (hR) ?_ | simp only [go_sem, optI, Option.getD_some, Option.getD_none, Int.reduceToNat, reduceIte, Nat.reduceEqDiff, Nat.reduceAdd, Nat.reduceMul, Nat.reduceSub, Nat.reduceLT, Nat.reduceLeDiff, reduceCtorEq, *] | refine Xs _ (fun h => ?_) (fun h => ?_) | with_reducible refine And.intro ?_ ?_
      all_goals first | omega | skip
      all_goals first | (refine Xrm ?_ ?_ <;> simp [Wn.leO, scO, resOf, Wn.le, Wn.leL, Wn.cw, C.scal, scal] <;> done) | (exfalso; simp_all; done)
    | some ne =>
      obtain ⟨n, e⟩ := ne
      rw [hr] at hR
      simp only [scO]
      refine XM good (fn := Tryz.f35) rfl ?_
      try simp only [List.getD_cons_zero, List.getD_cons_succ]
      repeat' first | refine SW.step good fun K hK => ?_ | refine X2 good fun K hK => ?_ | refine X3 good fun K hK => ?_ | refine SW.seqK fun J hJ => ?_ | refine SW.last good fun K hK => ?_ | (refine hK _ ?_; clear hK K) | (refine hJ _ _ (Wk.refl _) ?_; clear hJ J) | clear hK K | clear hJ J | refine SW.skip ?_ | refine SW.ret ?_ | refine SW.retT ?_ | refine SW.retB ?_ | refine SW.exit ?_ | refine SW.exitT ?_ | refine SW.exitB ?_ | refine XN ?_ | refine SW.block ?_ | refine SW.normB ?_ | refine SW.normT ?_ | refine XT ?_ | refine XF ?_ | refine XC (fun h => ?_) (fun h => ?_) | refine X0 ?_ | refine Xv ?_ | refine X1 (hR) ?_ | simp only [go_sem, optI, Option.getD_some, Option.getD_none, Int.reduceToNat, reduceIte, Nat.reduceEqDiff, Nat.reduceAdd, Nat.reduceMul, Nat.reduceSub, Nat.reduceLT, Nat.reduceLeDiff, reduceCtorEq, *] | refine Xs _ (fun h => ?_) (fun h => ?_) | with_reducible refine And.intro ?_ ?_
      all_goals first | omega | skip
      all_goals first | (refine Xrm ?_ ?_ <;> simp [Wn.leO, scO, resOf, Wn.le, Wn.leL, Wn.cw, C.scal, scal] <;> done) | (exfalso; simp_all; done)
  · have hb : b = false := by simpa using hb
    subst hb
    cases hr : readShort t p with
    | none =>
      have hres : scText t (p, false) = ([], p, true) := by unfold scText; simp only [hr]; rfl
      rw [hr] at hR
      rw [hres]
      simp only [scO]
      refine XM good (fn := Tryz.f35) rfl ?_
      try simp only [List.getD_cons_zero, List.getD_cons_succ]
      repeat' first | refine SW.step good fun K hK => ?_ | refine X2 good fun K hK => ?_ | refine X3 good fun K hK => ?_ | refine SW.seqK fun J hJ => ?_ | refine SW.last good fun K hK => ?_ | (refine hK _ ?_; clear hK K) | (refine hJ _ _ (Wk.refl _) ?_; clear hJ J) | clear hK K | clear hJ J | refine SW.skip ?_ | refine SW.ret ?_ | refine SW.retT ?_ | refine SW.retB ?_ | refine SW.exit ?_ | refine SW.exitT ?_ | refine SW.exitB ?_ | refine XN ?_ | refine SW.block ?_ | refine SW.normB ?_ | refine SW.normT ?_ | refine XT ?_ | refine XF ?_ | refine XC (fun h => ?_) (fun h => ?_) | refine X0 ?_ | refine Xv ?_ | refine X1 (hR) ?_ | simp only [go_sem, optI, Option.getD_some, Option.getD_none, Int.reduceToNat, reduceIte, Nat.reduceEqDiff, Nat.reduceAdd, Nat.reduceMul, Nat.reduceSub, Nat.reduceLT, Nat.reduceLeDiff, reduceCtorEq, *] | refine Xs _ (fun h => ?_) (fun h => ?_) | with_reducible refine And.intro ?_ ?_
      all_goals first | omega | skip
      all_goals first | (refine Xrm ?_ ?_ <;> simp [Wn.leO, scO, resOf, Wn.le, Wn.leL, Wn.cw, C.scal, scal] <;> done) | (exfalso; simp_all; done)
    | some ne =>
      obtain ⟨n, e⟩ := ne
      rw [hr] at hR
      have hres : scText t (p, false) = (n, (e : Int), false) := by unfold scText; simp only [hr]; rfl
      rw [hres]
      simp only [scO]
      refine XM good (fn := Tryz.f35) rfl ?_
      try simp only [List.getD_cons_zero, List.getD_cons_succ]
      repeat' first | refine SW.step good fun K hK => ?_ | refine X2 good fun K hK => ?_ | refine X3 good fun K hK => ?_ | refine SW.seqK fun J hJ => ?_ | refine SW.last good fun K hK => ?_ | (refine hK _ ?_; clear hK K) | (refine hJ _ _ (Wk.refl _) ?_; clear hJ J) | clear hK K | clear hJ J | refine SW.skip ?_ | refine SW.ret ?_ | refine SW.retT ?_ | refine SW.retB ?_ | refine SW.exit ?_ | refine SW.exitT ?_ | refine SW.exitB ?_ | refine XN ?_ | refine SW.block ?_ | refine SW.normB ?_ | refine SW.normT ?_ | refine XT ?_ | refine XF ?_ | refine XC (fun h => ?_) (fun h => ?_) | refine X0 ?_ | refine Xv ?_ | refine X1 (hR) ?_ | simp only [go_sem, optI, Option.getD_some, Option.getD_none, Int.reduceToNat, reduceIte, Nat.reduceEqDiff, Nat.reduceAdd, Nat.reduceMul, Nat.reduceSub, Nat.reduceLT, Nat.reduceLeDiff, reduceCtorEq, *] | refine Xs _ (fun h => ?_) (fun h => ?_) | with_reducible refine And.intro ?_ ?_
      all_goals first | omega | skip
      all_goals first | (refine Xrm ?_ ?_ <;> simp [Wn.leO, scO, resOf, Wn.le, Wn.leL, Wn.cw, C.scal, scal] <;> done) | (exfalso; simp_all; done)
set_option maxHeartbeats 1000000 in
theorem mc_text' (t : List UInt8) (s : Sc) (ht : t.length ≤ 4611686018427387904) : MC Tryz.prog 38 [.ptr (.a 0) 0] [scO t s] (vS (scText t s).1) [some (scO t (scText t s).2)] [] := by
  obtain ⟨p, b⟩ := s
  have hR := ac_ReadShort' t p ht
  unfold rsT rsE rsB at hR
  by_cases hb : b = true
  · subst hb
    rw [scText_bad rfl]
    cases hr : readShort t p with
    | none =>
      rw [hr] at hR
      simp only [scO]
      refine XM good (fn := Tryz.f38) rfl ?_
      try simp only [List.getD_cons_zero, List.getD_cons_succ]
      repeat' first | refine SW.step good fun K hK => ?_ | refine X2 good fun K hK => ?_ | refine X3 good fun K hK => ?_ | refine SW.seqK fun J hJ => ?_ | refine SW.last good fun K hK => ?_ | (refine hK _ ?_; clear hK K) | (refine hJ _ _ (Wk.refl _) ?_; clear hJ J) | clear hK K | clear hJ J | refine SW.skip ?_ | refine SW.ret ?_ | refine SW.retT ?_ | refine SW.retB ?_ | refine SW.exit ?_ | refine SW.exitT ?_ | refine SW.exitB ?_ | refine XN ?_ | refine SW.block ?_ | refine SW.normB ?_ | refine SW.normT ?_ | refine XT ?_ | refine XF ?_ | refine XC (fun h => ?_) (fun h => ?_) | refine X0 ?_ | refine Xv ?_ | refine X1 (hR) ?_ | simp only [go_sem, optI, Option.getD_some, Option.getD_none, Int.reduceToNat, reduceIte, Nat.reduceEqDiff, Nat.reduceAdd, Nat.reduceMul, Nat.reduceSub, Nat.reduceLT, Nat.reduceLeDiff, reduceCtorEq, *] | refine Xs _ (fun h => ?_) (fun h => ?_) | with_reducible refine And.intro ?_ ?_
      all_goals first | omega | skip
      all_goals first | (refine Xrm ?_ ?_ <;> simp [Wn.leO, scO, resOf, Wn.le, Wn.leL, Wn.cw, C.scal, scal] <;> done) | (exfalso; simp_all; done)
    | some ne =>
      obtain ⟨n, e⟩ := ne
      rw [hr] at hR
      simp only [scO]
      refine XM good (fn := Tryz.f38) rfl ?_
      try simp only [List.getD_cons_zero, List.getD_cons_succ]
      repeat' first | refine SW.step good fun K hK => ?_ | refine X2 good fun K hK => ?_ | refine X3 good fun K hK => ?_ | refine SW.seqK fun J hJ => ?_ | refine SW.last good fun K hK => ?_ | (refine hK _ ?_; clear hK K) | (refine hJ _ _ (Wk.refl _) ?_; clear hJ J) | clear hK K | clear hJ J | refine SW.skip ?_ | refine SW.ret ?_ | refine SW.retT ?_ | refine SW.retB ?_ | refine SW.exit ?_ | refine SW.exitT ?_ | refine SW.exitB ?_ | refine XN ?_ | refine SW.block ?_ | refine SW.normB ?_ | refine SW.normT ?_ | refine XT ?_ | refine XF ?_ | refine XC (fun h => ?_) (fun h => ?_) | refine X0 ?_ | refine Xv ?_ | refine X1 (hR) ?_ | simp only [go_sem, optI, Option.getD_some, Option.getD_none, Int.reduceToNat, reduceIte, Nat.reduceEqDiff, Nat.reduceAdd, Nat.reduceMul, Nat.reduceSub, Nat.reduceLT, Nat.reduceLeDiff, reduceCtorEq, *] | refine Xs _ (fun h => ?_) (fun h => ?_) | with_reducible refine And.intro ?_ ?_
      all_goals first | omega | skip
      all_goals first | (refine Xrm ?_ ?_ <;> simp [Wn.leO, scO, resOf, Wn.le, Wn.leL, Wn.cw, C.scal, scal] <;> done) | (exfalso; simp_all; done)
  · have hb : b = false := by simpa using hb
    subst hb
    cases hr : readShort t p with
    | none =>
      have hres : scText t (p, false) = ([], p, true) := by unfold scText; simp only [hr]; rfl
      rw [hr] at hR
      rw [hres]
      simp only [scO]
      refine XM good (fn := Tryz.f38) rfl ?_
      try simp only [List.getD_cons_zero, List.getD_cons_succ]
      repeat' first | refine SW.step good fun K hK => ?_ | refine X2 good fun K hK => ?_ | refine X3 good fun K hK => ?_ | refine SW.seqK fun J hJ => ?_ | refine SW.last good fun K hK => ?_ | (refine hK _ ?_; clear hK K) | (refine hJ _ _ (Wk.refl _) ?_; clear hJ J) | clear hK K | clear hJ J | refine SW.skip ?_ | refine SW.ret ?_ | refine SW.retT ?_ | refine SW.retB ?_ | refine SW.exit ?_ | refine SW.exitT ?_ | refine SW.exitB ?_ | refine XN ?_ | refine SW.block ?_ | refine SW.normB ?_ | refine SW.normT ?_ | refine XT ?_ | refine XF ?_ | refine XC (fun h => ?_) (fun h => ?_) | refine X0 ?_ | refine Xv ?_ | refine X1 (hR) ?_ | simp only [go_sem, optI, Option.getD_some, Option.getD_none, Int.reduceToNat, reduceIte, Nat.reduceEqDiff, Nat.reduceAdd, Nat.reduceMul, Nat.reduceSub, Nat.reduceLT, Nat.reduceLeDiff, reduceCtorEq, *] | refine Xs _ (fun h => ?_) (fun h => ?_) | with_reducible refine And.intro ?_ ?_
      all_goals first | omega | skip
      all_goals first | (refine Xrm ?_ ?_ <;> simp [Wn.leO, scO, resOf, Wn.le, Wn.leL, Wn.cw, C.scal, scal] <;> done) | (exfalso; simp_all; done)
    | some ne =>
      obtain ⟨n, e⟩ := ne
      rw [hr] at hR
      have hres : scText t (p, false) = (n, (e : Int), false) := by unfold scText; simp only [hr]; rfl
      rw [hres]
      simp only [scO]
      refine XM good (fn := Tryz.f38) rfl ?_
      try simp only [List.getD_cons_zero, List.getD_cons_succ]
      repeat' first | refine SW.step good fun K hK => ?_ | refine X2 good fun K hK => ?_ | refine X3 good fun K hK => ?_ | refine SW.seqK fun J hJ => ?_ | refine SW.last good fun K hK => ?_ | (refine hK _ ?_; clear hK K) | (refine hJ _ _ (Wk.refl _) ?_; clear hJ J) | clear hK K | clear hJ J | refine SW.skip ?_ | refine SW.ret ?_ | refine SW.retT ?_ | refine SW.retB ?_ | refine SW.exit ?_ | refine SW.exitT ?_ | refine SW.exitB ?_ | refine XN ?_ | refine SW.block ?_ | refine SW.normB ?_ | refine SW.normT ?_ | refine XT ?_ | refine XF ?_ | refine XC (fun h => ?_) (fun h => ?_) | refine X0 ?_ | refine Xv ?_ | refine X1 (hR) ?_ | simp only [go_sem, optI, Option.getD_some, Option.getD_none, Int.reduceToNat, reduceIte, Nat.reduceEqDiff, Nat.reduceAdd, Nat.reduceMul, Nat.reduceSub, Nat.reduceLT, Nat.reduceLeDiff, reduceCtorEq, *] | refine Xs _ (fun h => ?_) (fun h => ?_) | with_reducible refine And.intro ?_ ?_
      all_goals first | omega | skip
      all_goals first | (refine Xrm ?_ ?_ <;> simp [Wn.leO, scO, resOf, Wn.le, Wn.leL, Wn.cw, C.scal, scal] <;> done) | (exfalso; simp_all; done)
end Go.Proofs.YtoemclhjcbcjaaaGreat.AB
