/- Texts are read; the readers' methods. -/
import Derived.Test.YtbpfciidbgkekaaAbFwScan
namespace Go.Proofs.Ytbpfciidbgkekaa.AB
open Go
set_option maxRecDepth 100000
set_option linter.unusedSimpArgs false
set_option linter.unusedVariables false
def rsT (t : List UInt8) (p : Int) : List UInt8 := match readShort t p with | some (x, _) => x | none => []
def rsE (t : List UInt8) (p : Int) : Int := match readShort t p with | some (_, e) => e | none => 0
def rsB (t : List UInt8) (p : Int) : Bool := (readShort t p).isSome
section
variable {P : Program} {T : Tab} {st : St} {rv : List ResultVar} {res : AV} {p : Prop} {xs : List AV}
theorem ret_m1 {o o' : Ob} (h : resL T st rv = some (p, xs)) (hp : p) (ho : st.h (.a 0) = some o') (hoo : (outM st [] [some o] []).leO o o') (hle : (outM st [] [some o] []).le res (resOf xs)) : retM T rv res [some o] [] .ret st := by
  simp only [retM, h]
  refine ⟨hp, [], rfl, .nil, fun j k hj => by simp at hj, fun k o1 hk => ?_, fun j o i hj => by simp at hj, hle⟩
  cases k with
  | zero => simp at hk; subst hk; exact ⟨o', ho, hoo⟩
  | succ k => simp at hk
end
set_option maxHeartbeats 1000000 in
theorem ac_ReadShort (t : List UInt8) (p : Int) (ht : t.length ≤ 4611686018427387904) : AC Try.prog 154 [vS t, vI p] (.tup [vS (rsT t p), vI (rsE t p), vB (rsB t p)]) [] := by
  have hR := ac_ReadVar t p ht
  unfold rvV rvE rvB at hR
  cases hr : readVar t p with
  | none =>
    simp only [hr, Option.isSome_none] at hR
    have hres : readShort t p = none := by unfold readShort; rw [hr]
    refine XA good (fn := Try.f154) rfl ?_
    simp only [entry, List.getD_cons_zero, List.getD_cons_succ]
    repeat' first | refine SW.step good fun K hK => ?_ | refine X2 good fun K hK => ?_ | refine X3 good fun K hK => ?_ | refine SW.seqK fun J hJ => ?_ | refine SW.last good fun K hK => ?_ | (refine hK _ ?_; clear hK K) | (refine hJ _ _ (Wk.refl _) ?_; clear hJ J) | clear hK K | clear hJ J | refine SW.skip ?_ | refine SW.ret ?_ | refine SW.retT ?_ | refine SW.retB ?_ | refine SW.exit ?_ | refine SW.exitT ?_ | refine SW.exitB ?_ | refine XN ?_ | refine SW.block ?_ | refine SW.normB ?_ | refine SW.normT ?_ | refine XT ?_ | refine XF ?_ | refine XC (fun h => ?_) (fun h => ?_) | refine X0 ?_ | refine Xv ?_ | refine X1 (hR) ?_ | simp only [go_sem, optI, Option.getD_some, Option.getD_none, Int.reduceToNat, reduceIte, Nat.reduceEqDiff, Nat.reduceAdd, Nat.reduceMul, Nat.reduceSub, Nat.reduceLT, Nat.reduceLeDiff, reduceCtorEq, *] | refine Xs _ (fun h => ?_) (fun h => ?_) | with_reducible refine And.intro ?_ ?_
    all_goals first | (refine Xrp ?_; simp [resOf, Wn.le, Wn.leL, Wn.cw, C.scal, scal, rsT, rsE, rsB, hres]; done) | (exfalso; simp at *; done) | skip
  | some ne =>
    obtain ⟨n, e⟩ := ne
    obtain ⟨a1, a2, a3, a4, a5⟩ := readVar_spec hr
    simp only [hr, Option.isSome_some] at hR
    have hw1 : IntKind.i64.wrap ((t.length : Int) - (e : Int)) = ((t.length - e : Nat) : Int) := by rw [wrap64 (by omega) (by omega)]; omega
    have hw2 : IntKind.i64.wrap ((e : Int) + (n : Int)) = ((e + n : Nat) : Int) := wrap64 (by omega) (by omega)
    by_cases c1 : 20000 < n
    · have hres : readShort t p = none := by unfold readShort; rw [hr]; simp only; rw [if_pos (.inl c1)]
      have g1 : decide ((20000 : Int) < (n : Int)) = true := by simp; omega
      clear a5 hr
      refine XA good (fn := Try.f154) rfl ?_
      simp only [entry, List.getD_cons_zero, List.getD_cons_succ]
      repeat' first | refine SW.step good fun K hK => ?_ | refine X2 good fun K hK => ?_ | refine X3 good fun K hK => ?_ | refine SW.seqK fun J hJ => ?_ | refine SW.last good fun K hK => ?_ | (refine hK _ ?_; clear hK K) | (refine hJ _ _ (Wk.refl _) ?_; clear hJ J) | clear hK K | clear hJ J | refine SW.skip ?_ | refine SW.ret ?_ | refine SW.retT ?_ | refine SW.retB ?_ | refine SW.exit ?_ | refine SW.exitT ?_ | refine SW.exitB ?_ | refine XN ?_ | refine SW.block ?_ | refine SW.normB ?_ | refine SW.normT ?_ | refine XT ?_ | refine XF ?_ | refine XC (fun h => ?_) (fun h => ?_) | refine X0 ?_ | refine Xv ?_ | refine X1 (hR) ?_ | simp only [go_sem, optI, Option.getD_some, Option.getD_none, Int.reduceToNat, reduceIte, Nat.reduceEqDiff, Nat.reduceAdd, Nat.reduceMul, Nat.reduceSub, Nat.reduceLT, Nat.reduceLeDiff, reduceCtorEq, *] | refine Xs _ (fun h => ?_) (fun h => ?_) | with_reducible refine And.intro ?_ ?_
      all_goals first | (refine Xrp ?_; simp [resOf, Wn.le, Wn.leL, Wn.cw, C.scal, scal, rsT, rsE, rsB, hres]; done) | (exfalso; simp at *; done) | skip
    · have g1 : decide ((20000 : Int) < (n : Int)) = false := by simp; omega
      by_cases c2 : t.length - e < n
      · have hres : readShort t p = none := by unfold readShort; rw [hr]; simp only; rw [if_pos (.inr c2)]
        have g2 : decide (((t.length - e : Nat) : Int) < (n : Int)) = true := by simp; omega
        clear a5 hr
        refine XA good (fn := Try.f154) rfl ?_
        simp only [entry, List.getD_cons_zero, List.getD_cons_succ]
        repeat' first | refine SW.step good fun K hK => ?_ | refine X2 good fun K hK => ?_ | refine X3 good fun K hK => ?_ | refine SW.seqK fun J hJ => ?_ | refine SW.last good fun K hK => ?_ | (refine hK _ ?_; clear hK K) | (refine hJ _ _ (Wk.refl _) ?_; clear hJ J) | clear hK K | clear hJ J | refine SW.skip ?_ | refine SW.ret ?_ | refine SW.retT ?_ | refine SW.retB ?_ | refine SW.exit ?_ | refine SW.exitT ?_ | refine SW.exitB ?_ | refine XN ?_ | refine SW.block ?_ | refine SW.normB ?_ | refine SW.normT ?_ | refine XT ?_ | refine XF ?_ | refine XC (fun h => ?_) (fun h => ?_) | refine X0 ?_ | refine Xv ?_ | refine X1 (hR) ?_ | simp only [go_sem, optI, Option.getD_some, Option.getD_none, Int.reduceToNat, reduceIte, Nat.reduceEqDiff, Nat.reduceAdd, Nat.reduceMul, Nat.reduceSub, Nat.reduceLT, Nat.reduceLeDiff, reduceCtorEq, *] | refine Xs _ (fun h => ?_) (fun h => ?_) | with_reducible refine And.intro ?_ ?_
        all_goals first | (refine Xrp ?_; simp [resOf, Wn.le, Wn.leL, Wn.cw, C.scal, scal, rsT, rsE, rsB, hres]; done) | (exfalso; simp at *; done) | skip
      · have hres : readShort t p = some ((t.drop e).take n, e + n) := by unfold readShort; rw [hr]; simp only; rw [if_neg (by omega)]
        have g2 : decide (((t.length - e : Nat) : Int) < (n : Int)) = false := by simp; omega
        have hen : e + n - e = n := by omega
        clear a5 hr
        refine XA good (fn := Try.f154) rfl ?_
        simp only [entry, List.getD_cons_zero, List.getD_cons_succ]
        repeat' first | refine SW.step good fun K hK => ?_ | refine X2 good fun K hK => ?_ | refine X3 good fun K hK => ?_ | refine SW.seqK fun J hJ => ?_ | refine SW.last good fun K hK => ?_ | (refine hK _ ?_; clear hK K) | (refine hJ _ _ (Wk.refl _) ?_; clear hJ J) | clear hK K | clear hJ J | refine SW.skip ?_ | refine SW.ret ?_ | refine SW.retT ?_ | refine SW.retB ?_ | refine SW.exit ?_ | refine SW.exitT ?_ | refine SW.exitB ?_ | refine XN ?_ | refine SW.block ?_ | refine SW.normB ?_ | refine SW.normT ?_ | refine XT ?_ | refine XF ?_ | refine XC (fun h => ?_) (fun h => ?_) | refine X0 ?_ | refine Xv ?_ | refine X1 (hR) ?_ | simp only [go_sem, optI, Option.getD_some, Option.getD_none, Int.reduceToNat, reduceIte, Nat.reduceEqDiff, Nat.reduceAdd, Nat.reduceMul, Nat.reduceSub, Nat.reduceLT, Nat.reduceLeDiff, reduceCtorEq, *] | refine Xs _ (fun h => ?_) (fun h => ?_) | with_reducible refine And.intro ?_ ?_
        all_goals first | omega | (refine Xrp ?_; simp [resOf, Wn.le, Wn.leL, Wn.cw, C.scal, scal, rsT, rsE, rsB, hres]; done) | (exfalso; simp at *; done) | skip
set_option maxHeartbeats 1000000 in
theorem ac_ReadShort' (t : List UInt8) (p : Int) (ht : t.length ≤ 4611686018427387904) : AC Try.prog 152 [vS t, vI p] (.tup [vS (rsT t p), vI (rsE t p), vB (rsB t p)]) [] := by
  have hR := ac_ReadVar' t p ht
  unfold rvV rvE rvB at hR
  cases hr : readVar t p with
  | none =>
    simp only [hr, Option.isSome_none] at hR
    have hres : readShort t p = none := by unfold readShort; rw [hr]
    refine XA good (fn := Try.f152) rfl ?_
    simp only [entry, List.getD_cons_zero, List.getD_cons_succ]
    repeat' first | refine SW.step good fun K hK => ?_ | refine X2 good fun K hK => ?_ | refine X3 good fun K hK => ?_ | refine SW.seqK fun J hJ => ?_ | refine SW.last good fun K hK => ?_ | (refine hK _ ?_; clear hK K) | (refine hJ _ _ (Wk.refl _) ?_; clear hJ J) | clear hK K | clear hJ J | refine SW.skip ?_ | refine SW.ret ?_ | refine SW.retT ?_ | refine SW.retB ?_ | refine SW.exit ?_ | refine SW.exitT ?_ | refine SW.exitB ?_ | refine XN ?_ | refine SW.block ?_ | refine SW.normB ?_ | refine SW.normT ?_ | refine XT ?_ | refine XF ?_ | refine XC (fun h => ?_) (fun h => ?_) | refine X0 ?_ | refine Xv ?_ | refine X1 (hR) ?_ | simp only [go_sem, optI, Option.getD_some, Option.getD_none, Int.reduceToNat, reduceIte, Nat.reduceEqDiff, Nat.reduceAdd, Nat.reduceMul, Nat.reduceSub, Nat.reduceLT, Nat.reduceLeDiff, reduceCtorEq, *] | refine Xs _ (fun h => ?_) (fun h => ?_) | with_reducible refine And.intro ?_ ?_
    all_goals first | (refine Xrp ?_; simp [resOf, Wn.le, Wn.leL, Wn.cw, C.scal, scal, rsT, rsE, rsB, hres]; done) | (exfalso; simp at *; done) | skip
  | some ne =>
    obtain ⟨n, e⟩ := ne
    obtain ⟨a1, a2, a3, a4, a5⟩ := readVar_spec hr
    simp only [hr, Option.isSome_some] at hR
    have hw1 : IntKind.i64.wrap ((t.length : Int) - (e : Int)) = ((t.length - e : Nat) : Int) := by rw [wrap64 (by omega) (by omega)]; omega
    have hw2 : IntKind.i64.wrap ((e : Int) + (n : Int)) = ((e + n : Nat) : Int) := wrap64 (by omega) (by omega)
    by_cases c1 : 20000 < n
    · have hres : readShort t p = none := by unfold readShort; rw [hr]; simp only; rw [if_pos (.inl c1)]
      have g1 : decide ((20000 : Int) < (n : Int)) = true := by simp; omega
      clear a5 hr
      refine XA good (fn := Try.f152) rfl ?_
      simp only [entry, List.getD_cons_zero, List.getD_cons_succ]
      repeat' first | refine SW.step good fun K hK => ?_ | refine X2 good fun K hK => ?_ | refine X3 good fun K hK => ?_ | refine SW.seqK fun J hJ => ?_ | refine SW.last good fun K hK => ?_ | (refine hK _ ?_; clear hK K) | (refine hJ _ _ (Wk.refl _) ?_; clear hJ J) | clear hK K | clear hJ J | refine SW.skip ?_ | refine SW.ret ?_ | refine SW.retT ?_ | refine SW.retB ?_ | refine SW.exit ?_ | refine SW.exitT ?_ | refine SW.exitB ?_ | refine XN ?_ | refine SW.block ?_ | refine SW.normB ?_ | refine SW.normT ?_ | refine XT ?_ | refine XF ?_ | refine XC (fun h => ?_) (fun h => ?_) | refine X0 ?_ | refine Xv ?_ | refine X1 (hR) ?_ | simp only [go_sem, optI, Option.getD_some, Option.getD_none, Int.reduceToNat, reduceIte, Nat.reduceEqDiff, Nat.reduceAdd, Nat.reduceMul, Nat.reduceSub, Nat.reduceLT, Nat.reduceLeDiff, reduceCtorEq, *] | refine Xs _ (fun h => ?_) (fun h => ?_) | with_reducible refine And.intro ?_ ?_
      all_goals first | (refine Xrp ?_; simp [resOf, Wn.le, Wn.leL, Wn.cw, C.scal, scal, rsT, rsE, rsB, hres]; done) | (exfalso; simp at *; done) | skip
    · have g1 : decide ((20000 : Int) < (n : Int)) = false := by simp; omega
      by_cases c2 : t.length - e < n
      · have hres : readShort t p = none := by unfold readShort; rw [hr]; simp only; rw [if_pos (.inr c2)]
        have g2 : decide (((t.length - e : Nat) : Int) < (n : Int)) = true := by simp; omega
        clear a5 hr
        refine XA good (fn := Try.f152) rfl ?_
        simp only [entry, List.getD_cons_zero, List.getD_cons_succ]
        repeat' first | refine SW.step good fun K hK => ?_ | refine X2 good fun K hK => ?_ | refine X3 good fun K hK => ?_ | refine SW.seqK fun J hJ => ?_ | refine SW.last good fun K hK => ?_ | (refine hK _ ?_; clear hK K) | (refine hJ _ _ (Wk.refl _) ?_; clear hJ J) | clear hK K | clear hJ J | refine SW.skip ?_ | refine SW.ret ?_ | refine SW.retT ?_ | refine SW.retB ?_ | refine SW.exit ?_ | refine SW.exitT ?_ | refine SW.exitB ?_ | refine XN ?_ | refine SW.block ?_ | refine SW.normB ?_ | refine SW.normT ?_ | refine XT ?_ | refine XF ?_ | refine XC (fun h => ?_) (fun h => ?_) | refine X0 ?_ | refine Xv ?_ | refine X1 (hR) ?_ | simp only [go_sem, optI, Option.getD_some, Option.getD_none, Int.reduceToNat, reduceIte, Nat.reduceEqDiff, Nat.reduceAdd, Nat.reduceMul, Nat.reduceSub, Nat.reduceLT, Nat.reduceLeDiff, reduceCtorEq, *] | refine Xs _ (fun h => ?_) (fun h => ?_) | with_reducible refine And.intro ?_ ?_
        all_goals first | (refine Xrp ?_; simp [resOf, Wn.le, Wn.leL, Wn.cw, C.scal, scal, rsT, rsE, rsB, hres]; done) | (exfalso; simp at *; done) | skip
      · have hres : readShort t p = some ((t.drop e).take n, e + n) := by unfold readShort; rw [hr]; simp only; rw [if_neg (by omega)]
        have g2 : decide (((t.length - e : Nat) : Int) < (n : Int)) = false := by simp; omega
        have hen : e + n - e = n := by omega
        clear a5 hr
        refine XA good (fn := Try.f152) rfl ?_
        simp only [entry, List.getD_cons_zero, List.getD_cons_succ]
        repeat' first | refine SW.step good fun K hK => ?_ | refine X2 good fun K hK => ?_ | refine X3 good fun K hK => ?_ | refine SW.seqK fun J hJ => ?_ | refine SW.last good fun K hK => ?_ | (refine hK _ ?_; clear hK K) | (refine hJ _ _ (Wk.refl _) ?_; clear hJ J) | clear hK K | clear hJ J | refine SW.skip ?_ | refine SW.ret ?_ | refine SW.retT ?_ | refine SW.retB ?_ | refine SW.exit ?_ | refine SW.exitT ?_ | refine SW.exitB ?_ | refine XN ?_ | refine SW.block ?_ | refine SW.normB ?_ | refine SW.normT ?_ | refine XT ?_ | refine XF ?_ | refine XC (fun h => ?_) (fun h => ?_) | refine X0 ?_ | refine Xv ?_ | refine X1 (hR) ?_ | simp only [go_sem, optI, Option.getD_some, Option.getD_none, Int.reduceToNat, reduceIte, Nat.reduceEqDiff, Nat.reduceAdd, Nat.reduceMul, Nat.reduceSub, Nat.reduceLT, Nat.reduceLeDiff, reduceCtorEq, *] | refine Xs _ (fun h => ?_) (fun h => ?_) | with_reducible refine And.intro ?_ ?_
        all_goals first | omega | (refine Xrp ?_; simp [resOf, Wn.le, Wn.leL, Wn.cw, C.scal, scal, rsT, rsE, rsB, hres]; done) | (exfalso; simp at *; done) | skip
end Go.Proofs.Ytbpfciidbgkekaa.AB
