/- Words. -/
import Derived.Test.YtbgeagbgfioaaaaGreatAbFaVar
namespace Go.Proofs.YtbgeagbgfioaaaaGreat.AB
open Go
set_option maxRecDepth 100000
set_option linter.unusedSimpArgs false
set_option linter.unusedVariables false
structure Cred where
  kind : Int
  of : Role
  who : Int
  a : Role
  b : Role
  till : Int
  nonce : Int
def Cred.nums (c : Cred) : List Int := [c.kind, c.of.who, c.of.name, c.who, c.a.who, c.a.name, c.b.who, c.b.name, c.till, c.nonce]
def credC (c : Cred) : List C := [cI c.kind, cI c.of.who, cI c.of.name, cI c.who, cI c.a.who, cI c.a.name, cI c.b.who, cI c.b.name, cI c.till, cI c.nonce]
def encCred (c : Cred) : AV := .agg [vI c.kind, vI c.of.who, vI c.of.name, vI c.who, vI c.a.who, vI c.a.name, vI c.b.who, vI c.b.name, vI c.till, vI c.nonce]
def inB (x lo hi : Int) : Bool := decide (lo ≤ x ∧ x ≤ hi)
def roleNone (r : Role) : Bool := decide (r.who = 0) && decide (r.name = 0)
def credOk (c : Cred) : Bool :=
  roleOk c.of && (inB c.till 1 9999 && (inB c.nonce 0 99 &&
    (if c.kind = 1 then inB c.who 0 5 && (roleNone c.a && roleNone c.b)
     else if c.kind = 2 then decide (c.who = 0) && (roleOk c.a && roleNone c.b)
     else if c.kind = 3 then decide (c.who = 0) && (roleOk c.a && (roleOk c.b && decide (c.b.who = 0)))
     else if c.kind = 4 then decide (c.who = 0) && (roleOk c.a && roleOk c.b)
     else false)))
theorem ac_isPerson (n : Int) : AC Tryz.prog 70 [vI n] (vB (inB n 0 5)) [] := by
  refine XA good (fn := Tryz.f70) rfl ?_
  simp only [entry, List.getD_cons_zero, List.getD_cons_succ]
  repeat' first | refine SW.step good fun K hK => ?_ | refine X2 good fun K hK => ?_ | refine X3 good fun K hK => ?_ | refine SW.seqK fun J hJ => ?_ | refine SW.last good fun K hK => ?_ | (refine hK _ ?_; clear hK K) | (refine hJ _ _ (Wk.refl _) ?_; clear hJ J) | clear hK K | clear hJ J | refine SW.skip ?_ | refine SW.ret ?_ | refine SW.retT ?_ | refine SW.retB ?_ | refine SW.exit ?_ | refine SW.exitT ?_ | refine SW.exitB ?_ | refine XN ?_ | refine SW.block ?_ | refine SW.normB ?_ | refine SW.normT ?_ | refine XT ?_ | refine XF ?_ | refine XC (fun h => ?_) (fun h => ?_) | refine X0 ?_ | refine Xv ?_ | refine X1 (ac_in _ _ _) ?_ | simp only [go_sem, optI, Option.getD_some, Option.getD_none, Int.reduceToNat, reduceIte, Nat.reduceEqDiff, Nat.reduceAdd, Nat.reduceMul, Nat.reduceSub, Nat.reduceLT, Nat.reduceLeDiff, reduceCtorEq, *] | refine Xs _ (fun h => ?_) (fun h => ?_) | with_reducible refine And.intro ?_ ?_
  all_goals refine Xrb ?_
  all_goals rfl
set_option maxHeartbeats 2000000 in
theorem ac_CredOk (c : Cred) : AC Tryz.prog 47 [encCred c] (vB (credOk c)) [] := by
  refine XA good (fn := Tryz.f47) rfl ?_
  simp only [entry, List.getD_cons_zero, List.getD_cons_succ]
  simp only [encCred]
  repeat' first | refine SW.step good fun K hK => ?_ | refine X2 good fun K hK => ?_ | refine X3 good fun K hK => ?_ | refine SW.seqK fun J hJ => ?_ | refine SW.last good fun K hK => ?_ | (refine hK _ ?_; clear hK K) | (refine hJ _ _ (Wk.refl _) ?_; clear hJ J) | clear hK K | clear hJ J | refine SW.skip ?_ | refine SW.ret ?_ | refine SW.retT ?_ | refine SW.retB ?_ | refine SW.exit ?_ | refine SW.exitT ?_ | refine SW.exitB ?_ | refine XN ?_ | refine SW.block ?_ | refine SW.normB ?_ | refine SW.normT ?_ | refine XT ?_ | refine XF ?_ | refine XC (fun h => ?_) (fun h => ?_) | refine X0 ?_ | refine Xv ?_ | refine X1 (ac_RoleOk ⟨_, _⟩) ?_ | refine X1 (ac_isPerson _) ?_ | refine X1 (ac_in _ _ _) ?_ | simp only [go_sem, optI, Option.getD_some, Option.getD_none, Int.reduceToNat, reduceIte, Nat.reduceEqDiff, Nat.reduceAdd, Nat.reduceMul, Nat.reduceSub, Nat.reduceLT, Nat.reduceLeDiff, reduceCtorEq, *] | refine Xs _ (fun h => ?_) (fun h => ?_) | with_reducible refine And.intro ?_ ?_
  all_goals refine Xrb ?_
  all_goals (simp_all [credOk, inB, roleNone, ibeq]; try omega)
set_option maxHeartbeats 2000000 in
theorem ac_CredOk' (c : Cred) : AC Tryz.prog 33 [encCred c] (vB (credOk c)) [] := by
  refine XA good (fn := Tryz.f33) rfl ?_
  simp only [entry, List.getD_cons_zero, List.getD_cons_succ]
  simp only [encCred]
  repeat' first | refine SW.step good fun K hK => ?_ | refine X2 good fun K hK => ?_ | refine X3 good fun K hK => ?_ | refine SW.seqK fun J hJ => ?_ | refine SW.last good fun K hK => ?_ | (refine hK _ ?_; clear hK K) | (refine hJ _ _ (Wk.refl _) ?_; clear hJ J) | clear hK K | clear hJ J | refine SW.skip ?_ | refine SW.ret ?_ | refine SW.retT ?_ | refine SW.retB ?_ | refine SW.exit ?_ | refine SW.exitT ?_ | refine SW.exitB ?_ | refine XN ?_ | refine SW.block ?_ | refine SW.normB ?_ | refine SW.normT ?_ | refine XT ?_ | refine XF ?_ | refine XC (fun h => ?_) (fun h => ?_) | refine X0 ?_ | refine Xv ?_ | refine X1 (ac_RoleOk' ⟨_, _⟩) ?_ | refine X1 (ac_in' _ _ _) ?_ | simp only [go_sem, optI, Option.getD_some, Option.getD_none, Int.reduceToNat, reduceIte, Nat.reduceEqDiff, Nat.reduceAdd, Nat.reduceMul, Nat.reduceSub, Nat.reduceLT, Nat.reduceLeDiff, reduceCtorEq, *] | refine Xs _ (fun h => ?_) (fun h => ?_) | with_reducible refine And.intro ?_ ?_
  all_goals refine Xrb ?_
  all_goals (simp_all [credOk, inB, roleNone, ibeq]; try omega)
end Go.Proofs.YtbgeagbgfioaaaaGreat.AB
