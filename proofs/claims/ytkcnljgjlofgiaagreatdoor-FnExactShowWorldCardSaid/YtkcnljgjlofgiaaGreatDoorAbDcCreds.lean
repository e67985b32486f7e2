/- The words that steps lean on, each once: both functions. -/
import Derived.Test.YtkcnljgjlofgiaaGreatDoorAbDbStep
import Derived.Test.YtkcnljgjlofgiaaGreatDoorAbFvIdx
namespace Go.Proofs.YtkcnljgjlofgiaaGreatDoor.AB
open Go
set_option maxRecDepth 100000
set_option linter.unusedSimpArgs false
set_option linter.unusedVariables false
def sameCr (x y : Cred) : Bool := x.kind == y.kind && (x.of.who == y.of.who && (x.of.name == y.of.name && (x.who == y.who && (x.a.who == y.a.who && (x.a.name == y.a.name && (x.b.who == y.b.who && (x.b.name == y.b.name && (x.till == y.till && x.nonce == y.nonce))))))))
theorem ibeq_comm (a b : Int) : (a == b) = (b == a) := by
  by_cases h : a = b
  · subst h; rfl
  · have h1 : (a == b) = false := by simpa using h
    have h2 : (b == a) = false := by simpa using fun q : b = a => h q.symm
    rw [h1, h2]
theorem sameCr_comm (x y : Cred) : sameCr x y = sameCr y x := by
  unfold sameCr
  rw [ibeq_comm x.kind, ibeq_comm x.of.who, ibeq_comm x.of.name, ibeq_comm x.who, ibeq_comm x.a.who, ibeq_comm x.a.name, ibeq_comm x.b.who, ibeq_comm x.b.name, ibeq_comm x.till, ibeq_comm x.nonce]
attribute [go_sem] credC
def hasCr (Q : List Cred) (c : Cred) : Bool := Q.any (sameCr c)
def addCr (Q : List Cred) (c : Cred) : List Cred := if hasCr Q c then Q else Q ++ [c]
def credsI (L : List Step) : List Cred := L.foldl (fun Q s => addCr Q s.cred) []
theorem credsI_take {L : List Step} {k : Nat} (h : k < L.length) : credsI (L.take (k + 1)) = addCr (credsI (L.take k)) L[k].cred := by
  unfold credsI
  rw [List.take_add_one, List.getElem?_eq_getElem h, List.foldl_append]; rfl
theorem addCr_len (Q : List Cred) (c : Cred) : (addCr Q c).length ≤ Q.length + 1 := by unfold addCr; split <;> simp
theorem credsI_len : ∀ (L : List Step), (credsI L).length ≤ L.length := by
  intro L
  have : ∀ (L : List Step) (Q : List Cred), (L.foldl (fun Q s => addCr Q s.cred) Q).length ≤ Q.length + L.length := by
    intro L
    induction L with
    | nil => intro Q; simp
    | cons s L ih =>
      intro Q
      have := ih (addCr Q s.cred)
      have := addCr_len Q s.cred
      simp only [List.foldl_cons, List.length_cons]; omega
  have h := this L []
  unfold credsI; simpa using h
set_option maxHeartbeats 2000000 in
theorem ac_IdxCr (Q : List Cred) (c : Cred) (hL : Q.length ≤ 1048576) : AC Tryz.prog 86 [.c true (.sl (Q.map credC)), encCred c] (vI (idx (sameCr c) Q 0)) [] := by
  refine XA good (fn := Tryz.f86) rfl ?_
  simp only [entry, List.getD_cons_zero, List.getD_cons_succ]
  simp only [encCred]
  repeat' first | refine SW.step good fun K hK => ?_ | refine X2 good fun K hK => ?_ | refine X3 good fun K hK => ?_ | refine SW.seqK fun J hJ => ?_ | refine SW.last good fun K hK => ?_ | (refine hK _ ?_; clear hK K) | (refine hJ _ _ (Wk.refl _) ?_; clear hJ J) | clear hK K | clear hJ J | refine SW.skip ?_ | refine SW.ret ?_ | refine SW.retT ?_ | refine SW.retB ?_ | refine SW.exit ?_ | refine SW.exitT ?_ | refine SW.exitB ?_ | refine XN ?_ | refine SW.block ?_ | refine SW.normB ?_ | refine SW.normT ?_ | refine XT ?_ | refine XF ?_ | refine XC (fun h => ?_) (fun h => ?_) | simp only [go_sem, optI, Option.getD_some, Option.getD_none, Int.reduceToNat, reduceIte, Nat.reduceEqDiff, Nat.reduceAdd, Nat.reduceMul, Nat.reduceSub, Nat.reduceLT, Nat.reduceLeDiff, reduceCtorEq, *] | refine Xs _ (fun h => ?_) (fun h => ?_) | with_reducible refine And.intro ?_ ?_
  refine SW.loopTo (α := Nat) (fun k => ⟨sl [(0, .c true (.sl (Q.map credC))), (3, .ptr (.s 3 0) 0), (7, vI Q.length), (8, vI k)], hl [(.s 3 0, .box [vI c.kind, vI c.of.who, vI c.of.name, vI c.who, vI c.a.who, vI c.a.name, vI c.b.who, vI c.b.name, vI c.till, vI c.nonce])]⟩) (fun k => Q.length - k) 0 (fun k => k ≤ Q.length ∧ idx (sameCr c) Q 0 = idx (sameCr c) (Q.drop k) k) ?_ ⟨by simp, by simp⟩ ?_
  · (refine Xto _ _ ?_ ?_ <;> simp only [go_sem, optI, Option.getD_some, Option.getD_none, Int.reduceToNat, reduceIte, Nat.reduceEqDiff, Nat.reduceAdd, Nat.reduceMul, Nat.reduceSub, Nat.reduceLT, Nat.reduceLeDiff, reduceCtorEq, Option.some.injEq, or_true, true_or] <;> (repeat' with_reducible apply And.intro) <;> (try rfl))
  · rintro k ⟨h2, h3⟩
    by_cases hk : k < Q.length
    · have e := getD_map Q credC [] hk
      have e1 : decide ((k : Int) < Q.length) = true := by simp; omega
      have e2 := List.drop_eq_getElem_cons hk
      have hw : IntKind.i64.wrap ((k : Int) + 1) = ((k + 1 : Nat) : Int) := wrap64 (by omega) (by omega)
      rw [e2, idx] at h3
      by_cases hg : sameCr c Q[k] = true
      · rw [if_pos hg] at h3
        simp only [sameCr] at hg
        repeat' first | refine SW.step good fun K hK => ?_ | refine X2 good fun K hK => ?_ | refine X3 good fun K hK => ?_ | refine SW.seqK fun J hJ => ?_ | refine SW.last good fun K hK => ?_ | (refine hK _ ?_; clear hK K) | (refine hJ _ _ (Wk.refl _) ?_; clear hJ J) | clear hK K | clear hJ J | refine SW.skip ?_ | refine SW.ret ?_ | refine SW.retT ?_ | refine SW.retB ?_ | refine SW.exit ?_ | refine SW.exitT ?_ | refine SW.exitB ?_ | refine XN ?_ | refine SW.block ?_ | refine SW.normB ?_ | refine SW.normT ?_ | refine XT ?_ | refine XF ?_ | refine XC (fun h => ?_) (fun h => ?_) | simp only [go_sem, optI, Option.getD_some, Option.getD_none, Int.reduceToNat, reduceIte, Nat.reduceEqDiff, Nat.reduceAdd, Nat.reduceMul, Nat.reduceSub, Nat.reduceLT, Nat.reduceLeDiff, reduceCtorEq, *] | refine Xs _ (fun h => ?_) (fun h => ?_) | with_reducible refine And.intro ?_ ?_
        all_goals first | omega | (simp [credC]; done) | skip
        all_goals refine Xri ?_
        all_goals first | exact h3 | rfl
      · rw [if_neg hg] at h3
        have hg' : sameCr c Q[k] = false := by simpa using hg
        simp only [sameCr] at hg'
        repeat' first | refine SW.step good fun K hK => ?_ | refine X2 good fun K hK => ?_ | refine X3 good fun K hK => ?_ | refine SW.seqK fun J hJ => ?_ | refine SW.last good fun K hK => ?_ | (refine hK _ ?_; clear hK K) | (refine hJ _ _ (Wk.refl _) ?_; clear hJ J) | clear hK K | clear hJ J | refine SW.skip ?_ | refine SW.ret ?_ | refine SW.retT ?_ | refine SW.retB ?_ | refine SW.exit ?_ | refine SW.exitT ?_ | refine SW.exitB ?_ | refine XN ?_ | refine SW.block ?_ | refine SW.normB ?_ | refine SW.normT ?_ | refine XT ?_ | refine XF ?_ | refine XC (fun h => ?_) (fun h => ?_) | simp only [go_sem, optI, Option.getD_some, Option.getD_none, Int.reduceToNat, reduceIte, Nat.reduceEqDiff, Nat.reduceAdd, Nat.reduceMul, Nat.reduceSub, Nat.reduceLT, Nat.reduceLeDiff, reduceCtorEq, *] | refine Xs _ (fun h => ?_) (fun h => ?_) | with_reducible refine And.intro ?_ ?_
        all_goals first | omega | (simp [credC]; done) | skip
        all_goals refine ⟨k + 1, ⟨by omega, by first | exact h3 | rfl⟩, by omega, ?_⟩
        all_goals (refine Xto _ _ ?_ ?_ <;> simp only [go_sem, optI, Option.getD_some, Option.getD_none, Int.reduceToNat, reduceIte, Nat.reduceEqDiff, Nat.reduceAdd, Nat.reduceMul, Nat.reduceSub, Nat.reduceLT, Nat.reduceLeDiff, reduceCtorEq, Option.some.injEq, or_true, true_or] <;> (repeat' with_reducible apply And.intro) <;> (try rfl))
    · have hk : k = Q.length := by omega
      subst hk
      have e1 : decide ((Q.length : Int) < Q.length) = false := by simp
      rw [List.drop_length, idx] at h3
      repeat' first | refine SW.step good fun K hK => ?_ | refine X2 good fun K hK => ?_ | refine X3 good fun K hK => ?_ | refine SW.seqK fun J hJ => ?_ | refine SW.last good fun K hK => ?_ | (refine hK _ ?_; clear hK K) | (refine hJ _ _ (Wk.refl _) ?_; clear hJ J) | clear hK K | clear hJ J | refine SW.skip ?_ | refine SW.ret ?_ | refine SW.retT ?_ | refine SW.retB ?_ | refine SW.exit ?_ | refine SW.exitT ?_ | refine SW.exitB ?_ | refine XN ?_ | refine SW.block ?_ | refine SW.normB ?_ | refine SW.normT ?_ | refine XT ?_ | refine XF ?_ | refine XC (fun h => ?_) (fun h => ?_) | simp only [go_sem, optI, Option.getD_some, Option.getD_none, Int.reduceToNat, reduceIte, Nat.reduceEqDiff, Nat.reduceAdd, Nat.reduceMul, Nat.reduceSub, Nat.reduceLT, Nat.reduceLeDiff, reduceCtorEq, *] | refine Xs _ (fun h => ?_) (fun h => ?_) | with_reducible refine And.intro ?_ ?_
      all_goals refine Xri ?_
      all_goals first | exact h3 | rfl
theorem ac_HasCr (Q : List Cred) (c : Cred) (hL : Q.length ≤ 1048576) : AC Tryz.prog 67 [.c true (.sl (Q.map credC)), encCred c] (vB (hasCr Q c)) [] := by
  have hi := ac_IdxCr Q c hL
  refine XA good (fn := Tryz.f67) rfl ?_
  simp only [entry, List.getD_cons_zero, List.getD_cons_succ]
  simp only [encCred] at *
  repeat' first | refine SW.step good fun K hK => ?_ | refine X2 good fun K hK => ?_ | refine X3 good fun K hK => ?_ | refine SW.seqK fun J hJ => ?_ | refine SW.last good fun K hK => ?_ | (refine hK _ ?_; clear hK K) | (refine hJ _ _ (Wk.refl _) ?_; clear hJ J) | clear hK K | clear hJ J | refine SW.skip ?_ | refine SW.ret ?_ | refine SW.retT ?_ | refine SW.retB ?_ | refine SW.exit ?_ | refine SW.exitT ?_ | refine SW.exitB ?_ | refine XN ?_ | refine SW.block ?_ | refine SW.normB ?_ | refine SW.normT ?_ | refine XT ?_ | refine XF ?_ | refine XC (fun h => ?_) (fun h => ?_) | refine X0 ?_ | refine Xv ?_ | refine X1 (hi) ?_ | simp only [go_sem, optI, Option.getD_some, Option.getD_none, Int.reduceToNat, reduceIte, Nat.reduceEqDiff, Nat.reduceAdd, Nat.reduceMul, Nat.reduceSub, Nat.reduceLT, Nat.reduceLeDiff, reduceCtorEq, *] | refine Xs _ (fun h => ?_) (fun h => ?_) | with_reducible refine And.intro ?_ ?_
  all_goals refine Xrb ?_
  all_goals (unfold hasCr; rw [idx_any])
end Go.Proofs.YtkcnljgjlofgiaaGreatDoor.AB
