/- The law FnExactBacked returns true for all arguments; no condition. -/
import Derived.Test.YtbgeagbgfioaaaaGreatAbDbStep
import Derived.Test.YtbgeagbgfioaaaaGreatAbFvIdx
import Derived.Test.YtbgeagbgfioaaaaGreatAbBoProof
import Derived.Test.YtbgeagbgfioaaaaGreatAbBmVer
namespace Go.Proofs.YtbgeagbgfioaaaaGreat.AB
open Go
set_option maxRecDepth 100000
set_option linter.unusedSimpArgs false
set_option linter.unusedVariables false
def sameCr (x y : Cred) : Bool := x.kind == y.kind && (x.of.who == y.of.who && (x.of.name == y.of.name && (x.who == y.who && (x.a.who == y.a.who && (x.a.name == y.a.name && (x.b.who == y.b.who && (x.b.name == y.b.name && (x.till == y.till && x.nonce == y.nonce))))))))
theorem ibeq_comm (a b : Int) : (a == b) = (b == a) := by
  by_cases h : a = b
  · subst h; rfl
  · have h1 : (a == b) = false := by simpa using h
    have h2 : (b == a) = false := by simpa using fun q : b = a => h q.symm
    rw [h1, h2]
theorem sameCr_comm (x y : Cred) : sameCr x y = sameCr y x := by
  unfold sameCr
  rw [ibeq_comm x.kind, ibeq_comm x.of.who, ibeq_comm x.of.name, ibeq_comm x.who, ibeq_comm x.a.who, ibeq_comm x.a.name, ibeq_comm x.b.who, ibeq_comm x.b.name, ibeq_comm x.till, ibeq_comm x.nonce]
attribute [go_sem] credC
def hasCr (Q : List Cred) (c : Cred) : Bool := Q.any (sameCr c)
def addCr (Q : List Cred) (c : Cred) : List Cred := if hasCr Q c then Q else Q ++ [c]
def credsI (L : List Step) : List Cred := L.foldl (fun Q s => addCr Q s.cred) []
theorem credsI_take {L : List Step} {k : Nat} (h : k < L.length) : credsI (L.take (k + 1)) = addCr (credsI (L.take k)) L[k].cred := by
  unfold credsI
  rw [List.take_add_one, List.getElem?_eq_getElem h, List.foldl_append]; rfl
theorem addCr_len (Q : List Cred) (c : Cred) : (addCr Q c).length ≤ Q.length + 1 := by unfold addCr; split <;> simp
theorem credsI_len : ∀ (L : List Step), (credsI L).length ≤ L.length := by
  intro L
  have : ∀ (L : List Step) (Q : List Cred), (L.foldl (fun Q s => addCr Q s.cred) Q).length ≤ Q.length + L.length := by
    intro L
    induction L with
    | nil => intro Q; simp
    | cons s L ih =>
      intro Q
      have := ih (addCr Q s.cred)
      have := addCr_len Q s.cred
      simp only [List.foldl_cons, List.length_cons]; omega
  have h := this L []
  unfold credsI; simpa using h
set_option maxHeartbeats 2000000 in
theorem ac_IdxCr (Q : List Cred) (c : Cred) (hL : Q.length ≤ 1048576) : AC Tryz.prog 68 [.c true (.sl (Q.map credC)), encCred c] (vI (idx (sameCr c) Q 0)) [] := by
  refine XA good (fn := Tryz.f68) rfl ?_
  simp only [entry, List.getD_cons_zero, List.getD_cons_succ]
  simp only [encCred]
  repeat' first | refine SW.step good fun K hK => ?_ | refine X2 good fun K hK => ?_ | refine X3 good fun K hK => ?_ | refine SW.seqK fun J hJ => ?_ | refine SW.last good fun K hK => ?_ | (refine hK _ ?_; clear hK K) | (refine hJ _ _ (Wk.refl _) ?_; clear hJ J) | clear hK K | clear hJ J | refine SW.skip ?_ | refine SW.ret ?_ | refine SW.retT ?_ | refine SW.retB ?_ | refine SW.exit ?_ | refine SW.exitT ?_ | refine SW.exitB ?_ | refine XN ?_ | refine SW.block ?_ | refine SW.normB ?_ | refine SW.normT ?_ | refine XT ?_ | refine XF ?_ | refine XC (fun h => ?_) (fun h => ?_) | simp only [go_sem, optI, Option.getD_some, Option.getD_none, Int.reduceToNat, reduceIte, Nat.reduceEqDiff, Nat.reduceAdd, Nat.reduceMul, Nat.reduceSub, Nat.reduceLT, Nat.reduceLeDiff, reduceCtorEq, *] | refine Xs _ (fun h => ?_) (fun h => ?_) | with_reducible refine And.intro ?_ ?_
  refine SW.loopTo (α := Nat) (fun k => ⟨sl [(0, .c true (.sl (Q.map credC))), (3, .ptr (.s 3 0) 0), (7, vI Q.length), (8, vI k)], hl [(.s 3 0, .box [vI c.kind, vI c.of.who, vI c.of.name, vI c.who, vI c.a.who, vI c.a.name, vI c.b.who, vI c.b.name, vI c.till, vI c.nonce])]⟩) (fun k => Q.length - k) 0 (fun k => k ≤ Q.length ∧ idx (sameCr c) Q 0 = idx (sameCr c) (Q.drop k) k) ?_ ⟨by simp, by simp⟩ ?_
  · (refine Xto _ _ ?_ ?_ <;> simp only [go_sem, optI, Option.getD_some, Option.getD_none, Int.reduceToNat, reduceIte, Nat.reduceEqDiff, Nat.reduceAdd, Nat.reduceMul, Nat.reduceSub, Nat.reduceLT, Nat.reduceLeDiff, reduceCtorEq, Option.some.injEq, or_true, true_or] <;> (repeat' with_reducible apply And.intro) <;> (try rfl))
  · rintro k ⟨h2, h3⟩
    by_cases hk : k < Q.length
    · have e := getD_map Q credC [] hk
      have e1 : decide ((k : Int) < Q.length) = true := by simp; omega
      have e2 := List.drop_eq_getElem_cons hk
      have hw : IntKind.i64.wrap ((k : Int) + 1) = ((k + 1 : Nat) : Int) := wrap64 (by omega) (by omega)
      rw [e2, idx] at h3
      by_cases hg : sameCr c Q[k] = true
      · rw [if_pos hg] at h3
        simp only [sameCr] at hg
        repeat' first | refine SW.step good fun K hK => ?_ | refine X2 good fun K hK => ?_ | refine X3 good fun K hK => ?_ | refine SW.seqK fun J hJ => ?_ | refine SW.last good fun K hK => ?_ | (refine hK _ ?_; clear hK K) | (refine hJ _ _ (Wk.refl _) ?_; clear hJ J) | clear hK K | clear hJ J | refine SW.skip ?_ | refine SW.ret ?_ | refine SW.retT ?_ | refine SW.retB ?_ | refine SW.exit ?_ | refine SW.exitT ?_ | refine SW.exitB ?_ | refine XN ?_ | refine SW.block ?_ | refine SW.normB ?_ | refine SW.normT ?_ | refine XT ?_ | refine XF ?_ | refine XC (fun h => ?_) (fun h => ?_) | simp only [go_sem, optI, Option.getD_some, Option.getD_none, Int.reduceToNat, reduceIte, Nat.reduceEqDiff, Nat.reduceAdd, Nat.reduceMul, Nat.reduceSub, Nat.reduceLT, Nat.reduceLeDiff, reduceCtorEq, *] | refine Xs _ (fun h => ?_) (fun h => ?_) | with_reducible refine And.intro ?_ ?_
        all_goals first | omega | (simp [credC]; done) | skip
        all_goals refine Xri ?_
        all_goals first | exact h3 | rfl
      · rw [if_neg hg] at h3
        have hg' : sameCr c Q[k] = false := by simpa using hg
        simp only [sameCr] at hg'
        repeat' first | refine SW.step good fun K hK => ?_ | refine X2 good fun K hK => ?_ | refine X3 good fun K hK => ?_ | refine SW.seqK fun J hJ => ?_ | refine SW.last good fun K hK => ?_ | (refine hK _ ?_; clear hK K) | (refine hJ _ _ (Wk.refl _) ?_; clear hJ J) | clear hK K | clear hJ J | refine SW.skip ?_ | refine SW.ret ?_ | refine SW.retT ?_ | refine SW.retB ?_ | refine SW.exit ?_ | refine SW.exitT ?_ | refine SW.exitB ?_ | refine XN ?_ | refine SW.block ?_ | refine SW.normB ?_ | refine SW.normT ?_ | refine XT ?_ | refine XF ?_ | refine XC (fun h => ?_) (fun h => ?_) | simp only [go_sem, optI, Option.getD_some, Option.getD_none, Int.reduceToNat, reduceIte, Nat.reduceEqDiff, Nat.reduceAdd, Nat.reduceMul, Nat.reduceSub, Nat.reduceLT, Nat.reduceLeDiff, reduceCtorEq, *] | refine Xs _ (fun h => ?_) (fun h => ?_) | with_reducible refine And.intro ?_ ?_
        all_goals first | omega | (simp [credC]; done) | skip
        all_goals refine ⟨k + 1, ⟨by omega, by first | exact h3 | rfl⟩, by omega, ?_⟩
        all_goals (refine Xto _ _ ?_ ?_ <;> simp only [go_sem, optI, Option.getD_some, Option.getD_none, Int.reduceToNat, reduceIte, Nat.reduceEqDiff, Nat.reduceAdd, Nat.reduceMul, Nat.reduceSub, Nat.reduceLT, Nat.reduceLeDiff, reduceCtorEq, Option.some.injEq, or_true, true_or] <;> (repeat' with_reducible apply And.intro) <;> (try rfl))
    · have hk : k = Q.length := by omega
      subst hk
      have e1 : decide ((Q.length : Int) < Q.length) = false := by simp
      rw [List.drop_length, idx] at h3
      repeat' first | refine SW.step good fun K hK => ?_ | refine X2 good fun K hK => ?_ | refine X3 good fun K hK => ?_ | refine SW.seqK fun J hJ => ?_ | refine SW.last good fun K hK => ?_ | (refine hK _ ?_; clear hK K) | (refine hJ _ _ (Wk.refl _) ?_; clear hJ J) | clear hK K | clear hJ J | refine SW.skip ?_ | refine SW.ret ?_ | refine SW.retT ?_ | refine SW.retB ?_ | refine SW.exit ?_ | refine SW.exitT ?_ | refine SW.exitB ?_ | refine XN ?_ | refine SW.block ?_ | refine SW.normB ?_ | refine SW.normT ?_ | refine XT ?_ | refine XF ?_ | refine XC (fun h => ?_) (fun h => ?_) | simp only [go_sem, optI, Option.getD_some, Option.getD_none, Int.reduceToNat, reduceIte, Nat.reduceEqDiff, Nat.reduceAdd, Nat.reduceMul, Nat.reduceSub, Nat.reduceLT, Nat.reduceLeDiff, reduceCtorEq, *] | refine Xs _ (fun h => ?_) (fun h => ?_) | with_reducible refine And.intro ?_ ?_
      all_goals refine Xri ?_
      all_goals first | exact h3 | rfl
theorem ac_HasCr (Q : List Cred) (c : Cred) (hL : Q.length ≤ 1048576) : AC Tryz.prog 45 [.c true (.sl (Q.map credC)), encCred c] (vB (hasCr Q c)) [] := by
  have hi := ac_IdxCr Q c hL
  refine XA good (fn := Tryz.f45) rfl ?_
  simp only [entry, List.getD_cons_zero, List.getD_cons_succ]
  simp only [encCred] at *
  repeat' first | refine SW.step good fun K hK => ?_ | refine X2 good fun K hK => ?_ | refine X3 good fun K hK => ?_ | refine SW.seqK fun J hJ => ?_ | refine SW.last good fun K hK => ?_ | (refine hK _ ?_; clear hK K) | (refine hJ _ _ (Wk.refl _) ?_; clear hJ J) | clear hK K | clear hJ J | refine SW.skip ?_ | refine SW.ret ?_ | refine SW.retT ?_ | refine SW.retB ?_ | refine SW.exit ?_ | refine SW.exitT ?_ | refine SW.exitB ?_ | refine XN ?_ | refine SW.block ?_ | refine SW.normB ?_ | refine SW.normT ?_ | refine XT ?_ | refine XF ?_ | refine XC (fun h => ?_) (fun h => ?_) | refine X0 ?_ | refine Xv ?_ | refine X1 (hi) ?_ | simp only [go_sem, optI, Option.getD_some, Option.getD_none, Int.reduceToNat, reduceIte, Nat.reduceEqDiff, Nat.reduceAdd, Nat.reduceMul, Nat.reduceSub, Nat.reduceLT, Nat.reduceLeDiff, reduceCtorEq, *] | refine Xs _ (fun h => ?_) (fun h => ?_) | with_reducible refine And.intro ?_ ?_
  all_goals refine Xrb ?_
  all_goals (unfold hasCr; rw [idx_any])
end Go.Proofs.YtbgeagbgfioaaaaGreat.AB
namespace Go.Proofs.YtbgeagbgfioaaaaGreat.AB
open Go
set_option maxRecDepth 100000
set_option linter.unusedSimpArgs false
set_option linter.unusedVariables false
abbrev credV (c : Cred) : List AV := [vI c.kind, vI c.of.who, vI c.of.name, vI c.who, vI c.a.who, vI c.a.name, vI c.b.who, vI c.b.name, vI c.till, vI c.nonce]
set_option maxHeartbeats 2000000 in
theorem ac_CredsIn (L : List Step) (hL : L.length ≤ 1048576) : AC Tryz.prog 22 [.c true (.sl (L.map stepC))] (.own (.r 0)) [.row false 56 10 ((credsI L).map credC)] := by
  refine XA good (fn := Tryz.f22) rfl ?_
  simp only [entry, List.getD_cons_zero, List.getD_cons_succ]
  repeat' first | refine SW.step good fun K hK => ?_ | refine X2 good fun K hK => ?_ | refine X3 good fun K hK => ?_ | refine SW.seqK fun J hJ => ?_ | refine SW.last good fun K hK => ?_ | (refine hK _ ?_; clear hK K) | (refine hJ _ _ (Wk.refl _) ?_; clear hJ J) | clear hK K | clear hJ J | refine SW.skip ?_ | refine SW.ret ?_ | refine SW.retT ?_ | refine SW.retB ?_ | refine SW.exit ?_ | refine SW.exitT ?_ | refine SW.exitB ?_ | refine XN ?_ | refine SW.block ?_ | refine SW.normB ?_ | refine SW.normT ?_ | refine XT ?_ | refine XF ?_ | refine XC (fun h => ?_) (fun h => ?_) | simp only [go_sem, optI, Option.getD_some, Option.getD_none, Int.reduceToNat, reduceIte, Nat.reduceEqDiff, Nat.reduceAdd, Nat.reduceMul, Nat.reduceSub, Nat.reduceLT, Nat.reduceLeDiff, reduceCtorEq, *] | refine Xs _ (fun h => ?_) (fun h => ?_) | with_reducible refine And.intro ?_ ?_
  refine SW.loopTo (α := Nat) (fun k => ⟨sl [(3, .own (.s 6 0)), (7, .c true (.sl (L.map stepC))), (8, vI L.length), (9, vI k)], hl [(.s 6 0, .row false 56 10 ((credsI (L.take k)).map credC))]⟩) (fun k => L.length - k) 0 (fun k => k ≤ L.length) ?_ (by simp) ?_
  · (refine Xto _ _ ?_ ?_ <;> simp only [go_sem, optI, Option.getD_some, Option.getD_none, Int.reduceToNat, reduceIte, Nat.reduceEqDiff, Nat.reduceAdd, Nat.reduceMul, Nat.reduceSub, Nat.reduceLT, Nat.reduceLeDiff, reduceCtorEq, Option.some.injEq, or_true, true_or] <;> (repeat' with_reducible apply And.intro) <;> (try rfl))
    all_goals first | rfl | skip
  · intro k h2
    by_cases hk : k < L.length
    · have e := getD_map L stepC [] hk
      have e1 : decide ((k : Int) < L.length) = true := by simp; omega
      have hw : IntKind.i64.wrap ((k : Int) + 1) = ((k + 1 : Nat) : Int) := wrap64 (by omega) (by omega)
      have ht := credsI_take hk
      have hn := credsI_len (L.take k)
      rw [List.length_take] at hn
      have hh := ac_HasCr (credsI (L.take k)) L[k].cred (by omega)
      generalize credsI (L.take k) = Q at *
      generalize L[k] = s at *
      have hn2 : Q.length ≤ 1048576 := by omega
      simp only [encCred] at hh
      unfold addCr at ht
      cases hc : hasCr Q s.cred with
      | true =>
        rw [hc] at hh ht
        simp only [if_true] at ht
        clear hn
        repeat' first | refine SW.step good fun K hK => ?_ | refine X2 good fun K hK => ?_ | refine X3 good fun K hK => ?_ | refine SW.seqK fun J hJ => ?_ | refine SW.last good fun K hK => ?_ | (refine hK _ ?_; clear hK K) | (refine hJ _ _ (Wk.refl _) ?_; clear hJ J) | clear hK K | clear hJ J | refine SW.skip ?_ | refine SW.ret ?_ | refine SW.retT ?_ | refine SW.retB ?_ | refine SW.exit ?_ | refine SW.exitT ?_ | refine SW.exitB ?_ | refine XN ?_ | refine SW.block ?_ | refine SW.normB ?_ | refine SW.normT ?_ | refine XT ?_ | refine XF ?_ | refine XC (fun h => ?_) (fun h => ?_) | refine X0 ?_ | refine Xv ?_ | refine X1 (hh) ?_ | simp only [go_sem, optI, Option.getD_some, Option.getD_none, Int.reduceToNat, reduceIte, Nat.reduceEqDiff, Nat.reduceAdd, Nat.reduceMul, Nat.reduceSub, Nat.reduceLT, Nat.reduceLeDiff, reduceCtorEq, *] | refine Xs _ (fun h => ?_) (fun h => ?_) | with_reducible refine And.intro ?_ ?_
        all_goals first | omega | (simp [stepC]; done) | (intro r hr; simp at hr; subst hr; rfl) | (simp [bytesC]; omega) | (simp; done) | omega | rfl | skip
        all_goals refine ⟨k + 1, by omega, by omega, ?_⟩
        all_goals (refine Xto _ _ ?_ ?_ <;> simp only [go_sem, optI, Option.getD_some, Option.getD_none, Int.reduceToNat, reduceIte, Nat.reduceEqDiff, Nat.reduceAdd, Nat.reduceMul, Nat.reduceSub, Nat.reduceLT, Nat.reduceLeDiff, reduceCtorEq, Option.some.injEq, or_true, true_or] <;> (repeat' with_reducible apply And.intro) <;> (try rfl))
        all_goals first | (rw [ht]; done) | skip
      | false =>
        rw [hc] at hh ht
        simp only [Bool.false_eq_true, if_false] at ht
        clear hn
        repeat' first | refine SW.step good fun K hK => ?_ | refine X2 good fun K hK => ?_ | refine X3 good fun K hK => ?_ | refine SW.seqK fun J hJ => ?_ | refine SW.last good fun K hK => ?_ | (refine hK _ ?_; clear hK K) | (refine hJ _ _ (Wk.refl _) ?_; clear hJ J) | clear hK K | clear hJ J | refine SW.skip ?_ | refine SW.ret ?_ | refine SW.retT ?_ | refine SW.retB ?_ | refine SW.exit ?_ | refine SW.exitT ?_ | refine SW.exitB ?_ | refine XN ?_ | refine SW.block ?_ | refine SW.normB ?_ | refine SW.normT ?_ | refine XT ?_ | refine XF ?_ | refine XC (fun h => ?_) (fun h => ?_) | refine X0 ?_ | refine Xv ?_ | refine X1 (hh) ?_ | simp only [go_sem, optI, Option.getD_some, Option.getD_none, Int.reduceToNat, reduceIte, Nat.reduceEqDiff, Nat.reduceAdd, Nat.reduceMul, Nat.reduceSub, Nat.reduceLT, Nat.reduceLeDiff, reduceCtorEq, *] | refine Xs _ (fun h => ?_) (fun h => ?_) | with_reducible refine And.intro ?_ ?_
        all_goals first | omega | (simp [stepC]; done) | (intro r hr; simp at hr; subst hr; rfl) | (simp [bytesC]; omega) | (simp; done) | omega | rfl | skip
        all_goals refine ⟨k + 1, by omega, by omega, ?_⟩
        all_goals (refine Xto _ _ ?_ ?_ <;> simp only [go_sem, optI, Option.getD_some, Option.getD_none, Int.reduceToNat, reduceIte, Nat.reduceEqDiff, Nat.reduceAdd, Nat.reduceMul, Nat.reduceSub, Nat.reduceLT, Nat.reduceLeDiff, reduceCtorEq, Option.some.injEq, or_true, true_or] <;> (repeat' with_reducible apply And.intro) <;> (try rfl))
        all_goals first | (rw [ht, List.map_append]; rfl) | skip
    · have hk : k = L.length := by omega
      subst hk
      have e1 : decide ((L.length : Int) < L.length) = false := by simp
      rw [List.take_length]
      repeat' first | refine SW.step good fun K hK => ?_ | refine X2 good fun K hK => ?_ | refine X3 good fun K hK => ?_ | refine SW.seqK fun J hJ => ?_ | refine SW.last good fun K hK => ?_ | (refine hK _ ?_; clear hK K) | (refine hJ _ _ (Wk.refl _) ?_; clear hJ J) | clear hK K | clear hJ J | refine SW.skip ?_ | refine SW.ret ?_ | refine SW.retT ?_ | refine SW.retB ?_ | refine SW.exit ?_ | refine SW.exitT ?_ | refine SW.exitB ?_ | refine XN ?_ | refine SW.block ?_ | refine SW.normB ?_ | refine SW.normT ?_ | refine XT ?_ | refine XF ?_ | refine XC (fun h => ?_) (fun h => ?_) | simp only [go_sem, optI, Option.getD_some, Option.getD_none, Int.reduceToNat, reduceIte, Nat.reduceEqDiff, Nat.reduceAdd, Nat.reduceMul, Nat.reduceSub, Nat.reduceLT, Nat.reduceLeDiff, reduceCtorEq, *] | refine Xs _ (fun h => ?_) (fun h => ?_) | with_reducible refine And.intro ?_ ?_
      all_goals refine Xro (i := .s 6 0) ?_ ?_
      all_goals simp [Wn.leO, resOf, Wn.le, Wn.leL, Wn.cw, C.scal, scal, outW, idsTo, hrOf]
def hasUp (Q : List Cred) (c : Cred) (k : Nat) : Bool := (Q.take k).any fun d => sameCr d c
theorem hasUp_succ {Q : List Cred} (c : Cred) {k : Nat} (h : k < Q.length) : hasUp Q c (k + 1) = (hasUp Q c k || sameCr Q[k] c) := by
  unfold hasUp; rw [List.take_add_one, List.getElem?_eq_getElem h, List.any_append]; simp
theorem hasUp_all (Q : List Cred) (c : Cred) : hasUp Q c Q.length = hasCr Q c := by
  unfold hasUp hasCr; rw [List.take_length]
  congr 1; funext d; exact sameCr_comm d c
set_option maxHeartbeats 4000000 in
theorem ac_CredsIn' (L : List Step) (hL : L.length ≤ 1048576) : AC Tryz.prog 16 [.c true (.sl (L.map stepC))] (.own (.r 0)) [.row false 56 10 ((credsI L).map credC)] := by
  refine XA good (fn := Tryz.f16) rfl ?_
  simp only [entry, List.getD_cons_zero, List.getD_cons_succ]
  repeat' first | refine SW.step good fun K hK => ?_ | refine X2 good fun K hK => ?_ | refine X3 good fun K hK => ?_ | refine SW.seqK fun J hJ => ?_ | refine SW.last good fun K hK => ?_ | (refine hK _ ?_; clear hK K) | (refine hJ _ _ (Wk.refl _) ?_; clear hJ J) | clear hK K | clear hJ J | refine SW.skip ?_ | refine SW.ret ?_ | refine SW.retT ?_ | refine SW.retB ?_ | refine SW.exit ?_ | refine SW.exitT ?_ | refine SW.exitB ?_ | refine XN ?_ | refine SW.block ?_ | refine SW.normB ?_ | refine SW.normT ?_ | refine XT ?_ | refine XF ?_ | refine XC (fun h => ?_) (fun h => ?_) | simp only [go_sem, optI, Option.getD_some, Option.getD_none, Int.reduceToNat, reduceIte, Nat.reduceEqDiff, Nat.reduceAdd, Nat.reduceMul, Nat.reduceSub, Nat.reduceLT, Nat.reduceLeDiff, reduceCtorEq, *] | refine Xs _ (fun h => ?_) (fun h => ?_) | with_reducible refine And.intro ?_ ?_
  refine SW.loopTo (α := Nat) (fun k => ⟨sl [(0, .c true (.sl (L.map stepC))), (3, .own (.s 7 0)), (4, vI k)], hl [(.s 7 0, .row false 56 10 ((credsI (L.take k)).map credC))]⟩) (fun k => L.length - k) 0 (fun k => k ≤ L.length) ?_ (by simp) ?_
  · (refine Xto _ _ ?_ ?_ <;> simp only [go_sem, optI, Option.getD_some, Option.getD_none, Int.reduceToNat, reduceIte, Nat.reduceEqDiff, Nat.reduceAdd, Nat.reduceMul, Nat.reduceSub, Nat.reduceLT, Nat.reduceLeDiff, reduceCtorEq, Option.some.injEq, or_true, true_or] <;> (repeat' with_reducible apply And.intro) <;> (try rfl))
    all_goals first | rfl | skip
  · intro k h2
    by_cases hk : k < L.length
    · have e := getD_map L stepC [] hk
      have e1 : decide ((k : Int) < L.length) = true := by simp; omega
      have hw : IntKind.i64.wrap ((k : Int) + 1) = ((k + 1 : Nat) : Int) := wrap64 (by omega) (by omega)
      have ht := credsI_take hk
      have hn := credsI_len (L.take k)
      rw [List.length_take] at hn
      generalize credsI (L.take k) = Q at *
      generalize L[k] = s at *
      have hn2 : Q.length ≤ 1048576 := by omega
      unfold addCr at ht
      clear hn
      repeat' first | refine SW.step good fun K hK => ?_ | refine X2 good fun K hK => ?_ | refine X3 good fun K hK => ?_ | refine SW.seqK fun J hJ => ?_ | refine SW.last good fun K hK => ?_ | (refine hK _ ?_; clear hK K) | (refine hJ _ _ (Wk.refl _) ?_; clear hJ J) | clear hK K | clear hJ J | refine SW.skip ?_ | refine SW.ret ?_ | refine SW.retT ?_ | refine SW.retB ?_ | refine SW.exit ?_ | refine SW.exitT ?_ | refine SW.exitB ?_ | refine XN ?_ | refine SW.block ?_ | refine SW.normB ?_ | refine SW.normT ?_ | refine XT ?_ | refine XF ?_ | refine XC (fun h => ?_) (fun h => ?_) | simp only [go_sem, optI, Option.getD_some, Option.getD_none, Int.reduceToNat, reduceIte, Nat.reduceEqDiff, Nat.reduceAdd, Nat.reduceMul, Nat.reduceSub, Nat.reduceLT, Nat.reduceLeDiff, reduceCtorEq, *] | refine Xs _ (fun h => ?_) (fun h => ?_) | with_reducible refine And.intro ?_ ?_
      refine SW.loopTo (α := Nat) (fun j => ⟨sl [(0, .c true (.sl (L.map stepC))), (3, .own (.s 7 0)), (4, vI k), (5, vB (hasUp Q s.cred j)), (6, vI j)], hl [(.s 7 0, .row false 56 10 (Q.map credC))]⟩) (fun j => Q.length - j) 0 (fun j => j ≤ Q.length) ?_ (by simp) ?_
      · (refine Xto _ _ ?_ ?_ <;> simp only [go_sem, optI, Option.getD_some, Option.getD_none, Int.reduceToNat, reduceIte, Nat.reduceEqDiff, Nat.reduceAdd, Nat.reduceMul, Nat.reduceSub, Nat.reduceLT, Nat.reduceLeDiff, reduceCtorEq, Option.some.injEq, or_true, true_or] <;> (repeat' with_reducible apply And.intro) <;> (try rfl))
        all_goals first | rfl | skip
      · intro j h3
        by_cases hj : j < Q.length
        · have e2 := getD_map Q credC [] hj
          have e3 : decide ((j : Int) < Q.length) = true := by simp; omega
          have hw2 : IntKind.i64.wrap ((j : Int) + 1) = ((j + 1 : Nat) : Int) := wrap64 (by omega) (by omega)
          have hus := hasUp_succ s.cred hj
          clear ht hw
          cases hu : hasUp Q s.cred j with
          | true =>
            rw [hu, Bool.true_or] at hus
            repeat' first | refine SW.step good fun K hK => ?_ | refine X2 good fun K hK => ?_ | refine X3 good fun K hK => ?_ | refine SW.seqK fun J hJ => ?_ | refine SW.last good fun K hK => ?_ | (refine hK _ ?_; clear hK K) | (refine hJ _ _ (Wk.refl _) ?_; clear hJ J) | clear hK K | clear hJ J | refine SW.skip ?_ | refine SW.ret ?_ | refine SW.retT ?_ | refine SW.retB ?_ | refine SW.exit ?_ | refine SW.exitT ?_ | refine SW.exitB ?_ | refine XN ?_ | refine SW.block ?_ | refine SW.normB ?_ | refine SW.normT ?_ | refine XT ?_ | refine XF ?_ | refine XC (fun h => ?_) (fun h => ?_) | simp only [go_sem, optI, Option.getD_some, Option.getD_none, Int.reduceToNat, reduceIte, Nat.reduceEqDiff, Nat.reduceAdd, Nat.reduceMul, Nat.reduceSub, Nat.reduceLT, Nat.reduceLeDiff, reduceCtorEq, *] | refine Xs _ (fun h => ?_) (fun h => ?_) | with_reducible refine And.intro ?_ ?_
            all_goals first | omega | (simp [stepC, credC]; done) | (intro r hr; simp at hr; subst hr; rfl) | (simp [bytesC]; omega) | (simp; done) | omega | rfl | skip
            all_goals refine ⟨j + 1, by omega, by omega, ?_⟩
            all_goals (refine Xto _ _ ?_ ?_ <;> simp only [go_sem, optI, Option.getD_some, Option.getD_none, Int.reduceToNat, reduceIte, Nat.reduceEqDiff, Nat.reduceAdd, Nat.reduceMul, Nat.reduceSub, Nat.reduceLT, Nat.reduceLeDiff, reduceCtorEq, Option.some.injEq, or_true, true_or] <;> (repeat' with_reducible apply And.intro) <;> (try rfl))
            all_goals first | (rw [hus]; done) | skip
          | false =>
            rw [hu, Bool.false_or] at hus
            cases hsm : sameCr Q[j] s.cred with
            | true =>
              rw [hsm] at hus
              simp only [sameCr] at hsm
              repeat' first | refine SW.step good fun K hK => ?_ | refine X2 good fun K hK => ?_ | refine X3 good fun K hK => ?_ | refine SW.seqK fun J hJ => ?_ | refine SW.last good fun K hK => ?_ | (refine hK _ ?_; clear hK K) | (refine hJ _ _ (Wk.refl _) ?_; clear hJ J) | clear hK K | clear hJ J | refine SW.skip ?_ | refine SW.ret ?_ | refine SW.retT ?_ | refine SW.retB ?_ | refine SW.exit ?_ | refine SW.exitT ?_ | refine SW.exitB ?_ | refine XN ?_ | refine SW.block ?_ | refine SW.normB ?_ | refine SW.normT ?_ | refine XT ?_ | refine XF ?_ | refine XC (fun h => ?_) (fun h => ?_) | simp only [go_sem, optI, Option.getD_some, Option.getD_none, Int.reduceToNat, reduceIte, Nat.reduceEqDiff, Nat.reduceAdd, Nat.reduceMul, Nat.reduceSub, Nat.reduceLT, Nat.reduceLeDiff, reduceCtorEq, *] | refine Xs _ (fun h => ?_) (fun h => ?_) | with_reducible refine And.intro ?_ ?_
              all_goals first | omega | (simp [stepC, credC]; done) | (intro r hr; simp at hr; subst hr; rfl) | (simp [bytesC]; omega) | (simp; done) | omega | rfl | skip
              all_goals refine ⟨j + 1, by omega, by omega, ?_⟩
              all_goals (refine Xto _ _ ?_ ?_ <;> simp only [go_sem, optI, Option.getD_some, Option.getD_none, Int.reduceToNat, reduceIte, Nat.reduceEqDiff, Nat.reduceAdd, Nat.reduceMul, Nat.reduceSub, Nat.reduceLT, Nat.reduceLeDiff, reduceCtorEq, Option.some.injEq, or_true, true_or] <;> (repeat' with_reducible apply And.intro) <;> (try rfl))
              all_goals first | (rw [hus]; done) | skip
            | false =>
              rw [hsm] at hus
              simp only [sameCr] at hsm
              repeat' first | refine SW.step good fun K hK => ?_ | refine X2 good fun K hK => ?_ | refine X3 good fun K hK => ?_ | refine SW.seqK fun J hJ => ?_ | refine SW.last good fun K hK => ?_ | (refine hK _ ?_; clear hK K) | (refine hJ _ _ (Wk.refl _) ?_; clear hJ J) | clear hK K | clear hJ J | refine SW.skip ?_ | refine SW.ret ?_ | refine SW.retT ?_ | refine SW.retB ?_ | refine SW.exit ?_ | refine SW.exitT ?_ | refine SW.exitB ?_ | refine XN ?_ | refine SW.block ?_ | refine SW.normB ?_ | refine SW.normT ?_ | refine XT ?_ | refine XF ?_ | refine XC (fun h => ?_) (fun h => ?_) | simp only [go_sem, optI, Option.getD_some, Option.getD_none, Int.reduceToNat, reduceIte, Nat.reduceEqDiff, Nat.reduceAdd, Nat.reduceMul, Nat.reduceSub, Nat.reduceLT, Nat.reduceLeDiff, reduceCtorEq, *] | refine Xs _ (fun h => ?_) (fun h => ?_) | with_reducible refine And.intro ?_ ?_
              all_goals first | omega | (simp [stepC, credC]; done) | (intro r hr; simp at hr; subst hr; rfl) | (simp [bytesC]; omega) | (simp; done) | omega | rfl | skip
              all_goals refine ⟨j + 1, by omega, by omega, ?_⟩
              all_goals (refine Xto _ _ ?_ ?_ <;> simp only [go_sem, optI, Option.getD_some, Option.getD_none, Int.reduceToNat, reduceIte, Nat.reduceEqDiff, Nat.reduceAdd, Nat.reduceMul, Nat.reduceSub, Nat.reduceLT, Nat.reduceLeDiff, reduceCtorEq, Option.some.injEq, or_true, true_or] <;> (repeat' with_reducible apply And.intro) <;> (try rfl))
              all_goals first | (rw [hus]; done) | skip
        · have hj : j = Q.length := by omega
          subst hj
          have e3 : decide ((Q.length : Int) < Q.length) = false := by simp
          rw [hasUp_all]
          cases hc : hasCr Q s.cred with
          | true =>
            rw [hc] at ht
            simp only [if_true] at ht
            repeat' first | refine SW.step good fun K hK => ?_ | refine X2 good fun K hK => ?_ | refine X3 good fun K hK => ?_ | refine SW.seqK fun J hJ => ?_ | refine SW.last good fun K hK => ?_ | (refine hK _ ?_; clear hK K) | (refine hJ _ _ (Wk.refl _) ?_; clear hJ J) | clear hK K | clear hJ J | refine SW.skip ?_ | refine SW.ret ?_ | refine SW.retT ?_ | refine SW.retB ?_ | refine SW.exit ?_ | refine SW.exitT ?_ | refine SW.exitB ?_ | refine XN ?_ | refine SW.block ?_ | refine SW.normB ?_ | refine SW.normT ?_ | refine XT ?_ | refine XF ?_ | refine XC (fun h => ?_) (fun h => ?_) | simp only [go_sem, optI, Option.getD_some, Option.getD_none, Int.reduceToNat, reduceIte, Nat.reduceEqDiff, Nat.reduceAdd, Nat.reduceMul, Nat.reduceSub, Nat.reduceLT, Nat.reduceLeDiff, reduceCtorEq, *] | refine Xs _ (fun h => ?_) (fun h => ?_) | with_reducible refine And.intro ?_ ?_
            all_goals first | omega | (simp [stepC, credC]; done) | (intro r hr; simp at hr; subst hr; rfl) | (simp [bytesC]; omega) | (simp; done) | omega | rfl | skip
            all_goals refine ⟨k + 1, by omega, by omega, ?_⟩
            all_goals (refine Xto _ _ ?_ ?_ <;> simp only [go_sem, optI, Option.getD_some, Option.getD_none, Int.reduceToNat, reduceIte, Nat.reduceEqDiff, Nat.reduceAdd, Nat.reduceMul, Nat.reduceSub, Nat.reduceLT, Nat.reduceLeDiff, reduceCtorEq, Option.some.injEq, or_true, true_or] <;> (repeat' with_reducible apply And.intro) <;> (try rfl))
            all_goals first | (rw [ht]; done) | skip
          | false =>
            rw [hc] at ht
            simp only [Bool.false_eq_true, if_false] at ht
            repeat' first | refine SW.step good fun K hK => ?_ | refine X2 good fun K hK => ?_ | refine X3 good fun K hK => ?_ | refine SW.seqK fun J hJ => ?_ | refine SW.last good fun K hK => ?_ | (refine hK _ ?_; clear hK K) | (refine hJ _ _ (Wk.refl _) ?_; clear hJ J) | clear hK K | clear hJ J | refine SW.skip ?_ | refine SW.ret ?_ | refine SW.retT ?_ | refine SW.retB ?_ | refine SW.exit ?_ | refine SW.exitT ?_ | refine SW.exitB ?_ | refine XN ?_ | refine SW.block ?_ | refine SW.normB ?_ | refine SW.normT ?_ | refine XT ?_ | refine XF ?_ | refine XC (fun h => ?_) (fun h => ?_) | simp only [go_sem, optI, Option.getD_some, Option.getD_none, Int.reduceToNat, reduceIte, Nat.reduceEqDiff, Nat.reduceAdd, Nat.reduceMul, Nat.reduceSub, Nat.reduceLT, Nat.reduceLeDiff, reduceCtorEq, *] | refine Xs _ (fun h => ?_) (fun h => ?_) | with_reducible refine And.intro ?_ ?_
            all_goals first | omega | (simp [stepC, credC]; done) | (intro r hr; simp at hr; subst hr; rfl) | (simp [bytesC]; omega) | (simp; done) | omega | rfl | skip
            all_goals refine ⟨k + 1, by omega, by omega, ?_⟩
            all_goals (refine Xto _ _ ?_ ?_ <;> simp only [go_sem, optI, Option.getD_some, Option.getD_none, Int.reduceToNat, reduceIte, Nat.reduceEqDiff, Nat.reduceAdd, Nat.reduceMul, Nat.reduceSub, Nat.reduceLT, Nat.reduceLeDiff, reduceCtorEq, Option.some.injEq, or_true, true_or] <;> (repeat' with_reducible apply And.intro) <;> (try rfl))
            all_goals first | (rw [ht, List.map_append]; rfl) | skip
    · have hk : k = L.length := by omega
      subst hk
      have e1 : decide ((L.length : Int) < L.length) = false := by simp
      rw [List.take_length]
      repeat' first | refine SW.step good fun K hK => ?_ | refine X2 good fun K hK => ?_ | refine X3 good fun K hK => ?_ | refine SW.seqK fun J hJ => ?_ | refine SW.last good fun K hK => ?_ | (refine hK _ ?_; clear hK K) | (refine hJ _ _ (Wk.refl _) ?_; clear hJ J) | clear hK K | clear hJ J | refine SW.skip ?_ | refine SW.ret ?_ | refine SW.retT ?_ | refine SW.retB ?_ | refine SW.exit ?_ | refine SW.exitT ?_ | refine SW.exitB ?_ | refine XN ?_ | refine SW.block ?_ | refine SW.normB ?_ | refine SW.normT ?_ | refine XT ?_ | refine XF ?_ | refine XC (fun h => ?_) (fun h => ?_) | simp only [go_sem, optI, Option.getD_some, Option.getD_none, Int.reduceToNat, reduceIte, Nat.reduceEqDiff, Nat.reduceAdd, Nat.reduceMul, Nat.reduceSub, Nat.reduceLT, Nat.reduceLeDiff, reduceCtorEq, *] | refine Xs _ (fun h => ?_) (fun h => ?_) | with_reducible refine And.intro ?_ ?_
      all_goals refine Xro (i := .s 7 0) ?_ ?_
      all_goals simp [Wn.leO, resOf, Wn.le, Wn.leL, Wn.cw, C.scal, scal, outW, idsTo, hrOf]
end Go.Proofs.YtbgeagbgfioaaaaGreat.AB
namespace Go.Proofs.YtbgeagbgfioaaaaGreat.AB
open Go
set_option maxRecDepth 100000
set_option linter.unusedSimpArgs false
set_option linter.unusedVariables false
def okV (c : Cred) (now : Int) (v : Vouched) : Bool := sameCr v.cred c && verified v now
def SmallV (v : Vouched) : Prop := SmallS v.sign.ends ∧ SmallS v.sign.way
def noneV (W : List Vouched) (now : Int) (c : Cred) : Bool := !W.any (okV c now)
def backed (L : List Step) (W : List Vouched) (r : Role) (who now : Int) : Bool := proofOk L r who && !(credsI L).any (noneV W now)
set_option maxHeartbeats 1000000 in
theorem ac_Backed11 (c : Cred) (now : Int) (v : Vouched) (hv : SmallV v) : AC Tryz.prog 25 [encVou true v, .ip true (credC c), .ip true [cI now]] (vB (okV c now v)) [] := by
  have h1 := ac_Verified v now hv.1 hv.2
  simp only [encVou] at h1
  unfold okV
  generalize verified v now = w at *
  cases hs : sameCr v.cred c with
  | true =>
    unfold sameCr at hs
    refine XA good (fn := Tryz.f25) rfl ?_
    simp only [entry, List.getD_cons_zero, List.getD_cons_succ]
    repeat' first | refine SW.step good fun K hK => ?_ | refine X2 good fun K hK => ?_ | refine X3 good fun K hK => ?_ | refine SW.seqK fun J hJ => ?_ | refine SW.last good fun K hK => ?_ | (refine hK _ ?_; clear hK K) | (refine hJ _ _ (Wk.refl _) ?_; clear hJ J) | clear hK K | clear hJ J | refine SW.skip ?_ | refine SW.ret ?_ | refine SW.retT ?_ | refine SW.retB ?_ | refine SW.exit ?_ | refine SW.exitT ?_ | refine SW.exitB ?_ | refine XN ?_ | refine SW.block ?_ | refine SW.normB ?_ | refine SW.normT ?_ | refine XT ?_ | refine XF ?_ | refine XC (fun h => ?_) (fun h => ?_) | refine X0 ?_ | refine Xv ?_ | refine X1 (h1) ?_ | simp only [go_sem, optI, Option.getD_some, Option.getD_none, Int.reduceToNat, reduceIte, Nat.reduceEqDiff, Nat.reduceAdd, Nat.reduceMul, Nat.reduceSub, Nat.reduceLT, Nat.reduceLeDiff, reduceCtorEq, *] | refine Xs _ (fun h => ?_) (fun h => ?_) | with_reducible refine And.intro ?_ ?_
    all_goals first | (intro r hr; simp at hr; subst hr; rfl) | (simp [bytesC]; omega) | (simp; done) | omega | rfl | skip
    all_goals refine Xrb ?_
    all_goals first | rfl | (simp; done) | (clear hs; simp_all)
  | false =>
    unfold sameCr at hs
    refine XA good (fn := Tryz.f25) rfl ?_
    simp only [entry, List.getD_cons_zero, List.getD_cons_succ]
    repeat' first | refine SW.step good fun K hK => ?_ | refine X2 good fun K hK => ?_ | refine X3 good fun K hK => ?_ | refine SW.seqK fun J hJ => ?_ | refine SW.last good fun K hK => ?_ | (refine hK _ ?_; clear hK K) | (refine hJ _ _ (Wk.refl _) ?_; clear hJ J) | clear hK K | clear hJ J | refine SW.skip ?_ | refine SW.ret ?_ | refine SW.retT ?_ | refine SW.retB ?_ | refine SW.exit ?_ | refine SW.exitT ?_ | refine SW.exitB ?_ | refine XN ?_ | refine SW.block ?_ | refine SW.normB ?_ | refine SW.normT ?_ | refine XT ?_ | refine XF ?_ | refine XC (fun h => ?_) (fun h => ?_) | refine X0 ?_ | refine Xv ?_ | refine X1 (h1) ?_ | simp only [go_sem, optI, Option.getD_some, Option.getD_none, Int.reduceToNat, reduceIte, Nat.reduceEqDiff, Nat.reduceAdd, Nat.reduceMul, Nat.reduceSub, Nat.reduceLT, Nat.reduceLeDiff, reduceCtorEq, *] | refine Xs _ (fun h => ?_) (fun h => ?_) | with_reducible refine And.intro ?_ ?_
    all_goals first | (intro r hr; simp at hr; subst hr; rfl) | (simp [bytesC]; omega) | (simp; done) | omega | rfl | skip
    all_goals refine Xrb ?_
    all_goals first | rfl | (simp; done) | (clear hs; simp_all)
theorem ac_Backed1 (c : Cred) (now : Int) (W : List Vouched) (hb : W.length ≤ 1048576) (hv : ∀ v, v ∈ W → SmallV v) : AC Tryz.prog 23 [encCred c, .ip true [.sl (W.map vouC')], .ip true [cI now]] (vB (noneV W now c)) [] := by
  have h1 := ac_AnyV2 W 25 (credC c) [cI now] (okV c now) (by omega) (fun v h => ac_Backed11 c now v (hv v h))
  simp only [credC] at h1
  unfold noneV
  generalize W.any (okV c now) = w at *
  clear hv
  refine XA good (fn := Tryz.f23) rfl ?_
  simp only [entry, List.getD_cons_zero, List.getD_cons_succ]
  repeat' first | refine SW.step good fun K hK => ?_ | refine X2 good fun K hK => ?_ | refine X3 good fun K hK => ?_ | refine SW.seqK fun J hJ => ?_ | refine SW.last good fun K hK => ?_ | (refine hK _ ?_; clear hK K) | (refine hJ _ _ (Wk.refl _) ?_; clear hJ J) | clear hK K | clear hJ J | refine SW.skip ?_ | refine SW.ret ?_ | refine SW.retT ?_ | refine SW.retB ?_ | refine SW.exit ?_ | refine SW.exitT ?_ | refine SW.exitB ?_ | refine XN ?_ | refine SW.block ?_ | refine SW.normB ?_ | refine SW.normT ?_ | refine XT ?_ | refine XF ?_ | refine XC (fun h => ?_) (fun h => ?_) | refine X0 ?_ | refine Xv ?_ | refine X1 (h1) ?_ | simp only [go_sem, optI, Option.getD_some, Option.getD_none, Int.reduceToNat, reduceIte, Nat.reduceEqDiff, Nat.reduceAdd, Nat.reduceMul, Nat.reduceSub, Nat.reduceLT, Nat.reduceLeDiff, reduceCtorEq, *] | refine Xs _ (fun h => ?_) (fun h => ?_) | with_reducible refine And.intro ?_ ?_
  all_goals first | (intro r hr; simp at hr; subst hr; rfl) | (simp [bytesC]; omega) | (simp; done) | omega | rfl | skip
  all_goals refine Xrb ?_
  all_goals first | rfl | (simp; done) | simp_all
theorem ac_Backed (L : List Step) (W : List Vouched) (r : Role) (who now : Int) (hb : L.length ≤ 1048576) (hs : ∀ s, s ∈ L → s.src.length ≤ 1048576) (hw : W.length ≤ 1048576) (hv : ∀ v, v ∈ W → SmallV v) : AC Tryz.prog 10 [.c true (.sl (L.map stepC)), .c true (.sl (W.map vouC')), encRole r, vI who, vI now] (vB (backed L W r who now)) [] := by
  have c1 := ac_ProofOk L r who hb hs
  have c2 := ac_CredsIn L hb
  have c3 := ac_AnyC2 (credsI L) 23 [.sl (W.map vouC')] [cI now] (noneV W now) (by have := credsI_len L; omega) (fun c h => ac_Backed1 c now W hw hv)
  unfold backed
  obtain ⟨ra, rb⟩ := r
  simp only [encRole] at c1 ⊢
  generalize (credsI L).any (noneV W now) = u at *
  generalize (credsI L).map credC = M at *
  generalize proofOk L ⟨ra, rb⟩ who = w at *
  clear hb hs hw hv
  refine XA good (fn := Tryz.f10) rfl ?_
  simp only [entry, List.getD_cons_zero, List.getD_cons_succ]
  repeat' first | refine SW.step good fun K hK => ?_ | refine X2 good fun K hK => ?_ | refine X3 good fun K hK => ?_ | refine SW.seqK fun J hJ => ?_ | refine SW.last good fun K hK => ?_ | (refine hK _ ?_; clear hK K) | (refine hJ _ _ (Wk.refl _) ?_; clear hJ J) | clear hK K | clear hJ J | refine SW.skip ?_ | refine SW.ret ?_ | refine SW.retT ?_ | refine SW.retB ?_ | refine SW.exit ?_ | refine SW.exitT ?_ | refine SW.exitB ?_ | refine XN ?_ | refine SW.block ?_ | refine SW.normB ?_ | refine SW.normT ?_ | refine XT ?_ | refine XF ?_ | refine XC (fun h => ?_) (fun h => ?_) | refine X0 ?_ | refine Xv ?_ | refine X1 (c1) ?_ | refine X1 (c2) ?_ | refine X1 (c3) ?_ | simp only [go_sem, optI, Option.getD_some, Option.getD_none, Int.reduceToNat, reduceIte, Nat.reduceEqDiff, Nat.reduceAdd, Nat.reduceMul, Nat.reduceSub, Nat.reduceLT, Nat.reduceLeDiff, reduceCtorEq, *] | refine Xs _ (fun h => ?_) (fun h => ?_) | with_reducible refine And.intro ?_ ?_
  all_goals first | (intro r hr; simp at hr; subst hr; rfl) | (simp [bytesC]; omega) | (simp; done) | omega | rfl | skip
  all_goals refine Xrb ?_
  all_goals first | rfl | (simp; done) | simp_all
theorem any_take_succ {p : Vouched → Bool} {W : List Vouched} {k : Nat} (h : k < W.length) : (W.take (k + 1)).any p = ((W.take k).any p || p W[k]) := by
  rw [List.take_add_one, List.getElem?_eq_getElem h, List.any_append]; simp
theorem any_of_take {p : Vouched → Bool} {W : List Vouched} {k : Nat} (h : (W.take k).any p = true) : W.any p = true := by
  rw [List.any_eq_true] at *
  obtain ⟨x, hx, hp⟩ := h
  exact ⟨x, List.mem_of_mem_take hx, hp⟩
theorem any_take_false {α : Type} {p : α → Bool} {Q : List α} {k : Nat} (h : k < Q.length) (h1 : (Q.take k).any p = false) (h2 : p Q[k] = false) : (Q.take (k + 1)).any p = false := by
  rw [List.take_add_one, List.getElem?_eq_getElem h, List.any_append, h1]; simp [h2]
theorem any_true_at {α : Type} {p : α → Bool} {Q : List α} {k : Nat} (h : k < Q.length) (h2 : p Q[k] = true) : Q.any p = true := List.any_eq_true.2 ⟨Q[k], List.getElem_mem h, h2⟩
set_option maxHeartbeats 2000000 in
theorem ac_Backed' (L : List Step) (W : List Vouched) (r : Role) (who now : Int) (hb : L.length ≤ 1048576) (hs : ∀ s, s ∈ L → s.src.length ≤ 1048576) (hw : W.length ≤ 1048576) (hv : ∀ v, v ∈ W → SmallV v) : AC Tryz.prog 6 [.c true (.sl (L.map stepC)), .c true (.sl (W.map vouC')), encRole r, vI who, vI now] (vB (backed L W r who now)) [] := by
  have c1 := ac_ProofOk' L r who hb hs
  have c2 := ac_CredsIn' L hb
  have hql := credsI_len L
  have hR : backed L W r who now = (proofOk L r who && !(credsI L).any (noneV W now)) := rfl
  generalize backed L W r who now = R at *
  obtain ⟨ra, rb⟩ := r
  simp only [encRole] at c1 ⊢
  generalize credsI L = Q at *
  generalize proofOk L ⟨ra, rb⟩ who = w at *
  have hqb : Q.length ≤ 1048576 := by omega
  clear hql hb hs
  cases w with
  | false =>
    simp only [Bool.false_and] at hR
    refine XA good (fn := Tryz.f6) rfl ?_
    simp only [entry, List.getD_cons_zero, List.getD_cons_succ]
    repeat' first | refine SW.step good fun K hK => ?_ | refine X2 good fun K hK => ?_ | refine X3 good fun K hK => ?_ | refine SW.seqK fun J hJ => ?_ | refine SW.last good fun K hK => ?_ | (refine hK _ ?_; clear hK K) | (refine hJ _ _ (Wk.refl _) ?_; clear hJ J) | clear hK K | clear hJ J | refine SW.skip ?_ | refine SW.ret ?_ | refine SW.retT ?_ | refine SW.retB ?_ | refine SW.exit ?_ | refine SW.exitT ?_ | refine SW.exitB ?_ | refine XN ?_ | refine SW.block ?_ | refine SW.normB ?_ | refine SW.normT ?_ | refine XT ?_ | refine XF ?_ | refine XC (fun h => ?_) (fun h => ?_) | refine X0 ?_ | refine Xv ?_ | refine X1 (c1) ?_ | refine X1 (c2) ?_ | simp only [go_sem, optI, Option.getD_some, Option.getD_none, Int.reduceToNat, reduceIte, Nat.reduceEqDiff, Nat.reduceAdd, Nat.reduceMul, Nat.reduceSub, Nat.reduceLT, Nat.reduceLeDiff, reduceCtorEq, *] | refine Xs _ (fun h => ?_) (fun h => ?_) | with_reducible refine And.intro ?_ ?_
    all_goals first | (intro r hr; simp at hr; subst hr; rfl) | (simp [bytesC]; omega) | (simp; done) | omega | rfl | skip
    all_goals (refine Xrb ?_; first | exact hR | rfl)
  | true =>
    simp only [Bool.true_and] at hR
    refine XA good (fn := Tryz.f6) rfl ?_
    simp only [entry, List.getD_cons_zero, List.getD_cons_succ]
    repeat' first | refine SW.step good fun K hK => ?_ | refine X2 good fun K hK => ?_ | refine X3 good fun K hK => ?_ | refine SW.seqK fun J hJ => ?_ | refine SW.last good fun K hK => ?_ | (refine hK _ ?_; clear hK K) | (refine hJ _ _ (Wk.refl _) ?_; clear hJ J) | clear hK K | clear hJ J | refine SW.skip ?_ | refine SW.ret ?_ | refine SW.retT ?_ | refine SW.retB ?_ | refine SW.exit ?_ | refine SW.exitT ?_ | refine SW.exitB ?_ | refine XN ?_ | refine SW.block ?_ | refine SW.normB ?_ | refine SW.normT ?_ | refine XT ?_ | refine XF ?_ | refine XC (fun h => ?_) (fun h => ?_) | refine X0 ?_ | refine Xv ?_ | refine X1 (c1) ?_ | refine X1 (c2) ?_ | simp only [go_sem, optI, Option.getD_some, Option.getD_none, Int.reduceToNat, reduceIte, Nat.reduceEqDiff, Nat.reduceAdd, Nat.reduceMul, Nat.reduceSub, Nat.reduceLT, Nat.reduceLeDiff, reduceCtorEq, *] | refine Xs _ (fun h => ?_) (fun h => ?_) | with_reducible refine And.intro ?_ ?_
    all_goals first | (intro r hr; simp at hr; subst hr; rfl) | (simp [bytesC]; omega) | (simp; done) | omega | rfl | skip
    refine SW.loopTo (α := Nat) (fun k => ⟨sl [(1, .c true (.sl (W.map vouC'))), (4, vI now), (11, .own (.s 21 0)), (12, vI k)], hl [(.s 21 0, .row false 56 10 (Q.map credC))]⟩) (fun k => Q.length - k) 0 (fun k => k ≤ Q.length ∧ (Q.take k).any (noneV W now) = false) ?_ ⟨by simp, by simp⟩ ?_
    · (refine Xto _ _ ?_ ?_ <;> simp only [go_sem, optI, Option.getD_some, Option.getD_none, Int.reduceToNat, reduceIte, Nat.reduceEqDiff, Nat.reduceAdd, Nat.reduceMul, Nat.reduceSub, Nat.reduceLT, Nat.reduceLeDiff, reduceCtorEq, Option.some.injEq, or_true, true_or] <;> (repeat' with_reducible apply And.intro) <;> (try rfl))
    · rintro k ⟨h2, h3⟩
      clear c1 c2
      by_cases hk : k < Q.length
      · have e1 : decide ((k : Int) < Q.length) = true := by simp; omega
        have hwk : IntKind.i64.wrap ((k : Int) + 1) = ((k + 1 : Nat) : Int) := wrap64 (by omega) (by omega)
        have e := getD_map Q credC [] hk
        have t1 := any_take_false (p := noneV W now) hk h3
        have t2 := any_true_at (p := noneV W now) hk
        generalize Q[k] = c at *
        have hp : noneV W now c = !W.any (okV c now) := rfl
        clear h3
        repeat' first | refine SW.step good fun K hK => ?_ | refine X2 good fun K hK => ?_ | refine X3 good fun K hK => ?_ | refine SW.seqK fun J hJ => ?_ | refine SW.last good fun K hK => ?_ | (refine hK _ ?_; clear hK K) | (refine hJ _ _ (Wk.refl _) ?_; clear hJ J) | clear hK K | clear hJ J | refine SW.skip ?_ | refine SW.ret ?_ | refine SW.retT ?_ | refine SW.retB ?_ | refine SW.exit ?_ | refine SW.exitT ?_ | refine SW.exitB ?_ | refine XN ?_ | refine SW.block ?_ | refine SW.normB ?_ | refine SW.normT ?_ | refine XT ?_ | refine XF ?_ | refine XC (fun h => ?_) (fun h => ?_) | simp only [go_sem, optI, Option.getD_some, Option.getD_none, Int.reduceToNat, reduceIte, Nat.reduceEqDiff, Nat.reduceAdd, Nat.reduceMul, Nat.reduceSub, Nat.reduceLT, Nat.reduceLeDiff, reduceCtorEq, *] | refine Xs _ (fun h => ?_) (fun h => ?_) | with_reducible refine And.intro ?_ ?_
        all_goals first | (intro r hr; simp at hr; subst hr; rfl) | (simp [bytesC]; omega) | (simp; done) | omega | rfl | skip
        refine SW.loopTo (α := Nat) (fun j => ⟨sl [(1, .c true (.sl (W.map vouC'))), (4, vI now), (11, .own (.s 21 0)), (12, vI k), (13, vB ((W.take j).any (okV c now))), (14, vI j)], hl [(.s 21 0, .row false 56 10 (Q.map credC))]⟩) (fun j => W.length - j) 0 (fun j => j ≤ W.length) ?_ (by simp) ?_
        · (refine Xto _ _ ?_ ?_ <;> simp only [go_sem, optI, Option.getD_some, Option.getD_none, Int.reduceToNat, reduceIte, Nat.reduceEqDiff, Nat.reduceAdd, Nat.reduceMul, Nat.reduceSub, Nat.reduceLT, Nat.reduceLeDiff, reduceCtorEq, Option.some.injEq, or_true, true_or] <;> (repeat' with_reducible apply And.intro) <;> (try rfl))
        · intro j hj
          cases hB : (W.take j).any (okV c now) with
          | true =>
            have hz := any_of_take hB
            rw [hz] at hp
            have t3 := t1 hp
            clear hz t1 t2 hv hR
            by_cases hjl : j < W.length
            · have e2 : decide ((j : Int) < W.length) = true := by simp; omega
              repeat' first | refine SW.step good fun K hK => ?_ | refine X2 good fun K hK => ?_ | refine X3 good fun K hK => ?_ | refine SW.seqK fun J hJ => ?_ | refine SW.last good fun K hK => ?_ | (refine hK _ ?_; clear hK K) | (refine hJ _ _ (Wk.refl _) ?_; clear hJ J) | clear hK K | clear hJ J | refine SW.skip ?_ | refine SW.ret ?_ | refine SW.retT ?_ | refine SW.retB ?_ | refine SW.exit ?_ | refine SW.exitT ?_ | refine SW.exitB ?_ | refine XN ?_ | refine SW.block ?_ | refine SW.normB ?_ | refine SW.normT ?_ | refine XT ?_ | refine XF ?_ | refine XC (fun h => ?_) (fun h => ?_) | simp only [go_sem, optI, Option.getD_some, Option.getD_none, Int.reduceToNat, reduceIte, Nat.reduceEqDiff, Nat.reduceAdd, Nat.reduceMul, Nat.reduceSub, Nat.reduceLT, Nat.reduceLeDiff, reduceCtorEq, *] | refine Xs _ (fun h => ?_) (fun h => ?_) | with_reducible refine And.intro ?_ ?_
              all_goals first | (intro r hr; simp at hr; subst hr; rfl) | (simp [bytesC]; omega) | (simp; done) | omega | rfl | skip
              all_goals refine ⟨k + 1, ⟨by omega, t3⟩, by omega, ?_⟩
              all_goals (refine Xto _ _ ?_ ?_ <;> simp only [go_sem, optI, Option.getD_some, Option.getD_none, Int.reduceToNat, reduceIte, Nat.reduceEqDiff, Nat.reduceAdd, Nat.reduceMul, Nat.reduceSub, Nat.reduceLT, Nat.reduceLeDiff, reduceCtorEq, Option.some.injEq, or_true, true_or] <;> (repeat' with_reducible apply And.intro) <;> (try rfl))
            · have e2 : decide ((j : Int) < W.length) = false := by simp; omega
              repeat' first | refine SW.step good fun K hK => ?_ | refine X2 good fun K hK => ?_ | refine X3 good fun K hK => ?_ | refine SW.seqK fun J hJ => ?_ | refine SW.last good fun K hK => ?_ | (refine hK _ ?_; clear hK K) | (refine hJ _ _ (Wk.refl _) ?_; clear hJ J) | clear hK K | clear hJ J | refine SW.skip ?_ | refine SW.ret ?_ | refine SW.retT ?_ | refine SW.retB ?_ | refine SW.exit ?_ | refine SW.exitT ?_ | refine SW.exitB ?_ | refine XN ?_ | refine SW.block ?_ | refine SW.normB ?_ | refine SW.normT ?_ | refine XT ?_ | refine XF ?_ | refine XC (fun h => ?_) (fun h => ?_) | simp only [go_sem, optI, Option.getD_some, Option.getD_none, Int.reduceToNat, reduceIte, Nat.reduceEqDiff, Nat.reduceAdd, Nat.reduceMul, Nat.reduceSub, Nat.reduceLT, Nat.reduceLeDiff, reduceCtorEq, *] | refine Xs _ (fun h => ?_) (fun h => ?_) | with_reducible refine And.intro ?_ ?_
              all_goals first | (intro r hr; simp at hr; subst hr; rfl) | (simp [bytesC]; omega) | (simp; done) | omega | rfl | skip
              all_goals refine ⟨k + 1, ⟨by omega, t3⟩, by omega, ?_⟩
              all_goals (refine Xto _ _ ?_ ?_ <;> simp only [go_sem, optI, Option.getD_some, Option.getD_none, Int.reduceToNat, reduceIte, Nat.reduceEqDiff, Nat.reduceAdd, Nat.reduceMul, Nat.reduceSub, Nat.reduceLT, Nat.reduceLeDiff, reduceCtorEq, Option.some.injEq, or_true, true_or] <;> (repeat' with_reducible apply And.intro) <;> (try rfl))
          | false =>
            by_cases hjl : j < W.length
            · have e2 : decide ((j : Int) < W.length) = true := by simp; omega
              have e3 := getD_map W vouC' [] hjl
              have hvv := hv _ (List.getElem_mem hjl)
              have hst := any_take_succ (p := okV c now) hjl
              rw [hB, Bool.false_or] at hst
              have hwj : IntKind.i64.wrap ((j : Int) + 1) = ((j + 1 : Nat) : Int) := wrap64 (by omega) (by omega)
              generalize W[j] = v at *
              have h1 := ac_Verified' v now hvv.1 hvv.2
              simp only [encVou] at h1
              unfold okV at hst
              generalize verified v now = y at *
              clear t1 t2 hv hR hp hvv hB
              cases hsm : sameCr v.cred c with
              | true =>
                rw [hsm, Bool.true_and] at hst
                unfold sameCr at hsm
                repeat' first | refine SW.step good fun K hK => ?_ | refine X2 good fun K hK => ?_ | refine X3 good fun K hK => ?_ | refine SW.seqK fun J hJ => ?_ | refine SW.last good fun K hK => ?_ | (refine hK _ ?_; clear hK K) | (refine hJ _ _ (Wk.refl _) ?_; clear hJ J) | clear hK K | clear hJ J | refine SW.skip ?_ | refine SW.ret ?_ | refine SW.retT ?_ | refine SW.retB ?_ | refine SW.exit ?_ | refine SW.exitT ?_ | refine SW.exitB ?_ | refine XN ?_ | refine SW.block ?_ | refine SW.normB ?_ | refine SW.normT ?_ | refine XT ?_ | refine XF ?_ | refine XC (fun h => ?_) (fun h => ?_) | refine X0 ?_ | refine Xv ?_ | refine X1 (h1) ?_ | simp only [go_sem, optI, Option.getD_some, Option.getD_none, Int.reduceToNat, reduceIte, Nat.reduceEqDiff, Nat.reduceAdd, Nat.reduceMul, Nat.reduceSub, Nat.reduceLT, Nat.reduceLeDiff, reduceCtorEq, *] | refine Xs _ (fun h => ?_) (fun h => ?_) | with_reducible refine And.intro ?_ ?_
                all_goals first | (intro r hr; simp at hr; subst hr; rfl) | (simp [bytesC]; omega) | (simp; done) | omega | rfl | skip
                all_goals refine ⟨j + 1, by omega, by omega, ?_⟩
                all_goals (refine Xto _ _ ?_ ?_ <;> simp only [go_sem, optI, Option.getD_some, Option.getD_none, Int.reduceToNat, reduceIte, Nat.reduceEqDiff, Nat.reduceAdd, Nat.reduceMul, Nat.reduceSub, Nat.reduceLT, Nat.reduceLeDiff, reduceCtorEq, Option.some.injEq, or_true, true_or] <;> (repeat' with_reducible apply And.intro) <;> (try rfl))
                all_goals first | (unfold okV; rw [hst]; done) | skip
              | false =>
                rw [hsm, Bool.false_and] at hst
                unfold sameCr at hsm
                repeat' first | refine SW.step good fun K hK => ?_ | refine X2 good fun K hK => ?_ | refine X3 good fun K hK => ?_ | refine SW.seqK fun J hJ => ?_ | refine SW.last good fun K hK => ?_ | (refine hK _ ?_; clear hK K) | (refine hJ _ _ (Wk.refl _) ?_; clear hJ J) | clear hK K | clear hJ J | refine SW.skip ?_ | refine SW.ret ?_ | refine SW.retT ?_ | refine SW.retB ?_ | refine SW.exit ?_ | refine SW.exitT ?_ | refine SW.exitB ?_ | refine XN ?_ | refine SW.block ?_ | refine SW.normB ?_ | refine SW.normT ?_ | refine XT ?_ | refine XF ?_ | refine XC (fun h => ?_) (fun h => ?_) | refine X0 ?_ | refine Xv ?_ | refine X1 (h1) ?_ | simp only [go_sem, optI, Option.getD_some, Option.getD_none, Int.reduceToNat, reduceIte, Nat.reduceEqDiff, Nat.reduceAdd, Nat.reduceMul, Nat.reduceSub, Nat.reduceLT, Nat.reduceLeDiff, reduceCtorEq, *] | refine Xs _ (fun h => ?_) (fun h => ?_) | with_reducible refine And.intro ?_ ?_
                all_goals first | (intro r hr; simp at hr; subst hr; rfl) | (simp [bytesC]; omega) | (simp; done) | omega | rfl | skip
                all_goals refine ⟨j + 1, by omega, by omega, ?_⟩
                all_goals (refine Xto _ _ ?_ ?_ <;> simp only [go_sem, optI, Option.getD_some, Option.getD_none, Int.reduceToNat, reduceIte, Nat.reduceEqDiff, Nat.reduceAdd, Nat.reduceMul, Nat.reduceSub, Nat.reduceLT, Nat.reduceLeDiff, reduceCtorEq, Option.some.injEq, or_true, true_or] <;> (repeat' with_reducible apply And.intro) <;> (try rfl))
                all_goals first | (unfold okV; rw [hst]; done) | skip
            · have hjl : j = W.length := by omega
              subst hjl
              have e2 : decide ((W.length : Int) < W.length) = false := by simp
              rw [List.take_length] at hB
              rw [hB] at hp
              have hz := t2 hp
              rw [hz] at hR
              clear t1 t2 hv
              repeat' first | refine SW.step good fun K hK => ?_ | refine X2 good fun K hK => ?_ | refine X3 good fun K hK => ?_ | refine SW.seqK fun J hJ => ?_ | refine SW.last good fun K hK => ?_ | (refine hK _ ?_; clear hK K) | (refine hJ _ _ (Wk.refl _) ?_; clear hJ J) | clear hK K | clear hJ J | refine SW.skip ?_ | refine SW.ret ?_ | refine SW.retT ?_ | refine SW.retB ?_ | refine SW.exit ?_ | refine SW.exitT ?_ | refine SW.exitB ?_ | refine XN ?_ | refine SW.block ?_ | refine SW.normB ?_ | refine SW.normT ?_ | refine XT ?_ | refine XF ?_ | refine XC (fun h => ?_) (fun h => ?_) | simp only [go_sem, optI, Option.getD_some, Option.getD_none, Int.reduceToNat, reduceIte, Nat.reduceEqDiff, Nat.reduceAdd, Nat.reduceMul, Nat.reduceSub, Nat.reduceLT, Nat.reduceLeDiff, reduceCtorEq, *] | refine Xs _ (fun h => ?_) (fun h => ?_) | with_reducible refine And.intro ?_ ?_
              all_goals first | (intro r hr; simp at hr; subst hr; rfl) | (simp [bytesC]; omega) | (simp; done) | omega | rfl | skip
              all_goals (refine Xrb ?_; first | exact hR | rfl | (rw [hz]; rfl))
      · have hk : k = Q.length := by omega
        subst hk
        have e1 : decide ((Q.length : Int) < Q.length) = false := by simp
        rw [List.take_length] at h3
        rw [h3] at hR
        clear hv
        repeat' first | refine SW.step good fun K hK => ?_ | refine X2 good fun K hK => ?_ | refine X3 good fun K hK => ?_ | refine SW.seqK fun J hJ => ?_ | refine SW.last good fun K hK => ?_ | (refine hK _ ?_; clear hK K) | (refine hJ _ _ (Wk.refl _) ?_; clear hJ J) | clear hK K | clear hJ J | refine SW.skip ?_ | refine SW.ret ?_ | refine SW.retT ?_ | refine SW.retB ?_ | refine SW.exit ?_ | refine SW.exitT ?_ | refine SW.exitB ?_ | refine XN ?_ | refine SW.block ?_ | refine SW.normB ?_ | refine SW.normT ?_ | refine XT ?_ | refine XF ?_ | refine XC (fun h => ?_) (fun h => ?_) | simp only [go_sem, optI, Option.getD_some, Option.getD_none, Int.reduceToNat, reduceIte, Nat.reduceEqDiff, Nat.reduceAdd, Nat.reduceMul, Nat.reduceSub, Nat.reduceLT, Nat.reduceLeDiff, reduceCtorEq, *] | refine Xs _ (fun h => ?_) (fun h => ?_) | with_reducible refine And.intro ?_ ?_
        all_goals first | (intro r hr; simp at hr; subst hr; rfl) | (simp [bytesC]; omega) | (simp; done) | omega | rfl | skip
        all_goals (refine Xrb ?_; first | exact hR | rfl | (rw [h3]; rfl))
end Go.Proofs.YtbgeagbgfioaaaaGreat.AB
namespace Go.Proofs.YtbgeagbgfioaaaaGreat.AB
open Go
set_option maxRecDepth 100000
set_option linter.unusedSimpArgs false
set_option linter.unusedVariables false
theorem vous_all {W : List Vouched} (h : vousSz W ≤ 1048576) : ∀ v, v ∈ W → SmallV v := by
  intro v hv
  unfold vousSz at h
  have h1 := sumOf_mem (f := vouSz) hv
  have e2 : vouSz v = strsSz v.sign.ends + strsSz v.sign.way := rfl
  exact ⟨strs_small (by omega), strs_small (by omega)⟩
set_option maxHeartbeats 4000000 in
theorem ac_lawBacked (L : List Step) (W : List Vouched) (r : Role) (who now : Int) (hL : L.length ≤ 9223372036854775807) (hT : ∀ s, s ∈ L → s.src.length ≤ 9223372036854775807) (hW : W.length ≤ 9223372036854775807) (hV : ∀ v, v ∈ W → v.sign.ok) :
    AC Tryz.prog 3 [.c false (.sl (L.map stepC)), .c false (.sl (W.map vouC')), encRole r, vI who, vI now] (vB true) [] := by
  have hs1 := ac_szStepS L 1048576 (by omega) (by omega) hL hT
  simp only [encRole]
  by_cases h1 : (1048576 : Int) < (stepsSz L : Nat)
  · rw [szOf_n h1] at hs1
    clear hL hT hW hV h1
    refine XA good (fn := Tryz.f3) rfl ?_
    simp only [entry, List.getD_cons_zero, List.getD_cons_succ]
    repeat' first | refine SW.step good fun K hK => ?_ | refine X2 good fun K hK => ?_ | refine X3 good fun K hK => ?_ | refine SW.seqK fun J hJ => ?_ | refine SW.last good fun K hK => ?_ | (refine hK _ ?_; clear hK K) | (refine hJ _ _ (Wk.refl _) ?_; clear hJ J) | clear hK K | clear hJ J | refine SW.skip ?_ | refine SW.ret ?_ | refine SW.retT ?_ | refine SW.retB ?_ | refine SW.exit ?_ | refine SW.exitT ?_ | refine SW.exitB ?_ | refine XN ?_ | refine SW.block ?_ | refine SW.normB ?_ | refine SW.normT ?_ | refine XT ?_ | refine XF ?_ | refine XC (fun h => ?_) (fun h => ?_) | refine X0 ?_ | refine Xv ?_ | refine X1 (hs1) ?_ | simp only [go_sem, optI, Option.getD_some, Option.getD_none, Int.reduceToNat, reduceIte, Nat.reduceEqDiff, Nat.reduceAdd, Nat.reduceMul, Nat.reduceSub, Nat.reduceLT, Nat.reduceLeDiff, reduceCtorEq, *] | refine Xs _ (fun h => ?_) (fun h => ?_) | with_reducible refine And.intro ?_ ?_
    all_goals refine Xrb ?_
    all_goals rfl
  · rw [szOf_p h1] at hs1
    have e1 : decide ((1048576 : Int) - (stepsSz L : Nat) < 0) = false := by simp only [decide_eq_false_iff_not]; omega
    have h2 : stepsSz L ≤ 1048576 := by omega
    have h3 : L.length ≤ 1048576 := by unfold stepsSz at h2; omega
    have h4 : ∀ s, s ∈ L → s.src.length ≤ 1048576 := fun s hs => by
      have := sumOf_mem (f := stepSz) hs
      unfold stepsSz at h2
      have e : stepSz s = s.src.length := rfl
      omega
    have hs2 := ac_szVouchedS W (1048576 - (stepsSz L : Nat)) (by omega) (by omega) hW hV
    by_cases h5 : (1048576 : Int) - (stepsSz L : Nat) < (vousSz W : Nat)
    · rw [szOf_n h5] at hs2
      clear hL hT hW hV h1 h2 h3 h4 h5
      generalize stepsSz L = z at *
      refine XA good (fn := Tryz.f3) rfl ?_
      simp only [entry, List.getD_cons_zero, List.getD_cons_succ]
      repeat' first | refine SW.step good fun K hK => ?_ | refine X2 good fun K hK => ?_ | refine X3 good fun K hK => ?_ | refine SW.seqK fun J hJ => ?_ | refine SW.last good fun K hK => ?_ | (refine hK _ ?_; clear hK K) | (refine hJ _ _ (Wk.refl _) ?_; clear hJ J) | clear hK K | clear hJ J | refine SW.skip ?_ | refine SW.ret ?_ | refine SW.retT ?_ | refine SW.retB ?_ | refine SW.exit ?_ | refine SW.exitT ?_ | refine SW.exitB ?_ | refine XN ?_ | refine SW.block ?_ | refine SW.normB ?_ | refine SW.normT ?_ | refine XT ?_ | refine XF ?_ | refine XC (fun h => ?_) (fun h => ?_) | refine X0 ?_ | refine Xv ?_ | refine X1 (hs1) ?_ | refine X1 (hs2) ?_ | simp only [go_sem, optI, Option.getD_some, Option.getD_none, Int.reduceToNat, reduceIte, Nat.reduceEqDiff, Nat.reduceAdd, Nat.reduceMul, Nat.reduceSub, Nat.reduceLT, Nat.reduceLeDiff, reduceCtorEq, *] | refine Xs _ (fun h => ?_) (fun h => ?_) | with_reducible refine And.intro ?_ ?_
      all_goals refine Xrb ?_
      all_goals rfl
    · rw [szOf_p h5] at hs2
      have e2 : decide ((1048576 : Int) - (stepsSz L : Nat) - (vousSz W : Nat) < 0) = false := by simp only [decide_eq_false_iff_not]; omega
      have h6 : vousSz W ≤ 1048576 := by omega
      obtain ⟨h7, h8⟩ := vous_small h6
      have h9 := vous_all h6
      have b1 := ac_toStepS L h3 h4
      have b2 := ac_toVouchedS W h7 h8
      have b3 := ac_toRole r
      have b4 := ac_Backed' L W r who now h3 h4 h7 h9
      have b5 := ac_Backed L W r who now h3 h4 h7 h9
      have b6 := ac_eqStepS L h3 h4
      have b7 := ac_eqVouchedS W h7 h8
      generalize backed L W r who now = w at *
      simp only [encRole] at b3 b4 b5
      clear hL hT hW hV h1 h2 h4 h5 h6 h8 h9
      generalize stepsSz L = z at *
      generalize vousSz W = y at *
      generalize L.map stepC = LL at *
      generalize W.map vouC' = WW at *
      refine XA good (fn := Tryz.f3) rfl ?_
      simp only [entry, List.getD_cons_zero, List.getD_cons_succ]
      repeat' first | refine SW.step good fun K hK => ?_ | refine X2 good fun K hK => ?_ | refine X3 good fun K hK => ?_ | refine SW.seqK fun J hJ => ?_ | refine SW.last good fun K hK => ?_ | (refine hK _ ?_; clear hK K) | (refine hJ _ _ (Wk.refl _) ?_; clear hJ J) | clear hK K | clear hJ J | refine SW.skip ?_ | refine SW.ret ?_ | refine SW.retT ?_ | refine SW.retB ?_ | refine SW.exit ?_ | refine SW.exitT ?_ | refine SW.exitB ?_ | refine XN ?_ | refine SW.block ?_ | refine SW.normB ?_ | refine SW.normT ?_ | refine XT ?_ | refine XF ?_ | refine XC (fun h => ?_) (fun h => ?_) | refine X0 ?_ | refine Xv ?_ | refine X1 (hs1) ?_ | refine X1 (hs2) ?_ | refine X1 (b1) ?_ | refine X1 (b2) ?_ | refine X1 (b3) ?_ | refine X1 (b4) ?_ | refine X1 (b5) ?_ | refine X1 (b6) ?_ | refine X1 (b7) ?_ | simp only [go_sem, optI, Option.getD_some, Option.getD_none, Int.reduceToNat, reduceIte, Nat.reduceEqDiff, Nat.reduceAdd, Nat.reduceMul, Nat.reduceSub, Nat.reduceLT, Nat.reduceLeDiff, reduceCtorEq, *] | refine Xs _ (fun h => ?_) (fun h => ?_) | with_reducible refine And.intro ?_ ?_
      all_goals first | (intro r hr; simp at hr; subst hr; rfl) | (simp [bytesC]; omega) | (simp; done) | omega | rfl | skip
      all_goals (refine Xrb ?_; first | rfl | simp_all)
theorem hasIntsB {q : Nat} : ∀ {xs : List (List C)}, (∀ r, r ∈ xs → HasT Tryz.prog (q + 1) 3 r) → ∃ L : List Int, xs = L.map intC
  | [], _ => ⟨[], rfl⟩
  | r :: xs, h => by
    have h1 := h r (by simp)
    simp only [HasT, Tryz.underlying3] at h1
    obtain ⟨n, rfl, hn⟩ := h1
    obtain ⟨L, rfl⟩ := hasIntsB (xs := xs) (fun r hr => h r (List.mem_cons_of_mem _ hr))
    exact ⟨n :: L, rfl⟩
theorem hasStrsB {q : Nat} : ∀ {xs : List (List C)}, (∀ r, r ∈ xs → HasT Tryz.prog (q + 1) 9 r) → ∃ L : List (List UInt8), xs = L.map strC ∧ ∀ e, e ∈ L → e.length ≤ 9223372036854775807
  | [], _ => ⟨[], rfl, by simp⟩
  | r :: xs, h => by
    have h1 := h r (by simp)
    simp only [HasT, Tryz.underlying9] at h1
    obtain ⟨s, rfl, hs⟩ := h1
    obtain ⟨L, rfl, hL⟩ := hasStrsB (xs := xs) (fun r hr => h r (List.mem_cons_of_mem _ hr))
    exact ⟨sb s :: L, by simp [strC, sb], by simpa using ⟨by rw [sb, Array.length_toList]; exact hs, hL⟩⟩
theorem hasStepB {q : Nat} {cs : List C} (h : HasT Tryz.prog (q + 4) 45 cs) : ∃ e : Step, cs = stepC e ∧ e.src.length ≤ 9223372036854775807 := by
  simp only [HasT, Tryz.underlying45, Tryz.underlying42, Tryz.underlying40, Tryz.underlying25, Tryz.underlying43, Tryz.underlying3, HasFs] at h
  obtain ⟨_, _, rfl, ⟨_, _, rfl, ⟨k, rfl, _⟩, _, _, rfl, ⟨_, _, rfl, ⟨o1, rfl, _⟩, _, _, rfl, ⟨o2, rfl, _⟩, rfl⟩, _, _, rfl, ⟨w, rfl, _⟩, _, _, rfl, ⟨_, _, rfl, ⟨a1, rfl, _⟩, _, _, rfl, ⟨a2, rfl, _⟩, rfl⟩, _, _, rfl, ⟨_, _, rfl, ⟨b1, rfl, _⟩, _, _, rfl, ⟨b2, rfl, _⟩, rfl⟩, _, _, rfl, ⟨t, rfl, _⟩, _, _, rfl, ⟨n, rfl, _⟩, rfl⟩, _, _, rfl, ⟨_, _, rfl, ⟨_, _, rfl, ⟨f1, rfl, _⟩, _, _, rfl, ⟨f2, rfl, _⟩, rfl⟩, _, _, rfl, ⟨f3, rfl, _⟩, rfl⟩, _, _, rfl, ⟨xs, rfl, h1, h2⟩, rfl⟩ := h
  obtain ⟨L, rfl⟩ := hasIntsB (q := 0) (by intro r hr; have := h2 r hr; simp only [HasT, Tryz.underlying3]; exact this)
  rw [List.length_map] at h1
  exact ⟨⟨⟨k, ⟨o1, o2⟩, w, ⟨a1, a2⟩, ⟨b1, b2⟩, t, n⟩, ⟨f1, f2⟩, f3, L⟩, rfl, by simpa [maxLen] using h1⟩
theorem hasStepsB {q : Nat} : ∀ {xs : List (List C)}, (∀ r, r ∈ xs → HasT Tryz.prog (q + 4) 45 r) → ∃ L : List Step, xs = L.map stepC ∧ ∀ e, e ∈ L → e.src.length ≤ 9223372036854775807
  | [], _ => ⟨[], rfl, by simp⟩
  | r :: xs, h => by
    obtain ⟨e, rfl, he⟩ := hasStepB (h r (by simp))
    obtain ⟨L, rfl, hL⟩ := hasStepsB (xs := xs) (fun r hr => h r (List.mem_cons_of_mem _ hr))
    exact ⟨e :: L, rfl, by simpa using ⟨he, hL⟩⟩
theorem hasVouB {q : Nat} {cs : List C} (h : HasT Tryz.prog (q + 4) 51 cs) : ∃ e : Vouched, cs = vouC' e ∧ e.sign.ok := by
  simp only [HasT, Tryz.underlying51, Tryz.underlying49, Tryz.underlying40, Tryz.underlying25, Tryz.underlying47, Tryz.underlying3, HasFs] at h
  obtain ⟨_, _, rfl, ⟨_, _, rfl, ⟨k, rfl, _⟩, _, _, rfl, ⟨_, _, rfl, ⟨o1, rfl, _⟩, _, _, rfl, ⟨o2, rfl, _⟩, rfl⟩, _, _, rfl, ⟨w, rfl, _⟩, _, _, rfl, ⟨_, _, rfl, ⟨a1, rfl, _⟩, _, _, rfl, ⟨a2, rfl, _⟩, rfl⟩, _, _, rfl, ⟨_, _, rfl, ⟨b1, rfl, _⟩, _, _, rfl, ⟨b2, rfl, _⟩, rfl⟩, _, _, rfl, ⟨t, rfl, _⟩, _, _, rfl, ⟨n, rfl, _⟩, rfl⟩, _, _, rfl, ⟨_, _, rfl, ⟨lf, rfl, _⟩, _, _, rfl, ⟨xs, rfl, h1, h2⟩, _, _, rfl, ⟨ys, rfl, h3, h4⟩, rfl⟩, rfl⟩ := h
  obtain ⟨E, rfl, hE⟩ := hasStrsB (q := 0) (by intro r hr; have := h2 r hr; simp only [HasT, Tryz.underlying9]; exact this)
  obtain ⟨M, rfl, hM⟩ := hasStrsB (q := 0) (by intro r hr; have := h4 r hr; simp only [HasT, Tryz.underlying9]; exact this)
  rw [List.length_map] at h1 h3
  exact ⟨⟨⟨k, ⟨o1, o2⟩, w, ⟨a1, a2⟩, ⟨b1, b2⟩, t, n⟩, ⟨lf, E, M⟩⟩, rfl, ⟨by simpa [maxLen] using h1, hE⟩, ⟨by simpa [maxLen] using h3, hM⟩⟩
theorem hasVousB {q : Nat} : ∀ {xs : List (List C)}, (∀ r, r ∈ xs → HasT Tryz.prog (q + 4) 51 r) → ∃ L : List Vouched, xs = L.map vouC' ∧ ∀ e, e ∈ L → e.sign.ok
  | [], _ => ⟨[], rfl, by simp⟩
  | r :: xs, h => by
    obtain ⟨e, rfl, he⟩ := hasVouB (h r (by simp))
    obtain ⟨L, rfl, hL⟩ := hasVousB (xs := xs) (fun r hr => h r (List.mem_cons_of_mem _ hr))
    exact ⟨e :: L, rfl, by simpa using ⟨he, hL⟩⟩
theorem AllT_five {P : Program} {q : Nat} {a b c d e : TypeId} : ∀ {xss : List (List C)}, AllT P q [a, b, c, d, e] xss → ∃ x1 x2 x3 x4 x5, xss = [x1, x2, x3, x4, x5] ∧ HasT P q a x1 ∧ HasT P q b x2 ∧ HasT P q c x3 ∧ HasT P q d x4 ∧ HasT P q e x5
  | [], h => by simp [AllT] at h
  | [_], h => by simp [AllT] at h
  | [_, _], h => by simp [AllT] at h
  | [_, _, _], h => by simp [AllT] at h
  | [_, _, _, _], h => by simp [AllT] at h
  | [x1, x2, x3, x4, x5], h => by simp only [AllT] at h; exact ⟨x1, x2, x3, x4, x5, rfl, h.1, h.2.1, h.2.2.1, h.2.2.2.1, h.2.2.2.2.1⟩
  | _ :: _ :: _ :: _ :: _ :: _ :: _, h => by simp [AllT] at h
theorem args_FnExactBacked {xss : List (List C)} (hx : AllT Tryz.prog 6 [22, 23, 25, 3, 3] xss) : AC Tryz.prog 3 (argsAV Tryz.prog false [22, 23, 25, 3, 3] xss) (vB true) [] := by
  obtain ⟨x1, x2, x3, x4, x5, rfl, g1, g2, g3, g4, g5⟩ := AllT_five hx
  simp only [HasT, Tryz.underlying22, Tryz.underlying23, Tryz.underlying25, Tryz.underlying3, HasFs] at g1 g2 g3 g4 g5
  obtain ⟨xs, rfl, a1, a2⟩ := g1
  obtain ⟨ys, rfl, b1, b2⟩ := g2
  obtain ⟨_, _, rfl, ⟨r1, rfl, _⟩, _, _, rfl, ⟨r2, rfl, _⟩, rfl⟩ := g3
  obtain ⟨n, rfl, _⟩ := g4
  obtain ⟨m, rfl, _⟩ := g5
  obtain ⟨L, rfl, hL⟩ := hasStepsB (q := 1) (by intro r hr; have := a2 r hr; simp only [HasT]; exact this)
  obtain ⟨W, rfl, hW⟩ := hasVousB (q := 1) (by intro r hr; have := b2 r hr; simp only [HasT]; exact this)
  rw [List.length_map] at a1 b1
  have g1 : aggOf Tryz.prog 22 = false := by kernel_rfl
  have g2 : aggOf Tryz.prog 23 = false := by kernel_rfl
  have g3 : aggOf Tryz.prog 25 = true := by kernel_rfl
  have g4 : aggOf Tryz.prog 3 = false := by kernel_rfl
  have := ac_lawBacked L W ⟨r1, r2⟩ n m (by simpa [maxLen] using a1) hL (by simpa [maxLen] using b1) hW
  simpa only [argsAV, argAV_one g1, argAV_one g2, argAV_agg g3, argAV_one g4, List.map_cons, List.map_nil, List.append_nil, List.cons_append, List.nil_append, cvC, encRole] using this
end Go.Proofs.YtbgeagbgfioaaaaGreat.AB
namespace Go.Proofs.YtbgeagbgfioaaaaGreat
open AB
set_option maxRecDepth 100000 in
theorem lifted_FnExactBacked (os : Os) (started : os.Started) (H : Type) (enc : TypeId × Value → H) :
    ReturnsInHanded {} Tryz.checked os 3 .any (Rows.fnExactBackedSpec.pre6 enc Tryz.prog Tryz.f3 Rows.fnExactBackedRow.domain false) (Rows.fnExactBackedSpec.post enc Tryz.prog Tryz.f3 false true false false) := by
  refine returnsInHanded_of_change_sized (C := Tryz.checked) own started (by kernel_rfl) Tryz.func3
    (ChangeSpec.witness6 (enc := enc) (C := Tryz.checked) false ⟨#[], #[.slice none 0 0, .slice none 0 0, .agg #[.int .i64 0, .int .i64 0], .int .i64 0, .int .i64 0], []⟩ 8 (by kernel_rfl) (by kernel_rfl) (by kernel_rfl) (by kernel_rfl)) ?_
  intro W base args ds gs before hval hW hcnd hsz _
  refine law_contract good (t4 := 4) (q := 6) laidOut Tryz.func3 (by kernel_rfl) (by kernel_rfl) rfl (by kernel_rfl) (by kernel_rfl) ⟨rfl, fun ds hds => ?_⟩ (fun xss hx => ?_) W base args ds gs before trivial hval hW
  · have hds' : ds.length = 5 := by rw [Tryz.params3] at hds; exact hds
    obtain ⟨d, e, f, g, h, rfl⟩ : ∃ d e f g h, ds = [d, e, f, g, h] := (match ds, hds' with | [d, e, f, g, h], _ => ⟨d, e, f, g, h, rfl⟩)
    exact Eq.refl _
  · rw [Tryz.params3] at hx ⊢
    exact args_FnExactBacked hx
set_option maxRecDepth 100000 in
theorem closed_FnExactBacked : joinedFacts Tryz.prog 3 Tryz.f3 Rows.fnExactBackedSpec Rows.fnExactBackedRow = true := by
  unfold joinedFacts
  simp only [Bool.and_eq_true]
  repeat' with_reducible apply And.intro
  all_goals first | (with_reducible exact mayEnter) | (rw [notFinal]; rfl) | (rw [make_is]; kernel_rfl) | kernel_rfl
theorem fnExactBacked_holds : Rows.FnExactBackedSaid :=
  OpenClaim.holds_of_wide 3 Tryz.f3 rfl rfl rfl rfl rfl rfl rfl ⟨rfl, rfl, rfl, rfl, rfl⟩ rfl rfl rfl rfl rfl (by kernel_rfl) Tryz.func3 closed_FnExactBacked
    (of_decide_eq_true (by kernel_rfl)) (by unfold Func.isWrapper; first | (rw [if_pos (by decide +kernel)]; kernel_rfl) | (rw [if_neg (by decide +kernel)]; exact ⟨rfl, rfl⟩))
    (fun os started H enc _ => lifted_FnExactBacked os started H enc)
#print axioms fnExactBacked_holds
end Go.Proofs.YtbgeagbgfioaaaaGreat
