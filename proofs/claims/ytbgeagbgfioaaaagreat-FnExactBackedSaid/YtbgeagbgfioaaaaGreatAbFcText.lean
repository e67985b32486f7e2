/- Words as texts, and shown. -/
import Derived.Test.YtbgeagbgfioaaaaGreatAbFbCred
namespace Go.Proofs.YtbgeagbgfioaaaaGreat.AB
open Go
set_option maxRecDepth 100000
set_option linter.unusedSimpArgs false
set_option linter.unusedVariables false
def varL (ns : List Int) : List UInt8 := ns.flatMap varI
def credText (c : Cred) : List UInt8 := if credOk c then varL c.nums else []
theorem credOk_nums {c : Cred} (h : credOk c = true) : ∀ n, n ∈ c.nums → 0 ≤ n ∧ n ≤ 9999 := by
  simp only [credOk, Bool.and_eq_true, inB, roleOk, roleNone, decide_eq_true_eq] at h
  simp only [Cred.nums, List.mem_cons, List.not_mem_nil, or_false, forall_eq_or_imp, forall_eq]
  obtain ⟨h1, h2, h3, h4⟩ := h
  split at h4
  · simp_all; omega
  · split at h4
    · simp_all; omega
    · split at h4
      · simp_all; omega
      · split at h4
        · simp_all; omega
        · cases h4
theorem varL_len (ns : List Int) : (varL ns).length ≤ 10 * ns.length := by
  induction ns with
  | nil => simp [varL]
  | cons n ns ih => have := varI_len n; simp only [varL, List.flatMap_cons, List.length_append, List.length_cons] at ih ⊢; omega
theorem varL_take (ns : List Int) {k : Nat} (h : k < ns.length) : varL (ns.take (k + 1)) = varL (ns.take k) ++ varI ns[k] := by
  unfold varL
  rw [List.take_add_one, List.getElem?_eq_getElem h, List.flatMap_append]; simp
theorem getD_map {α β : Type} (L : List α) (f : α → β) (d : β) {k : Nat} (h : k < L.length) : (L.map f).getD k d = f L[k] := by
  simp [List.getD_eq_getElem?_getD, List.getElem?_eq_getElem h]
theorem credText_len (c : Cred) : (credText c).length ≤ 100 := by
  unfold credText
  split
  · have := varL_len c.nums; rw [show c.nums.length = 10 from rfl] at this; omega
  · simp
theorem ac_CredText (c : Cred) : AC Tryz.prog 51 [encCred c] (vS (credText c)) [] := by
  by_cases hc : credOk c = true
  · have hn := credOk_nums hc
    refine XA good (fn := Tryz.f51) rfl ?_
    simp only [entry, List.getD_cons_zero, List.getD_cons_succ]
    simp only [encCred]
    repeat' first | refine SW.step good fun K hK => ?_ | refine X2 good fun K hK => ?_ | refine X3 good fun K hK => ?_ | refine SW.seqK fun J hJ => ?_ | refine SW.last good fun K hK => ?_ | (refine hK _ ?_; clear hK K) | (refine hJ _ _ (Wk.refl _) ?_; clear hJ J) | clear hK K | clear hJ J | refine SW.skip ?_ | refine SW.ret ?_ | refine SW.retT ?_ | refine SW.retB ?_ | refine SW.exit ?_ | refine SW.exitT ?_ | refine SW.exitB ?_ | refine XN ?_ | refine SW.block ?_ | refine SW.normB ?_ | refine SW.normT ?_ | refine XT ?_ | refine XF ?_ | refine XC (fun h => ?_) (fun h => ?_) | refine X0 ?_ | refine Xv ?_ | refine X1 (ac_CredOk c) ?_ | simp only [go_sem, optI, Option.getD_some, Option.getD_none, Int.reduceToNat, reduceIte, Nat.reduceEqDiff, Nat.reduceAdd, Nat.reduceMul, Nat.reduceSub, Nat.reduceLT, Nat.reduceLeDiff, reduceCtorEq, *] | refine Xs _ (fun h => ?_) (fun h => ?_) | with_reducible refine And.intro ?_ ?_
    have hL : c.nums.length = 10 := rfl
    refine SW.loopTo (α := Nat) (fun k => ⟨sl [(3, vS (varL (c.nums.take k))), (35, .own (.s 35 0)), (36, vI 10), (37, vI k)], hl [(.s 35 0, .row false 3 1 (c.nums.map fun n => [cI n]))]⟩) (fun k => 10 - k) 0 (fun k => k ≤ 10) ?_ (by simp) ?_
    · (refine Xto _ _ ?_ ?_ <;> simp only [go_sem, optI, Option.getD_some, Option.getD_none, Int.reduceToNat, reduceIte, Nat.reduceEqDiff, Nat.reduceAdd, Nat.reduceMul, Nat.reduceSub, Nat.reduceLT, Nat.reduceLeDiff, reduceCtorEq, Option.some.injEq, or_true, true_or] <;> (repeat' with_reducible apply And.intro) <;> (try rfl))
    · intro k h2
      generalize hg : c.nums = L at *
      have hlen := varL_len (L.take k)
      have hlen2 : (L.take k).length ≤ 10 := by simp; omega
      by_cases hk : k < 10
      · have e := getD_map L (fun n => [cI n]) [] (k := k) (by omega)
        have e1 : decide ((k : Int) < 10) = true := by simp; omega
        have hlen3 := varI_len (L[k]'(by omega))
        have hb := hn (L[k]'(by omega)) (List.getElem_mem (by omega))
        repeat' first | refine SW.step good fun K hK => ?_ | refine X2 good fun K hK => ?_ | refine X3 good fun K hK => ?_ | refine SW.seqK fun J hJ => ?_ | refine SW.last good fun K hK => ?_ | (refine hK _ ?_; clear hK K) | (refine hJ _ _ (Wk.refl _) ?_; clear hJ J) | clear hK K | clear hJ J | refine SW.skip ?_ | refine SW.ret ?_ | refine SW.retT ?_ | refine SW.retB ?_ | refine SW.exit ?_ | refine SW.exitT ?_ | refine SW.exitB ?_ | refine XN ?_ | refine SW.block ?_ | refine SW.normB ?_ | refine SW.normT ?_ | refine XT ?_ | refine XF ?_ | refine XC (fun h => ?_) (fun h => ?_) | refine X0 ?_ | refine Xv ?_ | refine X1 (ac_var _ (by omega) (by omega)) ?_ | simp only [go_sem, optI, Option.getD_some, Option.getD_none, Int.reduceToNat, reduceIte, Nat.reduceEqDiff, Nat.reduceAdd, Nat.reduceMul, Nat.reduceSub, Nat.reduceLT, Nat.reduceLeDiff, reduceCtorEq, *] | refine Xs _ (fun h => ?_) (fun h => ?_) | with_reducible refine And.intro ?_ ?_
        all_goals first | (intro r hr; simp at hr; subst hr; rfl) | (simp [bytesC]; omega) | (simp; done) | omega | rfl | skip
        refine ⟨k + 1, by omega, by omega, ?_⟩
        (refine Xto _ _ ?_ ?_ <;> simp only [go_sem, optI, Option.getD_some, Option.getD_none, Int.reduceToNat, reduceIte, Nat.reduceEqDiff, Nat.reduceAdd, Nat.reduceMul, Nat.reduceSub, Nat.reduceLT, Nat.reduceLeDiff, reduceCtorEq, Option.some.injEq, or_true, true_or] <;> (repeat' with_reducible apply And.intro) <;> (try rfl))
        · rw [varL_take _ (by omega)]
        · rw [wrap64 (by omega) (by omega)]; simp
      · have hk : k = 10 := by omega
        subst hk
        repeat' first | refine SW.step good fun K hK => ?_ | refine X2 good fun K hK => ?_ | refine X3 good fun K hK => ?_ | refine SW.seqK fun J hJ => ?_ | refine SW.last good fun K hK => ?_ | (refine hK _ ?_; clear hK K) | (refine hJ _ _ (Wk.refl _) ?_; clear hJ J) | clear hK K | clear hJ J | refine SW.skip ?_ | refine SW.ret ?_ | refine SW.retT ?_ | refine SW.retB ?_ | refine SW.exit ?_ | refine SW.exitT ?_ | refine SW.exitB ?_ | refine XN ?_ | refine SW.block ?_ | refine SW.normB ?_ | refine SW.normT ?_ | refine XT ?_ | refine XF ?_ | refine XC (fun h => ?_) (fun h => ?_) | simp only [go_sem, optI, Option.getD_some, Option.getD_none, Int.reduceToNat, reduceIte, Nat.reduceEqDiff, Nat.reduceAdd, Nat.reduceMul, Nat.reduceSub, Nat.reduceLT, Nat.reduceLeDiff, reduceCtorEq, *] | refine Xs _ (fun h => ?_) (fun h => ?_) | with_reducible refine And.intro ?_ ?_
        all_goals first | (intro r hr; simp at hr; subst hr; rfl) | (simp [bytesC]; omega) | (simp; done) | omega | rfl | (refine Xrs ?_ <;> (rw [List.take_of_length_le (by omega)]; simp [credText, hc, hg]))
  · have hc' : credOk c = false := by simpa using hc
    refine XA good (fn := Tryz.f51) rfl ?_
    simp only [entry, List.getD_cons_zero, List.getD_cons_succ]
    simp only [encCred]
    repeat' first | refine SW.step good fun K hK => ?_ | refine X2 good fun K hK => ?_ | refine X3 good fun K hK => ?_ | refine SW.seqK fun J hJ => ?_ | refine SW.last good fun K hK => ?_ | (refine hK _ ?_; clear hK K) | (refine hJ _ _ (Wk.refl _) ?_; clear hJ J) | clear hK K | clear hJ J | refine SW.skip ?_ | refine SW.ret ?_ | refine SW.retT ?_ | refine SW.retB ?_ | refine SW.exit ?_ | refine SW.exitT ?_ | refine SW.exitB ?_ | refine XN ?_ | refine SW.block ?_ | refine SW.normB ?_ | refine SW.normT ?_ | refine XT ?_ | refine XF ?_ | refine XC (fun h => ?_) (fun h => ?_) | refine X0 ?_ | refine Xv ?_ | refine X1 (ac_CredOk c) ?_ | simp only [go_sem, optI, Option.getD_some, Option.getD_none, Int.reduceToNat, reduceIte, Nat.reduceEqDiff, Nat.reduceAdd, Nat.reduceMul, Nat.reduceSub, Nat.reduceLT, Nat.reduceLeDiff, reduceCtorEq, *] | refine Xs _ (fun h => ?_) (fun h => ?_) | with_reducible refine And.intro ?_ ?_
    all_goals first | (intro r hr; simp at hr; subst hr; rfl) | (simp [bytesC]; omega) | (simp; done) | omega | rfl | (refine Xrs ?_ <;> simp [credText, hc'])
set_option maxHeartbeats 1000000 in
theorem ac_CredText' (c : Cred) : AC Tryz.prog 37 [encCred c] (vS (credText c)) [] := by
  by_cases hc : credOk c = true
  · have hn := credOk_nums hc
    simp only [Cred.nums, List.mem_cons, List.not_mem_nil, or_false, forall_eq_or_imp, forall_eq] at hn
    obtain ⟨⟨_, _⟩, ⟨_, _⟩, ⟨_, _⟩, ⟨_, _⟩, ⟨_, _⟩, ⟨_, _⟩, ⟨_, _⟩, ⟨_, _⟩, ⟨_, _⟩, ⟨_, _⟩⟩ := hn
    have l0 := varI_len c.kind
    have l1 := varI_len c.of.who
    have l2 := varI_len c.of.name
    have l3 := varI_len c.who
    have l4 := varI_len c.a.who
    have l5 := varI_len c.a.name
    have l6 := varI_len c.b.who
    have l7 := varI_len c.b.name
    have l8 := varI_len c.till
    have l9 := varI_len c.nonce
    refine XA good (fn := Tryz.f37) rfl ?_
    simp only [entry, List.getD_cons_zero, List.getD_cons_succ]
    simp only [encCred]
    repeat' first | refine SW.step good fun K hK => ?_ | refine X2 good fun K hK => ?_ | refine X3 good fun K hK => ?_ | refine SW.seqK fun J hJ => ?_ | refine SW.last good fun K hK => ?_ | (refine hK _ ?_; clear hK K) | (refine hJ _ _ (Wk.refl _) ?_; clear hJ J) | clear hK K | clear hJ J | refine SW.skip ?_ | refine SW.ret ?_ | refine SW.retT ?_ | refine SW.retB ?_ | refine SW.exit ?_ | refine SW.exitT ?_ | refine SW.exitB ?_ | refine XN ?_ | refine SW.block ?_ | refine SW.normB ?_ | refine SW.normT ?_ | refine XT ?_ | refine XF ?_ | refine XC (fun h => ?_) (fun h => ?_) | refine X0 ?_ | refine Xv ?_ | refine X1 (ac_CredOk' c) ?_ | refine X1 (ac_var' _ (by omega) (by omega)) ?_ | simp only [go_sem, optI, Option.getD_some, Option.getD_none, Int.reduceToNat, reduceIte, Nat.reduceEqDiff, Nat.reduceAdd, Nat.reduceMul, Nat.reduceSub, Nat.reduceLT, Nat.reduceLeDiff, reduceCtorEq, *] | refine Xs _ (fun h => ?_) (fun h => ?_) | with_reducible refine And.intro ?_ ?_
    all_goals first | (intro r hr; simp at hr; subst hr; rfl) | (simp [bytesC]; omega) | (simp; done) | omega | rfl | (refine Xrs ?_ <;> simp [credText, hc, varL, Cred.nums])
  · have hc' : credOk c = false := by simpa using hc
    refine XA good (fn := Tryz.f37) rfl ?_
    simp only [entry, List.getD_cons_zero, List.getD_cons_succ]
    simp only [encCred]
    repeat' first | refine SW.step good fun K hK => ?_ | refine X2 good fun K hK => ?_ | refine X3 good fun K hK => ?_ | refine SW.seqK fun J hJ => ?_ | refine SW.last good fun K hK => ?_ | (refine hK _ ?_; clear hK K) | (refine hJ _ _ (Wk.refl _) ?_; clear hJ J) | clear hK K | clear hJ J | refine SW.skip ?_ | refine SW.ret ?_ | refine SW.retT ?_ | refine SW.retB ?_ | refine SW.exit ?_ | refine SW.exitT ?_ | refine SW.exitB ?_ | refine XN ?_ | refine SW.block ?_ | refine SW.normB ?_ | refine SW.normT ?_ | refine XT ?_ | refine XF ?_ | refine XC (fun h => ?_) (fun h => ?_) | refine X0 ?_ | refine Xv ?_ | refine X1 (ac_CredOk' c) ?_ | simp only [go_sem, optI, Option.getD_some, Option.getD_none, Int.reduceToNat, reduceIte, Nat.reduceEqDiff, Nat.reduceAdd, Nat.reduceMul, Nat.reduceSub, Nat.reduceLT, Nat.reduceLeDiff, reduceCtorEq, *] | refine Xs _ (fun h => ?_) (fun h => ?_) | with_reducible refine And.intro ?_ ?_
    all_goals first | (intro r hr; simp at hr; subst hr; rfl) | (simp [bytesC]; omega) | (simp; done) | omega | rfl | (refine Xrs ?_ <;> simp [credText, hc'])
end Go.Proofs.YtbgeagbgfioaaaaGreat.AB
