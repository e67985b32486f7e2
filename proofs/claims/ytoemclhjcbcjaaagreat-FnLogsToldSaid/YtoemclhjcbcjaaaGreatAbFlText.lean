/- The law FnExactEventText. -/
import Derived.Test.YtoemclhjcbcjaaaGreatAbCjEvents
import Derived.Test.YtoemclhjcbcjaaaGreatAbCqEvent
import Derived.Test.YtoemclhjcbcjaaaGreatAbBbPure
namespace Go.Proofs.YtoemclhjcbcjaaaGreat.AB
open Go
set_option maxRecDepth 100000
set_option linter.unusedSimpArgs false
set_option linter.unusedVariables false
theorem evC_len {E : List Event} : ∀ r, r ∈ E.map evC → r.length = 14 := fun r hr => by obtain ⟨x, _, rfl⟩ := List.mem_map.1 hr; rfl
set_option maxHeartbeats 4000000 in
theorem list_ex (b : List UInt8) (hb : b.length ≤ 1048576) : ∃ (E : List Event), (8 ≤ E.length ∧ E.length ≤ 61) ∧ MC Tryz.prog 40 [.c false (.sl (bytesC b))] [] (.own (.r 0)) [] [.row false 29 14 (E.map evC)] := by
  obtain ⟨h0, mN⟩ := mc_New b hb
  obtain ⟨k, c1, hk, f1, m1⟩ := below_ex ⟨b, 0, h0⟩ 8 ⟨Nat.zero_le _, hb⟩ (by decide) (by decide)
  obtain ⟨ids, E, hE, _, mE⟩ := events_ex b hb
  simp only [cuO] at *
  have hbl : (bytesC b).length = b.length := bytesC_len b
  by_cases k0 : k = 0
  · subst k0
    refine ⟨E ++ [evN 0 0 0 nilCr []], by simp; omega, ?_⟩
    clear hk f1 hbl
    refine XM good (fn := Tryz.f40) rfl ?_
    try simp only [List.getD_cons_zero, List.getD_cons_succ]
    repeat' first | refine SW.step good fun K hK => ?_ | refine X2 good fun K hK => ?_ | refine X3 good fun K hK => ?_ | refine SW.seqK fun J hJ => ?_ | refine SW.last good fun K hK => ?_ | (refine hK _ ?_; clear hK K) | (refine hJ _ _ (Wk.refl _) ?_; clear hJ J) | clear hK K | clear hJ J | refine SW.skip ?_ | refine SW.ret ?_ | refine SW.retT ?_ | refine SW.retB ?_ | refine SW.exit ?_ | refine SW.exitT ?_ | refine SW.exitB ?_ | refine XN ?_ | refine SW.block ?_ | refine SW.normB ?_ | refine SW.normT ?_ | refine XT ?_ | refine XF ?_ | refine XC (fun h => ?_) (fun h => ?_) | refine Xzb (mN) ?_ | refine Xzc (mN) ?_ | refine Xzb (mE) ?_ | refine Xzc (mE) ?_ | (refine Xm (.s 8 0) ?_; first | refine Xd (m1) ?_ | refine Xa (m1) ?_ | refine Xb (m1) ?_) | simp only [go_sem, optI, Option.getD_some, Option.getD_none, Int.reduceToNat, reduceIte, Nat.reduceEqDiff, Nat.reduceAdd, Nat.reduceMul, Nat.reduceSub, Nat.reduceLT, Nat.reduceLeDiff, reduceCtorEq, *] | refine Xs _ (fun h => ?_) (fun h => ?_) | with_reducible refine And.intro ?_ ?_
    all_goals first | (intro r hr; simp at hr; subst hr; rfl) | (simp [bytesC]; omega) | (simp; done) | omega | rfl | (intro r hr; subst hr; rfl) | skip
    all_goals (refine Xr1 (i := .s 13 0) ?_ ?_ <;> simp [Wn.leO, resOf, Wn.le, Wn.leL, Wn.cw, C.scal, scal, outM, idsTo, hAR, evC, evN, nilCr])
  by_cases k1 : k = 1
  · subst k1
    obtain ⟨m, hm⟩ : ∃ m, m = E.length / 2 := ⟨_, rfl⟩
    have hml : m < E.length := by omega
    have t1 : (E.length : Int).tdiv 2 = ((m : Nat) : Int) := by rw [Int.tdiv_eq_ediv_of_nonneg (by omega)]; omega
    have t2 : IntKind.i64.wrap (m : Int) = (m : Int) := wrap64 (by omega) (by omega)
    have e := getD_map E evC [] hml
    refine ⟨E.set m { E[m] with place := 1000000001 }, by simp; omega, ?_⟩
    have hset : (E.set m { E[m] with place := 1000000001 }).map evC = (E.map evC).set m (evC { E[m] with place := 1000000001 }) := List.map_set ..
    rw [hset]
    generalize E[m] = x at *
    have hel : (E.map evC).length = E.length := List.length_map ..
    generalize E.map evC = R at *
    have hR : 8 ≤ R.length ∧ R.length ≤ 36 ∧ m < R.length := by omega
    rw [← hel] at t1
    clear hk f1 hbl hset hm hml hel hE k0
    refine XM good (fn := Tryz.f40) rfl ?_
    try simp only [List.getD_cons_zero, List.getD_cons_succ]
    repeat' first | refine SW.step good fun K hK => ?_ | refine X2 good fun K hK => ?_ | refine X3 good fun K hK => ?_ | refine SW.seqK fun J hJ => ?_ | refine SW.last good fun K hK => ?_ | (refine hK _ ?_; clear hK K) | (refine hJ _ _ (Wk.refl _) ?_; clear hJ J) | clear hK K | clear hJ J | refine SW.skip ?_ | refine SW.ret ?_ | refine SW.retT ?_ | refine SW.retB ?_ | refine SW.exit ?_ | refine SW.exitT ?_ | refine SW.exitB ?_ | refine XN ?_ | refine SW.block ?_ | refine SW.normB ?_ | refine SW.normT ?_ | refine XT ?_ | refine XF ?_ | refine XC (fun h => ?_) (fun h => ?_) | refine Xzb (mN) ?_ | refine Xzc (mN) ?_ | refine Xzb (mE) ?_ | refine Xzc (mE) ?_ | (refine Xm (.s 8 0) ?_; first | refine Xd (m1) ?_ | refine Xa (m1) ?_ | refine Xb (m1) ?_) | simp only [go_sem, optI, Option.getD_some, Option.getD_none, Int.reduceToNat, reduceIte, Nat.reduceEqDiff, Nat.reduceAdd, Nat.reduceMul, Nat.reduceSub, Nat.reduceLT, Nat.reduceLeDiff, reduceCtorEq, *] | refine Xs _ (fun h => ?_) (fun h => ?_) | with_reducible refine And.intro ?_ ?_
    all_goals first | (intro r hr; simp at hr; subst hr; rfl) | (simp [bytesC]; omega) | (simp; done) | omega | rfl | skip
    all_goals (refine Xr1 (i := .s 13 0) ?_ ?_ <;> simp [Wn.leO, resOf, Wn.le, Wn.leL, Wn.cw, C.scal, scal, outM, idsTo, hAR, evC, evN, nilCr])
  by_cases k2 : k = 2
  · subst k2
    obtain ⟨m, hm⟩ : ∃ m, b.length % 2 = m := ⟨_, rfl⟩
    obtain ⟨n, hn⟩ : ∃ n, 60 + m - E.length = n := ⟨_, rfl⟩
    have t1 : ((bytesC b).length : Int).tmod 2 = ((m : Nat) : Int) := by rw [hbl, Int.tmod_eq_emod_of_nonneg (by omega)]; omega
    have t2 : IntKind.i64.wrap (m : Int) = (m : Int) := wrap64 (by omega) (by omega)
    have t3 : IntKind.i64.wrap (60 + (m : Int)) = ((60 + m : Nat) : Int) := by rw [wrap64 (by omega) (by omega)]; omega
    refine ⟨E ++ List.replicate n (evN 10 0 0 nilCr []), by simp; omega, ?_⟩
    refine XM good (fn := Tryz.f40) rfl ?_
    try simp only [List.getD_cons_zero, List.getD_cons_succ]
    repeat' first | refine SW.step good fun K hK => ?_ | refine X2 good fun K hK => ?_ | refine X3 good fun K hK => ?_ | refine SW.seqK fun J hJ => ?_ | refine SW.last good fun K hK => ?_ | (refine hK _ ?_; clear hK K) | (refine hJ _ _ (Wk.refl _) ?_; clear hJ J) | clear hK K | clear hJ J | refine SW.skip ?_ | refine SW.ret ?_ | refine SW.retT ?_ | refine SW.retB ?_ | refine SW.exit ?_ | refine SW.exitT ?_ | refine SW.exitB ?_ | refine XN ?_ | refine SW.block ?_ | refine SW.normB ?_ | refine SW.normT ?_ | refine XT ?_ | refine XF ?_ | refine XC (fun h => ?_) (fun h => ?_) | refine Xzb (mN) ?_ | refine Xzc (mN) ?_ | refine Xzb (mE) ?_ | refine Xzc (mE) ?_ | (refine Xm (.s 8 0) ?_; first | refine Xd (m1) ?_ | refine Xa (m1) ?_ | refine Xb (m1) ?_) | simp only [go_sem, optI, Option.getD_some, Option.getD_none, Int.reduceToNat, reduceIte, Nat.reduceEqDiff, Nat.reduceAdd, Nat.reduceMul, Nat.reduceSub, Nat.reduceLT, Nat.reduceLeDiff, reduceCtorEq, *] | refine Xs _ (fun h => ?_) (fun h => ?_) | with_reducible refine And.intro ?_ ?_
    all_goals first | (intro r hr; simp at hr; subst hr; rfl) | (simp [bytesC]; omega) | (simp; done) | omega | rfl | skip
    have hbx : (bytesC b).length ≤ 1048576 := by omega
    generalize bytesC b = X at *
    refine SW.loopTo (α := Nat) (fun j => ⟨sl [(0, .c false (.sl X)), (6, .own (.s 13 0))], hl [(.s 13 0, .row false 29 14 ((E ++ List.replicate j (evN 10 0 0 nilCr [])).map evC))]⟩) (fun j => n - j) 0 (fun j => j ≤ n) ?_ (by simp) ?_
    · (refine Xto _ _ ?_ ?_ <;> simp only [go_sem, optI, Option.getD_some, Option.getD_none, Int.reduceToNat, reduceIte, Nat.reduceEqDiff, Nat.reduceAdd, Nat.reduceMul, Nat.reduceSub, Nat.reduceLT, Nat.reduceLeDiff, reduceCtorEq, Option.some.injEq, or_true, true_or] <;> (repeat' with_reducible apply And.intro) <;> (try rfl))
      all_goals first | (simp; done) | skip
    · intro j hj
      clear mN m1 mE f1 hk hbl hb
      have hlen : ((E ++ List.replicate j (evN 10 0 0 nilCr [])).map evC).length = E.length + j := by simp
      have hnx : (E ++ List.replicate (j + 1) (evN 10 0 0 nilCr [])).map evC = (E ++ List.replicate j (evN 10 0 0 nilCr [])).map evC ++ [evC (evN 10 0 0 nilCr [])] := by
        rw [List.replicate_succ', ← List.append_assoc, List.map_append (l₁ := E ++ List.replicate j (evN 10 0 0 nilCr []))]; rfl
      generalize hRd : (E ++ List.replicate j (evN 10 0 0 nilCr [])).map evC = R at *
      by_cases hjn : j < n
      · have d1 : decide ((R.length : Int) < ((60 + m : Nat) : Int)) = true := decide_eq_true (by omega)
        have hRl : R.length ≤ 61 := by omega
        clear hlen
        repeat' first | refine SW.step good fun K hK => ?_ | refine X2 good fun K hK => ?_ | refine X3 good fun K hK => ?_ | refine SW.seqK fun J hJ => ?_ | refine SW.last good fun K hK => ?_ | (refine hK _ ?_; clear hK K) | (refine hJ _ _ (Wk.refl _) ?_; clear hJ J) | clear hK K | clear hJ J | refine SW.skip ?_ | refine SW.ret ?_ | refine SW.retT ?_ | refine SW.retB ?_ | refine SW.exit ?_ | refine SW.exitT ?_ | refine SW.exitB ?_ | refine XN ?_ | refine SW.block ?_ | refine SW.normB ?_ | refine SW.normT ?_ | refine XT ?_ | refine XF ?_ | refine XC (fun h => ?_) (fun h => ?_) | simp only [go_sem, optI, Option.getD_some, Option.getD_none, Int.reduceToNat, reduceIte, Nat.reduceEqDiff, Nat.reduceAdd, Nat.reduceMul, Nat.reduceSub, Nat.reduceLT, Nat.reduceLeDiff, reduceCtorEq, *] | refine Xs _ (fun h => ?_) (fun h => ?_) | with_reducible refine And.intro ?_ ?_
        all_goals first | (intro r hr; simp at hr; subst hr; rfl) | (simp [bytesC]; omega) | (simp; done) | omega | rfl | (intro r hr; subst hr; rfl) | skip
        all_goals refine ⟨j + 1, by omega, by omega, ?_⟩
        all_goals (refine Xto _ _ ?_ ?_ <;> simp only [go_sem, optI, Option.getD_some, Option.getD_none, Int.reduceToNat, reduceIte, Nat.reduceEqDiff, Nat.reduceAdd, Nat.reduceMul, Nat.reduceSub, Nat.reduceLT, Nat.reduceLeDiff, reduceCtorEq, Option.some.injEq, or_true, true_or] <;> (repeat' with_reducible apply And.intro) <;> (try rfl))
        all_goals first | (rw [hnx]; rfl) | skip
      · have hjn : j = n := by omega
        have d1 : decide ((R.length : Int) < ((60 + m : Nat) : Int)) = false := decide_eq_false (by omega)
        have hRf : (E ++ List.replicate n (evN 10 0 0 nilCr [])).map evC = R := by rw [← hjn]; exact hRd
        clear hlen hnx
        repeat' first | refine SW.step good fun K hK => ?_ | refine X2 good fun K hK => ?_ | refine X3 good fun K hK => ?_ | refine SW.seqK fun J hJ => ?_ | refine SW.last good fun K hK => ?_ | (refine hK _ ?_; clear hK K) | (refine hJ _ _ (Wk.refl _) ?_; clear hJ J) | clear hK K | clear hJ J | refine SW.skip ?_ | refine SW.ret ?_ | refine SW.retT ?_ | refine SW.retB ?_ | refine SW.exit ?_ | refine SW.exitT ?_ | refine SW.exitB ?_ | refine XN ?_ | refine SW.block ?_ | refine SW.normB ?_ | refine SW.normT ?_ | refine XT ?_ | refine XF ?_ | refine XC (fun h => ?_) (fun h => ?_) | simp only [go_sem, optI, Option.getD_some, Option.getD_none, Int.reduceToNat, reduceIte, Nat.reduceEqDiff, Nat.reduceAdd, Nat.reduceMul, Nat.reduceSub, Nat.reduceLT, Nat.reduceLeDiff, reduceCtorEq, *] | refine Xs _ (fun h => ?_) (fun h => ?_) | with_reducible refine And.intro ?_ ?_
        all_goals first | (intro r hr; simp at hr; subst hr; rfl) | (simp [bytesC]; omega) | (simp; done) | omega | rfl | skip
        all_goals (refine Xr1 (i := .s 13 0) ?_ ?_ <;> simp [Wn.leO, resOf, Wn.le, Wn.leL, Wn.cw, C.scal, scal, outM, idsTo, hAR])
  have d0 : decide (k = 0) = false := by simpa using k0
  have d1 : decide (k = 1) = false := by simpa using k1
  have d2 : decide (k = 2) = false := by simpa using k2
  refine ⟨E, by omega, ?_⟩
  clear hk f1 hbl k0 k1 k2
  refine XM good (fn := Tryz.f40) rfl ?_
  try simp only [List.getD_cons_zero, List.getD_cons_succ]
  repeat' first | refine SW.step good fun K hK => ?_ | refine X2 good fun K hK => ?_ | refine X3 good fun K hK => ?_ | refine SW.seqK fun J hJ => ?_ | refine SW.last good fun K hK => ?_ | (refine hK _ ?_; clear hK K) | (refine hJ _ _ (Wk.refl _) ?_; clear hJ J) | clear hK K | clear hJ J | refine SW.skip ?_ | refine SW.ret ?_ | refine SW.retT ?_ | refine SW.retB ?_ | refine SW.exit ?_ | refine SW.exitT ?_ | refine SW.exitB ?_ | refine XN ?_ | refine SW.block ?_ | refine SW.normB ?_ | refine SW.normT ?_ | refine XT ?_ | refine XF ?_ | refine XC (fun h => ?_) (fun h => ?_) | refine Xzb (mN) ?_ | refine Xzc (mN) ?_ | refine Xzb (mE) ?_ | refine Xzc (mE) ?_ | (refine Xm (.s 8 0) ?_; first | refine Xd (m1) ?_ | refine Xa (m1) ?_ | refine Xb (m1) ?_) | simp only [go_sem, optI, Option.getD_some, Option.getD_none, Int.reduceToNat, reduceIte, Nat.reduceEqDiff, Nat.reduceAdd, Nat.reduceMul, Nat.reduceSub, Nat.reduceLT, Nat.reduceLeDiff, reduceCtorEq, *] | refine Xs _ (fun h => ?_) (fun h => ?_) | with_reducible refine And.intro ?_ ?_
  all_goals first | (intro r hr; simp at hr; subst hr; rfl) | (simp [bytesC]; omega) | (simp; done) | omega | rfl | skip
  all_goals (refine Xr1 (i := .s 13 0) ?_ ?_ <;> simp [Wn.leO, resOf, Wn.le, Wn.leL, Wn.cw, C.scal, scal, outM, idsTo, hAR, evC, evN, nilCr])
end Go.Proofs.YtoemclhjcbcjaaaGreat.AB
namespace Go.Proofs.YtoemclhjcbcjaaaGreat.AB
open Go
set_option maxRecDepth 100000
set_option linter.unusedSimpArgs false
set_option linter.unusedVariables false
def credNone (c : Cred) : Bool := c.kind == 0 && (c.of.who == 0 && (c.of.name == 0 && (c.who == 0 && (c.a.who == 0 && (c.a.name == 0 && (c.b.who == 0 && (c.b.name == 0 && (c.till == 0 && (c.nonce == 0)))))))))
def eventOk (e : Event) : Bool :=
  inB e.kind 1 11 && (decide (0 ≤ e.place) && (decide (0 ≤ e.num) && (decide ((sb e.text).length ≤ 600) && ((decide (sb e.text = []) || decide (e.kind = 11)) &&
    ((decide (e.kind = 7 ∨ e.kind = 8) && credOk e.cred) || (decide (e.kind = 9) && (credOk e.cred && decide (e.cred.kind = 1))) || (!decide (e.kind = 7 ∨ e.kind = 8 ∨ e.kind = 9) && credNone e.cred))))))
theorem credNone_eq (e : Event) : (e.cred.kind == 0 && (e.cred.of.who == 0 && (e.cred.of.name == 0 && (e.cred.who == 0 && (e.cred.a.who == 0 && (e.cred.a.name == 0 && (e.cred.b.who == 0 && (e.cred.b.name == 0 && (e.cred.till == 0 && (e.cred.nonce == 0)))))))))) = credNone e.cred := rfl
theorem none_ok {c : Cred} (h : credNone c = true) (k : credOk c = true) : False := by
  simp [credNone, credOk, inB] at h k
  omega
set_option maxHeartbeats 4000000 in
theorem ac_EventOk (e : Event) : AC Tryz.prog 24 [encEv e] (vB (eventOk e)) [] := by
  have hx := @none_ok e.cred
  refine XA good (fn := Tryz.f24) rfl ?_
  simp only [entry, List.getD_cons_zero, List.getD_cons_succ]
  repeat' first | refine SW.step good fun K hK => ?_ | refine X2 good fun K hK => ?_ | refine X3 good fun K hK => ?_ | refine SW.seqK fun J hJ => ?_ | refine SW.last good fun K hK => ?_ | (refine hK _ ?_; clear hK K) | (refine hJ _ _ (Wk.refl _) ?_; clear hJ J) | clear hK K | clear hJ J | refine SW.skip ?_ | refine SW.ret ?_ | refine SW.retT ?_ | refine SW.retB ?_ | refine SW.exit ?_ | refine SW.exitT ?_ | refine SW.exitB ?_ | refine XN ?_ | refine SW.block ?_ | refine SW.normB ?_ | refine SW.normT ?_ | refine XT ?_ | refine XF ?_ | refine XC (fun h => ?_) (fun h => ?_) | refine X0 ?_ | refine Xv ?_ | refine X1 (ac_in _ _ _) ?_ | refine X1 (ac_CredOk e.cred) ?_ | simp only [go_sem, optI, Option.getD_some, Option.getD_none, Int.reduceToNat, reduceIte, Nat.reduceEqDiff, Nat.reduceAdd, Nat.reduceMul, Nat.reduceSub, Nat.reduceLT, Nat.reduceLeDiff, reduceCtorEq, *] | refine Xs _ (fun h => ?_) (fun h => ?_) | with_reducible refine And.intro ?_ ?_
  all_goals first | (intro r hr; simp at hr; subst hr; rfl) | (simp [bytesC]; omega) | (simp; done) | omega | rfl | skip
  all_goals refine Xrb ?_
  all_goals (try simp only [credNone_eq] at *)
  all_goals unfold eventOk inB
  all_goals rw [Bool.eq_iff_iff]
  all_goals (generalize credNone e.cred = cn at *; generalize credOk e.cred = co at *; by_cases ht : sb e.text = [])
  all_goals (rcases cn with _ | _ <;> rcases co with _ | _ <;> first | (exfalso; exact hx rfl rfl) | skip)
  all_goals first | (simp [ht] at * <;> omega) | skip
theorem ac_credless (n : Int) : AC Tryz.prog 50 [vI n] (vB (!(decide (n = 7) || (decide (n = 8) || decide (n = 9))))) [] := by
  refine XA good (fn := Tryz.f50) rfl ?_
  simp only [entry, List.getD_cons_zero, List.getD_cons_succ]
  repeat' first | refine SW.step good fun K hK => ?_ | refine X2 good fun K hK => ?_ | refine X3 good fun K hK => ?_ | refine SW.seqK fun J hJ => ?_ | refine SW.last good fun K hK => ?_ | (refine hK _ ?_; clear hK K) | (refine hJ _ _ (Wk.refl _) ?_; clear hJ J) | clear hK K | clear hJ J | refine SW.skip ?_ | refine SW.ret ?_ | refine SW.retT ?_ | refine SW.retB ?_ | refine SW.exit ?_ | refine SW.exitT ?_ | refine SW.exitB ?_ | refine XN ?_ | refine SW.block ?_ | refine SW.normB ?_ | refine SW.normT ?_ | refine XT ?_ | refine XF ?_ | refine XC (fun h => ?_) (fun h => ?_) | simp only [go_sem, optI, Option.getD_some, Option.getD_none, Int.reduceToNat, reduceIte, Nat.reduceEqDiff, Nat.reduceAdd, Nat.reduceMul, Nat.reduceSub, Nat.reduceLT, Nat.reduceLeDiff, reduceCtorEq, *] | refine Xs _ (fun h => ?_) (fun h => ?_) | with_reducible refine And.intro ?_ ?_
  all_goals refine Xrb ?_
  all_goals simp_all
set_option maxHeartbeats 4000000 in
theorem ac_EventOk' (e : Event) : AC Tryz.prog 27 [encEv e] (vB (eventOk e)) [] := by
  have hx := @none_ok e.cred
  refine XA good (fn := Tryz.f27) rfl ?_
  simp only [entry, List.getD_cons_zero, List.getD_cons_succ]
  repeat' first | refine SW.step good fun K hK => ?_ | refine X2 good fun K hK => ?_ | refine X3 good fun K hK => ?_ | refine SW.seqK fun J hJ => ?_ | refine SW.last good fun K hK => ?_ | (refine hK _ ?_; clear hK K) | (refine hJ _ _ (Wk.refl _) ?_; clear hJ J) | clear hK K | clear hJ J | refine SW.skip ?_ | refine SW.ret ?_ | refine SW.retT ?_ | refine SW.retB ?_ | refine SW.exit ?_ | refine SW.exitT ?_ | refine SW.exitB ?_ | refine XN ?_ | refine SW.block ?_ | refine SW.normB ?_ | refine SW.normT ?_ | refine XT ?_ | refine XF ?_ | refine XC (fun h => ?_) (fun h => ?_) | refine X0 ?_ | refine Xv ?_ | refine X1 (ac_in' _ _ _) ?_ | refine X1 (ac_credless _) ?_ | refine X1 (ac_CredOk' e.cred) ?_ | simp only [go_sem, optI, Option.getD_some, Option.getD_none, Int.reduceToNat, reduceIte, Nat.reduceEqDiff, Nat.reduceAdd, Nat.reduceMul, Nat.reduceSub, Nat.reduceLT, Nat.reduceLeDiff, reduceCtorEq, *] | refine Xs _ (fun h => ?_) (fun h => ?_) | with_reducible refine And.intro ?_ ?_
  all_goals first | (intro r hr; simp at hr; subst hr; rfl) | (simp [bytesC]; omega) | (simp; done) | omega | rfl | skip
  all_goals refine Xrb ?_
  all_goals (try simp only [credNone_eq] at *)
  all_goals unfold eventOk inB
  all_goals rw [Bool.eq_iff_iff]
  all_goals (generalize credNone e.cred = cn at *; generalize credOk e.cred = co at *; by_cases ht : sb e.text = [])
  all_goals (rcases cn with _ | _ <;> rcases co with _ | _ <;> first | (exfalso; exact hx rfl rfl) | skip)
  all_goals first | (simp [ht] at * <;> omega) | skip
end Go.Proofs.YtoemclhjcbcjaaaGreat.AB
namespace Go.Proofs.YtoemclhjcbcjaaaGreat.AB
open Go
set_option maxRecDepth 100000
set_option linter.unusedSimpArgs false
set_option linter.unusedVariables false
def eventFit (e : Event) : Bool := eventOk e && (decide (e.place ≤ 1000000000) && decide (e.num ≤ 1000000000))
def eventText (e : Event) : List UInt8 :=
  if eventFit e then varI e.kind ++ varI e.place ++ varI e.num ++ varI (credText e.cred).length ++ credText e.cred ++ varI (sb e.text).length ++ sb e.text else []
theorem fit_facts {e : Event} (h : eventFit e = true) : eventOk e = true ∧ 1 ≤ e.kind ∧ e.kind ≤ 11 ∧ 0 ≤ e.place ∧ e.place ≤ 1000000000 ∧ 0 ≤ e.num ∧ e.num ≤ 1000000000 ∧ (sb e.text).length ≤ 600 := by
  unfold eventFit at h
  simp only [Bool.and_eq_true, decide_eq_true_eq] at h
  have h1 := h.1
  unfold eventOk inB at h1
  simp only [Bool.and_eq_true, decide_eq_true_eq] at h1
  exact ⟨h.1, h1.1.1, h1.1.2, h1.2.1, h.2.1, h1.2.2.1, h.2.2, h1.2.2.2.1⟩
theorem eventText_len (e : Event) : (eventText e).length ≤ 800 := by
  unfold eventText
  split
  · rename_i h
    have := fit_facts h
    have := credText_len e.cred
    have := varI_len e.kind; have := varI_len e.place; have := varI_len e.num; have := varI_len (credText e.cred).length; have := varI_len (sb e.text).length
    simp only [List.length_append]; omega
  · simp
set_option maxHeartbeats 4000000 in
theorem ac_EventText (e : Event) : AC Tryz.prog 6 [encEv e] (.tup [vS (eventText e), vB (eventFit e)]) [] := by
  have hc := credText_len e.cred
  have l1 := varI_len e.kind
  have l2 := varI_len e.place
  have l3 := varI_len e.num
  have l4 := varI_len (credText e.cred).length
  have l5 := varI_len (sb e.text).length
  by_cases hf : eventFit e = true
  · obtain ⟨h1, h2, h3, h4, h5, h6, h7, h8⟩ := fit_facts hf
    have e1 : decide (e.place > 1000000000) = false := by simp; omega
    have e2 : decide (e.num > 1000000000) = false := by simp; omega
    have e3 : decide (1000000000 < e.place) = false := by simp; omega
    have e4 : decide (1000000000 < e.num) = false := by simp; omega
    refine XA good (fn := Tryz.f6) rfl ?_
    simp only [entry, List.getD_cons_zero, List.getD_cons_succ]
    repeat' first | refine SW.step good fun K hK => ?_ | refine X2 good fun K hK => ?_ | refine X3 good fun K hK => ?_ | refine SW.seqK fun J hJ => ?_ | refine SW.last good fun K hK => ?_ | (refine hK _ ?_; clear hK K) | (refine hJ _ _ (Wk.refl _) ?_; clear hJ J) | clear hK K | clear hJ J | refine SW.skip ?_ | refine SW.ret ?_ | refine SW.retT ?_ | refine SW.retB ?_ | refine SW.exit ?_ | refine SW.exitT ?_ | refine SW.exitB ?_ | refine XN ?_ | refine SW.block ?_ | refine SW.normB ?_ | refine SW.normT ?_ | refine XT ?_ | refine XF ?_ | refine XC (fun h => ?_) (fun h => ?_) | refine X0 ?_ | refine Xv ?_ | refine X1 (ac_EventOk e) ?_ | refine X1 (ac_CredText e.cred) ?_ | refine X1 (ac_var _ (by omega) (by omega)) ?_ | simp only [go_sem, optI, Option.getD_some, Option.getD_none, Int.reduceToNat, reduceIte, Nat.reduceEqDiff, Nat.reduceAdd, Nat.reduceMul, Nat.reduceSub, Nat.reduceLT, Nat.reduceLeDiff, reduceCtorEq, *] | refine Xs _ (fun h => ?_) (fun h => ?_) | with_reducible refine And.intro ?_ ?_
    all_goals first | omega | (simp; omega) | skip
    all_goals refine Xrp ?_
    all_goals simp [resOf, Wn.le, Wn.leL, Wn.cw, C.scal, scal, eventText, hf, vS, vB]
  · have hf' : eventFit e = false := by simpa using hf
    refine XA good (fn := Tryz.f6) rfl ?_
    simp only [entry, List.getD_cons_zero, List.getD_cons_succ]
    repeat' first | refine SW.step good fun K hK => ?_ | refine X2 good fun K hK => ?_ | refine X3 good fun K hK => ?_ | refine SW.seqK fun J hJ => ?_ | refine SW.last good fun K hK => ?_ | (refine hK _ ?_; clear hK K) | (refine hJ _ _ (Wk.refl _) ?_; clear hJ J) | clear hK K | clear hJ J | refine SW.skip ?_ | refine SW.ret ?_ | refine SW.retT ?_ | refine SW.retB ?_ | refine SW.exit ?_ | refine SW.exitT ?_ | refine SW.exitB ?_ | refine XN ?_ | refine SW.block ?_ | refine SW.normB ?_ | refine SW.normT ?_ | refine XT ?_ | refine XF ?_ | refine XC (fun h => ?_) (fun h => ?_) | refine X0 ?_ | refine Xv ?_ | refine X1 (ac_EventOk e) ?_ | simp only [go_sem, optI, Option.getD_some, Option.getD_none, Int.reduceToNat, reduceIte, Nat.reduceEqDiff, Nat.reduceAdd, Nat.reduceMul, Nat.reduceSub, Nat.reduceLT, Nat.reduceLeDiff, reduceCtorEq, *] | refine Xs _ (fun h => ?_) (fun h => ?_) | with_reducible refine And.intro ?_ ?_
    all_goals first | omega | (simp; omega) | skip
    all_goals first
      | (exfalso; simp_all [eventFit]; done)
      | (exfalso; simp_all [eventFit]; omega)
      | (refine Xrp ?_; simp [resOf, Wn.le, Wn.leL, Wn.cw, C.scal, scal, eventText, hf', vS, vB]; done)
      | skip
set_option maxHeartbeats 4000000 in
theorem ac_EventText' (e : Event) : AC Tryz.prog 7 [encEv e] (.tup [vS (eventText e), vB (eventFit e)]) [] := by
  have hc := credText_len e.cred
  have l1 := varI_len e.kind
  have l2 := varI_len e.place
  have l3 := varI_len e.num
  have l4 := varI_len (credText e.cred).length
  have l5 := varI_len (sb e.text).length
  by_cases hf : eventFit e = true
  · obtain ⟨h1, h2, h3, h4, h5, h6, h7, h8⟩ := fit_facts hf
    have e1 : decide (e.place > 1000000000) = false := by simp; omega
    have e2 : decide (e.num > 1000000000) = false := by simp; omega
    have e3 : decide (1000000000 < e.place) = false := by simp; omega
    have e4 : decide (1000000000 < e.num) = false := by simp; omega
    refine XA good (fn := Tryz.f7) rfl ?_
    simp only [entry, List.getD_cons_zero, List.getD_cons_succ]
    repeat' first | refine SW.step good fun K hK => ?_ | refine X2 good fun K hK => ?_ | refine X3 good fun K hK => ?_ | refine SW.seqK fun J hJ => ?_ | refine SW.last good fun K hK => ?_ | (refine hK _ ?_; clear hK K) | (refine hJ _ _ (Wk.refl _) ?_; clear hJ J) | clear hK K | clear hJ J | refine SW.skip ?_ | refine SW.ret ?_ | refine SW.retT ?_ | refine SW.retB ?_ | refine SW.exit ?_ | refine SW.exitT ?_ | refine SW.exitB ?_ | refine XN ?_ | refine SW.block ?_ | refine SW.normB ?_ | refine SW.normT ?_ | refine XT ?_ | refine XF ?_ | refine XC (fun h => ?_) (fun h => ?_) | refine X0 ?_ | refine Xv ?_ | refine X1 (ac_EventOk' e) ?_ | refine X1 (ac_CredText' e.cred) ?_ | refine X1 (ac_var' _ (by omega) (by omega)) ?_ | simp only [go_sem, optI, Option.getD_some, Option.getD_none, Int.reduceToNat, reduceIte, Nat.reduceEqDiff, Nat.reduceAdd, Nat.reduceMul, Nat.reduceSub, Nat.reduceLT, Nat.reduceLeDiff, reduceCtorEq, *] | refine Xs _ (fun h => ?_) (fun h => ?_) | with_reducible refine And.intro ?_ ?_
    all_goals first | omega | (simp; omega) | skip
    all_goals refine Xrp ?_
    all_goals simp [resOf, Wn.le, Wn.leL, Wn.cw, C.scal, scal, eventText, hf, vS, vB]
  · have hf' : eventFit e = false := by simpa using hf
    refine XA good (fn := Tryz.f7) rfl ?_
    simp only [entry, List.getD_cons_zero, List.getD_cons_succ]
    repeat' first | refine SW.step good fun K hK => ?_ | refine X2 good fun K hK => ?_ | refine X3 good fun K hK => ?_ | refine SW.seqK fun J hJ => ?_ | refine SW.last good fun K hK => ?_ | (refine hK _ ?_; clear hK K) | (refine hJ _ _ (Wk.refl _) ?_; clear hJ J) | clear hK K | clear hJ J | refine SW.skip ?_ | refine SW.ret ?_ | refine SW.retT ?_ | refine SW.retB ?_ | refine SW.exit ?_ | refine SW.exitT ?_ | refine SW.exitB ?_ | refine XN ?_ | refine SW.block ?_ | refine SW.normB ?_ | refine SW.normT ?_ | refine XT ?_ | refine XF ?_ | refine XC (fun h => ?_) (fun h => ?_) | refine X0 ?_ | refine Xv ?_ | refine X1 (ac_EventOk' e) ?_ | simp only [go_sem, optI, Option.getD_some, Option.getD_none, Int.reduceToNat, reduceIte, Nat.reduceEqDiff, Nat.reduceAdd, Nat.reduceMul, Nat.reduceSub, Nat.reduceLT, Nat.reduceLeDiff, reduceCtorEq, *] | refine Xs _ (fun h => ?_) (fun h => ?_) | with_reducible refine And.intro ?_ ?_
    all_goals first | omega | (simp; omega) | skip
    all_goals first
      | (exfalso; simp_all [eventFit]; done)
      | (exfalso; simp_all [eventFit]; omega)
      | (refine Xrp ?_; simp [resOf, Wn.le, Wn.leL, Wn.cw, C.scal, scal, eventText, hf', vS, vB]; done)
      | skip
end Go.Proofs.YtoemclhjcbcjaaaGreat.AB
namespace Go.Proofs.YtoemclhjcbcjaaaGreat.AB
open Go
set_option maxRecDepth 100000
set_option linter.unusedSimpArgs false
set_option linter.unusedVariables false
end Go.Proofs.YtoemclhjcbcjaaaGreat.AB
