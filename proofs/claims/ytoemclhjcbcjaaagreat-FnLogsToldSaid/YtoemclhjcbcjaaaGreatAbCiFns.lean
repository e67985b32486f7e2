/- Draws as functions. -/
import Derived.Test.YtoemclhjcbcjaaaGreatAbCcDraw
namespace Go.Proofs.YtoemclhjcbcjaaaGreat.AB
open Go
set_option maxRecDepth 100000
set_option linter.unusedSimpArgs false
set_option linter.unusedVariables false
theorem roleOk_of {r : Role} (h : (0 ≤ r.who ∧ r.who < 3) ∧ 0 ≤ r.name ∧ r.name < 2) : roleOk r = true := by
  unfold roleOk; simp; omega
theorem credOk_of {c : Cred} (h1 : roleOk c.of = true) (h2 : 1 ≤ c.till ∧ c.till ≤ 9999) (h3 : 0 ≤ c.nonce ∧ c.nonce ≤ 99)
    (h4 : (c.kind = 1 ∧ (0 ≤ c.who ∧ c.who ≤ 5) ∧ c.a = ⟨0, 0⟩ ∧ c.b = ⟨0, 0⟩) ∨ (c.kind = 2 ∧ c.who = 0 ∧ roleOk c.a = true ∧ c.b = ⟨0, 0⟩) ∨ (c.kind = 3 ∧ c.who = 0 ∧ roleOk c.a = true ∧ roleOk c.b = true ∧ c.b.who = 0) ∨ (c.kind = 4 ∧ c.who = 0 ∧ roleOk c.a = true ∧ roleOk c.b = true)) : credOk c = true := by
  unfold credOk inB
  rw [h1]
  rcases h4 with ⟨k, w, a, b⟩ | ⟨k, w, a, b⟩ | ⟨k, w, a, b, b0⟩ | ⟨k, w, a, b⟩
  · rw [k, a, b]; simp [roleNone]; omega
  · rw [k, w, a, b]; simp [roleNone]; omega
  · rw [k, w, a, b, b0]; simp; omega
  · rw [k, w, a, b]; simp; omega
set_option maxHeartbeats 2000000 in
theorem cred_ex (c : Cur) (hc : c.ok) : ∃ (x : Cred) (c' : Cur), credOk x = true ∧ Fwd c c' ∧ MC Tryz.prog 67 [.ptr (.a 0) 0] [cuO c] (encCred x) [some (cuO c')] [] := by
  obtain ⟨k, c1, hk, f1, m1⟩ := pickInt_ex c [1, 1, 2, 3, 4] hc (by decide) (by decide)
  obtain ⟨r, c2, hr, f2, m2⟩ := role_ex c1 f1.2
  obtain ⟨u, c3, hu, f3, m3⟩ := pickInt_ex c2 [5, 50, 9999, 2] f2.2 (by decide) (by decide)
  obtain ⟨n, c4, hn, f4, m4⟩ := below_ex c3 2 f3.2 (by decide) (by decide)
  have f14 := ((f1.trans f2).trans f3).trans f4
  simp only [List.mem_cons, List.not_mem_nil, or_false] at hk hu
  simp only [List.map_cons, List.map_nil, intC] at m1 m3
  have hr' := roleOk_of hr
  have hu' : 1 ≤ u ∧ u ≤ 9999 := by omega
  have hn' : 0 ≤ n ∧ n ≤ 99 := by omega
  have hk' : k = 1 ∨ k = 2 ∨ k = 3 ∨ k = 4 := by omega
  clear hk hu hn hr f1 f2 f3
  obtain ⟨r1, r2⟩ := r
  rcases hk' with rfl | rfl | rfl | rfl
  · obtain ⟨w, c5, hw, f5, m5⟩ := below_ex c4 6 f4.2 (by decide) (by decide)
    refine ⟨⟨1, ⟨r1, r2⟩, w, ⟨0, 0⟩, ⟨0, 0⟩, u, n⟩, c5, credOk_of hr' hu' hn' (.inl ⟨rfl, ⟨hw.1, by simp only; omega⟩, rfl, rfl⟩), f14.trans f5, ?_⟩
    clear f14 f4 f5 hw hr' hu' hn' hc
    simp only [cuO, encRole] at *
    refine XM good (fn := Tryz.f67) rfl ?_
    try simp only [List.getD_cons_zero, List.getD_cons_succ]
    repeat' first | refine SW.step good fun K hK => ?_ | refine X2 good fun K hK => ?_ | refine X3 good fun K hK => ?_ | refine SW.seqK fun J hJ => ?_ | refine SW.last good fun K hK => ?_ | (refine hK _ ?_; clear hK K) | (refine hJ _ _ (Wk.refl _) ?_; clear hJ J) | clear hK K | clear hJ J | refine SW.skip ?_ | refine SW.ret ?_ | refine SW.retT ?_ | refine SW.retB ?_ | refine SW.exit ?_ | refine SW.exitT ?_ | refine SW.exitB ?_ | refine XN ?_ | refine SW.block ?_ | refine SW.normB ?_ | refine SW.normT ?_ | refine XT ?_ | refine XF ?_ | refine XC (fun h => ?_) (fun h => ?_) | (refine Xm (.a 0) ?_; first | refine Xd (m1) ?_ | refine Xa (m1) ?_ | refine Xb (m1) ?_) | (refine Xm (.a 0) ?_; first | refine Xd (m2) ?_ | refine Xa (m2) ?_ | refine Xb (m2) ?_) | (refine Xm (.a 0) ?_; first | refine Xd (m3) ?_ | refine Xa (m3) ?_ | refine Xb (m3) ?_) | (refine Xm (.a 0) ?_; first | refine Xd (m4) ?_ | refine Xa (m4) ?_ | refine Xb (m4) ?_) | (refine Xm (.a 0) ?_; first | refine Xd (m5) ?_ | refine Xa (m5) ?_ | refine Xb (m5) ?_) | simp only [go_sem, optI, Option.getD_some, Option.getD_none, Int.reduceToNat, reduceIte, Nat.reduceEqDiff, Nat.reduceAdd, Nat.reduceMul, Nat.reduceSub, Nat.reduceLT, Nat.reduceLeDiff, reduceCtorEq, *] | refine Xs _ (fun h => ?_) (fun h => ?_) | with_reducible refine And.intro ?_ ?_
    all_goals first | (intro r hr; simp at hr; subst hr; rfl) | (simp [bytesC]; omega) | (simp; done) | omega | rfl | skip
    all_goals first | (refine Xrm ?_ ?_ <;> simp [Wn.leO, resOf, Wn.le, Wn.leL, Wn.cw, C.scal, scal, cuO, encRole, encCred] <;> done) | (exfalso; simp_all; done)
  · obtain ⟨q, c5, hq, f5, m5⟩ := role_ex c4 f4.2
    have hq' := roleOk_of hq
    obtain ⟨q1, q2⟩ := q
    refine ⟨⟨2, ⟨r1, r2⟩, 0, ⟨q1, q2⟩, ⟨0, 0⟩, u, n⟩, c5, credOk_of hr' hu' hn' (.inr (.inl ⟨rfl, rfl, hq', rfl⟩)), f14.trans f5, ?_⟩
    clear f14 f4 f5 hq hq' hr' hu' hn' hc
    simp only [cuO, encRole] at *
    refine XM good (fn := Tryz.f67) rfl ?_
    try simp only [List.getD_cons_zero, List.getD_cons_succ]
    repeat' first | refine SW.step good fun K hK => ?_ | refine X2 good fun K hK => ?_ | refine X3 good fun K hK => ?_ | refine SW.seqK fun J hJ => ?_ | refine SW.last good fun K hK => ?_ | (refine hK _ ?_; clear hK K) | (refine hJ _ _ (Wk.refl _) ?_; clear hJ J) | clear hK K | clear hJ J | refine SW.skip ?_ | refine SW.ret ?_ | refine SW.retT ?_ | refine SW.retB ?_ | refine SW.exit ?_ | refine SW.exitT ?_ | refine SW.exitB ?_ | refine XN ?_ | refine SW.block ?_ | refine SW.normB ?_ | refine SW.normT ?_ | refine XT ?_ | refine XF ?_ | refine XC (fun h => ?_) (fun h => ?_) | (refine Xm (.a 0) ?_; first | refine Xd (m1) ?_ | refine Xa (m1) ?_ | refine Xb (m1) ?_) | (refine Xm (.a 0) ?_; first | refine Xd (m2) ?_ | refine Xa (m2) ?_ | refine Xb (m2) ?_) | (refine Xm (.a 0) ?_; first | refine Xd (m3) ?_ | refine Xa (m3) ?_ | refine Xb (m3) ?_) | (refine Xm (.a 0) ?_; first | refine Xd (m4) ?_ | refine Xa (m4) ?_ | refine Xb (m4) ?_) | (refine Xm (.a 0) ?_; first | refine Xd (m5) ?_ | refine Xa (m5) ?_ | refine Xb (m5) ?_) | simp only [go_sem, optI, Option.getD_some, Option.getD_none, Int.reduceToNat, reduceIte, Nat.reduceEqDiff, Nat.reduceAdd, Nat.reduceMul, Nat.reduceSub, Nat.reduceLT, Nat.reduceLeDiff, reduceCtorEq, *] | refine Xs _ (fun h => ?_) (fun h => ?_) | with_reducible refine And.intro ?_ ?_
    all_goals first | (intro r hr; simp at hr; subst hr; rfl) | (simp [bytesC]; omega) | (simp; done) | omega | rfl | skip
    all_goals first | (refine Xrm ?_ ?_ <;> simp [Wn.leO, resOf, Wn.le, Wn.leL, Wn.cw, C.scal, scal, cuO, encRole, encCred] <;> done) | (exfalso; simp_all; done)
  · obtain ⟨q, c5, hq, f5, m5⟩ := role_ex c4 f4.2
    have hq' := roleOk_of hq
    obtain ⟨q1, q2⟩ := q
    obtain ⟨w, c6, hw, f6, m6⟩ := below_ex c5 2 f5.2 (by decide) (by decide)
    refine ⟨⟨3, ⟨r1, r2⟩, 0, ⟨q1, q2⟩, ⟨0, w⟩, u, n⟩, c6, credOk_of hr' hu' hn' (.inr (.inr (.inl ⟨rfl, rfl, hq', roleOk_of ⟨by simp only; omega, hw⟩, rfl⟩))), (f14.trans f5).trans f6, ?_⟩
    clear f14 f4 f5 f6 hq hq' hr' hu' hn' hw hc
    simp only [cuO, encRole] at *
    refine XM good (fn := Tryz.f67) rfl ?_
    try simp only [List.getD_cons_zero, List.getD_cons_succ]
    repeat' first | refine SW.step good fun K hK => ?_ | refine X2 good fun K hK => ?_ | refine X3 good fun K hK => ?_ | refine SW.seqK fun J hJ => ?_ | refine SW.last good fun K hK => ?_ | (refine hK _ ?_; clear hK K) | (refine hJ _ _ (Wk.refl _) ?_; clear hJ J) | clear hK K | clear hJ J | refine SW.skip ?_ | refine SW.ret ?_ | refine SW.retT ?_ | refine SW.retB ?_ | refine SW.exit ?_ | refine SW.exitT ?_ | refine SW.exitB ?_ | refine XN ?_ | refine SW.block ?_ | refine SW.normB ?_ | refine SW.normT ?_ | refine XT ?_ | refine XF ?_ | refine XC (fun h => ?_) (fun h => ?_) | (refine Xm (.a 0) ?_; first | refine Xd (m1) ?_ | refine Xa (m1) ?_ | refine Xb (m1) ?_) | (refine Xm (.a 0) ?_; first | refine Xd (m2) ?_ | refine Xa (m2) ?_ | refine Xb (m2) ?_) | (refine Xm (.a 0) ?_; first | refine Xd (m3) ?_ | refine Xa (m3) ?_ | refine Xb (m3) ?_) | (refine Xm (.a 0) ?_; first | refine Xd (m4) ?_ | refine Xa (m4) ?_ | refine Xb (m4) ?_) | (refine Xm (.a 0) ?_; first | refine Xd (m5) ?_ | refine Xa (m5) ?_ | refine Xb (m5) ?_) | (refine Xm (.a 0) ?_; first | refine Xd (m6) ?_ | refine Xa (m6) ?_ | refine Xb (m6) ?_) | simp only [go_sem, optI, Option.getD_some, Option.getD_none, Int.reduceToNat, reduceIte, Nat.reduceEqDiff, Nat.reduceAdd, Nat.reduceMul, Nat.reduceSub, Nat.reduceLT, Nat.reduceLeDiff, reduceCtorEq, *] | refine Xs _ (fun h => ?_) (fun h => ?_) | with_reducible refine And.intro ?_ ?_
    all_goals first | (intro r hr; simp at hr; subst hr; rfl) | (simp [bytesC]; omega) | (simp; done) | omega | rfl | skip
    all_goals first | (refine Xrm ?_ ?_ <;> simp [Wn.leO, resOf, Wn.le, Wn.leL, Wn.cw, C.scal, scal, cuO, encRole, encCred] <;> done) | (exfalso; simp_all; done)
  · obtain ⟨q, c5, hq, f5, m5⟩ := role_ex c4 f4.2
    have hq' := roleOk_of hq
    obtain ⟨q1, q2⟩ := q
    obtain ⟨p, c6, hp, f6, m6⟩ := role_ex c5 f5.2
    have hp' := roleOk_of hp
    obtain ⟨p1, p2⟩ := p
    refine ⟨⟨4, ⟨r1, r2⟩, 0, ⟨q1, q2⟩, ⟨p1, p2⟩, u, n⟩, c6, credOk_of hr' hu' hn' (.inr (.inr (.inr ⟨rfl, rfl, hq', hp'⟩))), (f14.trans f5).trans f6, ?_⟩
    clear f14 f4 f5 f6 hq hq' hr' hu' hn' hp hp' hc
    simp only [cuO, encRole] at *
    refine XM good (fn := Tryz.f67) rfl ?_
    try simp only [List.getD_cons_zero, List.getD_cons_succ]
    repeat' first | refine SW.step good fun K hK => ?_ | refine X2 good fun K hK => ?_ | refine X3 good fun K hK => ?_ | refine SW.seqK fun J hJ => ?_ | refine SW.last good fun K hK => ?_ | (refine hK _ ?_; clear hK K) | (refine hJ _ _ (Wk.refl _) ?_; clear hJ J) | clear hK K | clear hJ J | refine SW.skip ?_ | refine SW.ret ?_ | refine SW.retT ?_ | refine SW.retB ?_ | refine SW.exit ?_ | refine SW.exitT ?_ | refine SW.exitB ?_ | refine XN ?_ | refine SW.block ?_ | refine SW.normB ?_ | refine SW.normT ?_ | refine XT ?_ | refine XF ?_ | refine XC (fun h => ?_) (fun h => ?_) | (refine Xm (.a 0) ?_; first | refine Xd (m1) ?_ | refine Xa (m1) ?_ | refine Xb (m1) ?_) | (refine Xm (.a 0) ?_; first | refine Xd (m2) ?_ | refine Xa (m2) ?_ | refine Xb (m2) ?_) | (refine Xm (.a 0) ?_; first | refine Xd (m3) ?_ | refine Xa (m3) ?_ | refine Xb (m3) ?_) | (refine Xm (.a 0) ?_; first | refine Xd (m4) ?_ | refine Xa (m4) ?_ | refine Xb (m4) ?_) | (refine Xm (.a 0) ?_; first | refine Xd (m5) ?_ | refine Xa (m5) ?_ | refine Xb (m5) ?_) | (refine Xm (.a 0) ?_; first | refine Xd (m6) ?_ | refine Xa (m6) ?_ | refine Xb (m6) ?_) | simp only [go_sem, optI, Option.getD_some, Option.getD_none, Int.reduceToNat, reduceIte, Nat.reduceEqDiff, Nat.reduceAdd, Nat.reduceMul, Nat.reduceSub, Nat.reduceLT, Nat.reduceLeDiff, reduceCtorEq, *] | refine Xs _ (fun h => ?_) (fun h => ?_) | with_reducible refine And.intro ?_ ?_
    all_goals first | (intro r hr; simp at hr; subst hr; rfl) | (simp [bytesC]; omega) | (simp; done) | omega | rfl | skip
    all_goals first | (refine Xrm ?_ ?_ <;> simp [Wn.leO, resOf, Wn.le, Wn.leL, Wn.cw, C.scal, scal, cuO, encRole, encCred] <;> done) | (exfalso; simp_all; done)
set_option maxHeartbeats 2000000 in
theorem start_ex (c : Cur) (hc : c.ok) : ∃ (L : List Int) (c' : Cur), (1 ≤ L.length ∧ L.length ≤ 8) ∧ c' = cuS c ∧ MC Tryz.prog 66 [.ptr (.a 0) 0] [cuO c] (.c false (.sl (L.map intC))) [some (cuO c')] [] := by
  have m1 := mc_Below c 5 hc (by decide) (by decide)
  have hr := mod_rng (cval c) 5 (by decide)
  generalize cval c % 5 = x at *
  obtain ⟨k, rfl⟩ : ∃ k : Nat, x = (k : Int) := ⟨x.toNat, by omega⟩
  have hk : k = 0 ∨ k = 1 ∨ k = 2 ∨ k = 3 ∨ k = 4 := by omega
  clear hr
  refine ⟨([[10, 80, 150, 220, 30, 100, 200, 250], [1, 2, 3, 4, 5, 6, 7, 8], [250, 5, 60, 130, 255, 0, 90, 128], [64, 128, 192, 0, 32, 96], [9, 99, 199, 249]] : List (List Int)).getD k [], cuS c, ?_, rfl, ?_⟩
  · rcases hk with rfl | rfl | rfl | rfl | rfl <;> decide
  · generalize cuS c = c1 at *
    clear hc
    simp only [cuO] at *
    rcases hk with rfl | rfl | rfl | rfl | rfl
    · skip
      refine XM good (fn := Tryz.f66) rfl ?_
      try simp only [List.getD_cons_zero, List.getD_cons_succ]
      repeat' first | refine SW.step good fun K hK => ?_ | refine X2 good fun K hK => ?_ | refine X3 good fun K hK => ?_ | refine SW.seqK fun J hJ => ?_ | refine SW.last good fun K hK => ?_ | (refine hK _ ?_; clear hK K) | (refine hJ _ _ (Wk.refl _) ?_; clear hJ J) | clear hK K | clear hJ J | refine SW.skip ?_ | refine SW.ret ?_ | refine SW.retT ?_ | refine SW.retB ?_ | refine SW.exit ?_ | refine SW.exitT ?_ | refine SW.exitB ?_ | refine XN ?_ | refine SW.block ?_ | refine SW.normB ?_ | refine SW.normT ?_ | refine XT ?_ | refine XF ?_ | refine XC (fun h => ?_) (fun h => ?_) | (refine Xm (.a 0) ?_; first | refine Xd (m1) ?_ | refine Xa (m1) ?_ | refine Xb (m1) ?_) | simp only [go_sem, optI, Option.getD_some, Option.getD_none, Int.reduceToNat, reduceIte, Nat.reduceEqDiff, Nat.reduceAdd, Nat.reduceMul, Nat.reduceSub, Nat.reduceLT, Nat.reduceLeDiff, reduceCtorEq, *] | refine Xs _ (fun h => ?_) (fun h => ?_) | with_reducible refine And.intro ?_ ?_
      all_goals first | (intro r hr; simp at hr; subst hr; rfl) | (simp [bytesC]; omega) | (simp; done) | omega | rfl | skip
      all_goals first | (refine Xrm ?_ ?_ <;> simp [Wn.leO, resOf, Wn.le, Wn.leL, Wn.cw, C.scal, scal, cuO, encRole, encCred] <;> done) | (exfalso; simp_all; done)
    · skip
      refine XM good (fn := Tryz.f66) rfl ?_
      try simp only [List.getD_cons_zero, List.getD_cons_succ]
      repeat' first | refine SW.step good fun K hK => ?_ | refine X2 good fun K hK => ?_ | refine X3 good fun K hK => ?_ | refine SW.seqK fun J hJ => ?_ | refine SW.last good fun K hK => ?_ | (refine hK _ ?_; clear hK K) | (refine hJ _ _ (Wk.refl _) ?_; clear hJ J) | clear hK K | clear hJ J | refine SW.skip ?_ | refine SW.ret ?_ | refine SW.retT ?_ | refine SW.retB ?_ | refine SW.exit ?_ | refine SW.exitT ?_ | refine SW.exitB ?_ | refine XN ?_ | refine SW.block ?_ | refine SW.normB ?_ | refine SW.normT ?_ | refine XT ?_ | refine XF ?_ | refine XC (fun h => ?_) (fun h => ?_) | (refine Xm (.a 0) ?_; first | refine Xd (m1) ?_ | refine Xa (m1) ?_ | refine Xb (m1) ?_) | simp only [go_sem, optI, Option.getD_some, Option.getD_none, Int.reduceToNat, reduceIte, Nat.reduceEqDiff, Nat.reduceAdd, Nat.reduceMul, Nat.reduceSub, Nat.reduceLT, Nat.reduceLeDiff, reduceCtorEq, *] | refine Xs _ (fun h => ?_) (fun h => ?_) | with_reducible refine And.intro ?_ ?_
      all_goals first | (intro r hr; simp at hr; subst hr; rfl) | (simp [bytesC]; omega) | (simp; done) | omega | rfl | skip
      all_goals first | (refine Xrm ?_ ?_ <;> simp [Wn.leO, resOf, Wn.le, Wn.leL, Wn.cw, C.scal, scal, cuO, encRole, encCred] <;> done) | (exfalso; simp_all; done)
    · skip
      refine XM good (fn := Tryz.f66) rfl ?_
      try simp only [List.getD_cons_zero, List.getD_cons_succ]
      repeat' first | refine SW.step good fun K hK => ?_ | refine X2 good fun K hK => ?_ | refine X3 good fun K hK => ?_ | refine SW.seqK fun J hJ => ?_ | refine SW.last good fun K hK => ?_ | (refine hK _ ?_; clear hK K) | (refine hJ _ _ (Wk.refl _) ?_; clear hJ J) | clear hK K | clear hJ J | refine SW.skip ?_ | refine SW.ret ?_ | refine SW.retT ?_ | refine SW.retB ?_ | refine SW.exit ?_ | refine SW.exitT ?_ | refine SW.exitB ?_ | refine XN ?_ | refine SW.block ?_ | refine SW.normB ?_ | refine SW.normT ?_ | refine XT ?_ | refine XF ?_ | refine XC (fun h => ?_) (fun h => ?_) | (refine Xm (.a 0) ?_; first | refine Xd (m1) ?_ | refine Xa (m1) ?_ | refine Xb (m1) ?_) | simp only [go_sem, optI, Option.getD_some, Option.getD_none, Int.reduceToNat, reduceIte, Nat.reduceEqDiff, Nat.reduceAdd, Nat.reduceMul, Nat.reduceSub, Nat.reduceLT, Nat.reduceLeDiff, reduceCtorEq, *] | refine Xs _ (fun h => ?_) (fun h => ?_) | with_reducible refine And.intro ?_ ?_
      all_goals first | (intro r hr; simp at hr; subst hr; rfl) | (simp [bytesC]; omega) | (simp; done) | omega | rfl | skip
      all_goals first | (refine Xrm ?_ ?_ <;> simp [Wn.leO, resOf, Wn.le, Wn.leL, Wn.cw, C.scal, scal, cuO, encRole, encCred] <;> done) | (exfalso; simp_all; done)
    · skip
      refine XM good (fn := Tryz.f66) rfl ?_
      try simp only [List.getD_cons_zero, List.getD_cons_succ]
      repeat' first | refine SW.step good fun K hK => ?_ | refine X2 good fun K hK => ?_ | refine X3 good fun K hK => ?_ | refine SW.seqK fun J hJ => ?_ | refine SW.last good fun K hK => ?_ | (refine hK _ ?_; clear hK K) | (refine hJ _ _ (Wk.refl _) ?_; clear hJ J) | clear hK K | clear hJ J | refine SW.skip ?_ | refine SW.ret ?_ | refine SW.retT ?_ | refine SW.retB ?_ | refine SW.exit ?_ | refine SW.exitT ?_ | refine SW.exitB ?_ | refine XN ?_ | refine SW.block ?_ | refine SW.normB ?_ | refine SW.normT ?_ | refine XT ?_ | refine XF ?_ | refine XC (fun h => ?_) (fun h => ?_) | (refine Xm (.a 0) ?_; first | refine Xd (m1) ?_ | refine Xa (m1) ?_ | refine Xb (m1) ?_) | simp only [go_sem, optI, Option.getD_some, Option.getD_none, Int.reduceToNat, reduceIte, Nat.reduceEqDiff, Nat.reduceAdd, Nat.reduceMul, Nat.reduceSub, Nat.reduceLT, Nat.reduceLeDiff, reduceCtorEq, *] | refine Xs _ (fun h => ?_) (fun h => ?_) | with_reducible refine And.intro ?_ ?_
      all_goals first | (intro r hr; simp at hr; subst hr; rfl) | (simp [bytesC]; omega) | (simp; done) | omega | rfl | skip
      all_goals first | (refine Xrm ?_ ?_ <;> simp [Wn.leO, resOf, Wn.le, Wn.leL, Wn.cw, C.scal, scal, cuO, encRole, encCred] <;> done) | (exfalso; simp_all; done)
    · skip
      refine XM good (fn := Tryz.f66) rfl ?_
      try simp only [List.getD_cons_zero, List.getD_cons_succ]
      repeat' first | refine SW.step good fun K hK => ?_ | refine X2 good fun K hK => ?_ | refine X3 good fun K hK => ?_ | refine SW.seqK fun J hJ => ?_ | refine SW.last good fun K hK => ?_ | (refine hK _ ?_; clear hK K) | (refine hJ _ _ (Wk.refl _) ?_; clear hJ J) | clear hK K | clear hJ J | refine SW.skip ?_ | refine SW.ret ?_ | refine SW.retT ?_ | refine SW.retB ?_ | refine SW.exit ?_ | refine SW.exitT ?_ | refine SW.exitB ?_ | refine XN ?_ | refine SW.block ?_ | refine SW.normB ?_ | refine SW.normT ?_ | refine XT ?_ | refine XF ?_ | refine XC (fun h => ?_) (fun h => ?_) | (refine Xm (.a 0) ?_; first | refine Xd (m1) ?_ | refine Xa (m1) ?_ | refine Xb (m1) ?_) | simp only [go_sem, optI, Option.getD_some, Option.getD_none, Int.reduceToNat, reduceIte, Nat.reduceEqDiff, Nat.reduceAdd, Nat.reduceMul, Nat.reduceSub, Nat.reduceLT, Nat.reduceLeDiff, reduceCtorEq, *] | refine Xs _ (fun h => ?_) (fun h => ?_) | with_reducible refine And.intro ?_ ?_
      all_goals first | (intro r hr; simp at hr; subst hr; rfl) | (simp [bytesC]; omega) | (simp; done) | omega | rfl | skip
      all_goals first | (refine Xrm ?_ ?_ <;> simp [Wn.leO, resOf, Wn.le, Wn.leL, Wn.cw, C.scal, scal, cuO, encRole, encCred] <;> done) | (exfalso; simp_all; done)
set_option maxHeartbeats 2000000 in
theorem any_ex (c : Cur) (hc : c.ok) : ∃ (x : Cred) (c' : Cur), Fwd c c' ∧ MC Tryz.prog 45 [.ptr (.a 0) 0] [cuO c] (encCred x) [some (cuO c')] [] := by
  obtain ⟨k, c1, hk, f1, m1⟩ := below_ex c 10 hc (by decide) (by decide)
  obtain ⟨y, c2, hy, f2, m2⟩ := below_ex c1 60 f1.2 (by decide) (by decide)
  obtain ⟨⟨xk, ⟨o1, o2⟩, xw, ⟨a1, a2⟩, ⟨b1, b2⟩, xt, xn⟩, c3, _, f3, m3⟩ := cred_ex c2 f2.2
  have f13 := (f1.trans f2).trans f3
  have y0 : 0 ≤ y := hy.1
  have t3 : y.tmod 3 = y % 3 := Int.tmod_eq_emod_of_nonneg y0
  clear f1 f2 f3 hc hy
  simp only [cuO, encCred] at *
  by_cases k0 : k = 0
  · subst k0
    clear t3
    refine ⟨⟨y.tmod 6, ⟨o1, o2⟩, xw, ⟨a1, a2⟩, ⟨b1, b2⟩, xt, xn⟩, c3, f13, ?_⟩
    refine XM good (fn := Tryz.f45) rfl ?_
    try simp only [List.getD_cons_zero, List.getD_cons_succ]
    repeat' first | refine SW.step good fun K hK => ?_ | refine X2 good fun K hK => ?_ | refine X3 good fun K hK => ?_ | refine SW.seqK fun J hJ => ?_ | refine SW.last good fun K hK => ?_ | (refine hK _ ?_; clear hK K) | (refine hJ _ _ (Wk.refl _) ?_; clear hJ J) | clear hK K | clear hJ J | refine SW.skip ?_ | refine SW.ret ?_ | refine SW.retT ?_ | refine SW.retB ?_ | refine SW.exit ?_ | refine SW.exitT ?_ | refine SW.exitB ?_ | refine XN ?_ | refine SW.block ?_ | refine SW.normB ?_ | refine SW.normT ?_ | refine XT ?_ | refine XF ?_ | refine XC (fun h => ?_) (fun h => ?_) | (refine Xm (.a 0) ?_; first | refine Xd (m1) ?_ | refine Xa (m1) ?_ | refine Xb (m1) ?_) | (refine Xm (.a 0) ?_; first | refine Xd (m2) ?_ | refine Xa (m2) ?_ | refine Xb (m2) ?_) | (refine Xm (.a 0) ?_; first | refine Xd (m3) ?_ | refine Xa (m3) ?_ | refine Xb (m3) ?_) | simp only [go_sem, optI, Option.getD_some, Option.getD_none, Int.reduceToNat, reduceIte, Nat.reduceEqDiff, Nat.reduceAdd, Nat.reduceMul, Nat.reduceSub, Nat.reduceLT, Nat.reduceLeDiff, reduceCtorEq, *] | refine Xs _ (fun h => ?_) (fun h => ?_) | with_reducible refine And.intro ?_ ?_
    all_goals first | (intro r hr; simp at hr; subst hr; rfl) | (simp [bytesC]; omega) | (simp; done) | omega | rfl | skip
    all_goals first | (refine Xrm ?_ ?_ <;> simp [Wn.leO, resOf, Wn.le, Wn.leL, Wn.cw, C.scal, scal, cuO, encRole, encCred] <;> done) | (exfalso; simp_all; done)
  · by_cases k1 : k = 1
    · subst k1
      clear t3
      refine ⟨⟨xk, ⟨o1, o2⟩, IntKind.i64.wrap (y.tmod 9 - 1), ⟨a1, a2⟩, ⟨b1, b2⟩, xt, xn⟩, c3, f13, ?_⟩
      refine XM good (fn := Tryz.f45) rfl ?_
      try simp only [List.getD_cons_zero, List.getD_cons_succ]
      repeat' first | refine SW.step good fun K hK => ?_ | refine X2 good fun K hK => ?_ | refine X3 good fun K hK => ?_ | refine SW.seqK fun J hJ => ?_ | refine SW.last good fun K hK => ?_ | (refine hK _ ?_; clear hK K) | (refine hJ _ _ (Wk.refl _) ?_; clear hJ J) | clear hK K | clear hJ J | refine SW.skip ?_ | refine SW.ret ?_ | refine SW.retT ?_ | refine SW.retB ?_ | refine SW.exit ?_ | refine SW.exitT ?_ | refine SW.exitB ?_ | refine XN ?_ | refine SW.block ?_ | refine SW.normB ?_ | refine SW.normT ?_ | refine XT ?_ | refine XF ?_ | refine XC (fun h => ?_) (fun h => ?_) | (refine Xm (.a 0) ?_; first | refine Xd (m1) ?_ | refine Xa (m1) ?_ | refine Xb (m1) ?_) | (refine Xm (.a 0) ?_; first | refine Xd (m2) ?_ | refine Xa (m2) ?_ | refine Xb (m2) ?_) | (refine Xm (.a 0) ?_; first | refine Xd (m3) ?_ | refine Xa (m3) ?_ | refine Xb (m3) ?_) | simp only [go_sem, optI, Option.getD_some, Option.getD_none, Int.reduceToNat, reduceIte, Nat.reduceEqDiff, Nat.reduceAdd, Nat.reduceMul, Nat.reduceSub, Nat.reduceLT, Nat.reduceLeDiff, reduceCtorEq, *] | refine Xs _ (fun h => ?_) (fun h => ?_) | with_reducible refine And.intro ?_ ?_
      all_goals first | (intro r hr; simp at hr; subst hr; rfl) | (simp [bytesC]; omega) | (simp; done) | omega | rfl | skip
      all_goals first | (refine Xrm ?_ ?_ <;> simp [Wn.leO, resOf, Wn.le, Wn.leL, Wn.cw, C.scal, scal, cuO, encRole, encCred] <;> done) | (exfalso; simp_all; done)
    · by_cases k2 : k = 2
      · subst k2
        clear t3
        refine ⟨⟨xk, ⟨o1, o2⟩, xw, ⟨y.tmod 8, y.tmod 5⟩, ⟨b1, b2⟩, xt, xn⟩, c3, f13, ?_⟩
        refine XM good (fn := Tryz.f45) rfl ?_
        try simp only [List.getD_cons_zero, List.getD_cons_succ]
        repeat' first | refine SW.step good fun K hK => ?_ | refine X2 good fun K hK => ?_ | refine X3 good fun K hK => ?_ | refine SW.seqK fun J hJ => ?_ | refine SW.last good fun K hK => ?_ | (refine hK _ ?_; clear hK K) | (refine hJ _ _ (Wk.refl _) ?_; clear hJ J) | clear hK K | clear hJ J | refine SW.skip ?_ | refine SW.ret ?_ | refine SW.retT ?_ | refine SW.retB ?_ | refine SW.exit ?_ | refine SW.exitT ?_ | refine SW.exitB ?_ | refine XN ?_ | refine SW.block ?_ | refine SW.normB ?_ | refine SW.normT ?_ | refine XT ?_ | refine XF ?_ | refine XC (fun h => ?_) (fun h => ?_) | (refine Xm (.a 0) ?_; first | refine Xd (m1) ?_ | refine Xa (m1) ?_ | refine Xb (m1) ?_) | (refine Xm (.a 0) ?_; first | refine Xd (m2) ?_ | refine Xa (m2) ?_ | refine Xb (m2) ?_) | (refine Xm (.a 0) ?_; first | refine Xd (m3) ?_ | refine Xa (m3) ?_ | refine Xb (m3) ?_) | simp only [go_sem, optI, Option.getD_some, Option.getD_none, Int.reduceToNat, reduceIte, Nat.reduceEqDiff, Nat.reduceAdd, Nat.reduceMul, Nat.reduceSub, Nat.reduceLT, Nat.reduceLeDiff, reduceCtorEq, *] | refine Xs _ (fun h => ?_) (fun h => ?_) | with_reducible refine And.intro ?_ ?_
        all_goals first | (intro r hr; simp at hr; subst hr; rfl) | (simp [bytesC]; omega) | (simp; done) | omega | rfl | skip
        all_goals first | (refine Xrm ?_ ?_ <;> simp [Wn.leO, resOf, Wn.le, Wn.leL, Wn.cw, C.scal, scal, cuO, encRole, encCred] <;> done) | (exfalso; simp_all; done)
      · by_cases k3 : k = 3
        · subst k3
          clear t3
          refine ⟨⟨xk, ⟨o1, o2⟩, xw, ⟨a1, a2⟩, ⟨y.tmod 3, b2⟩, xt, xn⟩, c3, f13, ?_⟩
          refine XM good (fn := Tryz.f45) rfl ?_
          try simp only [List.getD_cons_zero, List.getD_cons_succ]
          repeat' first | refine SW.step good fun K hK => ?_ | refine X2 good fun K hK => ?_ | refine X3 good fun K hK => ?_ | refine SW.seqK fun J hJ => ?_ | refine SW.last good fun K hK => ?_ | (refine hK _ ?_; clear hK K) | (refine hJ _ _ (Wk.refl _) ?_; clear hJ J) | clear hK K | clear hJ J | refine SW.skip ?_ | refine SW.ret ?_ | refine SW.retT ?_ | refine SW.retB ?_ | refine SW.exit ?_ | refine SW.exitT ?_ | refine SW.exitB ?_ | refine XN ?_ | refine SW.block ?_ | refine SW.normB ?_ | refine SW.normT ?_ | refine XT ?_ | refine XF ?_ | refine XC (fun h => ?_) (fun h => ?_) | (refine Xm (.a 0) ?_; first | refine Xd (m1) ?_ | refine Xa (m1) ?_ | refine Xb (m1) ?_) | (refine Xm (.a 0) ?_; first | refine Xd (m2) ?_ | refine Xa (m2) ?_ | refine Xb (m2) ?_) | (refine Xm (.a 0) ?_; first | refine Xd (m3) ?_ | refine Xa (m3) ?_ | refine Xb (m3) ?_) | simp only [go_sem, optI, Option.getD_some, Option.getD_none, Int.reduceToNat, reduceIte, Nat.reduceEqDiff, Nat.reduceAdd, Nat.reduceMul, Nat.reduceSub, Nat.reduceLT, Nat.reduceLeDiff, reduceCtorEq, *] | refine Xs _ (fun h => ?_) (fun h => ?_) | with_reducible refine And.intro ?_ ?_
          all_goals first | (intro r hr; simp at hr; subst hr; rfl) | (simp [bytesC]; omega) | (simp; done) | omega | rfl | skip
          all_goals first | (refine Xrm ?_ ?_ <;> simp [Wn.leO, resOf, Wn.le, Wn.leL, Wn.cw, C.scal, scal, cuO, encRole, encCred] <;> done) | (exfalso; simp_all; done)
        · by_cases k4 : k = 4
          · subst k4
            have h3 : y % 3 = 0 ∨ y % 3 = 1 ∨ y % 3 = 2 := by omega
            generalize y % 3 = q at *
            refine ⟨⟨xk, ⟨o1, o2⟩, xw, ⟨a1, a2⟩, ⟨b1, b2⟩, if q = 0 then 0 else if q = 1 then 10000 else 1, xn⟩, c3, f13, ?_⟩
            rcases h3 with rfl | rfl | rfl
            all_goals skip
            · skip
              refine XM good (fn := Tryz.f45) rfl ?_
              try simp only [List.getD_cons_zero, List.getD_cons_succ]
              repeat' first | refine SW.step good fun K hK => ?_ | refine X2 good fun K hK => ?_ | refine X3 good fun K hK => ?_ | refine SW.seqK fun J hJ => ?_ | refine SW.last good fun K hK => ?_ | (refine hK _ ?_; clear hK K) | (refine hJ _ _ (Wk.refl _) ?_; clear hJ J) | clear hK K | clear hJ J | refine SW.skip ?_ | refine SW.ret ?_ | refine SW.retT ?_ | refine SW.retB ?_ | refine SW.exit ?_ | refine SW.exitT ?_ | refine SW.exitB ?_ | refine XN ?_ | refine SW.block ?_ | refine SW.normB ?_ | refine SW.normT ?_ | refine XT ?_ | refine XF ?_ | refine XC (fun h => ?_) (fun h => ?_) | (refine Xm (.a 0) ?_; first | refine Xd (m1) ?_ | refine Xa (m1) ?_ | refine Xb (m1) ?_) | (refine Xm (.a 0) ?_; first | refine Xd (m2) ?_ | refine Xa (m2) ?_ | refine Xb (m2) ?_) | (refine Xm (.a 0) ?_; first | refine Xd (m3) ?_ | refine Xa (m3) ?_ | refine Xb (m3) ?_) | simp only [go_sem, optI, Option.getD_some, Option.getD_none, Int.reduceToNat, reduceIte, Nat.reduceEqDiff, Nat.reduceAdd, Nat.reduceMul, Nat.reduceSub, Nat.reduceLT, Nat.reduceLeDiff, reduceCtorEq, *] | refine Xs _ (fun h => ?_) (fun h => ?_) | with_reducible refine And.intro ?_ ?_
              all_goals first | (intro r hr; simp at hr; subst hr; rfl) | (simp [bytesC]; omega) | (simp; done) | omega | rfl | skip
              all_goals first | (refine Xrm ?_ ?_ <;> simp [Wn.leO, resOf, Wn.le, Wn.leL, Wn.cw, C.scal, scal, cuO, encRole, encCred] <;> done) | (exfalso; simp_all; done)
            · skip
              refine XM good (fn := Tryz.f45) rfl ?_
              try simp only [List.getD_cons_zero, List.getD_cons_succ]
              repeat' first | refine SW.step good fun K hK => ?_ | refine X2 good fun K hK => ?_ | refine X3 good fun K hK => ?_ | refine SW.seqK fun J hJ => ?_ | refine SW.last good fun K hK => ?_ | (refine hK _ ?_; clear hK K) | (refine hJ _ _ (Wk.refl _) ?_; clear hJ J) | clear hK K | clear hJ J | refine SW.skip ?_ | refine SW.ret ?_ | refine SW.retT ?_ | refine SW.retB ?_ | refine SW.exit ?_ | refine SW.exitT ?_ | refine SW.exitB ?_ | refine XN ?_ | refine SW.block ?_ | refine SW.normB ?_ | refine SW.normT ?_ | refine XT ?_ | refine XF ?_ | refine XC (fun h => ?_) (fun h => ?_) | (refine Xm (.a 0) ?_; first | refine Xd (m1) ?_ | refine Xa (m1) ?_ | refine Xb (m1) ?_) | (refine Xm (.a 0) ?_; first | refine Xd (m2) ?_ | refine Xa (m2) ?_ | refine Xb (m2) ?_) | (refine Xm (.a 0) ?_; first | refine Xd (m3) ?_ | refine Xa (m3) ?_ | refine Xb (m3) ?_) | simp only [go_sem, optI, Option.getD_some, Option.getD_none, Int.reduceToNat, reduceIte, Nat.reduceEqDiff, Nat.reduceAdd, Nat.reduceMul, Nat.reduceSub, Nat.reduceLT, Nat.reduceLeDiff, reduceCtorEq, *] | refine Xs _ (fun h => ?_) (fun h => ?_) | with_reducible refine And.intro ?_ ?_
              all_goals first | (intro r hr; simp at hr; subst hr; rfl) | (simp [bytesC]; omega) | (simp; done) | omega | rfl | skip
              all_goals first | (refine Xrm ?_ ?_ <;> simp [Wn.leO, resOf, Wn.le, Wn.leL, Wn.cw, C.scal, scal, cuO, encRole, encCred] <;> done) | (exfalso; simp_all; done)
            · skip
              refine XM good (fn := Tryz.f45) rfl ?_
              try simp only [List.getD_cons_zero, List.getD_cons_succ]
              repeat' first | refine SW.step good fun K hK => ?_ | refine X2 good fun K hK => ?_ | refine X3 good fun K hK => ?_ | refine SW.seqK fun J hJ => ?_ | refine SW.last good fun K hK => ?_ | (refine hK _ ?_; clear hK K) | (refine hJ _ _ (Wk.refl _) ?_; clear hJ J) | clear hK K | clear hJ J | refine SW.skip ?_ | refine SW.ret ?_ | refine SW.retT ?_ | refine SW.retB ?_ | refine SW.exit ?_ | refine SW.exitT ?_ | refine SW.exitB ?_ | refine XN ?_ | refine SW.block ?_ | refine SW.normB ?_ | refine SW.normT ?_ | refine XT ?_ | refine XF ?_ | refine XC (fun h => ?_) (fun h => ?_) | (refine Xm (.a 0) ?_; first | refine Xd (m1) ?_ | refine Xa (m1) ?_ | refine Xb (m1) ?_) | (refine Xm (.a 0) ?_; first | refine Xd (m2) ?_ | refine Xa (m2) ?_ | refine Xb (m2) ?_) | (refine Xm (.a 0) ?_; first | refine Xd (m3) ?_ | refine Xa (m3) ?_ | refine Xb (m3) ?_) | simp only [go_sem, optI, Option.getD_some, Option.getD_none, Int.reduceToNat, reduceIte, Nat.reduceEqDiff, Nat.reduceAdd, Nat.reduceMul, Nat.reduceSub, Nat.reduceLT, Nat.reduceLeDiff, reduceCtorEq, *] | refine Xs _ (fun h => ?_) (fun h => ?_) | with_reducible refine And.intro ?_ ?_
              all_goals first | (intro r hr; simp at hr; subst hr; rfl) | (simp [bytesC]; omega) | (simp; done) | omega | rfl | skip
              all_goals first | (refine Xrm ?_ ?_ <;> simp [Wn.leO, resOf, Wn.le, Wn.leL, Wn.cw, C.scal, scal, cuO, encRole, encCred] <;> done) | (exfalso; simp_all; done)
          · have d0 : decide (k = 0) = false := by simpa using k0
            have d1 : decide (k = 1) = false := by simpa using k1
            have d2 : decide (k = 2) = false := by simpa using k2
            have d3 : decide (k = 3) = false := by simpa using k3
            have d4 : decide (k = 4) = false := by simpa using k4
            clear k0 k1 k2 k3 k4 t3
            refine ⟨⟨xk, ⟨o1, o2⟩, xw, ⟨a1, a2⟩, ⟨b1, b2⟩, xt, xn⟩, c3, f13, ?_⟩
            refine XM good (fn := Tryz.f45) rfl ?_
            try simp only [List.getD_cons_zero, List.getD_cons_succ]
            repeat' first | refine SW.step good fun K hK => ?_ | refine X2 good fun K hK => ?_ | refine X3 good fun K hK => ?_ | refine SW.seqK fun J hJ => ?_ | refine SW.last good fun K hK => ?_ | (refine hK _ ?_; clear hK K) | (refine hJ _ _ (Wk.refl _) ?_; clear hJ J) | clear hK K | clear hJ J | refine SW.skip ?_ | refine SW.ret ?_ | refine SW.retT ?_ | refine SW.retB ?_ | refine SW.exit ?_ | refine SW.exitT ?_ | refine SW.exitB ?_ | refine XN ?_ | refine SW.block ?_ | refine SW.normB ?_ | refine SW.normT ?_ | refine XT ?_ | refine XF ?_ | refine XC (fun h => ?_) (fun h => ?_) | (refine Xm (.a 0) ?_; first | refine Xd (m1) ?_ | refine Xa (m1) ?_ | refine Xb (m1) ?_) | (refine Xm (.a 0) ?_; first | refine Xd (m2) ?_ | refine Xa (m2) ?_ | refine Xb (m2) ?_) | (refine Xm (.a 0) ?_; first | refine Xd (m3) ?_ | refine Xa (m3) ?_ | refine Xb (m3) ?_) | simp only [go_sem, optI, Option.getD_some, Option.getD_none, Int.reduceToNat, reduceIte, Nat.reduceEqDiff, Nat.reduceAdd, Nat.reduceMul, Nat.reduceSub, Nat.reduceLT, Nat.reduceLeDiff, reduceCtorEq, *] | refine Xs _ (fun h => ?_) (fun h => ?_) | with_reducible refine And.intro ?_ ?_
            all_goals first | (intro r hr; simp at hr; subst hr; rfl) | (simp [bytesC]; omega) | (simp; done) | omega | rfl | skip
            all_goals first | (refine Xrm ?_ ?_ <;> simp [Wn.leO, resOf, Wn.le, Wn.leL, Wn.cw, C.scal, scal, cuO, encRole, encCred] <;> done) | (exfalso; simp_all; done)
end Go.Proofs.YtoemclhjcbcjaaaGreat.AB
namespace Go.Proofs.YtoemclhjcbcjaaaGreat.AB
open Go
set_option maxRecDepth 100000
set_option linter.unusedSimpArgs false
set_option linter.unusedVariables false
theorem kil0 (x : AV) : kilM [] [] x = x := by cases x <;> simp [kilM, pos]
theorem onkil0 (x : AV) : x.on (kilM [] []) = x := on_id_L kil0 x
theorem obkil0 (o : Ob) : o.on (kilM [] []) = o := by
  cases o with
  | box cs => simp only [Ob.on, AV.onL_map]; congr 1; rw [List.map_congr_left (fun x _ => onkil0 x)]; simp
  | row => rfl
  | reg => rfl
theorem hM_one (h : Hp) (d : Nat) (o : Ob) : hM h [] d [] [o] = hupd h (.s d 0) (some (o.on (bkM [] d))) := by
  funext i
  unfold hM org hupd
  have hk : (h i).map (Ob.on (kilM [] [])) = h i := by cases h i <;> simp [obkil0]
  cases i with
  | s d' q =>
    simp only [pos, List.length_singleton]
    by_cases e : d' = d ∧ q < 1
    · obtain ⟨rfl, hq⟩ := e
      obtain rfl : q = 0 := by omega
      simp [hAR]
    · rw [if_neg e, hk, if_neg (by intro z; injection z with z1 z2; exact e ⟨z1, by omega⟩)]
  | a k => simp only [pos, hk]; simp
  | r k => simp only [pos, hk]; simp
theorem hM_none (h : Hp) (d : Nat) : hM h [] d [] [] = h := by
  funext i
  unfold hM org
  have hk : (h i).map (Ob.on (kilM [] [])) = h i := by cases h i <;> simp [obkil0]
  cases i <;> simp [pos, hk]
theorem Xzb {P : Program} {st : St} {K : St → Prop} {l : List GOp} {n : Nat} {xs : List Operand} {f : FuncId} {args : List AV} {res : AV} {o : Ob} (h : MC P f args [] res [] [o])
    (k : semL P l ⟨upd st.t n (res.on (bkM [] n)), hupd st.h (.s n 0) (some (o.on (bkM [] n)))⟩ K)
    (ha : (xs.map (evalO st)).map (AV.on (lendM st.h [])) = args := by simp only [List.map, go_sem, optI, Option.getD_some, Option.getD_none, Int.reduceToNat, reduceIte, Nat.reduceEqDiff, Nat.reduceAdd, Nat.reduceMul, Nat.reduceSub, Nat.reduceLT, Nat.reduceLeDiff, reduceCtorEq] <;> rfl)
    (hr : res.clean = true := by rfl) (hc : o.clean = true := by (first | rfl | (simp [Ob.clean, AV.cleanL, AV.clean, C.free]; done)))
    (hf : st.h (.s n 0) = none := by (first | rfl | (simp; done) | (simp only [go_sem, optI, Option.getD_some, Option.getD_none, Int.reduceToNat, reduceIte, Nat.reduceEqDiff, Nat.reduceAdd, Nat.reduceMul, Nat.reduceSub, Nat.reduceLT, Nat.reduceLeDiff, reduceCtorEq]; done))) : semL P (⟨some n, .callm f xs, none⟩ :: l) st K := by
  refine L_callm0 [] (obs := []) rfl .nil ha rfl (L_callm1 h ⟨hr, by simpa using hc, by simp, by simp⟩ (fun q hq => ?_) ?_)
  · obtain rfl : q = 0 := by simp at hq; omega
    exact hf
  · rw [hM_one, show (fun q => (st.t q).on (kilM [] [])) = st.t from funext fun q => onkil0 _]
    exact k
theorem Xzc {P : Program} {st : St} {K : St → Prop} {l : List GOp} {n : Nat} {xs : List Operand} {f : FuncId} {args : List AV} {res : AV} (h : MC P f args [] res [] [])
    (k : semL P l ⟨upd st.t n (res.on (bkM [] n)), st.h⟩ K)
    (ha : (xs.map (evalO st)).map (AV.on (lendM st.h [])) = args := by simp only [List.map, go_sem, optI, Option.getD_some, Option.getD_none, Int.reduceToNat, reduceIte, Nat.reduceEqDiff, Nat.reduceAdd, Nat.reduceMul, Nat.reduceSub, Nat.reduceLT, Nat.reduceLeDiff, reduceCtorEq] <;> rfl)
    (hr : res.clean = true := by rfl) : semL P (⟨some n, .callm f xs, none⟩ :: l) st K := by
  refine L_callm0 [] (obs := []) rfl .nil ha rfl (L_callm1 h ⟨hr, by simp, by simp, by simp⟩ (fun q hq => by simp at hq) ?_)
  rw [hM_none, show (fun q => (st.t q).on (kilM [] [])) = st.t from funext fun q => onkil0 _]
  exact k
theorem choose_fn {X : Type} (x0 : X) {P : Cur → X → Cur → Prop} (h : ∀ c, c.ok → ∃ x c', P c x c') : ∃ F : Cur → X × Cur, ∀ c, c.ok → P c (F c).1 (F c).2 := by
  have := Classical.axiomOfChoice (r := fun (c : Cur) (y : X × Cur) => c.ok → P c y.1 y.2) (fun c => by
    by_cases hc : c.ok
    · obtain ⟨x, c', hx⟩ := h c hc
      exact ⟨(x, c'), fun _ => hx⟩
    · exact ⟨(x0, c), fun q => absurd q hc⟩)
  exact this
theorem asked_ex (c : Cur) (hc : c.ok) : ∃ (x : Cred) (c' : Cur), Fwd c c' ∧ MC Tryz.prog 68 [.ptr (.a 0) 0] [cuO c] (encCred x) [some (cuO c')] [] := by
  obtain ⟨r, c1, hr, f1, m1⟩ := role_ex c hc
  obtain ⟨w, c2, hw, f2, m2⟩ := below_ex c1 6 f1.2 (by decide) (by decide)
  obtain ⟨r1, r2⟩ := r
  refine ⟨⟨1, ⟨r1, r2⟩, w, ⟨0, 0⟩, ⟨0, 0⟩, 1, 0⟩, c2, f1.trans f2, ?_⟩
  clear f1 f2 hr hw hc
  simp only [cuO, encRole] at *
  refine XM good (fn := Tryz.f68) rfl ?_
  try simp only [List.getD_cons_zero, List.getD_cons_succ]
  repeat' first | refine SW.step good fun K hK => ?_ | refine X2 good fun K hK => ?_ | refine X3 good fun K hK => ?_ | refine SW.seqK fun J hJ => ?_ | refine SW.last good fun K hK => ?_ | (refine hK _ ?_; clear hK K) | (refine hJ _ _ (Wk.refl _) ?_; clear hJ J) | clear hK K | clear hJ J | refine SW.skip ?_ | refine SW.ret ?_ | refine SW.retT ?_ | refine SW.retB ?_ | refine SW.exit ?_ | refine SW.exitT ?_ | refine SW.exitB ?_ | refine XN ?_ | refine SW.block ?_ | refine SW.normB ?_ | refine SW.normT ?_ | refine XT ?_ | refine XF ?_ | refine XC (fun h => ?_) (fun h => ?_) | (refine Xm (.a 0) ?_; first | refine Xd (m1) ?_ | refine Xa (m1) ?_ | refine Xb (m1) ?_) | (refine Xm (.a 0) ?_; first | refine Xd (m2) ?_ | refine Xa (m2) ?_ | refine Xb (m2) ?_) | simp only [go_sem, optI, Option.getD_some, Option.getD_none, Int.reduceToNat, reduceIte, Nat.reduceEqDiff, Nat.reduceAdd, Nat.reduceMul, Nat.reduceSub, Nat.reduceLT, Nat.reduceLeDiff, reduceCtorEq, *] | refine Xs _ (fun h => ?_) (fun h => ?_) | with_reducible refine And.intro ?_ ?_
  all_goals first | (intro r hr; simp at hr; subst hr; rfl) | (simp [bytesC]; omega) | (simp; done) | omega | rfl | skip
  all_goals first | (refine Xrm ?_ ?_ <;> simp [Wn.leO, resOf, Wn.le, Wn.leL, Wn.cw, C.scal, scal, cuO, encRole, encCred] <;> done) | (exfalso; simp_all; done)
end Go.Proofs.YtoemclhjcbcjaaaGreat.AB
