/- Draws: words with signatures. -/
import Derived.Test.YtoemclhjcbcjaaaGreatAbCcDraw
import Derived.Test.YtoemclhjcbcjaaaGreatAbBgForm
import Derived.Test.YtoemclhjcbcjaaaGreatAbClFor
import Derived.Test.YtoemclhjcbcjaaaGreatAbCiFns
namespace Go.Proofs.YtoemclhjcbcjaaaGreat.AB
open Go
set_option maxRecDepth 100000
set_option linter.unusedSimpArgs false
set_option linter.unusedVariables false
theorem pick_ex (c : Cur) (L : List (List UInt8)) (hc : c.ok) (h1 : 1 ≤ L.length) (h2 : L.length ≤ 256) : ∃ x c', x ∈ L ∧ Fwd c c' ∧ MC Tryz.prog 69 [.ptr (.a 0) 0, .c true (.sl (L.map strC))] [cuO c] (vS x) [some (cuO c')] [] := by
  obtain ⟨x, c1, hx, hf, m1⟩ := below_ex c L.length hc (by omega) (by omega)
  obtain ⟨k, rfl⟩ : ∃ k : Nat, x = (k : Int) := ⟨x.toNat, by omega⟩
  have hk : k < L.length := by omega
  have e := getD_map L strC [] hk
  refine ⟨L[k], c1, List.getElem_mem hk, hf, ?_⟩
  generalize L[k] = y at *
  clear hf hc hx
  simp only [cuO] at *
  refine XM good (fn := Tryz.f69) rfl ?_
  try simp only [List.getD_cons_zero, List.getD_cons_succ]
  repeat' first | refine SW.step good fun K hK => ?_ | refine X2 good fun K hK => ?_ | refine X3 good fun K hK => ?_ | refine SW.seqK fun J hJ => ?_ | refine SW.last good fun K hK => ?_ | (refine hK _ ?_; clear hK K) | (refine hJ _ _ (Wk.refl _) ?_; clear hJ J) | clear hK K | clear hJ J | refine SW.skip ?_ | refine SW.ret ?_ | refine SW.retT ?_ | refine SW.retB ?_ | refine SW.exit ?_ | refine SW.exitT ?_ | refine SW.exitB ?_ | refine XN ?_ | refine SW.block ?_ | refine SW.normB ?_ | refine SW.normT ?_ | refine XT ?_ | refine XF ?_ | refine XC (fun h => ?_) (fun h => ?_) | (refine Xm (.a 0) ?_; first | refine Xd (m1) ?_ | refine Xa (m1) ?_ | refine Xb (m1) ?_) | simp only [go_sem, optI, Option.getD_some, Option.getD_none, Int.reduceToNat, reduceIte, Nat.reduceEqDiff, Nat.reduceAdd, Nat.reduceMul, Nat.reduceSub, Nat.reduceLT, Nat.reduceLeDiff, reduceCtorEq, *] | refine Xs _ (fun h => ?_) (fun h => ?_) | with_reducible refine And.intro ?_ ?_
  all_goals first | (intro r hr; simp at hr; subst hr; rfl) | (simp [bytesC]; omega) | (simp; done) | omega | rfl | skip
  all_goals first | (refine Xrm ?_ ?_ <;> simp [Wn.leO, resOf, Wn.le, Wn.leL, Wn.cw, C.scal, scal, cuO, encRole, encCred] <;> done) | (exfalso; simp_all; done)
theorem text1_ex (c : Cur) (hc : c.ok) : ∃ (t : List UInt8) (c' : Cur), t.length = 1 ∧ Fwd c c' ∧ MC Tryz.prog 52 [.ptr (.a 0) 0, vI 1] [cuO c] (vS t) [some (cuO c')] [] := by
  have m1 := mc_Byte c hc
  have hv := cval_rng c
  obtain ⟨x, hx⟩ : ∃ x : UInt8, cval c = (x.toNat : Int) := ⟨UInt8.ofNat (cval c).toNat, by rw [UInt8.toNat_ofNat']; omega⟩
  rw [hx] at m1
  have hw : IntKind.u8.wrap (x.toNat : Int) = (x.toNat : Int) := wrap8 (by omega) (by have := x.toNat_lt; omega)
  refine ⟨[x], cuS c, rfl, ⟨rfl, cuS_ok hc⟩, ?_⟩
  generalize cuS c = c1 at *
  clear hc hv hx
  simp only [cuO] at *
  refine XM good (fn := Tryz.f52) rfl ?_
  try simp only [List.getD_cons_zero, List.getD_cons_succ]
  repeat' first | refine SW.step good fun K hK => ?_ | refine X2 good fun K hK => ?_ | refine X3 good fun K hK => ?_ | refine SW.seqK fun J hJ => ?_ | refine SW.last good fun K hK => ?_ | (refine hK _ ?_; clear hK K) | (refine hJ _ _ (Wk.refl _) ?_; clear hJ J) | clear hK K | clear hJ J | refine SW.skip ?_ | refine SW.ret ?_ | refine SW.retT ?_ | refine SW.retB ?_ | refine SW.exit ?_ | refine SW.exitT ?_ | refine SW.exitB ?_ | refine XN ?_ | refine SW.block ?_ | refine SW.normB ?_ | refine SW.normT ?_ | refine XT ?_ | refine XF ?_ | refine XC (fun h => ?_) (fun h => ?_) | (refine Xm (.a 0) ?_; first | refine Xd (m1) ?_ | refine Xa (m1) ?_ | refine Xb (m1) ?_) | simp only [go_sem, optI, Option.getD_some, Option.getD_none, Int.reduceToNat, reduceIte, Nat.reduceEqDiff, Nat.reduceAdd, Nat.reduceMul, Nat.reduceSub, Nat.reduceLT, Nat.reduceLeDiff, reduceCtorEq, *] | refine Xs _ (fun h => ?_) (fun h => ?_) | with_reducible refine And.intro ?_ ?_
  all_goals first | (intro r hr; simp at hr; subst hr; rfl) | (simp [bytesC]; omega) | (simp; done) | omega | rfl | skip
  refine SW.loopTo (α := Nat × Cur × List UInt8) (fun a => ⟨sl [(0, .ptr (.a 0) 0), (1, vI 1), (5, .own (.s 9 0)), (6, vI a.1)], hl [(.a 0, .box [.c false (.sl (bytesC a.2.1.b)), vI a.2.1.i, vI a.2.1.h]), (.s 9 0, .row false 5 1 (bytesC a.2.2))]⟩) (fun a => 1 - a.1) (0, c, []) (fun a => a = (0, c, []) ∨ a = (1, c1, [x])) ?_ (.inl rfl) ?_
  · (refine Xto _ _ ?_ ?_ <;> simp only [go_sem, optI, Option.getD_some, Option.getD_none, Int.reduceToNat, reduceIte, Nat.reduceEqDiff, Nat.reduceAdd, Nat.reduceMul, Nat.reduceSub, Nat.reduceLT, Nat.reduceLeDiff, reduceCtorEq, Option.some.injEq, or_true, true_or] <;> (repeat' with_reducible apply And.intro) <;> (try rfl))
    all_goals first | (simp [bytesC]; done) | (simp [Wn.leO, Wn.leL, Wn.le, Wn.cw, C.scal, scal]; done) | skip
  · rintro a (rfl | rfl)
    · simp only
      have e0 : bytesC ([] : List UInt8) = [] := rfl
      rw [e0]
      repeat' first | refine SW.step good fun K hK => ?_ | refine X2 good fun K hK => ?_ | refine X3 good fun K hK => ?_ | refine SW.seqK fun J hJ => ?_ | refine SW.last good fun K hK => ?_ | (refine hK _ ?_; clear hK K) | (refine hJ _ _ (Wk.refl _) ?_; clear hJ J) | clear hK K | clear hJ J | refine SW.skip ?_ | refine SW.ret ?_ | refine SW.retT ?_ | refine SW.retB ?_ | refine SW.exit ?_ | refine SW.exitT ?_ | refine SW.exitB ?_ | refine XN ?_ | refine SW.block ?_ | refine SW.normB ?_ | refine SW.normT ?_ | refine XT ?_ | refine XF ?_ | refine XC (fun h => ?_) (fun h => ?_) | (refine Xm (.a 0) ?_; first | refine Xd (m1) ?_ | refine Xa (m1) ?_ | refine Xb (m1) ?_) | simp only [go_sem, optI, Option.getD_some, Option.getD_none, Int.reduceToNat, reduceIte, Nat.reduceEqDiff, Nat.reduceAdd, Nat.reduceMul, Nat.reduceSub, Nat.reduceLT, Nat.reduceLeDiff, reduceCtorEq, *] | refine Xs _ (fun h => ?_) (fun h => ?_) | with_reducible refine And.intro ?_ ?_
      all_goals first | (intro r hr; simp at hr; subst hr; rfl) | (simp [bytesC]; omega) | (simp; done) | omega | rfl | skip
      all_goals refine ⟨(1, c1, [x]), .inr rfl, by simp, ?_⟩
      all_goals (refine Xto _ _ ?_ ?_ <;> simp only [go_sem, optI, Option.getD_some, Option.getD_none, Int.reduceToNat, reduceIte, Nat.reduceEqDiff, Nat.reduceAdd, Nat.reduceMul, Nat.reduceSub, Nat.reduceLT, Nat.reduceLeDiff, reduceCtorEq, Option.some.injEq, or_true, true_or] <;> (repeat' with_reducible apply And.intro) <;> (try rfl))
      all_goals first | (simp [bytesC]; done) | (simp [Wn.leO, Wn.leL, Wn.le, Wn.cw, C.scal, scal]; done) | skip
    · simp only
      repeat' first | refine SW.step good fun K hK => ?_ | refine X2 good fun K hK => ?_ | refine X3 good fun K hK => ?_ | refine SW.seqK fun J hJ => ?_ | refine SW.last good fun K hK => ?_ | (refine hK _ ?_; clear hK K) | (refine hJ _ _ (Wk.refl _) ?_; clear hJ J) | clear hK K | clear hJ J | refine SW.skip ?_ | refine SW.ret ?_ | refine SW.retT ?_ | refine SW.retB ?_ | refine SW.exit ?_ | refine SW.exitT ?_ | refine SW.exitB ?_ | refine XN ?_ | refine SW.block ?_ | refine SW.normB ?_ | refine SW.normT ?_ | refine XT ?_ | refine XF ?_ | refine XC (fun h => ?_) (fun h => ?_) | simp only [go_sem, optI, Option.getD_some, Option.getD_none, Int.reduceToNat, reduceIte, Nat.reduceEqDiff, Nat.reduceAdd, Nat.reduceMul, Nat.reduceSub, Nat.reduceLT, Nat.reduceLeDiff, reduceCtorEq, *] | refine Xs _ (fun h => ?_) (fun h => ?_) | with_reducible refine And.intro ?_ ?_
      all_goals first | (intro r hr; simp at hr; subst hr; rfl) | (simp [bytesC]; omega) | (simp; done) | omega | rfl | skip
      all_goals first | (refine Xrm ?_ ?_ <;> simp [Wn.leO, resOf, Wn.le, Wn.leL, Wn.cw, C.scal, scal, cuO, encRole, encCred] <;> done) | (exfalso; simp_all; done)
end Go.Proofs.YtoemclhjcbcjaaaGreat.AB
namespace Go.Proofs.YtoemclhjcbcjaaaGreat.AB
open Go
set_option maxRecDepth 100000
set_option linter.unusedSimpArgs false
set_option linter.unusedVariables false
theorem goneM {st : St} {o : Ob} {j : Id} (hj : ∀ k, j ≠ .a k) : Wn.gone (outM st [] [some o] []) j := by
  intro i hi
  cases i with
  | a k => intro e; exact hj k (by rw [← e]; rfl)
  | s d q => cases hi
  | r q => simp [outM, hAR] at hi
theorem vouched_ex (c : Cur) (hc : c.ok) : ∃ (v : Vouched) (c' : Cur), (v.sign.ends.length = 11 ∧ (∀ e, e ∈ v.sign.ends → e.length = 8) ∧ v.sign.way.length = 2 ∧ ∀ e, e ∈ v.sign.way → e.length = 8) ∧ Fwd c c' ∧ MC Tryz.prog 82 [.ptr (.a 0) 0] [cuO c] (encVou false v) [some (cuO c')] [] := by
  obtain ⟨x, c1, hx, f1, m1⟩ := cred_ex c hc
  obtain ⟨k, c2, hk, f2, m2⟩ := below_ex c1 4 f1.2 (by decide) (by decide)
  obtain ⟨j, rfl⟩ : ∃ j : Nat, k = (j : Int) := ⟨k.toNat, by omega⟩
  have hv := ac_VouchFor' x j hx (by omega)
  refine ⟨⟨x, ⟨j, sigE (seedOf x.of.who) j (quads (credText x)), sigW (seedOf x.of.who) j⟩⟩, c2, ⟨sigE_len _ _ _, sigE_8 _ _ _, rfl, sigW_8 _ _ (by omega)⟩, f1.trans f2, ?_⟩
  generalize sigE (seedOf x.of.who) j (quads (credText x)) = E at *
  generalize sigW (seedOf x.of.who) j = W at *
  clear hx f1 f2 hk hc
  simp only [cuO, encCred, encVou] at *
  generalize E.map strC = EE at *
  generalize W.map strC = WW at *
  refine XM good (fn := Tryz.f82) rfl ?_
  try simp only [List.getD_cons_zero, List.getD_cons_succ]
  repeat' first | refine SW.step good fun K hK => ?_ | refine X2 good fun K hK => ?_ | refine X3 good fun K hK => ?_ | refine SW.seqK fun J hJ => ?_ | refine SW.last good fun K hK => ?_ | (refine hK _ ?_; clear hK K) | (refine hJ _ _ (Wk.refl _) ?_; clear hJ J) | clear hK K | clear hJ J | refine SW.skip ?_ | refine SW.ret ?_ | refine SW.retT ?_ | refine SW.retB ?_ | refine SW.exit ?_ | refine SW.exitT ?_ | refine SW.exitB ?_ | refine XN ?_ | refine SW.block ?_ | refine SW.normB ?_ | refine SW.normT ?_ | refine XT ?_ | refine XF ?_ | refine XC (fun h => ?_) (fun h => ?_) | refine X0 ?_ | refine Xv ?_ | refine X1 (hv) ?_ | (refine Xm (.a 0) ?_; first | refine Xd (m1) ?_ | refine Xa (m1) ?_ | refine Xb (m1) ?_) | (refine Xm (.a 0) ?_; first | refine Xd (m2) ?_ | refine Xa (m2) ?_ | refine Xb (m2) ?_) | simp only [go_sem, optI, Option.getD_some, Option.getD_none, Int.reduceToNat, reduceIte, Nat.reduceEqDiff, Nat.reduceAdd, Nat.reduceMul, Nat.reduceSub, Nat.reduceLT, Nat.reduceLeDiff, reduceCtorEq, *] | refine Xs _ (fun h => ?_) (fun h => ?_) | with_reducible refine And.intro ?_ ?_
  all_goals first | (intro r hr; simp at hr; subst hr; rfl) | (simp [bytesC]; omega) | (simp; done) | omega | rfl | skip
  all_goals first | (refine Xrm ?_ ?_ <;> simp [Wn.leO, resOf, Wn.le, Wn.leL, Wn.cw, C.scal, scal, cuO, encRole, encCred] <;> done) | (exfalso; simp_all; done)
set_option maxHeartbeats 4000000 in
theorem any13_ex (c : Cur) (hc : c.ok) : ∃ (v : Vouched) (c' : Cur), (SmallS v.sign.ends ∧ SmallS v.sign.way) ∧ Fwd c c' ∧ MC Tryz.prog 71 [.ptr (.a 0) 0] [cuO c] (encVou false v) [some (cuO c')] [] := by
  obtain ⟨k, c1, hk, f1, m1⟩ := below_ex c 10 hc (by decide) (by decide)
  obtain ⟨y, c2, hy, f2, m2⟩ := below_ex c1 60 f1.2 (by decide) (by decide)
  obtain ⟨⟨⟨xk, ⟨o1, o2⟩, xw, ⟨a1, a2⟩, ⟨b1, b2⟩, xt, xn⟩, ⟨lf, E, W⟩⟩, c3, ⟨e1, e2, w1, w2⟩, f3, m3⟩ := vouched_ex c2 f2.2
  have f13 := (f1.trans f2).trans f3
  simp only at e1 e2 w1 w2
  have hE : SmallS E := ⟨by omega, fun e he => by have := e2 e he; omega⟩
  have hW : SmallS W := ⟨by omega, fun e he => by have := w2 e he; omega⟩
  by_cases k0 : k = 0
  · subst k0
    refine ⟨⟨⟨xk, ⟨o1, o2⟩, xw, ⟨a1, a2⟩, ⟨b1, b2⟩, 77, xn⟩, ⟨lf, E, W⟩⟩, c3, ⟨hE, hW⟩, f13, ?_⟩
    clear f1 f2 f3 f13 hc hy hk hE hW e1 e2 w1 w2
    simp only [cuO, encVou] at *
    generalize E.map strC = EE at *
    generalize W.map strC = WW at *
    refine XM good (fn := Tryz.f71) rfl ?_
    try simp only [List.getD_cons_zero, List.getD_cons_succ]
    repeat' first | refine SW.step good fun K hK => ?_ | refine X2 good fun K hK => ?_ | refine X3 good fun K hK => ?_ | refine SW.seqK fun J hJ => ?_ | refine SW.last good fun K hK => ?_ | (refine hK _ ?_; clear hK K) | (refine hJ _ _ (Wk.refl _) ?_; clear hJ J) | clear hK K | clear hJ J | refine SW.skip ?_ | refine SW.ret ?_ | refine SW.retT ?_ | refine SW.retB ?_ | refine SW.exit ?_ | refine SW.exitT ?_ | refine SW.exitB ?_ | refine XN ?_ | refine SW.block ?_ | refine SW.normB ?_ | refine SW.normT ?_ | refine XT ?_ | refine XF ?_ | refine XC (fun h => ?_) (fun h => ?_) | (refine Xm (.a 0) ?_; first | refine Xd (m1) ?_ | refine Xa (m1) ?_ | refine Xb (m1) ?_) | (refine Xm (.a 0) ?_; first | refine Xd (m2) ?_ | refine Xa (m2) ?_ | refine Xb (m2) ?_) | (refine Xm (.a 0) ?_; first | refine Xd (m3) ?_ | refine Xa (m3) ?_ | refine Xb (m3) ?_) | simp only [go_sem, optI, Option.getD_some, Option.getD_none, Int.reduceToNat, reduceIte, Nat.reduceEqDiff, Nat.reduceAdd, Nat.reduceMul, Nat.reduceSub, Nat.reduceLT, Nat.reduceLeDiff, reduceCtorEq, *] | refine Xs _ (fun h => ?_) (fun h => ?_) | with_reducible refine And.intro ?_ ?_
    all_goals first | (intro r hr; simp at hr; subst hr; rfl) | (simp [bytesC]; omega) | (simp; done) | omega | rfl | skip
    all_goals first | (refine Xrm ?_ ?_ <;> simp [Wn.leO, resOf, Wn.le, Wn.leL, Wn.cw, C.scal, scal, cuO, encRole, encCred] <;> done) | (exfalso; simp_all; done)
  by_cases k1 : k = 1
  · subst k1
    obtain ⟨⟨yk, ⟨p1, p2⟩, yw, ⟨g1, g2⟩, ⟨q1, q2⟩, yt, yn⟩, c4, f4, m4⟩ := any_ex c3 f3.2
    refine ⟨⟨⟨yk, ⟨p1, p2⟩, yw, ⟨g1, g2⟩, ⟨q1, q2⟩, yt, yn⟩, ⟨lf, E, W⟩⟩, c4, ⟨hE, hW⟩, f13.trans f4, ?_⟩
    clear f1 f2 f3 f4 f13 hc hy hk hE hW e1 e2 w1 w2 k0
    simp only [cuO, encVou, encCred] at *
    generalize E.map strC = EE at *
    generalize W.map strC = WW at *
    refine XM good (fn := Tryz.f71) rfl ?_
    try simp only [List.getD_cons_zero, List.getD_cons_succ]
    repeat' first | refine SW.step good fun K hK => ?_ | refine X2 good fun K hK => ?_ | refine X3 good fun K hK => ?_ | refine SW.seqK fun J hJ => ?_ | refine SW.last good fun K hK => ?_ | (refine hK _ ?_; clear hK K) | (refine hJ _ _ (Wk.refl _) ?_; clear hJ J) | clear hK K | clear hJ J | refine SW.skip ?_ | refine SW.ret ?_ | refine SW.retT ?_ | refine SW.retB ?_ | refine SW.exit ?_ | refine SW.exitT ?_ | refine SW.exitB ?_ | refine XN ?_ | refine SW.block ?_ | refine SW.normB ?_ | refine SW.normT ?_ | refine XT ?_ | refine XF ?_ | refine XC (fun h => ?_) (fun h => ?_) | (refine Xm (.a 0) ?_; first | refine Xd (m1) ?_ | refine Xa (m1) ?_ | refine Xb (m1) ?_) | (refine Xm (.a 0) ?_; first | refine Xd (m2) ?_ | refine Xa (m2) ?_ | refine Xb (m2) ?_) | (refine Xm (.a 0) ?_; first | refine Xd (m3) ?_ | refine Xa (m3) ?_ | refine Xb (m3) ?_) | (refine Xm (.a 0) ?_; first | refine Xd (m4) ?_ | refine Xa (m4) ?_ | refine Xb (m4) ?_) | simp only [go_sem, optI, Option.getD_some, Option.getD_none, Int.reduceToNat, reduceIte, Nat.reduceEqDiff, Nat.reduceAdd, Nat.reduceMul, Nat.reduceSub, Nat.reduceLT, Nat.reduceLeDiff, reduceCtorEq, *] | refine Xs _ (fun h => ?_) (fun h => ?_) | with_reducible refine And.intro ?_ ?_
    all_goals first | (intro r hr; simp at hr; subst hr; rfl) | (simp [bytesC]; omega) | (simp; done) | omega | rfl | skip
    all_goals first | (refine Xrm ?_ ?_ <;> simp [Wn.leO, resOf, Wn.le, Wn.leL, Wn.cw, C.scal, scal, cuO, encRole, encCred] <;> done) | (exfalso; simp_all; done)
  by_cases k2 : k = 2
  · subst k2
    refine ⟨⟨⟨xk, ⟨o1, o2⟩, xw, ⟨a1, a2⟩, ⟨b1, b2⟩, xt, xn⟩, ⟨IntKind.i64.wrap (y.tmod 6 - 1), E, W⟩⟩, c3, ⟨hE, hW⟩, f13, ?_⟩
    clear f1 f2 f3 f13 hc hy hk hE hW e1 e2 w1 w2 k0 k1
    simp only [cuO, encVou] at *
    generalize E.map strC = EE at *
    generalize W.map strC = WW at *
    refine XM good (fn := Tryz.f71) rfl ?_
    try simp only [List.getD_cons_zero, List.getD_cons_succ]
    repeat' first | refine SW.step good fun K hK => ?_ | refine X2 good fun K hK => ?_ | refine X3 good fun K hK => ?_ | refine SW.seqK fun J hJ => ?_ | refine SW.last good fun K hK => ?_ | (refine hK _ ?_; clear hK K) | (refine hJ _ _ (Wk.refl _) ?_; clear hJ J) | clear hK K | clear hJ J | refine SW.skip ?_ | refine SW.ret ?_ | refine SW.retT ?_ | refine SW.retB ?_ | refine SW.exit ?_ | refine SW.exitT ?_ | refine SW.exitB ?_ | refine XN ?_ | refine SW.block ?_ | refine SW.normB ?_ | refine SW.normT ?_ | refine XT ?_ | refine XF ?_ | refine XC (fun h => ?_) (fun h => ?_) | (refine Xm (.a 0) ?_; first | refine Xd (m1) ?_ | refine Xa (m1) ?_ | refine Xb (m1) ?_) | (refine Xm (.a 0) ?_; first | refine Xd (m2) ?_ | refine Xa (m2) ?_ | refine Xb (m2) ?_) | (refine Xm (.a 0) ?_; first | refine Xd (m3) ?_ | refine Xa (m3) ?_ | refine Xb (m3) ?_) | simp only [go_sem, optI, Option.getD_some, Option.getD_none, Int.reduceToNat, reduceIte, Nat.reduceEqDiff, Nat.reduceAdd, Nat.reduceMul, Nat.reduceSub, Nat.reduceLT, Nat.reduceLeDiff, reduceCtorEq, *] | refine Xs _ (fun h => ?_) (fun h => ?_) | with_reducible refine And.intro ?_ ?_
    all_goals first | (intro r hr; simp at hr; subst hr; rfl) | (simp [bytesC]; omega) | (simp; done) | omega | rfl | skip
    all_goals first | (refine Xrm ?_ ?_ <;> simp [Wn.leO, resOf, Wn.le, Wn.leL, Wn.cw, C.scal, scal, cuO, encRole, encCred] <;> done) | (exfalso; simp_all; done)
  by_cases k3 : k = 3
  · subst k3
    have hE2 : SmallS ([97, 98, 99, 100, 101, 102, 103, 104] :: E.drop 1) := ⟨by simp; omega, fun e he => by
      rcases List.mem_cons.1 he with rfl | he
      · decide
      · have := e2 e (List.mem_of_mem_drop he); omega⟩
    refine ⟨⟨⟨xk, ⟨o1, o2⟩, xw, ⟨a1, a2⟩, ⟨b1, b2⟩, xt, xn⟩, ⟨lf, [97, 98, 99, 100, 101, 102, 103, 104] :: E.drop 1, W⟩⟩, c3, ⟨hE2, hW⟩, f13, ?_⟩
    have el : (E.map strC).length = 11 := by rw [List.length_map]; exact e1
    have eq1 : ([97, 98, 99, 100, 101, 102, 103, 104] :: E.drop 1).map strC = strC [97, 98, 99, 100, 101, 102, 103, 104] :: (E.map strC).drop 1 := by rw [List.map_cons, List.map_drop]
    have ez : ∀ r, r ∈ E.map strC → r.length = 1 := fun r hr => by obtain ⟨x, _, rfl⟩ := List.mem_map.1 hr; rfl
    clear f1 f2 f3 f13 hc hy hk hE hW hE2 e1 e2 w1 w2 k0 k1 k2
    simp only [cuO, encVou, eq1] at *
    clear eq1
    generalize E.map strC = EE at *
    generalize W.map strC = WW at *
    have el2 : 11 ≤ EE.length ∧ EE.length ≤ 11 := by omega
    clear el
    refine XM good (fn := Tryz.f71) rfl ?_
    try simp only [List.getD_cons_zero, List.getD_cons_succ]
    repeat' first | refine SW.step good fun K hK => ?_ | refine X2 good fun K hK => ?_ | refine X3 good fun K hK => ?_ | refine SW.seqK fun J hJ => ?_ | refine SW.last good fun K hK => ?_ | (refine hK _ ?_; clear hK K) | (refine hJ _ _ (Wk.refl _) ?_; clear hJ J) | clear hK K | clear hJ J | refine SW.skip ?_ | refine SW.ret ?_ | refine SW.retT ?_ | refine SW.retB ?_ | refine SW.exit ?_ | refine SW.exitT ?_ | refine SW.exitB ?_ | refine XN ?_ | refine SW.block ?_ | refine SW.normB ?_ | refine SW.normT ?_ | refine XT ?_ | refine XF ?_ | refine XC (fun h => ?_) (fun h => ?_) | (refine Xm (.a 0) ?_; first | refine Xd (m1) ?_ | refine Xa (m1) ?_ | refine Xb (m1) ?_) | (refine Xm (.a 0) ?_; first | refine Xd (m2) ?_ | refine Xa (m2) ?_ | refine Xb (m2) ?_) | (refine Xm (.a 0) ?_; first | refine Xd (m3) ?_ | refine Xa (m3) ?_ | refine Xb (m3) ?_) | simp only [go_sem, optI, Option.getD_some, Option.getD_none, Int.reduceToNat, reduceIte, Nat.reduceEqDiff, Nat.reduceAdd, Nat.reduceMul, Nat.reduceSub, Nat.reduceLT, Nat.reduceLeDiff, reduceCtorEq, *] | refine Xs _ (fun h => ?_) (fun h => ?_) | with_reducible refine And.intro ?_ ?_
    all_goals first | (intro r hr; simp at hr; subst hr; rfl) | (simp [bytesC]; omega) | (simp; done) | omega | rfl | skip
    · intro r hr; exact ez r (List.mem_of_mem_drop (List.mem_of_mem_take hr))
    · refine Xrm ?_ ?_
      · simp [Wn.leO, Wn.leL, Wn.le, Wn.cw, C.scal, scal]
      · have htk : (EE.drop 1).take (EE.length - 1) = EE.drop 1 := List.take_of_length_le (by simp)
        simp only [Wn.le, Wn.leL, Wn.cw, resOf, C.scal, scal, and_true, true_and, or_true, true_or]
        refine ⟨goneM (by simp), _, _, _, by simp only [outM, go_sem, optI, Option.getD_some, Option.getD_none, Int.reduceToNat, reduceIte, Nat.reduceEqDiff, Nat.reduceAdd, Nat.reduceMul, Nat.reduceSub, Nat.reduceLT, Nat.reduceLeDiff, reduceCtorEq] <;> rfl, ?_⟩
        rw [htk]
  by_cases k4 : k = 4
  · subst k4
    have hW2 : SmallS (W.take 1) := ⟨by simp; omega, fun e he => by have := w2 e (List.mem_of_mem_take he); omega⟩
    refine ⟨⟨⟨xk, ⟨o1, o2⟩, xw, ⟨a1, a2⟩, ⟨b1, b2⟩, xt, xn⟩, ⟨lf, E, W.take 1⟩⟩, c3, ⟨hE, hW2⟩, f13, ?_⟩
    have el : (W.map strC).length = 2 := by rw [List.length_map]; exact w1
    have eq1 : (W.take 1).map strC = (W.map strC).take 1 := List.map_take ..
    have ez : ∀ r, r ∈ W.map strC → r.length = 1 := fun r hr => by obtain ⟨x, _, rfl⟩ := List.mem_map.1 hr; rfl
    clear f1 f2 f3 f13 hc hy hk hE hW hW2 e1 e2 w1 w2 k0 k1 k2 k3
    simp only [cuO, encVou, eq1] at *
    clear eq1
    generalize E.map strC = EE at *
    generalize W.map strC = WW at *
    have el2 : 2 ≤ WW.length ∧ WW.length ≤ 2 := by omega
    clear el
    refine XM good (fn := Tryz.f71) rfl ?_
    try simp only [List.getD_cons_zero, List.getD_cons_succ]
    repeat' first | refine SW.step good fun K hK => ?_ | refine X2 good fun K hK => ?_ | refine X3 good fun K hK => ?_ | refine SW.seqK fun J hJ => ?_ | refine SW.last good fun K hK => ?_ | (refine hK _ ?_; clear hK K) | (refine hJ _ _ (Wk.refl _) ?_; clear hJ J) | clear hK K | clear hJ J | refine SW.skip ?_ | refine SW.ret ?_ | refine SW.retT ?_ | refine SW.retB ?_ | refine SW.exit ?_ | refine SW.exitT ?_ | refine SW.exitB ?_ | refine XN ?_ | refine SW.block ?_ | refine SW.normB ?_ | refine SW.normT ?_ | refine XT ?_ | refine XF ?_ | refine XC (fun h => ?_) (fun h => ?_) | (refine Xm (.a 0) ?_; first | refine Xd (m1) ?_ | refine Xa (m1) ?_ | refine Xb (m1) ?_) | (refine Xm (.a 0) ?_; first | refine Xd (m2) ?_ | refine Xa (m2) ?_ | refine Xb (m2) ?_) | (refine Xm (.a 0) ?_; first | refine Xd (m3) ?_ | refine Xa (m3) ?_ | refine Xb (m3) ?_) | simp only [go_sem, optI, Option.getD_some, Option.getD_none, Int.reduceToNat, reduceIte, Nat.reduceEqDiff, Nat.reduceAdd, Nat.reduceMul, Nat.reduceSub, Nat.reduceLT, Nat.reduceLeDiff, reduceCtorEq, *] | refine Xs _ (fun h => ?_) (fun h => ?_) | with_reducible refine And.intro ?_ ?_
    all_goals first | (intro r hr; simp at hr; subst hr; rfl) | (simp [bytesC]; omega) | (simp; done) | omega | rfl | skip
    all_goals first | (refine Xrm ?_ ?_ <;> simp [Wn.leO, resOf, Wn.le, Wn.leL, Wn.cw, C.scal, scal, cuO, encRole, encCred] <;> done) | (exfalso; simp_all; done)
  have d0 : decide (k = 0) = false := by simpa using k0
  have d1 : decide (k = 1) = false := by simpa using k1
  have d2 : decide (k = 2) = false := by simpa using k2
  have d3 : decide (k = 3) = false := by simpa using k3
  have d4 : decide (k = 4) = false := by simpa using k4
  refine ⟨⟨⟨xk, ⟨o1, o2⟩, xw, ⟨a1, a2⟩, ⟨b1, b2⟩, xt, xn⟩, ⟨lf, E, W⟩⟩, c3, ⟨hE, hW⟩, f13, ?_⟩
  clear f1 f2 f3 f13 hc hy hk hE hW e1 e2 w1 w2 k0 k1 k2 k3 k4
  simp only [cuO, encVou] at *
  generalize E.map strC = EE at *
  generalize W.map strC = WW at *
  refine XM good (fn := Tryz.f71) rfl ?_
  try simp only [List.getD_cons_zero, List.getD_cons_succ]
  repeat' first | refine SW.step good fun K hK => ?_ | refine X2 good fun K hK => ?_ | refine X3 good fun K hK => ?_ | refine SW.seqK fun J hJ => ?_ | refine SW.last good fun K hK => ?_ | (refine hK _ ?_; clear hK K) | (refine hJ _ _ (Wk.refl _) ?_; clear hJ J) | clear hK K | clear hJ J | refine SW.skip ?_ | refine SW.ret ?_ | refine SW.retT ?_ | refine SW.retB ?_ | refine SW.exit ?_ | refine SW.exitT ?_ | refine SW.exitB ?_ | refine XN ?_ | refine SW.block ?_ | refine SW.normB ?_ | refine SW.normT ?_ | refine XT ?_ | refine XF ?_ | refine XC (fun h => ?_) (fun h => ?_) | (refine Xm (.a 0) ?_; first | refine Xd (m1) ?_ | refine Xa (m1) ?_ | refine Xb (m1) ?_) | (refine Xm (.a 0) ?_; first | refine Xd (m2) ?_ | refine Xa (m2) ?_ | refine Xb (m2) ?_) | (refine Xm (.a 0) ?_; first | refine Xd (m3) ?_ | refine Xa (m3) ?_ | refine Xb (m3) ?_) | simp only [go_sem, optI, Option.getD_some, Option.getD_none, Int.reduceToNat, reduceIte, Nat.reduceEqDiff, Nat.reduceAdd, Nat.reduceMul, Nat.reduceSub, Nat.reduceLT, Nat.reduceLeDiff, reduceCtorEq, *] | refine Xs _ (fun h => ?_) (fun h => ?_) | with_reducible refine And.intro ?_ ?_
  all_goals first | (intro r hr; simp at hr; subst hr; rfl) | (simp [bytesC]; omega) | (simp; done) | omega | rfl | skip
  all_goals first | (refine Xrm ?_ ?_ <;> simp [Wn.leO, resOf, Wn.le, Wn.leL, Wn.cw, C.scal, scal, cuO, encRole, encCred] <;> done) | (exfalso; simp_all; done)
theorem bring_ex (c : Cur) (hc : c.ok) : ∃ (x : List UInt8) (c' : Cur), x.length ≤ 400 ∧ Fwd c c' ∧ ∃ (v : Vouched) (c1 : Cur) (t : List UInt8), MC Tryz.prog 71 [.ptr (.a 0) 0] [cuO c] (encVou false v) [some (cuO c1)] [] ∧
    AC Tryz.prog 70 [encVou true v] (vS t) [] ∧ MC Tryz.prog 69 [.ptr (.a 0) 0, .c true (.sl (([[], [106, 117, 110, 107], t] : List (List UInt8)).map strC))] [cuO c1] (vS x) [some (cuO c')] [] := by
  obtain ⟨v, c1, ⟨s1, s2⟩, f1, m1⟩ := any13_ex c hc
  obtain ⟨t, ht, h2⟩ := ac_VouchedText' v s1 s2
  obtain ⟨x, c2, hx, f2, m2⟩ := pick_ex c1 [[], [106, 117, 110, 107], t] f1.2 (by simp) (by simp)
  refine ⟨x, c2, ?_, f1.trans f2, v, c1, t, m1, h2, m2⟩
  simp only [List.mem_cons, List.not_mem_nil, or_false] at hx
  rcases hx with rfl | rfl | rfl
  · simp
  · simp
  · exact ht
end Go.Proofs.YtoemclhjcbcjaaaGreat.AB
