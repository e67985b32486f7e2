/- Steps that follow, proofs that are right: both functions. -/
import Derived.Test.YtbgeagbgfioaaaaGreatAbDbStep
namespace Go.Proofs.YtbgeagbgfioaaaaGreat.AB
open Go
set_option maxRecDepth 100000
set_option linter.unusedSimpArgs false
set_option linter.unusedVariables false
/-- a fact: a role, and who has it -/
structure Fct where
  of : Role
  who : Int
def fctB (f : Fct) (a b c : Int) : Bool := f.of.who == a && (f.of.name == b && f.who == c)
def zStepS : Step := ⟨⟨0, ⟨0, 0⟩, 0, ⟨0, 0⟩, ⟨0, 0⟩, 0, 0⟩, ⟨0, 0⟩, 0, []⟩
def zFct : Fct := ⟨⟨0, 0⟩, 0⟩
/-- the fact of a step -/
def factAt (L : List Step) (x : Int) : Fct := ⟨(L.getD x.toNat zStepS).of, (L.getD x.toNat zStepS).who⟩
def inP (i : Nat) (x : Int) : Bool := decide (0 ≤ x ∧ x < i)
def fcts (L : List Step) (s : Step) : List Fct := s.src.map (factAt L)
def kindOk (s : Step) (F : List Fct) : Bool :=
  if s.cred.kind = 1 then decide ((F.length : Int) = 0) && decide (s.who = s.cred.who)
  else if s.cred.kind = 2 then decide ((F.length : Int) = 1) && fctB (F.getD 0 zFct) s.cred.a.who s.cred.a.name s.who
  else if s.cred.kind = 3 then decide ((F.length : Int) = 2) && ((F.getD 0 zFct).of.who == s.cred.a.who && ((F.getD 0 zFct).of.name == s.cred.a.name && fctB (F.getD 1 zFct) (F.getD 0 zFct).who s.cred.b.name s.who))
  else decide ((F.length : Int) = 2) && (fctB (F.getD 0 zFct) s.cred.a.who s.cred.a.name s.who && fctB (F.getD 1 zFct) s.cred.b.who s.cred.b.name s.who)
def stepOkS (L : List Step) (i : Nat) (s : Step) : Bool := credOk s.cred && ((s.of.who == s.cred.of.who && s.of.name == s.cred.of.name) && (s.src.all (inP i) && kindOk s (fcts L s)))
def stepOk (L : List Step) (i : Nat) : Bool := stepOkS L i (L.getD i zStepS)
theorem stepOk_get {L : List Step} {i : Nat} (h : i < L.length) : stepOk L i = stepOkS L i L[i] := by
  unfold stepOk; simp [List.getD_eq_getElem?_getD, List.getElem?_eq_getElem h]
def proofOk (L : List Step) (r : Role) (who : Int) : Bool :=
  decide (1 ≤ (L.length : Int) ∧ (L.length : Int) ≤ 200) && ((List.range L.length).all (stepOk L) && fctB (factAt L ((L.length : Int) - 1)) r.who r.name who)
end Go.Proofs.YtbgeagbgfioaaaaGreat.AB
namespace Go.Proofs.YtbgeagbgfioaaaaGreat.AB
open Go
set_option maxRecDepth 100000
set_option linter.unusedSimpArgs false
set_option linter.unusedVariables false
def factC (f : Fct) : List C := [cI f.of.who, cI f.of.name, cI f.who]
def encFct (f : Fct) : AV := .agg [vI f.of.who, vI f.of.name, vI f.who]
attribute [go_sem] factC encFct
theorem factAt_get {L : List Step} {n : Nat} (h : n < L.length) : factAt L n = ⟨L[n].of, L[n].who⟩ := by
  unfold factAt; simp [List.getD_eq_getElem?_getD, List.getElem?_eq_getElem h]
theorem inP_dec (i : Nat) (x : Int) : decide ((0 : Int) ≤ x ∧ x ≤ (i : Int) - 1) = inP i x := by
  unfold inP; rw [decide_eq_decide]; omega
theorem inP_nat {i : Nat} {x : Int} (h : inP i x = true) : ∃ n : Nat, x = (n : Int) ∧ n < i := by
  unfold inP at h; simp only [decide_eq_true_eq] at h
  exact ⟨x.toNat, by omega, by omega⟩
theorem ac_shownT (L : List Step) (i n : Nat) (hn : n < i) (hi : i < L.length) (hb : L.length ≤ 1048576) : AC Tryz.prog 67 [.c true (.sl (L.map stepC)), vI i, vI n] (.tup [encFct (factAt L n), vB true]) [] := by
  have a := ac_in (n : Int) 0 ((i : Int) - 1)
  rw [inP_dec, show inP i (n : Int) = true by unfold inP; simp; omega] at a
  have hw : IntKind.i64.wrap ((i : Int) - 1) = (i : Int) - 1 := wrap64 (by omega) (by omega)
  have e := getD_map L stepC [] (k := n) (by omega)
  have e1 : decide ((n : Int) < L.length) = true := by simp; omega
  rw [factAt_get (by omega)]
  have hnl : n < L.length := by omega
  generalize L[n] = s at *
  refine XA good (fn := Tryz.f67) rfl ?_
  simp only [entry, List.getD_cons_zero, List.getD_cons_succ]
  repeat' first | refine SW.step good fun K hK => ?_ | refine X2 good fun K hK => ?_ | refine X3 good fun K hK => ?_ | refine SW.seqK fun J hJ => ?_ | refine SW.last good fun K hK => ?_ | (refine hK _ ?_; clear hK K) | (refine hJ _ _ (Wk.refl _) ?_; clear hJ J) | clear hK K | clear hJ J | refine SW.skip ?_ | refine SW.ret ?_ | refine SW.retT ?_ | refine SW.retB ?_ | refine SW.exit ?_ | refine SW.exitT ?_ | refine SW.exitB ?_ | refine XN ?_ | refine SW.block ?_ | refine SW.normB ?_ | refine SW.normT ?_ | refine XT ?_ | refine XF ?_ | refine XC (fun h => ?_) (fun h => ?_) | refine X0 ?_ | refine Xv ?_ | refine X1 (a) ?_ | simp only [go_sem, optI, Option.getD_some, Option.getD_none, Int.reduceToNat, reduceIte, Nat.reduceEqDiff, Nat.reduceAdd, Nat.reduceMul, Nat.reduceSub, Nat.reduceLT, Nat.reduceLeDiff, reduceCtorEq, *] | refine Xs _ (fun h => ?_) (fun h => ?_) | with_reducible refine And.intro ?_ ?_
  all_goals first | (intro r hr; simp at hr; subst hr; rfl) | (simp [bytesC]; omega) | (simp; done) | omega | rfl | skip
  all_goals (refine Xrp ?_; simp [resOf, Wn.le, Wn.leL, Wn.cw, C.scal, scal]; done)
theorem ac_shownF (L : List Step) (i : Nat) (x : Int) (hx : inP i x = false) (hi : i < L.length) (hb : L.length ≤ 1048576) : AC Tryz.prog 67 [.c true (.sl (L.map stepC)), vI i, vI x] (.tup [.agg [vI 0, vI 0, vI 0], vB false]) [] := by
  have a := ac_in x 0 ((i : Int) - 1)
  rw [inP_dec, hx] at a
  have hw : IntKind.i64.wrap ((i : Int) - 1) = (i : Int) - 1 := wrap64 (by omega) (by omega)
  clear hx
  refine XA good (fn := Tryz.f67) rfl ?_
  simp only [entry, List.getD_cons_zero, List.getD_cons_succ]
  repeat' first | refine SW.step good fun K hK => ?_ | refine X2 good fun K hK => ?_ | refine X3 good fun K hK => ?_ | refine SW.seqK fun J hJ => ?_ | refine SW.last good fun K hK => ?_ | (refine hK _ ?_; clear hK K) | (refine hJ _ _ (Wk.refl _) ?_; clear hJ J) | clear hK K | clear hJ J | refine SW.skip ?_ | refine SW.ret ?_ | refine SW.retT ?_ | refine SW.retB ?_ | refine SW.exit ?_ | refine SW.exitT ?_ | refine SW.exitB ?_ | refine XN ?_ | refine SW.block ?_ | refine SW.normB ?_ | refine SW.normT ?_ | refine XT ?_ | refine XF ?_ | refine XC (fun h => ?_) (fun h => ?_) | refine X0 ?_ | refine Xv ?_ | refine X1 (a) ?_ | simp only [go_sem, optI, Option.getD_some, Option.getD_none, Int.reduceToNat, reduceIte, Nat.reduceEqDiff, Nat.reduceAdd, Nat.reduceMul, Nat.reduceSub, Nat.reduceLT, Nat.reduceLeDiff, reduceCtorEq, *] | refine Xs _ (fun h => ?_) (fun h => ?_) | with_reducible refine And.intro ?_ ?_
  all_goals first | (intro r hr; simp at hr; subst hr; rfl) | (simp [bytesC]; omega) | (simp; done) | omega | rfl | skip
  all_goals (refine Xrp ?_; simp [resOf, Wn.le, Wn.leL, Wn.cw, C.scal, scal]; done)
end Go.Proofs.YtbgeagbgfioaaaaGreat.AB
namespace Go.Proofs.YtbgeagbgfioaaaaGreat.AB
open Go
set_option maxRecDepth 100000
set_option linter.unusedSimpArgs false
set_option linter.unusedVariables false
theorem take_all_succ {p : Int → Bool} {L : List Int} {k : Nat} (h : k < L.length) (h1 : (L.take k).all p = true) (h2 : p L[k] = true) : (L.take (k + 1)).all p = true := by
  rw [List.take_add_one, List.getElem?_eq_getElem h, List.all_append, h1]; simp [h2]
theorem all_false_at {p : Int → Bool} {L : List Int} {k : Nat} (h : k < L.length) (h2 : p L[k] = false) : L.all p = false := by
  rw [List.all_eq_false]; exact ⟨L[k], List.getElem_mem h, by simp [h2]⟩
theorem fctC_get {F : List Fct} {k : Nat} (h : k < F.length) : (F.map factC).getD k [] = factC (F.getD k zFct) := by
  rw [getD_map F factC [] h]; simp [List.getD_eq_getElem?_getD, List.getElem?_eq_getElem h]
set_option maxHeartbeats 4000000 in
theorem ac_StepOk (L : List Step) (i : Nat) (hi : i < L.length) (hb : L.length ≤ 1048576) (hs : ∀ s, s ∈ L → s.src.length ≤ 1048576) : AC Tryz.prog 43 [.c true (.sl (L.map stepC)), vI i] (vB (stepOk L i)) [] := by
  have a := ac_in (i : Int) 0 ((L.length : Int) - 1)
  rw [show decide ((0 : Int) ≤ i ∧ (i : Int) ≤ (L.length : Int) - 1) = true by simp; omega] at a
  have hw0 : IntKind.i64.wrap ((L.length : Int) - 1) = (L.length : Int) - 1 := wrap64 (by omega) (by omega)
  have hsl := hs _ (List.getElem_mem hi)
  have e := getD_map L stepC [] hi
  have hc := ac_CredOk L[i].cred
  rw [stepOk_get hi]
  clear hs
  generalize L[i] = s at *
  have hR : stepOkS L i s = (credOk s.cred && ((s.of.who == s.cred.of.who && s.of.name == s.cred.of.name) && (s.src.all (inP i) && kindOk s (fcts L s)))) := rfl
  generalize stepOkS L i s = R at *
  simp only [encCred] at hc
  cases ho : credOk s.cred with
  | false =>
    rw [ho] at hc hR
    simp only [Bool.false_and] at hR
    refine XA good (fn := Tryz.f43) rfl ?_
    simp only [entry, List.getD_cons_zero, List.getD_cons_succ]
    repeat' first | refine SW.step good fun K hK => ?_ | refine X2 good fun K hK => ?_ | refine X3 good fun K hK => ?_ | refine SW.seqK fun J hJ => ?_ | refine SW.last good fun K hK => ?_ | (refine hK _ ?_; clear hK K) | (refine hJ _ _ (Wk.refl _) ?_; clear hJ J) | clear hK K | clear hJ J | refine SW.skip ?_ | refine SW.ret ?_ | refine SW.retT ?_ | refine SW.retB ?_ | refine SW.exit ?_ | refine SW.exitT ?_ | refine SW.exitB ?_ | refine XN ?_ | refine SW.block ?_ | refine SW.normB ?_ | refine SW.normT ?_ | refine XT ?_ | refine XF ?_ | refine XC (fun h => ?_) (fun h => ?_) | refine X0 ?_ | refine Xv ?_ | refine X1 (a) ?_ | refine X1 (hc) ?_ | simp only [go_sem, optI, Option.getD_some, Option.getD_none, Int.reduceToNat, reduceIte, Nat.reduceEqDiff, Nat.reduceAdd, Nat.reduceMul, Nat.reduceSub, Nat.reduceLT, Nat.reduceLeDiff, reduceCtorEq, *] | refine Xs _ (fun h => ?_) (fun h => ?_) | with_reducible refine And.intro ?_ ?_
    all_goals first | (intro r hr; simp at hr; subst hr; rfl) | (simp [bytesC]; omega) | (simp; done) | omega | rfl | skip
    all_goals (refine Xrb ?_; first | exact hR | rfl)
  | true =>
    rw [ho] at hc hR
    simp only [Bool.true_and] at hR
    cases hq : (s.of.who == s.cred.of.who && s.of.name == s.cred.of.name) with
    | false =>
      rw [hq] at hR
      simp only [Bool.false_and] at hR
      refine XA good (fn := Tryz.f43) rfl ?_
      simp only [entry, List.getD_cons_zero, List.getD_cons_succ]
      repeat' first | refine SW.step good fun K hK => ?_ | refine X2 good fun K hK => ?_ | refine X3 good fun K hK => ?_ | refine SW.seqK fun J hJ => ?_ | refine SW.last good fun K hK => ?_ | (refine hK _ ?_; clear hK K) | (refine hJ _ _ (Wk.refl _) ?_; clear hJ J) | clear hK K | clear hJ J | refine SW.skip ?_ | refine SW.ret ?_ | refine SW.retT ?_ | refine SW.retB ?_ | refine SW.exit ?_ | refine SW.exitT ?_ | refine SW.exitB ?_ | refine XN ?_ | refine SW.block ?_ | refine SW.normB ?_ | refine SW.normT ?_ | refine XT ?_ | refine XF ?_ | refine XC (fun h => ?_) (fun h => ?_) | refine X0 ?_ | refine Xv ?_ | refine X1 (a) ?_ | refine X1 (hc) ?_ | simp only [go_sem, optI, Option.getD_some, Option.getD_none, Int.reduceToNat, reduceIte, Nat.reduceEqDiff, Nat.reduceAdd, Nat.reduceMul, Nat.reduceSub, Nat.reduceLT, Nat.reduceLeDiff, reduceCtorEq, *] | refine Xs _ (fun h => ?_) (fun h => ?_) | with_reducible refine And.intro ?_ ?_
      all_goals first | (intro r hr; simp at hr; subst hr; rfl) | (simp [bytesC]; omega) | (simp; done) | omega | rfl | skip
      all_goals (refine Xrb ?_; first | exact hR | rfl)
    | true =>
      rw [hq] at hR
      simp only [Bool.true_and] at hR
      refine XA good (fn := Tryz.f43) rfl ?_
      simp only [entry, List.getD_cons_zero, List.getD_cons_succ]
      repeat' first | refine SW.step good fun K hK => ?_ | refine X2 good fun K hK => ?_ | refine X3 good fun K hK => ?_ | refine SW.seqK fun J hJ => ?_ | refine SW.last good fun K hK => ?_ | (refine hK _ ?_; clear hK K) | (refine hJ _ _ (Wk.refl _) ?_; clear hJ J) | clear hK K | clear hJ J | refine SW.skip ?_ | refine SW.ret ?_ | refine SW.retT ?_ | refine SW.retB ?_ | refine SW.exit ?_ | refine SW.exitT ?_ | refine SW.exitB ?_ | refine XN ?_ | refine SW.block ?_ | refine SW.normB ?_ | refine SW.normT ?_ | refine XT ?_ | refine XF ?_ | refine XC (fun h => ?_) (fun h => ?_) | refine X0 ?_ | refine Xv ?_ | refine X1 (a) ?_ | refine X1 (hc) ?_ | simp only [go_sem, optI, Option.getD_some, Option.getD_none, Int.reduceToNat, reduceIte, Nat.reduceEqDiff, Nat.reduceAdd, Nat.reduceMul, Nat.reduceSub, Nat.reduceLT, Nat.reduceLeDiff, reduceCtorEq, *] | refine Xs _ (fun h => ?_) (fun h => ?_) | with_reducible refine And.intro ?_ ?_
      all_goals first | (intro r hr; simp at hr; subst hr; rfl) | (simp [bytesC]; omega) | (simp; done) | omega | rfl | skip
      refine SW.loopTo (α := Nat) (fun k => ⟨sl [(0, .c true (.sl (L.map stepC))), (1, vI i), (5, .ptr (.s 5 0) 0), (6, .own (.s 35 0)), (37, .c true (.sl (s.src.map intC))), (38, vI s.src.length), (39, vI k)], hl [(.s 5 0, .box [vI s.cred.kind, vI s.cred.of.who, vI s.cred.of.name, vI s.cred.who, vI s.cred.a.who, vI s.cred.a.name, vI s.cred.b.who, vI s.cred.b.name, vI s.cred.till, vI s.cred.nonce, vI s.of.who, vI s.of.name, vI s.who, .c true (.sl (s.src.map intC))]), (.s 35 0, .row false 62 3 (((s.src.take k).map (factAt L)).map factC))]⟩) (fun k => s.src.length - k) 0 (fun k => k ≤ s.src.length ∧ (s.src.take k).all (inP i) = true) ?_ ⟨by simp, by simp⟩ ?_
      · (refine Xto _ _ ?_ ?_ <;> simp only [go_sem, optI, Option.getD_some, Option.getD_none, Int.reduceToNat, reduceIte, Nat.reduceEqDiff, Nat.reduceAdd, Nat.reduceMul, Nat.reduceSub, Nat.reduceLT, Nat.reduceLeDiff, reduceCtorEq, Option.some.injEq, or_true, true_or] <;> (repeat' with_reducible apply And.intro) <;> (try rfl))
        all_goals first | rfl | skip
      · rintro k ⟨h2, h3⟩
        clear hc a hw0 e hq ho
        by_cases hk : k < s.src.length
        · have e2 := getD_map s.src intC [] hk
          have e1 : decide ((k : Int) < s.src.length) = true := by simp; omega
          have hw : IntKind.i64.wrap ((k : Int) + 1) = ((k + 1 : Nat) : Int) := wrap64 (by omega) (by omega)
          have hal := all_false_at (p := inP i) hk
          have hal2 := take_all_succ (p := inP i) hk h3
          have hF : (s.src.take (k + 1)).map (factAt L) = (s.src.take k).map (factAt L) ++ [factAt L s.src[k]] := by
            rw [List.take_add_one, List.getElem?_eq_getElem hk, List.map_append]; rfl
          have hFl : ((s.src.take k).map (factAt L)).length ≤ 1048576 := by simp; omega
          generalize (s.src.take k).map (factAt L) = F at *
          generalize s.src[k] = x at *
          cases hin : inP i x with
          | false =>
            have sh := ac_shownF L i x hin hi hb
            have hz := hal hin
            rw [hz] at hR
            simp only [Bool.false_and] at hR
            clear hal hal2 hin h3
            repeat' first | refine SW.step good fun K hK => ?_ | refine X2 good fun K hK => ?_ | refine X3 good fun K hK => ?_ | refine SW.seqK fun J hJ => ?_ | refine SW.last good fun K hK => ?_ | (refine hK _ ?_; clear hK K) | (refine hJ _ _ (Wk.refl _) ?_; clear hJ J) | clear hK K | clear hJ J | refine SW.skip ?_ | refine SW.ret ?_ | refine SW.retT ?_ | refine SW.retB ?_ | refine SW.exit ?_ | refine SW.exitT ?_ | refine SW.exitB ?_ | refine XN ?_ | refine SW.block ?_ | refine SW.normB ?_ | refine SW.normT ?_ | refine XT ?_ | refine XF ?_ | refine XC (fun h => ?_) (fun h => ?_) | refine X0 ?_ | refine Xv ?_ | refine X1 (sh) ?_ | simp only [go_sem, optI, Option.getD_some, Option.getD_none, Int.reduceToNat, reduceIte, Nat.reduceEqDiff, Nat.reduceAdd, Nat.reduceMul, Nat.reduceSub, Nat.reduceLT, Nat.reduceLeDiff, reduceCtorEq, *] | refine Xs _ (fun h => ?_) (fun h => ?_) | with_reducible refine And.intro ?_ ?_
            all_goals first | (intro r hr; simp at hr; subst hr; rfl) | (simp [bytesC]; omega) | (simp; done) | omega | rfl | skip
            all_goals (refine Xrb ?_; first | exact hR | rfl | (rw [hz]; rfl))
          | true =>
            obtain ⟨n, hn, hni⟩ := inP_nat hin
            have hal3 := hal2 hin
            subst hn
            have sh := ac_shownT L i n hni hi hb
            generalize factAt L (n : Int) = f at *
            clear hal hal2 hin h3
            repeat' first | refine SW.step good fun K hK => ?_ | refine X2 good fun K hK => ?_ | refine X3 good fun K hK => ?_ | refine SW.seqK fun J hJ => ?_ | refine SW.last good fun K hK => ?_ | (refine hK _ ?_; clear hK K) | (refine hJ _ _ (Wk.refl _) ?_; clear hJ J) | clear hK K | clear hJ J | refine SW.skip ?_ | refine SW.ret ?_ | refine SW.retT ?_ | refine SW.retB ?_ | refine SW.exit ?_ | refine SW.exitT ?_ | refine SW.exitB ?_ | refine XN ?_ | refine SW.block ?_ | refine SW.normB ?_ | refine SW.normT ?_ | refine XT ?_ | refine XF ?_ | refine XC (fun h => ?_) (fun h => ?_) | refine X0 ?_ | refine Xv ?_ | refine X1 (sh) ?_ | simp only [go_sem, optI, Option.getD_some, Option.getD_none, Int.reduceToNat, reduceIte, Nat.reduceEqDiff, Nat.reduceAdd, Nat.reduceMul, Nat.reduceSub, Nat.reduceLT, Nat.reduceLeDiff, reduceCtorEq, *] | refine Xs _ (fun h => ?_) (fun h => ?_) | with_reducible refine And.intro ?_ ?_
            all_goals first | (intro r hr; simp at hr; subst hr; rfl) | (simp [bytesC]; omega) | (simp; done) | omega | rfl | skip
            all_goals refine ⟨k + 1, ⟨by omega, hal3⟩, by omega, ?_⟩
            all_goals (refine Xto _ _ ?_ ?_ <;> simp only [go_sem, optI, Option.getD_some, Option.getD_none, Int.reduceToNat, reduceIte, Nat.reduceEqDiff, Nat.reduceAdd, Nat.reduceMul, Nat.reduceSub, Nat.reduceLT, Nat.reduceLeDiff, reduceCtorEq, Option.some.injEq, or_true, true_or] <;> (repeat' with_reducible apply And.intro) <;> (try rfl))
            all_goals first | (rw [hF, List.map_append]; rfl) | skip
        · have hk : k = s.src.length := by omega
          subst hk
          have e1 : decide ((s.src.length : Int) < s.src.length) = false := by simp
          rw [List.take_length] at h3 ⊢
          rw [h3] at hR
          have hFl : (fcts L s).length ≤ 1048576 := by unfold fcts; simp; omega
          change (SW _ _ _ _ _ ⟨sl [_, _, _, _, _, _, _], hl [_, (_, .row false _ 3 ((fcts L s).map factC))]⟩)
          simp only [Bool.true_and] at hR
          generalize fcts L s = F at *
          clear h3 h2 hk
          by_cases k1 : s.cred.kind = 1
          · have d1 : decide (s.cred.kind = 1) = true := by simpa using k1
            unfold kindOk at hR
            rw [if_pos k1] at hR
            clear k1
            repeat' first | refine SW.step good fun K hK => ?_ | refine X2 good fun K hK => ?_ | refine X3 good fun K hK => ?_ | refine SW.seqK fun J hJ => ?_ | refine SW.last good fun K hK => ?_ | (refine hK _ ?_; clear hK K) | (refine hJ _ _ (Wk.refl _) ?_; clear hJ J) | clear hK K | clear hJ J | refine SW.skip ?_ | refine SW.ret ?_ | refine SW.retT ?_ | refine SW.retB ?_ | refine SW.exit ?_ | refine SW.exitT ?_ | refine SW.exitB ?_ | refine XN ?_ | refine SW.block ?_ | refine SW.normB ?_ | refine SW.normT ?_ | refine XT ?_ | refine XF ?_ | refine XC (fun h => ?_) (fun h => ?_) | simp only [go_sem, optI, Option.getD_some, Option.getD_none, Int.reduceToNat, reduceIte, Nat.reduceEqDiff, Nat.reduceAdd, Nat.reduceMul, Nat.reduceSub, Nat.reduceLT, Nat.reduceLeDiff, reduceCtorEq, *] | refine Xs _ (fun h => ?_) (fun h => ?_) | with_reducible refine And.intro ?_ ?_
            all_goals first | (intro r hr; simp at hr; subst hr; rfl) | (simp [bytesC]; omega) | (simp; done) | omega | rfl | skip
            all_goals refine Xrb ?_
            all_goals simp_all
          · have d1 : decide (s.cred.kind = 1) = false := by simpa using k1
            by_cases k2 : s.cred.kind = 2
            · have d2 : decide (s.cred.kind = 2) = true := by simpa using k2
              unfold kindOk at hR
              rw [if_neg k1, if_pos k2] at hR
              clear k1 k2
              by_cases hF : F.length = 1
              · have dF : decide ((F.length : Int) = 1) = true := by simp; omega
                have f0 := fctC_get (F := F) (k := 0) (by omega)
                have hF2 : 1 ≤ F.length ∧ F.length ≤ 1 := by omega
                clear hF
                generalize F.getD 0 zFct = f at *
                rw [dF] at hR
                repeat' first | refine SW.step good fun K hK => ?_ | refine X2 good fun K hK => ?_ | refine X3 good fun K hK => ?_ | refine SW.seqK fun J hJ => ?_ | refine SW.last good fun K hK => ?_ | (refine hK _ ?_; clear hK K) | (refine hJ _ _ (Wk.refl _) ?_; clear hJ J) | clear hK K | clear hJ J | refine SW.skip ?_ | refine SW.ret ?_ | refine SW.retT ?_ | refine SW.retB ?_ | refine SW.exit ?_ | refine SW.exitT ?_ | refine SW.exitB ?_ | refine XN ?_ | refine SW.block ?_ | refine SW.normB ?_ | refine SW.normT ?_ | refine XT ?_ | refine XF ?_ | refine XC (fun h => ?_) (fun h => ?_) | simp only [go_sem, optI, Option.getD_some, Option.getD_none, Int.reduceToNat, reduceIte, Nat.reduceEqDiff, Nat.reduceAdd, Nat.reduceMul, Nat.reduceSub, Nat.reduceLT, Nat.reduceLeDiff, reduceCtorEq, *] | refine Xs _ (fun h => ?_) (fun h => ?_) | with_reducible refine And.intro ?_ ?_
                all_goals first | (intro r hr; simp at hr; subst hr; rfl) | (simp [bytesC]; omega) | (simp; done) | omega | rfl | skip
                all_goals refine Xrb ?_
                all_goals simp_all [fctB]
              · have dF : decide ((F.length : Int) = 1) = false := by simp; omega
                rw [dF] at hR
                repeat' first | refine SW.step good fun K hK => ?_ | refine X2 good fun K hK => ?_ | refine X3 good fun K hK => ?_ | refine SW.seqK fun J hJ => ?_ | refine SW.last good fun K hK => ?_ | (refine hK _ ?_; clear hK K) | (refine hJ _ _ (Wk.refl _) ?_; clear hJ J) | clear hK K | clear hJ J | refine SW.skip ?_ | refine SW.ret ?_ | refine SW.retT ?_ | refine SW.retB ?_ | refine SW.exit ?_ | refine SW.exitT ?_ | refine SW.exitB ?_ | refine XN ?_ | refine SW.block ?_ | refine SW.normB ?_ | refine SW.normT ?_ | refine XT ?_ | refine XF ?_ | refine XC (fun h => ?_) (fun h => ?_) | simp only [go_sem, optI, Option.getD_some, Option.getD_none, Int.reduceToNat, reduceIte, Nat.reduceEqDiff, Nat.reduceAdd, Nat.reduceMul, Nat.reduceSub, Nat.reduceLT, Nat.reduceLeDiff, reduceCtorEq, *] | refine Xs _ (fun h => ?_) (fun h => ?_) | with_reducible refine And.intro ?_ ?_
                all_goals first | (intro r hr; simp at hr; subst hr; rfl) | (simp [bytesC]; omega) | (simp; done) | omega | rfl | skip
                all_goals refine Xrb ?_
                all_goals simp_all
            · have d2 : decide (s.cred.kind = 2) = false := by simpa using k2
              by_cases hF : F.length = 2
              · have dF : decide ((F.length : Int) = 2) = true := by simp; omega
                have f0 := fctC_get (F := F) (k := 0) (by omega)
                have f1 := fctC_get (F := F) (k := 1) (by omega)
                have hF2 : 2 ≤ F.length ∧ F.length ≤ 2 := by omega
                clear hF
                unfold kindOk at hR
                generalize F.getD 0 zFct = f at *
                generalize F.getD 1 zFct = g at *
                rw [if_neg k1, if_neg k2, dF] at hR
                by_cases k3 : s.cred.kind = 3
                · have d3 : decide (s.cred.kind = 3) = true := by simpa using k3
                  rw [if_pos k3] at hR
                  clear k1 k2 k3
                  repeat' first | refine SW.step good fun K hK => ?_ | refine X2 good fun K hK => ?_ | refine X3 good fun K hK => ?_ | refine SW.seqK fun J hJ => ?_ | refine SW.last good fun K hK => ?_ | (refine hK _ ?_; clear hK K) | (refine hJ _ _ (Wk.refl _) ?_; clear hJ J) | clear hK K | clear hJ J | refine SW.skip ?_ | refine SW.ret ?_ | refine SW.retT ?_ | refine SW.retB ?_ | refine SW.exit ?_ | refine SW.exitT ?_ | refine SW.exitB ?_ | refine XN ?_ | refine SW.block ?_ | refine SW.normB ?_ | refine SW.normT ?_ | refine XT ?_ | refine XF ?_ | refine XC (fun h => ?_) (fun h => ?_) | simp only [go_sem, optI, Option.getD_some, Option.getD_none, Int.reduceToNat, reduceIte, Nat.reduceEqDiff, Nat.reduceAdd, Nat.reduceMul, Nat.reduceSub, Nat.reduceLT, Nat.reduceLeDiff, reduceCtorEq, *] | refine Xs _ (fun h => ?_) (fun h => ?_) | with_reducible refine And.intro ?_ ?_
                  all_goals first | (intro r hr; simp at hr; subst hr; rfl) | (simp [bytesC]; omega) | (simp; done) | omega | rfl | skip
                  all_goals refine Xrb ?_
                  all_goals simp_all [fctB]
                · have d3 : decide (s.cred.kind = 3) = false := by simpa using k3
                  rw [if_neg k3] at hR
                  clear k1 k2 k3
                  repeat' first | refine SW.step good fun K hK => ?_ | refine X2 good fun K hK => ?_ | refine X3 good fun K hK => ?_ | refine SW.seqK fun J hJ => ?_ | refine SW.last good fun K hK => ?_ | (refine hK _ ?_; clear hK K) | (refine hJ _ _ (Wk.refl _) ?_; clear hJ J) | clear hK K | clear hJ J | refine SW.skip ?_ | refine SW.ret ?_ | refine SW.retT ?_ | refine SW.retB ?_ | refine SW.exit ?_ | refine SW.exitT ?_ | refine SW.exitB ?_ | refine XN ?_ | refine SW.block ?_ | refine SW.normB ?_ | refine SW.normT ?_ | refine XT ?_ | refine XF ?_ | refine XC (fun h => ?_) (fun h => ?_) | simp only [go_sem, optI, Option.getD_some, Option.getD_none, Int.reduceToNat, reduceIte, Nat.reduceEqDiff, Nat.reduceAdd, Nat.reduceMul, Nat.reduceSub, Nat.reduceLT, Nat.reduceLeDiff, reduceCtorEq, *] | refine Xs _ (fun h => ?_) (fun h => ?_) | with_reducible refine And.intro ?_ ?_
                  all_goals first | (intro r hr; simp at hr; subst hr; rfl) | (simp [bytesC]; omega) | (simp; done) | omega | rfl | skip
                  all_goals refine Xrb ?_
                  all_goals simp_all [fctB]
              · have dF : decide ((F.length : Int) = 2) = false := by simp; omega
                unfold kindOk at hR
                rw [if_neg k1, if_neg k2, dF] at hR
                have hR2 : R = false := by rw [hR]; split <;> rfl
                clear hR hF
                by_cases k3 : s.cred.kind = 3
                · have d3 : decide (s.cred.kind = 3) = true := by simpa using k3
                  clear k1 k2 k3
                  repeat' first | refine SW.step good fun K hK => ?_ | refine X2 good fun K hK => ?_ | refine X3 good fun K hK => ?_ | refine SW.seqK fun J hJ => ?_ | refine SW.last good fun K hK => ?_ | (refine hK _ ?_; clear hK K) | (refine hJ _ _ (Wk.refl _) ?_; clear hJ J) | clear hK K | clear hJ J | refine SW.skip ?_ | refine SW.ret ?_ | refine SW.retT ?_ | refine SW.retB ?_ | refine SW.exit ?_ | refine SW.exitT ?_ | refine SW.exitB ?_ | refine XN ?_ | refine SW.block ?_ | refine SW.normB ?_ | refine SW.normT ?_ | refine XT ?_ | refine XF ?_ | refine XC (fun h => ?_) (fun h => ?_) | simp only [go_sem, optI, Option.getD_some, Option.getD_none, Int.reduceToNat, reduceIte, Nat.reduceEqDiff, Nat.reduceAdd, Nat.reduceMul, Nat.reduceSub, Nat.reduceLT, Nat.reduceLeDiff, reduceCtorEq, *] | refine Xs _ (fun h => ?_) (fun h => ?_) | with_reducible refine And.intro ?_ ?_
                  all_goals first | (intro r hr; simp at hr; subst hr; rfl) | (simp [bytesC]; omega) | (simp; done) | omega | rfl | skip
                  all_goals (refine Xrb ?_; first | exact hR2 | rfl | simp_all)
                · have d3 : decide (s.cred.kind = 3) = false := by simpa using k3
                  clear k1 k2 k3
                  repeat' first | refine SW.step good fun K hK => ?_ | refine X2 good fun K hK => ?_ | refine X3 good fun K hK => ?_ | refine SW.seqK fun J hJ => ?_ | refine SW.last good fun K hK => ?_ | (refine hK _ ?_; clear hK K) | (refine hJ _ _ (Wk.refl _) ?_; clear hJ J) | clear hK K | clear hJ J | refine SW.skip ?_ | refine SW.ret ?_ | refine SW.retT ?_ | refine SW.retB ?_ | refine SW.exit ?_ | refine SW.exitT ?_ | refine SW.exitB ?_ | refine XN ?_ | refine SW.block ?_ | refine SW.normB ?_ | refine SW.normT ?_ | refine XT ?_ | refine XF ?_ | refine XC (fun h => ?_) (fun h => ?_) | simp only [go_sem, optI, Option.getD_some, Option.getD_none, Int.reduceToNat, reduceIte, Nat.reduceEqDiff, Nat.reduceAdd, Nat.reduceMul, Nat.reduceSub, Nat.reduceLT, Nat.reduceLeDiff, reduceCtorEq, *] | refine Xs _ (fun h => ?_) (fun h => ?_) | with_reducible refine And.intro ?_ ?_
                  all_goals first | (intro r hr; simp at hr; subst hr; rfl) | (simp [bytesC]; omega) | (simp; done) | omega | rfl | skip
                  all_goals (refine Xrb ?_; first | exact hR2 | rfl | simp_all)
end Go.Proofs.YtbgeagbgfioaaaaGreat.AB
namespace Go.Proofs.YtbgeagbgfioaaaaGreat.AB
open Go
set_option maxRecDepth 100000
set_option linter.unusedSimpArgs false
set_option linter.unusedVariables false
theorem ac_l07Shown (L : List Step) (i n : Nat) (a b d : Int) (hn : n < i) (hi : i < L.length) (hb : L.length ≤ 1048576) (hs : L[i].src = [(n : Int)]) : AC Tryz.prog 57 [.c true (.sl (L.map stepC)), vI i, .agg [vI a, vI b, vI d]] (vB (fctB (factAt L n) a b d)) [] := by
  have c := ac_in' (n : Int) 0 ((i : Int) - 1)
  rw [inP_dec, show inP i (n : Int) = true by unfold inP; simp; omega] at c
  have hw : IntKind.i64.wrap ((i : Int) - 1) = (i : Int) - 1 := wrap64 (by omega) (by omega)
  have e := getD_map L stepC [] (k := i) (by omega)
  have e2 := getD_map L stepC [] (k := n) (by omega)
  rw [factAt_get (by omega)]
  have hnl : n < L.length := by omega
  generalize L[i] = s at *
  generalize L[n] = p at *
  obtain ⟨sc, so, sw, ss⟩ := s
  simp only at hs
  subst hs
  generalize hR : fctB ⟨p.of, p.who⟩ a b d = R at *
  unfold fctB at hR
  simp only at hR
  refine XA good (fn := Tryz.f57) rfl ?_
  simp only [entry, List.getD_cons_zero, List.getD_cons_succ]
  repeat' first | refine SW.step good fun K hK => ?_ | refine X2 good fun K hK => ?_ | refine X3 good fun K hK => ?_ | refine SW.seqK fun J hJ => ?_ | refine SW.last good fun K hK => ?_ | (refine hK _ ?_; clear hK K) | (refine hJ _ _ (Wk.refl _) ?_; clear hJ J) | clear hK K | clear hJ J | refine SW.skip ?_ | refine SW.ret ?_ | refine SW.retT ?_ | refine SW.retB ?_ | refine SW.exit ?_ | refine SW.exitT ?_ | refine SW.exitB ?_ | refine XN ?_ | refine SW.block ?_ | refine SW.normB ?_ | refine SW.normT ?_ | refine XT ?_ | refine XF ?_ | refine XC (fun h => ?_) (fun h => ?_) | simp only [go_sem, optI, Option.getD_some, Option.getD_none, Int.reduceToNat, reduceIte, Nat.reduceEqDiff, Nat.reduceAdd, Nat.reduceMul, Nat.reduceSub, Nat.reduceLT, Nat.reduceLeDiff, reduceCtorEq, *] | refine Xs _ (fun h => ?_) (fun h => ?_) | with_reducible refine And.intro ?_ ?_
  refine SW.loopTo (α := Nat) (fun k => ⟨sl [(0, .c true (.sl (L.map stepC))), (1, vI i), (5, .ptr (.s 5 0) 0), (7, vI k)], hl [(.s 5 0, .box [vI a, vI b, vI d])]⟩) (fun k => 1 - k) 0 (fun k => k ≤ 1 ∧ (k = 1 → R = false)) ?_ ⟨by simp, by simp⟩ ?_
  · (refine Xto _ _ ?_ ?_ <;> simp only [go_sem, optI, Option.getD_some, Option.getD_none, Int.reduceToNat, reduceIte, Nat.reduceEqDiff, Nat.reduceAdd, Nat.reduceMul, Nat.reduceSub, Nat.reduceLT, Nat.reduceLeDiff, reduceCtorEq, Option.some.injEq, or_true, true_or] <;> (repeat' with_reducible apply And.intro) <;> (try rfl))
  · rintro k ⟨h2, h3⟩
    by_cases hk : k < 1
    · have hk0 : k = 0 := by omega
      subst hk0
      clear h3 h2 hk
      cases hRv : R with
      | true =>
        rw [hRv] at hR
        simp only [Bool.and_eq_true, beq_iff_eq] at hR
        obtain ⟨g1, g2, g3⟩ := hR
        have b1 : (p.of.who == a) = true := by simpa using g1
        have b2 : (p.of.name == b) = true := by simpa using g2
        have b3 : (p.who == d) = true := by simpa using g3
        clear g1 g2 g3
        repeat' first | refine SW.step good fun K hK => ?_ | refine X2 good fun K hK => ?_ | refine X3 good fun K hK => ?_ | refine SW.seqK fun J hJ => ?_ | refine SW.last good fun K hK => ?_ | (refine hK _ ?_; clear hK K) | (refine hJ _ _ (Wk.refl _) ?_; clear hJ J) | clear hK K | clear hJ J | refine SW.skip ?_ | refine SW.ret ?_ | refine SW.retT ?_ | refine SW.retB ?_ | refine SW.exit ?_ | refine SW.exitT ?_ | refine SW.exitB ?_ | refine XN ?_ | refine SW.block ?_ | refine SW.normB ?_ | refine SW.normT ?_ | refine XT ?_ | refine XF ?_ | refine XC (fun h => ?_) (fun h => ?_) | refine X0 ?_ | refine Xv ?_ | refine X1 (c) ?_ | simp only [go_sem, optI, Option.getD_some, Option.getD_none, Int.reduceToNat, reduceIte, Nat.reduceEqDiff, Nat.reduceAdd, Nat.reduceMul, Nat.reduceSub, Nat.reduceLT, Nat.reduceLeDiff, reduceCtorEq, *] | refine Xs _ (fun h => ?_) (fun h => ?_) | with_reducible refine And.intro ?_ ?_
        all_goals first | (intro r hr; simp at hr; subst hr; rfl) | (simp [bytesC]; omega) | (simp; done) | omega | rfl | skip
        all_goals (refine Xrb ?_; first | exact hRv | rfl)
      | false =>
        rw [hRv] at hR
        repeat' first | refine SW.step good fun K hK => ?_ | refine X2 good fun K hK => ?_ | refine X3 good fun K hK => ?_ | refine SW.seqK fun J hJ => ?_ | refine SW.last good fun K hK => ?_ | (refine hK _ ?_; clear hK K) | (refine hJ _ _ (Wk.refl _) ?_; clear hJ J) | clear hK K | clear hJ J | refine SW.skip ?_ | refine SW.ret ?_ | refine SW.retT ?_ | refine SW.retB ?_ | refine SW.exit ?_ | refine SW.exitT ?_ | refine SW.exitB ?_ | refine XN ?_ | refine SW.block ?_ | refine SW.normB ?_ | refine SW.normT ?_ | refine XT ?_ | refine XF ?_ | refine XC (fun h => ?_) (fun h => ?_) | refine X0 ?_ | refine Xv ?_ | refine X1 (c) ?_ | simp only [go_sem, optI, Option.getD_some, Option.getD_none, Int.reduceToNat, reduceIte, Nat.reduceEqDiff, Nat.reduceAdd, Nat.reduceMul, Nat.reduceSub, Nat.reduceLT, Nat.reduceLeDiff, reduceCtorEq, *] | refine Xs _ (fun h => ?_) (fun h => ?_) | with_reducible refine And.intro ?_ ?_
        all_goals first | (intro r hr; simp at hr; subst hr; rfl) | (simp [bytesC]; omega) | (simp; done) | omega | rfl | skip
        all_goals refine ⟨1, by omega, by omega, ?_⟩
        all_goals (refine Xto _ _ ?_ ?_ <;> simp only [go_sem, optI, Option.getD_some, Option.getD_none, Int.reduceToNat, reduceIte, Nat.reduceEqDiff, Nat.reduceAdd, Nat.reduceMul, Nat.reduceSub, Nat.reduceLT, Nat.reduceLeDiff, reduceCtorEq, Option.some.injEq, or_true, true_or] <;> (repeat' with_reducible apply And.intro) <;> (try rfl))
    · have hk1 : k = 1 := by omega
      subst hk1
      have hRf := h3 rfl
      repeat' first | refine SW.step good fun K hK => ?_ | refine X2 good fun K hK => ?_ | refine X3 good fun K hK => ?_ | refine SW.seqK fun J hJ => ?_ | refine SW.last good fun K hK => ?_ | (refine hK _ ?_; clear hK K) | (refine hJ _ _ (Wk.refl _) ?_; clear hJ J) | clear hK K | clear hJ J | refine SW.skip ?_ | refine SW.ret ?_ | refine SW.retT ?_ | refine SW.retB ?_ | refine SW.exit ?_ | refine SW.exitT ?_ | refine SW.exitB ?_ | refine XN ?_ | refine SW.block ?_ | refine SW.normB ?_ | refine SW.normT ?_ | refine XT ?_ | refine XF ?_ | refine XC (fun h => ?_) (fun h => ?_) | refine X0 ?_ | refine Xv ?_ | refine X1 (c) ?_ | simp only [go_sem, optI, Option.getD_some, Option.getD_none, Int.reduceToNat, reduceIte, Nat.reduceEqDiff, Nat.reduceAdd, Nat.reduceMul, Nat.reduceSub, Nat.reduceLT, Nat.reduceLeDiff, reduceCtorEq, *] | refine Xs _ (fun h => ?_) (fun h => ?_) | with_reducible refine And.intro ?_ ?_
      all_goals first | (intro r hr; simp at hr; subst hr; rfl) | (simp [bytesC]; omega) | (simp; done) | omega | rfl | skip
      all_goals (refine Xrb ?_; first | exact hRf | rfl)
theorem credOk_kind {c : Cred} (h : credOk c = true) : c.kind = 1 ∨ c.kind = 2 ∨ c.kind = 3 ∨ c.kind = 4 := by
  unfold credOk at h
  simp only [Bool.and_eq_true] at h
  have h2 := h.2.2.2
  by_cases k1 : c.kind = 1
  · exact .inl k1
  · by_cases k2 : c.kind = 2
    · exact .inr (.inl k2)
    · by_cases k3 : c.kind = 3
      · exact .inr (.inr (.inl k3))
      · by_cases k4 : c.kind = 4
        · exact .inr (.inr (.inr k4))
        · rw [if_neg k1, if_neg k2, if_neg k3, if_neg k4] at h2; cases h2
set_option maxHeartbeats 4000000 in
theorem ac_StepOk' (L : List Step) (i : Nat) (hi : i < L.length) (hb : L.length ≤ 1048576) (hs : ∀ s, s ∈ L → s.src.length ≤ 1048576) : AC Tryz.prog 32 [.c true (.sl (L.map stepC)), vI i] (vB (stepOk L i)) [] := by
  have a := ac_in' (i : Int) 0 ((L.length : Int) - 1)
  rw [show decide ((0 : Int) ≤ i ∧ (i : Int) ≤ (L.length : Int) - 1) = true by simp; omega] at a
  have hw0 : IntKind.i64.wrap ((L.length : Int) - 1) = (L.length : Int) - 1 := wrap64 (by omega) (by omega)
  have hwi : IntKind.i64.wrap ((i : Int) - 1) = (i : Int) - 1 := wrap64 (by omega) (by omega)
  have hsl := hs _ (List.getElem_mem hi)
  have e := getD_map L stepC [] hi
  have hc := ac_CredOk' L[i].cred
  have hsh := fun (n : Nat) (a b d : Int) (hn : n < i) (hq : L[i].src = [(n : Int)]) => ac_l07Shown L i n a b d hn hi hb hq
  rw [stepOk_get hi]
  clear hs
  generalize L[i] = s at *
  have hR : stepOkS L i s = (credOk s.cred && ((s.of.who == s.cred.of.who && s.of.name == s.cred.of.name) && (s.src.all (inP i) && kindOk s (fcts L s)))) := rfl
  generalize stepOkS L i s = R at *
  simp only [encCred] at hc
  cases ho : credOk s.cred with
  | false =>
    rw [ho] at hc hR
    simp only [Bool.false_and] at hR
    refine XA good (fn := Tryz.f32) rfl ?_
    simp only [entry, List.getD_cons_zero, List.getD_cons_succ]
    repeat' first | refine SW.step good fun K hK => ?_ | refine X2 good fun K hK => ?_ | refine X3 good fun K hK => ?_ | refine SW.seqK fun J hJ => ?_ | refine SW.last good fun K hK => ?_ | (refine hK _ ?_; clear hK K) | (refine hJ _ _ (Wk.refl _) ?_; clear hJ J) | clear hK K | clear hJ J | refine SW.skip ?_ | refine SW.ret ?_ | refine SW.retT ?_ | refine SW.retB ?_ | refine SW.exit ?_ | refine SW.exitT ?_ | refine SW.exitB ?_ | refine XN ?_ | refine SW.block ?_ | refine SW.normB ?_ | refine SW.normT ?_ | refine XT ?_ | refine XF ?_ | refine XC (fun h => ?_) (fun h => ?_) | refine X0 ?_ | refine Xv ?_ | refine X1 (a) ?_ | refine X1 (hc) ?_ | simp only [go_sem, optI, Option.getD_some, Option.getD_none, Int.reduceToNat, reduceIte, Nat.reduceEqDiff, Nat.reduceAdd, Nat.reduceMul, Nat.reduceSub, Nat.reduceLT, Nat.reduceLeDiff, reduceCtorEq, *] | refine Xs _ (fun h => ?_) (fun h => ?_) | with_reducible refine And.intro ?_ ?_
    all_goals first | (intro r hr; simp at hr; subst hr; rfl) | (simp [bytesC]; omega) | (simp; done) | omega | rfl | skip
    all_goals (refine Xrb ?_; first | exact hR | rfl)
  | true =>
    have hkd := credOk_kind ho
    rw [ho] at hc hR
    simp only [Bool.true_and] at hR
    cases hq : (s.of.who == s.cred.of.who && s.of.name == s.cred.of.name) with
    | false =>
      rw [hq] at hR
      simp only [Bool.false_and] at hR
      refine XA good (fn := Tryz.f32) rfl ?_
      simp only [entry, List.getD_cons_zero, List.getD_cons_succ]
      repeat' first | refine SW.step good fun K hK => ?_ | refine X2 good fun K hK => ?_ | refine X3 good fun K hK => ?_ | refine SW.seqK fun J hJ => ?_ | refine SW.last good fun K hK => ?_ | (refine hK _ ?_; clear hK K) | (refine hJ _ _ (Wk.refl _) ?_; clear hJ J) | clear hK K | clear hJ J | refine SW.skip ?_ | refine SW.ret ?_ | refine SW.retT ?_ | refine SW.retB ?_ | refine SW.exit ?_ | refine SW.exitT ?_ | refine SW.exitB ?_ | refine XN ?_ | refine SW.block ?_ | refine SW.normB ?_ | refine SW.normT ?_ | refine XT ?_ | refine XF ?_ | refine XC (fun h => ?_) (fun h => ?_) | refine X0 ?_ | refine Xv ?_ | refine X1 (a) ?_ | refine X1 (hc) ?_ | simp only [go_sem, optI, Option.getD_some, Option.getD_none, Int.reduceToNat, reduceIte, Nat.reduceEqDiff, Nat.reduceAdd, Nat.reduceMul, Nat.reduceSub, Nat.reduceLT, Nat.reduceLeDiff, reduceCtorEq, *] | refine Xs _ (fun h => ?_) (fun h => ?_) | with_reducible refine And.intro ?_ ?_
      all_goals first | (intro r hr; simp at hr; subst hr; rfl) | (simp [bytesC]; omega) | (simp; done) | omega | rfl | skip
      all_goals (refine Xrb ?_; first | exact hR | rfl)
    | true =>
      rw [hq] at hR
      simp only [Bool.true_and] at hR
      refine XA good (fn := Tryz.f32) rfl ?_
      simp only [entry, List.getD_cons_zero, List.getD_cons_succ]
      repeat' first | refine SW.step good fun K hK => ?_ | refine X2 good fun K hK => ?_ | refine X3 good fun K hK => ?_ | refine SW.seqK fun J hJ => ?_ | refine SW.last good fun K hK => ?_ | (refine hK _ ?_; clear hK K) | (refine hJ _ _ (Wk.refl _) ?_; clear hJ J) | clear hK K | clear hJ J | refine SW.skip ?_ | refine SW.ret ?_ | refine SW.retT ?_ | refine SW.retB ?_ | refine SW.exit ?_ | refine SW.exitT ?_ | refine SW.exitB ?_ | refine XN ?_ | refine SW.block ?_ | refine SW.normB ?_ | refine SW.normT ?_ | refine XT ?_ | refine XF ?_ | refine XC (fun h => ?_) (fun h => ?_) | refine X0 ?_ | refine Xv ?_ | refine X1 (a) ?_ | refine X1 (hc) ?_ | simp only [go_sem, optI, Option.getD_some, Option.getD_none, Int.reduceToNat, reduceIte, Nat.reduceEqDiff, Nat.reduceAdd, Nat.reduceMul, Nat.reduceSub, Nat.reduceLT, Nat.reduceLeDiff, reduceCtorEq, *] | refine Xs _ (fun h => ?_) (fun h => ?_) | with_reducible refine And.intro ?_ ?_
      all_goals first | (intro r hr; simp at hr; subst hr; rfl) | (simp [bytesC]; omega) | (simp; done) | omega | rfl | skip
      refine SW.loopTo (α := Nat) (fun k => ⟨sl [(0, .c true (.sl (L.map stepC))), (1, vI i), (5, .ptr (.s 5 0) 0), (6, .ptr (.s 6 0) 0), (7, vI k)], hl [(.s 5 0, .box [vI s.cred.kind, vI s.cred.of.who, vI s.cred.of.name, vI s.cred.who, vI s.cred.a.who, vI s.cred.a.name, vI s.cred.b.who, vI s.cred.b.name, vI s.cred.till, vI s.cred.nonce, vI s.of.who, vI s.of.name, vI s.who, .c true (.sl (s.src.map intC))]), (.s 6 0, .box [vI s.cred.kind, vI s.cred.of.who, vI s.cred.of.name, vI s.cred.who, vI s.cred.a.who, vI s.cred.a.name, vI s.cred.b.who, vI s.cred.b.name, vI s.cred.till, vI s.cred.nonce])]⟩) (fun k => s.src.length - k) 0 (fun k => k ≤ s.src.length ∧ (s.src.take k).all (inP i) = true) ?_ ⟨by simp, by simp⟩ ?_
      · (refine Xto _ _ ?_ ?_ <;> simp only [go_sem, optI, Option.getD_some, Option.getD_none, Int.reduceToNat, reduceIte, Nat.reduceEqDiff, Nat.reduceAdd, Nat.reduceMul, Nat.reduceSub, Nat.reduceLT, Nat.reduceLeDiff, reduceCtorEq, Option.some.injEq, or_true, true_or] <;> (repeat' with_reducible apply And.intro) <;> (try rfl))
      · rintro k ⟨h2, h3⟩
        clear hc a hw0 e hq ho
        by_cases hk : k < s.src.length
        · have e2 := getD_map s.src intC [] hk
          have e1 : decide ((k : Int) < s.src.length) = true := by simp; omega
          have hw : IntKind.i64.wrap ((k : Int) + 1) = ((k + 1 : Nat) : Int) := wrap64 (by omega) (by omega)
          have hal := all_false_at (p := inP i) hk
          have hal2 := take_all_succ (p := inP i) hk h3
          generalize s.src[k] = x at *
          have c := ac_in' x 0 ((i : Int) - 1)
          rw [inP_dec] at c
          clear hsh hkd
          cases hin : inP i x with
          | false =>
            have hz := hal hin
            rw [hz] at hR
            rw [hin] at c
            simp only [Bool.false_and] at hR
            clear hal hal2 hin h3
            repeat' first | refine SW.step good fun K hK => ?_ | refine X2 good fun K hK => ?_ | refine X3 good fun K hK => ?_ | refine SW.seqK fun J hJ => ?_ | refine SW.last good fun K hK => ?_ | (refine hK _ ?_; clear hK K) | (refine hJ _ _ (Wk.refl _) ?_; clear hJ J) | clear hK K | clear hJ J | refine SW.skip ?_ | refine SW.ret ?_ | refine SW.retT ?_ | refine SW.retB ?_ | refine SW.exit ?_ | refine SW.exitT ?_ | refine SW.exitB ?_ | refine XN ?_ | refine SW.block ?_ | refine SW.normB ?_ | refine SW.normT ?_ | refine XT ?_ | refine XF ?_ | refine XC (fun h => ?_) (fun h => ?_) | refine X0 ?_ | refine Xv ?_ | refine X1 (c) ?_ | simp only [go_sem, optI, Option.getD_some, Option.getD_none, Int.reduceToNat, reduceIte, Nat.reduceEqDiff, Nat.reduceAdd, Nat.reduceMul, Nat.reduceSub, Nat.reduceLT, Nat.reduceLeDiff, reduceCtorEq, *] | refine Xs _ (fun h => ?_) (fun h => ?_) | with_reducible refine And.intro ?_ ?_
            all_goals first | (intro r hr; simp at hr; subst hr; rfl) | (simp [bytesC]; omega) | (simp; done) | omega | rfl | skip
            all_goals (refine Xrb ?_; first | exact hR | rfl | (rw [hz]; rfl))
          | true =>
            have hal3 := hal2 hin
            rw [hin] at c
            clear hal hal2 hin h3
            repeat' first | refine SW.step good fun K hK => ?_ | refine X2 good fun K hK => ?_ | refine X3 good fun K hK => ?_ | refine SW.seqK fun J hJ => ?_ | refine SW.last good fun K hK => ?_ | (refine hK _ ?_; clear hK K) | (refine hJ _ _ (Wk.refl _) ?_; clear hJ J) | clear hK K | clear hJ J | refine SW.skip ?_ | refine SW.ret ?_ | refine SW.retT ?_ | refine SW.retB ?_ | refine SW.exit ?_ | refine SW.exitT ?_ | refine SW.exitB ?_ | refine XN ?_ | refine SW.block ?_ | refine SW.normB ?_ | refine SW.normT ?_ | refine XT ?_ | refine XF ?_ | refine XC (fun h => ?_) (fun h => ?_) | refine X0 ?_ | refine Xv ?_ | refine X1 (c) ?_ | simp only [go_sem, optI, Option.getD_some, Option.getD_none, Int.reduceToNat, reduceIte, Nat.reduceEqDiff, Nat.reduceAdd, Nat.reduceMul, Nat.reduceSub, Nat.reduceLT, Nat.reduceLeDiff, reduceCtorEq, *] | refine Xs _ (fun h => ?_) (fun h => ?_) | with_reducible refine And.intro ?_ ?_
            all_goals first | (intro r hr; simp at hr; subst hr; rfl) | (simp [bytesC]; omega) | (simp; done) | omega | rfl | skip
            all_goals refine ⟨k + 1, ⟨by omega, hal3⟩, by omega, ?_⟩
            all_goals (refine Xto _ _ ?_ ?_ <;> simp only [go_sem, optI, Option.getD_some, Option.getD_none, Int.reduceToNat, reduceIte, Nat.reduceEqDiff, Nat.reduceAdd, Nat.reduceMul, Nat.reduceSub, Nat.reduceLT, Nat.reduceLeDiff, reduceCtorEq, Option.some.injEq, or_true, true_or] <;> (repeat' with_reducible apply And.intro) <;> (try rfl))
        · have hk : k = s.src.length := by omega
          subst hk
          have e1 : decide ((s.src.length : Int) < s.src.length) = false := by simp
          rw [List.take_length] at h3
          rw [h3] at hR
          simp only [Bool.true_and] at hR
          have hF : ((fcts L s).length : Int) = s.src.length := by unfold fcts; simp
          have hall : ∀ x, x ∈ s.src → inP i x = true := fun x hx => List.all_eq_true.1 h3 x hx
          clear h3 h2 hk
          by_cases k1 : s.cred.kind = 1
          · have d1 : decide (s.cred.kind = 1) = true := by simpa using k1
            unfold kindOk at hR
            rw [if_pos k1, hF] at hR
            clear k1 hkd hsh hall hF
            repeat' first | refine SW.step good fun K hK => ?_ | refine X2 good fun K hK => ?_ | refine X3 good fun K hK => ?_ | refine SW.seqK fun J hJ => ?_ | refine SW.last good fun K hK => ?_ | (refine hK _ ?_; clear hK K) | (refine hJ _ _ (Wk.refl _) ?_; clear hJ J) | clear hK K | clear hJ J | refine SW.skip ?_ | refine SW.ret ?_ | refine SW.retT ?_ | refine SW.retB ?_ | refine SW.exit ?_ | refine SW.exitT ?_ | refine SW.exitB ?_ | refine XN ?_ | refine SW.block ?_ | refine SW.normB ?_ | refine SW.normT ?_ | refine XT ?_ | refine XF ?_ | refine XC (fun h => ?_) (fun h => ?_) | simp only [go_sem, optI, Option.getD_some, Option.getD_none, Int.reduceToNat, reduceIte, Nat.reduceEqDiff, Nat.reduceAdd, Nat.reduceMul, Nat.reduceSub, Nat.reduceLT, Nat.reduceLeDiff, reduceCtorEq, *] | refine Xs _ (fun h => ?_) (fun h => ?_) | with_reducible refine And.intro ?_ ?_
            all_goals first | (intro r hr; simp at hr; subst hr; rfl) | (simp [bytesC]; omega) | (simp; done) | omega | rfl | skip
            all_goals refine Xrb ?_
            all_goals simp_all
          · have d1 : decide (s.cred.kind = 1) = false := by simpa using k1
            by_cases k2 : s.cred.kind = 2
            · have d2 : decide (s.cred.kind = 2) = true := by simpa using k2
              unfold kindOk at hR
              rw [if_neg k1, if_pos k2, hF] at hR
              clear k1 k2 hkd hF
              by_cases hl1 : s.src.length = 1
              · obtain ⟨x, hx⟩ := List.length_eq_one_iff.1 hl1
                obtain ⟨n, hn, hni⟩ := inP_nat (hall x (by rw [hx]; simp))
                rw [hn] at hx
                have hs1 := hsh n s.cred.a.who s.cred.a.name s.who hni hx
                have hff : (fcts L s).getD 0 zFct = factAt L n := by unfold fcts; rw [hx]; rfl
                rw [hff] at hR
                generalize fctB (factAt L n) s.cred.a.who s.cred.a.name s.who = u at *
                have dF : decide ((s.src.length : Int) = 1) = true := by simp; omega
                rw [dF] at hR
                clear hff hall hsh hl1 hx hn
                repeat' first | refine SW.step good fun K hK => ?_ | refine X2 good fun K hK => ?_ | refine X3 good fun K hK => ?_ | refine SW.seqK fun J hJ => ?_ | refine SW.last good fun K hK => ?_ | (refine hK _ ?_; clear hK K) | (refine hJ _ _ (Wk.refl _) ?_; clear hJ J) | clear hK K | clear hJ J | refine SW.skip ?_ | refine SW.ret ?_ | refine SW.retT ?_ | refine SW.retB ?_ | refine SW.exit ?_ | refine SW.exitT ?_ | refine SW.exitB ?_ | refine XN ?_ | refine SW.block ?_ | refine SW.normB ?_ | refine SW.normT ?_ | refine XT ?_ | refine XF ?_ | refine XC (fun h => ?_) (fun h => ?_) | refine X0 ?_ | refine Xv ?_ | refine X1 (hs1) ?_ | simp only [go_sem, optI, Option.getD_some, Option.getD_none, Int.reduceToNat, reduceIte, Nat.reduceEqDiff, Nat.reduceAdd, Nat.reduceMul, Nat.reduceSub, Nat.reduceLT, Nat.reduceLeDiff, reduceCtorEq, *] | refine Xs _ (fun h => ?_) (fun h => ?_) | with_reducible refine And.intro ?_ ?_
                all_goals first | (intro r hr; simp at hr; subst hr; rfl) | (simp [bytesC]; omega) | (simp; done) | omega | rfl | skip
                all_goals refine Xrb ?_
                all_goals simp_all
              · have dF : decide ((s.src.length : Int) = 1) = false := by simp; omega
                rw [dF] at hR
                clear hsh hall
                repeat' first | refine SW.step good fun K hK => ?_ | refine X2 good fun K hK => ?_ | refine X3 good fun K hK => ?_ | refine SW.seqK fun J hJ => ?_ | refine SW.last good fun K hK => ?_ | (refine hK _ ?_; clear hK K) | (refine hJ _ _ (Wk.refl _) ?_; clear hJ J) | clear hK K | clear hJ J | refine SW.skip ?_ | refine SW.ret ?_ | refine SW.retT ?_ | refine SW.retB ?_ | refine SW.exit ?_ | refine SW.exitT ?_ | refine SW.exitB ?_ | refine XN ?_ | refine SW.block ?_ | refine SW.normB ?_ | refine SW.normT ?_ | refine XT ?_ | refine XF ?_ | refine XC (fun h => ?_) (fun h => ?_) | simp only [go_sem, optI, Option.getD_some, Option.getD_none, Int.reduceToNat, reduceIte, Nat.reduceEqDiff, Nat.reduceAdd, Nat.reduceMul, Nat.reduceSub, Nat.reduceLT, Nat.reduceLeDiff, reduceCtorEq, *] | refine Xs _ (fun h => ?_) (fun h => ?_) | with_reducible refine And.intro ?_ ?_
                all_goals first | (intro r hr; simp at hr; subst hr; rfl) | (simp [bytesC]; omega) | (simp; done) | omega | rfl | skip
                all_goals refine Xrb ?_
                all_goals simp_all
            · have d2 : decide (s.cred.kind = 2) = false := by simpa using k2
              by_cases hl2 : s.src.length = 2
              · obtain ⟨x, y, hx⟩ : ∃ x y, s.src = [x, y] := (match s.src, hl2 with | [x, y], _ => ⟨x, y, rfl⟩)
                obtain ⟨n, hn, hni⟩ := inP_nat (hall x (by rw [hx]; simp))
                obtain ⟨m, hm, hmi⟩ := inP_nat (hall y (by rw [hx]; simp))
                rw [hn, hm] at hx
                have e2 := getD_map L stepC [] (k := n) (by omega)
                have e3 := getD_map L stepC [] (k := m) (by omega)
                have hff : (fcts L s).getD 0 zFct = factAt L n := by unfold fcts; rw [hx]; rfl
                have hgg : (fcts L s).getD 1 zFct = factAt L m := by unfold fcts; rw [hx]; rfl
                have dF : decide ((s.src.length : Int) = 2) = true := by simp; omega
                unfold kindOk at hR
                rw [if_neg k1, if_neg k2, hF, hff, hgg, dF, factAt_get (show n < L.length by omega), factAt_get (show m < L.length by omega)] at hR
                have gg0 : (s.src.map intC).getD 0 [] = [cI n] := by rw [hx]; rfl
                have gg1 : (s.src.map intC).getD 1 [] = [cI m] := by rw [hx]; rfl
                have hsl2 : 2 ≤ s.src.length ∧ s.src.length ≤ 2 := by omega
                have i1 : n < L.length := by omega
                have i2 : m < L.length := by omega
                generalize L[n] = p at *
                generalize L[m] = q at *
                simp only at hR
                clear hF hff hgg hall hsh hl2 hx hn hm
                by_cases k3 : s.cred.kind = 3
                · have d3 : decide (s.cred.kind = 4) = false := by simp [k3]
                  have d4 : decide (s.cred.kind = 3) = true := by simp [k3]
                  rw [if_pos k3] at hR
                  clear k1 k2 k3 hkd
                  repeat' first | refine SW.step good fun K hK => ?_ | refine X2 good fun K hK => ?_ | refine X3 good fun K hK => ?_ | refine SW.seqK fun J hJ => ?_ | refine SW.last good fun K hK => ?_ | (refine hK _ ?_; clear hK K) | (refine hJ _ _ (Wk.refl _) ?_; clear hJ J) | clear hK K | clear hJ J | refine SW.skip ?_ | refine SW.ret ?_ | refine SW.retT ?_ | refine SW.retB ?_ | refine SW.exit ?_ | refine SW.exitT ?_ | refine SW.exitB ?_ | refine XN ?_ | refine SW.block ?_ | refine SW.normB ?_ | refine SW.normT ?_ | refine XT ?_ | refine XF ?_ | refine XC (fun h => ?_) (fun h => ?_) | simp only [go_sem, optI, Option.getD_some, Option.getD_none, Int.reduceToNat, reduceIte, Nat.reduceEqDiff, Nat.reduceAdd, Nat.reduceMul, Nat.reduceSub, Nat.reduceLT, Nat.reduceLeDiff, reduceCtorEq, *] | refine Xs _ (fun h => ?_) (fun h => ?_) | with_reducible refine And.intro ?_ ?_
                  all_goals first | (intro r hr; simp at hr; subst hr; rfl) | (simp [bytesC]; omega) | (simp; done) | omega | rfl | skip
                  all_goals refine Xrb ?_
                  all_goals simp_all [fctB]
                  all_goals (intro g1 g2; exfalso; rcases h with h | h; exact h g1; exact h g2)
                · have k4 : s.cred.kind = 4 := by omega
                  have d3 : decide (s.cred.kind = 4) = true := by simpa using k4
                  rw [if_neg k3] at hR
                  clear k1 k2 k3 k4 hkd
                  repeat' first | refine SW.step good fun K hK => ?_ | refine X2 good fun K hK => ?_ | refine X3 good fun K hK => ?_ | refine SW.seqK fun J hJ => ?_ | refine SW.last good fun K hK => ?_ | (refine hK _ ?_; clear hK K) | (refine hJ _ _ (Wk.refl _) ?_; clear hJ J) | clear hK K | clear hJ J | refine SW.skip ?_ | refine SW.ret ?_ | refine SW.retT ?_ | refine SW.retB ?_ | refine SW.exit ?_ | refine SW.exitT ?_ | refine SW.exitB ?_ | refine XN ?_ | refine SW.block ?_ | refine SW.normB ?_ | refine SW.normT ?_ | refine XT ?_ | refine XF ?_ | refine XC (fun h => ?_) (fun h => ?_) | simp only [go_sem, optI, Option.getD_some, Option.getD_none, Int.reduceToNat, reduceIte, Nat.reduceEqDiff, Nat.reduceAdd, Nat.reduceMul, Nat.reduceSub, Nat.reduceLT, Nat.reduceLeDiff, reduceCtorEq, *] | refine Xs _ (fun h => ?_) (fun h => ?_) | with_reducible refine And.intro ?_ ?_
                  all_goals first | (intro r hr; simp at hr; subst hr; rfl) | (simp [bytesC]; omega) | (simp; done) | omega | rfl | skip
                  all_goals refine Xrb ?_
                  all_goals simp_all [fctB]
              · have dF : decide ((s.src.length : Int) = 2) = false := by simp; omega
                unfold kindOk at hR
                rw [if_neg k1, if_neg k2, hF, dF] at hR
                have hR2 : R = false := by rw [hR]; split <;> rfl
                clear hR hF hsh hall
                by_cases k3 : s.cred.kind = 3
                · have d3 : decide (s.cred.kind = 4) = false := by simp [k3]
                  clear k1 k2 k3 hkd
                  repeat' first | refine SW.step good fun K hK => ?_ | refine X2 good fun K hK => ?_ | refine X3 good fun K hK => ?_ | refine SW.seqK fun J hJ => ?_ | refine SW.last good fun K hK => ?_ | (refine hK _ ?_; clear hK K) | (refine hJ _ _ (Wk.refl _) ?_; clear hJ J) | clear hK K | clear hJ J | refine SW.skip ?_ | refine SW.ret ?_ | refine SW.retT ?_ | refine SW.retB ?_ | refine SW.exit ?_ | refine SW.exitT ?_ | refine SW.exitB ?_ | refine XN ?_ | refine SW.block ?_ | refine SW.normB ?_ | refine SW.normT ?_ | refine XT ?_ | refine XF ?_ | refine XC (fun h => ?_) (fun h => ?_) | simp only [go_sem, optI, Option.getD_some, Option.getD_none, Int.reduceToNat, reduceIte, Nat.reduceEqDiff, Nat.reduceAdd, Nat.reduceMul, Nat.reduceSub, Nat.reduceLT, Nat.reduceLeDiff, reduceCtorEq, *] | refine Xs _ (fun h => ?_) (fun h => ?_) | with_reducible refine And.intro ?_ ?_
                  all_goals first | (intro r hr; simp at hr; subst hr; rfl) | (simp [bytesC]; omega) | (simp; done) | omega | rfl | skip
                  all_goals (refine Xrb ?_; first | exact hR2 | rfl | simp_all)
                · have k4 : s.cred.kind = 4 := by omega
                  have d3 : decide (s.cred.kind = 4) = true := by simpa using k4
                  clear k1 k2 k3 k4 hkd
                  repeat' first | refine SW.step good fun K hK => ?_ | refine X2 good fun K hK => ?_ | refine X3 good fun K hK => ?_ | refine SW.seqK fun J hJ => ?_ | refine SW.last good fun K hK => ?_ | (refine hK _ ?_; clear hK K) | (refine hJ _ _ (Wk.refl _) ?_; clear hJ J) | clear hK K | clear hJ J | refine SW.skip ?_ | refine SW.ret ?_ | refine SW.retT ?_ | refine SW.retB ?_ | refine SW.exit ?_ | refine SW.exitT ?_ | refine SW.exitB ?_ | refine XN ?_ | refine SW.block ?_ | refine SW.normB ?_ | refine SW.normT ?_ | refine XT ?_ | refine XF ?_ | refine XC (fun h => ?_) (fun h => ?_) | simp only [go_sem, optI, Option.getD_some, Option.getD_none, Int.reduceToNat, reduceIte, Nat.reduceEqDiff, Nat.reduceAdd, Nat.reduceMul, Nat.reduceSub, Nat.reduceLT, Nat.reduceLeDiff, reduceCtorEq, *] | refine Xs _ (fun h => ?_) (fun h => ?_) | with_reducible refine And.intro ?_ ?_
                  all_goals first | (intro r hr; simp at hr; subst hr; rfl) | (simp [bytesC]; omega) | (simp; done) | omega | rfl | skip
                  all_goals (refine Xrb ?_; first | exact hR2 | rfl | simp_all)
end Go.Proofs.YtbgeagbgfioaaaaGreat.AB
namespace Go.Proofs.YtbgeagbgfioaaaaGreat.AB
open Go
set_option maxRecDepth 100000
set_option linter.unusedSimpArgs false
set_option linter.unusedVariables false
theorem rng_succ {p : Nat → Bool} {k : Nat} (h1 : (List.range k).all p = true) (h2 : p k = true) : (List.range (k + 1)).all p = true := by
  rw [List.range_succ, List.all_append, h1]; simp [h2]
theorem rng_false {p : Nat → Bool} {k n : Nat} (hk : k < n) (h2 : p k = false) : (List.range n).all p = false := by
  rw [List.all_eq_false]; exact ⟨k, by simpa using hk, by simp [h2]⟩
theorem ac_ProofOk (L : List Step) (r : Role) (who : Int) (hb : L.length ≤ 1048576) (hs : ∀ s, s ∈ L → s.src.length ≤ 1048576) : AC Tryz.prog 20 [.c true (.sl (L.map stepC)), encRole r, vI who] (vB (proofOk L r who)) [] := by
  have c := ac_in (L.length : Int) 1 200
  have hst := fun i hi => ac_StepOk L i hi hb hs
  have hR : proofOk L r who = (decide (1 ≤ (L.length : Int) ∧ (L.length : Int) ≤ 200) && ((List.range L.length).all (stepOk L) && fctB (factAt L ((L.length : Int) - 1)) r.who r.name who)) := rfl
  generalize proofOk L r who = R at *
  obtain ⟨ra, rb⟩ := r
  simp only [encRole]
  simp only at hR
  by_cases hn : 1 ≤ (L.length : Int) ∧ (L.length : Int) ≤ 200
  · rw [show decide (1 ≤ (L.length : Int) ∧ (L.length : Int) ≤ 200) = true by simpa using hn] at c hR
    simp only [Bool.true_and] at hR
    refine XA good (fn := Tryz.f20) rfl ?_
    simp only [entry, List.getD_cons_zero, List.getD_cons_succ]
    repeat' first | refine SW.step good fun K hK => ?_ | refine X2 good fun K hK => ?_ | refine X3 good fun K hK => ?_ | refine SW.seqK fun J hJ => ?_ | refine SW.last good fun K hK => ?_ | (refine hK _ ?_; clear hK K) | (refine hJ _ _ (Wk.refl _) ?_; clear hJ J) | clear hK K | clear hJ J | refine SW.skip ?_ | refine SW.ret ?_ | refine SW.retT ?_ | refine SW.retB ?_ | refine SW.exit ?_ | refine SW.exitT ?_ | refine SW.exitB ?_ | refine XN ?_ | refine SW.block ?_ | refine SW.normB ?_ | refine SW.normT ?_ | refine XT ?_ | refine XF ?_ | refine XC (fun h => ?_) (fun h => ?_) | refine X0 ?_ | refine Xv ?_ | refine X1 (c) ?_ | simp only [go_sem, optI, Option.getD_some, Option.getD_none, Int.reduceToNat, reduceIte, Nat.reduceEqDiff, Nat.reduceAdd, Nat.reduceMul, Nat.reduceSub, Nat.reduceLT, Nat.reduceLeDiff, reduceCtorEq, *] | refine Xs _ (fun h => ?_) (fun h => ?_) | with_reducible refine And.intro ?_ ?_
    all_goals first | (intro r hr; simp at hr; subst hr; rfl) | (simp [bytesC]; omega) | (simp; done) | omega | rfl | skip
    refine SW.loopTo (α := Nat) (fun k => ⟨sl [(0, .c true (.sl (L.map stepC))), (2, vI who), (4, .ptr (.s 4 0) 0), (13, vI L.length), (14, vI k)], hl [(.s 4 0, .box [vI ra, vI rb])]⟩) (fun k => L.length - k) 0 (fun k => k ≤ L.length ∧ (List.range k).all (stepOk L) = true) ?_ ⟨by simp, by simp⟩ ?_
    · (refine Xto _ _ ?_ ?_ <;> simp only [go_sem, optI, Option.getD_some, Option.getD_none, Int.reduceToNat, reduceIte, Nat.reduceEqDiff, Nat.reduceAdd, Nat.reduceMul, Nat.reduceSub, Nat.reduceLT, Nat.reduceLeDiff, reduceCtorEq, Option.some.injEq, or_true, true_or] <;> (repeat' with_reducible apply And.intro) <;> (try rfl))
    · rintro k ⟨h2, h3⟩
      clear c hs
      by_cases hk : k < L.length
      · have e1 : decide ((k : Int) < L.length) = true := by simp; omega
        have hw : IntKind.i64.wrap ((k : Int) + 1) = ((k + 1 : Nat) : Int) := wrap64 (by omega) (by omega)
        have hc := hst k hk
        have t1 := rng_succ h3
        have t2 := rng_false (p := stepOk L) hk
        clear h3 hst
        cases hv : stepOk L k with
        | true =>
          have t3 := t1 hv
          rw [hv] at hc
          clear t1 t2 hv hn
          repeat' first | refine SW.step good fun K hK => ?_ | refine X2 good fun K hK => ?_ | refine X3 good fun K hK => ?_ | refine SW.seqK fun J hJ => ?_ | refine SW.last good fun K hK => ?_ | (refine hK _ ?_; clear hK K) | (refine hJ _ _ (Wk.refl _) ?_; clear hJ J) | clear hK K | clear hJ J | refine SW.skip ?_ | refine SW.ret ?_ | refine SW.retT ?_ | refine SW.retB ?_ | refine SW.exit ?_ | refine SW.exitT ?_ | refine SW.exitB ?_ | refine XN ?_ | refine SW.block ?_ | refine SW.normB ?_ | refine SW.normT ?_ | refine XT ?_ | refine XF ?_ | refine XC (fun h => ?_) (fun h => ?_) | refine X0 ?_ | refine Xv ?_ | refine X1 (hc) ?_ | simp only [go_sem, optI, Option.getD_some, Option.getD_none, Int.reduceToNat, reduceIte, Nat.reduceEqDiff, Nat.reduceAdd, Nat.reduceMul, Nat.reduceSub, Nat.reduceLT, Nat.reduceLeDiff, reduceCtorEq, *] | refine Xs _ (fun h => ?_) (fun h => ?_) | with_reducible refine And.intro ?_ ?_
          all_goals first | (intro r hr; simp at hr; subst hr; rfl) | (simp [bytesC]; omega) | (simp; done) | omega | rfl | skip
          all_goals refine ⟨k + 1, ⟨by omega, t3⟩, by omega, ?_⟩
          all_goals (refine Xto _ _ ?_ ?_ <;> simp only [go_sem, optI, Option.getD_some, Option.getD_none, Int.reduceToNat, reduceIte, Nat.reduceEqDiff, Nat.reduceAdd, Nat.reduceMul, Nat.reduceSub, Nat.reduceLT, Nat.reduceLeDiff, reduceCtorEq, Option.some.injEq, or_true, true_or] <;> (repeat' with_reducible apply And.intro) <;> (try rfl))
        | false =>
          have t3 := t2 hv
          rw [t3] at hR
          simp only [Bool.false_and] at hR
          rw [hv] at hc
          clear t1 t2 hv hn
          repeat' first | refine SW.step good fun K hK => ?_ | refine X2 good fun K hK => ?_ | refine X3 good fun K hK => ?_ | refine SW.seqK fun J hJ => ?_ | refine SW.last good fun K hK => ?_ | (refine hK _ ?_; clear hK K) | (refine hJ _ _ (Wk.refl _) ?_; clear hJ J) | clear hK K | clear hJ J | refine SW.skip ?_ | refine SW.ret ?_ | refine SW.retT ?_ | refine SW.retB ?_ | refine SW.exit ?_ | refine SW.exitT ?_ | refine SW.exitB ?_ | refine XN ?_ | refine SW.block ?_ | refine SW.normB ?_ | refine SW.normT ?_ | refine XT ?_ | refine XF ?_ | refine XC (fun h => ?_) (fun h => ?_) | refine X0 ?_ | refine Xv ?_ | refine X1 (hc) ?_ | simp only [go_sem, optI, Option.getD_some, Option.getD_none, Int.reduceToNat, reduceIte, Nat.reduceEqDiff, Nat.reduceAdd, Nat.reduceMul, Nat.reduceSub, Nat.reduceLT, Nat.reduceLeDiff, reduceCtorEq, *] | refine Xs _ (fun h => ?_) (fun h => ?_) | with_reducible refine And.intro ?_ ?_
          all_goals first | (intro r hr; simp at hr; subst hr; rfl) | (simp [bytesC]; omega) | (simp; done) | omega | rfl | skip
          all_goals (refine Xrb ?_; first | exact hR | rfl | (rw [t3]; rfl))
      · have hk : k = L.length := by omega
        subst hk
        have e1 : decide ((L.length : Int) < L.length) = false := by simp
        rw [h3] at hR
        simp only [Bool.true_and] at hR
        have hw : IntKind.i64.wrap ((L.length : Int) - 1) = ((L.length - 1 : Nat) : Int) := by rw [wrap64 (by omega) (by omega)]; omega
        have e := getD_map L stepC [] (k := L.length - 1) (by omega)
        rw [show (L.length : Int) - 1 = ((L.length - 1 : Nat) : Int) by omega, factAt_get (by omega)] at hR
        have i1 : ((L.length - 1 : Nat) : Int) < L.length := by omega
        have i2 : L.length - 1 < L.length := by omega
        generalize L[L.length - 1]'(by omega) = p at *
        generalize L.length - 1 = m at *
        unfold fctB at hR
        simp only at hR
        clear h3 hst hn h2 hk
        repeat' first | refine SW.step good fun K hK => ?_ | refine X2 good fun K hK => ?_ | refine X3 good fun K hK => ?_ | refine SW.seqK fun J hJ => ?_ | refine SW.last good fun K hK => ?_ | (refine hK _ ?_; clear hK K) | (refine hJ _ _ (Wk.refl _) ?_; clear hJ J) | clear hK K | clear hJ J | refine SW.skip ?_ | refine SW.ret ?_ | refine SW.retT ?_ | refine SW.retB ?_ | refine SW.exit ?_ | refine SW.exitT ?_ | refine SW.exitB ?_ | refine XN ?_ | refine SW.block ?_ | refine SW.normB ?_ | refine SW.normT ?_ | refine XT ?_ | refine XF ?_ | refine XC (fun h => ?_) (fun h => ?_) | simp only [go_sem, optI, Option.getD_some, Option.getD_none, Int.reduceToNat, reduceIte, Nat.reduceEqDiff, Nat.reduceAdd, Nat.reduceMul, Nat.reduceSub, Nat.reduceLT, Nat.reduceLeDiff, reduceCtorEq, *] | refine Xs _ (fun h => ?_) (fun h => ?_) | with_reducible refine And.intro ?_ ?_
        all_goals first | (intro r hr; simp at hr; subst hr; rfl) | (simp [bytesC]; omega) | (simp; done) | omega | rfl | skip
        all_goals (refine Xrb ?_; first | exact hR | rfl | simp_all)
  · rw [show decide (1 ≤ (L.length : Int) ∧ (L.length : Int) ≤ 200) = false by simpa using hn] at c hR
    simp only [Bool.false_and] at hR
    refine XA good (fn := Tryz.f20) rfl ?_
    simp only [entry, List.getD_cons_zero, List.getD_cons_succ]
    repeat' first | refine SW.step good fun K hK => ?_ | refine X2 good fun K hK => ?_ | refine X3 good fun K hK => ?_ | refine SW.seqK fun J hJ => ?_ | refine SW.last good fun K hK => ?_ | (refine hK _ ?_; clear hK K) | (refine hJ _ _ (Wk.refl _) ?_; clear hJ J) | clear hK K | clear hJ J | refine SW.skip ?_ | refine SW.ret ?_ | refine SW.retT ?_ | refine SW.retB ?_ | refine SW.exit ?_ | refine SW.exitT ?_ | refine SW.exitB ?_ | refine XN ?_ | refine SW.block ?_ | refine SW.normB ?_ | refine SW.normT ?_ | refine XT ?_ | refine XF ?_ | refine XC (fun h => ?_) (fun h => ?_) | refine X0 ?_ | refine Xv ?_ | refine X1 (c) ?_ | simp only [go_sem, optI, Option.getD_some, Option.getD_none, Int.reduceToNat, reduceIte, Nat.reduceEqDiff, Nat.reduceAdd, Nat.reduceMul, Nat.reduceSub, Nat.reduceLT, Nat.reduceLeDiff, reduceCtorEq, *] | refine Xs _ (fun h => ?_) (fun h => ?_) | with_reducible refine And.intro ?_ ?_
    all_goals first | (intro r hr; simp at hr; subst hr; rfl) | (simp [bytesC]; omega) | (simp; done) | omega | rfl | skip
    all_goals (refine Xrb ?_; first | exact hR | rfl)
theorem ac_ProofOk' (L : List Step) (r : Role) (who : Int) (hb : L.length ≤ 1048576) (hs : ∀ s, s ∈ L → s.src.length ≤ 1048576) : AC Tryz.prog 15 [.c true (.sl (L.map stepC)), encRole r, vI who] (vB (proofOk L r who)) [] := by
  have c := ac_in' (L.length : Int) 1 200
  have hst := fun i hi => ac_StepOk' L i hi hb hs
  have hR : proofOk L r who = (decide (1 ≤ (L.length : Int) ∧ (L.length : Int) ≤ 200) && ((List.range L.length).all (stepOk L) && fctB (factAt L ((L.length : Int) - 1)) r.who r.name who)) := rfl
  generalize proofOk L r who = R at *
  obtain ⟨ra, rb⟩ := r
  simp only [encRole]
  simp only at hR
  by_cases hn : 1 ≤ (L.length : Int) ∧ (L.length : Int) ≤ 200
  · rw [show decide (1 ≤ (L.length : Int) ∧ (L.length : Int) ≤ 200) = true by simpa using hn] at c hR
    simp only [Bool.true_and] at hR
    have hw : IntKind.i64.wrap ((L.length : Int) - 1) = ((L.length - 1 : Nat) : Int) := by rw [wrap64 (by omega) (by omega)]; omega
    have e := getD_map L stepC [] (k := L.length - 1) (by omega)
    rw [show (L.length : Int) - 1 = ((L.length - 1 : Nat) : Int) by omega, factAt_get (by omega)] at hR
    have i1 : ((L.length - 1 : Nat) : Int) < L.length := by omega
    have i2 : L.length - 1 < L.length := by omega
    generalize L[L.length - 1]'(by omega) = p at *
    generalize L.length - 1 = m at *
    unfold fctB at hR
    simp only at hR
    cases hv0 : (p.of.who == ra && (p.of.name == rb && p.who == who)) with
    | false =>
      rw [hv0, Bool.and_false] at hR
      clear hst hn
      refine XA good (fn := Tryz.f15) rfl ?_
      simp only [entry, List.getD_cons_zero, List.getD_cons_succ]
      repeat' first | refine SW.step good fun K hK => ?_ | refine X2 good fun K hK => ?_ | refine X3 good fun K hK => ?_ | refine SW.seqK fun J hJ => ?_ | refine SW.last good fun K hK => ?_ | (refine hK _ ?_; clear hK K) | (refine hJ _ _ (Wk.refl _) ?_; clear hJ J) | clear hK K | clear hJ J | refine SW.skip ?_ | refine SW.ret ?_ | refine SW.retT ?_ | refine SW.retB ?_ | refine SW.exit ?_ | refine SW.exitT ?_ | refine SW.exitB ?_ | refine XN ?_ | refine SW.block ?_ | refine SW.normB ?_ | refine SW.normT ?_ | refine XT ?_ | refine XF ?_ | refine XC (fun h => ?_) (fun h => ?_) | refine X0 ?_ | refine Xv ?_ | refine X1 (c) ?_ | simp only [go_sem, optI, Option.getD_some, Option.getD_none, Int.reduceToNat, reduceIte, Nat.reduceEqDiff, Nat.reduceAdd, Nat.reduceMul, Nat.reduceSub, Nat.reduceLT, Nat.reduceLeDiff, reduceCtorEq, *] | refine Xs _ (fun h => ?_) (fun h => ?_) | with_reducible refine And.intro ?_ ?_
      all_goals first | (intro r hr; simp at hr; subst hr; rfl) | (simp [bytesC]; omega) | (simp; done) | omega | rfl | skip
      all_goals (refine Xrb ?_; first | exact hR | rfl | simp_all)
    | true =>
    rw [hv0, Bool.and_true] at hR
    refine XA good (fn := Tryz.f15) rfl ?_
    simp only [entry, List.getD_cons_zero, List.getD_cons_succ]
    repeat' first | refine SW.step good fun K hK => ?_ | refine X2 good fun K hK => ?_ | refine X3 good fun K hK => ?_ | refine SW.seqK fun J hJ => ?_ | refine SW.last good fun K hK => ?_ | (refine hK _ ?_; clear hK K) | (refine hJ _ _ (Wk.refl _) ?_; clear hJ J) | clear hK K | clear hJ J | refine SW.skip ?_ | refine SW.ret ?_ | refine SW.retT ?_ | refine SW.retB ?_ | refine SW.exit ?_ | refine SW.exitT ?_ | refine SW.exitB ?_ | refine XN ?_ | refine SW.block ?_ | refine SW.normB ?_ | refine SW.normT ?_ | refine XT ?_ | refine XF ?_ | refine XC (fun h => ?_) (fun h => ?_) | refine X0 ?_ | refine Xv ?_ | refine X1 (c) ?_ | simp only [go_sem, optI, Option.getD_some, Option.getD_none, Int.reduceToNat, reduceIte, Nat.reduceEqDiff, Nat.reduceAdd, Nat.reduceMul, Nat.reduceSub, Nat.reduceLT, Nat.reduceLeDiff, reduceCtorEq, *] | refine Xs _ (fun h => ?_) (fun h => ?_) | with_reducible refine And.intro ?_ ?_
    all_goals first | (intro r hr; simp at hr; subst hr; rfl) | (simp [bytesC]; omega) | (simp; done) | omega | rfl | skip
    refine SW.loopTo (α := Nat) (fun k => ⟨sl [(0, .c true (.sl (L.map stepC))), (7, vI L.length), (8, vI k)], hl []⟩) (fun k => L.length - k) 0 (fun k => k ≤ L.length ∧ (List.range k).all (stepOk L) = true) ?_ ⟨by simp, by simp⟩ ?_
    · (refine Xto _ _ ?_ ?_ <;> simp only [go_sem, optI, Option.getD_some, Option.getD_none, Int.reduceToNat, reduceIte, Nat.reduceEqDiff, Nat.reduceAdd, Nat.reduceMul, Nat.reduceSub, Nat.reduceLT, Nat.reduceLeDiff, reduceCtorEq, Option.some.injEq, or_true, true_or] <;> (repeat' with_reducible apply And.intro) <;> (try rfl))
    · rintro k ⟨h2, h3⟩
      clear c hs hw
      by_cases hk : k < L.length
      · have e1 : decide ((k : Int) < L.length) = true := by simp; omega
        have hw : IntKind.i64.wrap ((k : Int) + 1) = ((k + 1 : Nat) : Int) := wrap64 (by omega) (by omega)
        have hc := hst k hk
        have t1 := rng_succ h3
        have t2 := rng_false (p := stepOk L) hk
        clear h3 hst
        cases hv : stepOk L k with
        | true =>
          have t3 := t1 hv
          rw [hv] at hc
          clear t1 t2 hv hn
          repeat' first | refine SW.step good fun K hK => ?_ | refine X2 good fun K hK => ?_ | refine X3 good fun K hK => ?_ | refine SW.seqK fun J hJ => ?_ | refine SW.last good fun K hK => ?_ | (refine hK _ ?_; clear hK K) | (refine hJ _ _ (Wk.refl _) ?_; clear hJ J) | clear hK K | clear hJ J | refine SW.skip ?_ | refine SW.ret ?_ | refine SW.retT ?_ | refine SW.retB ?_ | refine SW.exit ?_ | refine SW.exitT ?_ | refine SW.exitB ?_ | refine XN ?_ | refine SW.block ?_ | refine SW.normB ?_ | refine SW.normT ?_ | refine XT ?_ | refine XF ?_ | refine XC (fun h => ?_) (fun h => ?_) | refine X0 ?_ | refine Xv ?_ | refine X1 (hc) ?_ | simp only [go_sem, optI, Option.getD_some, Option.getD_none, Int.reduceToNat, reduceIte, Nat.reduceEqDiff, Nat.reduceAdd, Nat.reduceMul, Nat.reduceSub, Nat.reduceLT, Nat.reduceLeDiff, reduceCtorEq, *] | refine Xs _ (fun h => ?_) (fun h => ?_) | with_reducible refine And.intro ?_ ?_
          all_goals first | (intro r hr; simp at hr; subst hr; rfl) | (simp [bytesC]; omega) | (simp; done) | omega | rfl | skip
          all_goals refine ⟨k + 1, ⟨by omega, t3⟩, by omega, ?_⟩
          all_goals (refine Xto _ _ ?_ ?_ <;> simp only [go_sem, optI, Option.getD_some, Option.getD_none, Int.reduceToNat, reduceIte, Nat.reduceEqDiff, Nat.reduceAdd, Nat.reduceMul, Nat.reduceSub, Nat.reduceLT, Nat.reduceLeDiff, reduceCtorEq, Option.some.injEq, or_true, true_or] <;> (repeat' with_reducible apply And.intro) <;> (try rfl))
        | false =>
          have t3 := t2 hv
          rw [t3] at hR
          rw [hv] at hc
          clear t1 t2 hv hn
          repeat' first | refine SW.step good fun K hK => ?_ | refine X2 good fun K hK => ?_ | refine X3 good fun K hK => ?_ | refine SW.seqK fun J hJ => ?_ | refine SW.last good fun K hK => ?_ | (refine hK _ ?_; clear hK K) | (refine hJ _ _ (Wk.refl _) ?_; clear hJ J) | clear hK K | clear hJ J | refine SW.skip ?_ | refine SW.ret ?_ | refine SW.retT ?_ | refine SW.retB ?_ | refine SW.exit ?_ | refine SW.exitT ?_ | refine SW.exitB ?_ | refine XN ?_ | refine SW.block ?_ | refine SW.normB ?_ | refine SW.normT ?_ | refine XT ?_ | refine XF ?_ | refine XC (fun h => ?_) (fun h => ?_) | refine X0 ?_ | refine Xv ?_ | refine X1 (hc) ?_ | simp only [go_sem, optI, Option.getD_some, Option.getD_none, Int.reduceToNat, reduceIte, Nat.reduceEqDiff, Nat.reduceAdd, Nat.reduceMul, Nat.reduceSub, Nat.reduceLT, Nat.reduceLeDiff, reduceCtorEq, *] | refine Xs _ (fun h => ?_) (fun h => ?_) | with_reducible refine And.intro ?_ ?_
          all_goals first | (intro r hr; simp at hr; subst hr; rfl) | (simp [bytesC]; omega) | (simp; done) | omega | rfl | skip
          all_goals (refine Xrb ?_; first | exact hR | rfl | (rw [t3]))
      · have hk : k = L.length := by omega
        subst hk
        have e1 : decide ((L.length : Int) < L.length) = false := by simp
        rw [h3] at hR
        clear hst hn h2 hk
        repeat' first | refine SW.step good fun K hK => ?_ | refine X2 good fun K hK => ?_ | refine X3 good fun K hK => ?_ | refine SW.seqK fun J hJ => ?_ | refine SW.last good fun K hK => ?_ | (refine hK _ ?_; clear hK K) | (refine hJ _ _ (Wk.refl _) ?_; clear hJ J) | clear hK K | clear hJ J | refine SW.skip ?_ | refine SW.ret ?_ | refine SW.retT ?_ | refine SW.retB ?_ | refine SW.exit ?_ | refine SW.exitT ?_ | refine SW.exitB ?_ | refine XN ?_ | refine SW.block ?_ | refine SW.normB ?_ | refine SW.normT ?_ | refine XT ?_ | refine XF ?_ | refine XC (fun h => ?_) (fun h => ?_) | simp only [go_sem, optI, Option.getD_some, Option.getD_none, Int.reduceToNat, reduceIte, Nat.reduceEqDiff, Nat.reduceAdd, Nat.reduceMul, Nat.reduceSub, Nat.reduceLT, Nat.reduceLeDiff, reduceCtorEq, *] | refine Xs _ (fun h => ?_) (fun h => ?_) | with_reducible refine And.intro ?_ ?_
        all_goals first | (intro r hr; simp at hr; subst hr; rfl) | (simp [bytesC]; omega) | (simp; done) | omega | rfl | skip
        all_goals (refine Xrb ?_; first | exact hR | rfl | exact h3 | simp_all)
  · rw [show decide (1 ≤ (L.length : Int) ∧ (L.length : Int) ≤ 200) = false by simpa using hn] at c hR
    simp only [Bool.false_and] at hR
    refine XA good (fn := Tryz.f15) rfl ?_
    simp only [entry, List.getD_cons_zero, List.getD_cons_succ]
    repeat' first | refine SW.step good fun K hK => ?_ | refine X2 good fun K hK => ?_ | refine X3 good fun K hK => ?_ | refine SW.seqK fun J hJ => ?_ | refine SW.last good fun K hK => ?_ | (refine hK _ ?_; clear hK K) | (refine hJ _ _ (Wk.refl _) ?_; clear hJ J) | clear hK K | clear hJ J | refine SW.skip ?_ | refine SW.ret ?_ | refine SW.retT ?_ | refine SW.retB ?_ | refine SW.exit ?_ | refine SW.exitT ?_ | refine SW.exitB ?_ | refine XN ?_ | refine SW.block ?_ | refine SW.normB ?_ | refine SW.normT ?_ | refine XT ?_ | refine XF ?_ | refine XC (fun h => ?_) (fun h => ?_) | refine X0 ?_ | refine Xv ?_ | refine X1 (c) ?_ | simp only [go_sem, optI, Option.getD_some, Option.getD_none, Int.reduceToNat, reduceIte, Nat.reduceEqDiff, Nat.reduceAdd, Nat.reduceMul, Nat.reduceSub, Nat.reduceLT, Nat.reduceLeDiff, reduceCtorEq, *] | refine Xs _ (fun h => ?_) (fun h => ?_) | with_reducible refine And.intro ?_ ?_
    all_goals first | (intro r hr; simp at hr; subst hr; rfl) | (simp [bytesC]; omega) | (simp; done) | omega | rfl | skip
    all_goals (refine Xrb ?_; first | exact hR | rfl)
end Go.Proofs.YtbgeagbgfioaaaaGreat.AB
