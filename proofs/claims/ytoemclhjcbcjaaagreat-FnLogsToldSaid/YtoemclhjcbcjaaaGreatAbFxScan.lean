/- Texts are read; the readers' methods. -/
import Derived.Test.YtoemclhjcbcjaaaGreatAbGaCred
namespace Go.Proofs.YtoemclhjcbcjaaaGreat.AB
open Go
set_option maxRecDepth 100000
set_option linter.unusedSimpArgs false
set_option linter.unusedVariables false
def z10 : List AV := [vI 0, vI 0, vI 0, vI 0, vI 0, vI 0, vI 0, vI 0, vI 0, vI 0]
set_option maxHeartbeats 2000000 in
theorem ac_ReadCred' (t : List UInt8) (ht : t.length ≤ 4611686018427387904) : AC Tryz.prog 39 [vS t] (.tup [encCred (rcC t), vB (rcB t)]) [] := by
  refine XA good (fn := Tryz.f39) rfl ?_
  simp only [entry, List.getD_cons_zero, List.getD_cons_succ]
  repeat' first | refine SW.step good fun K hK => ?_ | refine X2 good fun K hK => ?_ | refine X3 good fun K hK => ?_ | refine SW.seqK fun J hJ => ?_ | refine SW.last good fun K hK => ?_ | (refine hK _ ?_; clear hK K) | (refine hJ _ _ (Wk.refl _) ?_; clear hJ J) | clear hK K | clear hJ J | refine SW.skip ?_ | refine SW.ret ?_ | refine SW.retT ?_ | refine SW.retB ?_ | refine SW.exit ?_ | refine SW.exitT ?_ | refine SW.exitB ?_ | refine XN ?_ | refine SW.block ?_ | refine SW.normB ?_ | refine SW.normT ?_ | refine XT ?_ | refine XF ?_ | refine XC (fun h => ?_) (fun h => ?_) | simp only [go_sem, optI, Option.getD_some, Option.getD_none, Int.reduceToNat, reduceIte, Nat.reduceEqDiff, Nat.reduceAdd, Nat.reduceMul, Nat.reduceSub, Nat.reduceLT, Nat.reduceLeDiff, reduceCtorEq, *] | refine Xs _ (fun h => ?_) (fun h => ?_) | with_reducible refine And.intro ?_ ?_
  refine SW.loopTo (α := List Int × Int) (fun a => ⟨sl [(0, vS t), (2, .ptr (.s 2 0) 0), (4, .own (.s 11 0)), (5, vI a.2), (6, vI a.1.length)], hl [(.s 11 0, .row false 3 1 (a.1.map intC)), (.s 2 0, .box z10)]⟩) (fun a => 10 - a.1.length) ([], 0) (fun a => a.1.length ≤ 10 ∧ readNs t a.1.length 0 = some a) ?_ ⟨by simp, by simp [readNs]⟩ ?_
  · simp only [z10]
    (refine Xto _ _ ?_ ?_ <;> simp only [go_sem, optI, Option.getD_some, Option.getD_none, Int.reduceToNat, reduceIte, Nat.reduceEqDiff, Nat.reduceAdd, Nat.reduceMul, Nat.reduceSub, Nat.reduceLT, Nat.reduceLeDiff, reduceCtorEq, Option.some.injEq, or_true, true_or] <;> (repeat' with_reducible apply And.intro) <;> (try rfl))
  · rintro ⟨m, q⟩ ⟨h2, h3⟩
    simp only at h2 h3
    by_cases hk : m.length < 10
    · have e1 : decide ((m.length : Int) < 10) = true := by simp; omega
      have hw : IntKind.i64.wrap ((m.length : Int) + 1) = ((m.length + 1 : Nat) : Int) := wrap64 (by omega) (by omega)
      have hR := ac_ReadVar' t q ht
      unfold rvV rvE rvB at hR
      simp only [z10]
      cases hr : readVar t q with
      | none =>
        have hres : readCred t = none := by unfold readCred; rw [readNs_none h3 hk hr]
        simp only [hr, Option.isSome_none] at hR
        clear h3 hr
        repeat' first | refine SW.step good fun K hK => ?_ | refine X2 good fun K hK => ?_ | refine X3 good fun K hK => ?_ | refine SW.seqK fun J hJ => ?_ | refine SW.last good fun K hK => ?_ | (refine hK _ ?_; clear hK K) | (refine hJ _ _ (Wk.refl _) ?_; clear hJ J) | clear hK K | clear hJ J | refine SW.skip ?_ | refine SW.ret ?_ | refine SW.retT ?_ | refine SW.retB ?_ | refine SW.exit ?_ | refine SW.exitT ?_ | refine SW.exitB ?_ | refine XN ?_ | refine SW.block ?_ | refine SW.normB ?_ | refine SW.normT ?_ | refine XT ?_ | refine XF ?_ | refine XC (fun h => ?_) (fun h => ?_) | refine X0 ?_ | refine Xv ?_ | refine X1 (hR) ?_ | simp only [go_sem, optI, Option.getD_some, Option.getD_none, Int.reduceToNat, reduceIte, Nat.reduceEqDiff, Nat.reduceAdd, Nat.reduceMul, Nat.reduceSub, Nat.reduceLT, Nat.reduceLeDiff, reduceCtorEq, *] | refine Xs _ (fun h => ?_) (fun h => ?_) | with_reducible refine And.intro ?_ ?_
        all_goals first | (refine Xrp ?_; simp [resOf, Wn.le, Wn.leL, Wn.cw, C.scal, scal, rcC, rcB, hres, credZ, encCred]; done) | (exfalso; simp_all; done) | (simp; done) | skip
        all_goals trace_state
      | some ne =>
        obtain ⟨n, e'⟩ := ne
        simp only [hr, Option.isSome_some] at hR
        have h4 := readNs_more h3 hr
        clear hr h3
        repeat' first | refine SW.step good fun K hK => ?_ | refine X2 good fun K hK => ?_ | refine X3 good fun K hK => ?_ | refine SW.seqK fun J hJ => ?_ | refine SW.last good fun K hK => ?_ | (refine hK _ ?_; clear hK K) | (refine hJ _ _ (Wk.refl _) ?_; clear hJ J) | clear hK K | clear hJ J | refine SW.skip ?_ | refine SW.ret ?_ | refine SW.retT ?_ | refine SW.retB ?_ | refine SW.exit ?_ | refine SW.exitT ?_ | refine SW.exitB ?_ | refine XN ?_ | refine SW.block ?_ | refine SW.normB ?_ | refine SW.normT ?_ | refine XT ?_ | refine XF ?_ | refine XC (fun h => ?_) (fun h => ?_) | refine X0 ?_ | refine Xv ?_ | refine X1 (hR) ?_ | simp only [go_sem, optI, Option.getD_some, Option.getD_none, Int.reduceToNat, reduceIte, Nat.reduceEqDiff, Nat.reduceAdd, Nat.reduceMul, Nat.reduceSub, Nat.reduceLT, Nat.reduceLeDiff, reduceCtorEq, *] | refine Xs _ (fun h => ?_) (fun h => ?_) | with_reducible refine And.intro ?_ ?_
        all_goals first | (intro r hr; simp at hr; subst hr; rfl) | (simp [bytesC]; omega) | (simp; done) | omega | rfl | skip
        all_goals refine ⟨(m ++ [(n : Int)], (e' : Int)), ⟨by simp; omega, by simpa using h4⟩, by simp; omega, ?_⟩
        all_goals simp only [z10]
        all_goals (refine Xto _ _ ?_ ?_ <;> simp only [go_sem, optI, Option.getD_some, Option.getD_none, Int.reduceToNat, reduceIte, Nat.reduceEqDiff, Nat.reduceAdd, Nat.reduceMul, Nat.reduceSub, Nat.reduceLT, Nat.reduceLeDiff, reduceCtorEq, Option.some.injEq, or_true, true_or] <;> (repeat' with_reducible apply And.intro) <;> (try rfl))
        all_goals first | (simp; done) | skip
    · have hk : m.length = 10 := by omega
      obtain ⟨n0, n1, n2, n3, n4, n5, n6, n7, n8, n9, rfl⟩ := ten hk
      have e1 : decide ((10 : Int) < 10) = false := by simp
      have h4 : readNs t 10 0 = some ([n0, n1, n2, n3, n4, n5, n6, n7, n8, n9], q) := h3
      clear h3 h2 hk
      have hnum := readNs_spec _ _ _ _ h4
      have hcr : readCred t = if q = t.length ∧ credOk ⟨n0, ⟨n1, n2⟩, n3, ⟨n4, n5⟩, ⟨n6, n7⟩, n8, n9⟩ = true then some ⟨n0, ⟨n1, n2⟩, n3, ⟨n4, n5⟩, ⟨n6, n7⟩, n8, n9⟩ else none := by
        unfold readCred; rw [h4]; rfl
      have hend := fun hok => readCred_end h4 (show credOk (credOf [n0, n1, n2, n3, n4, n5, n6, n7, n8, n9]) = true from hok)
      clear h4 hnum
      have hk := ac_CredOk' ⟨n0, ⟨n1, n2⟩, n3, ⟨n4, n5⟩, ⟨n6, n7⟩, n8, n9⟩
      have ht2 := ac_CredText' ⟨n0, ⟨n1, n2⟩, n3, ⟨n4, n5⟩, ⟨n6, n7⟩, n8, n9⟩
      simp only [List.map_cons, List.map_nil, List.length_cons, List.length_nil, z10]
      by_cases hok : credOk ⟨n0, ⟨n1, n2⟩, n3, ⟨n4, n5⟩, ⟨n6, n7⟩, n8, n9⟩ = true
      · have hend := hend hok
        rw [hok] at hk
        rw [show credOf [n0, n1, n2, n3, n4, n5, n6, n7, n8, n9] = ⟨n0, ⟨n1, n2⟩, n3, ⟨n4, n5⟩, ⟨n6, n7⟩, n8, n9⟩ from rfl] at hend
        generalize htx : credText ⟨n0, ⟨n1, n2⟩, n3, ⟨n4, n5⟩, ⟨n6, n7⟩, n8, n9⟩ = tx at *
        by_cases hq : q = t.length
        · have hres := hcr
          rw [if_pos ⟨hq, hok⟩] at hres
          have htt := hend.2 hq
          clear hcr hend htx hok
          subst htt
          repeat' first | refine SW.step good fun K hK => ?_ | refine X2 good fun K hK => ?_ | refine X3 good fun K hK => ?_ | refine SW.seqK fun J hJ => ?_ | refine SW.last good fun K hK => ?_ | (refine hK _ ?_; clear hK K) | (refine hJ _ _ (Wk.refl _) ?_; clear hJ J) | clear hK K | clear hJ J | refine SW.skip ?_ | refine SW.ret ?_ | refine SW.retT ?_ | refine SW.retB ?_ | refine SW.exit ?_ | refine SW.exitT ?_ | refine SW.exitB ?_ | refine XN ?_ | refine SW.block ?_ | refine SW.normB ?_ | refine SW.normT ?_ | refine XT ?_ | refine XF ?_ | refine XC (fun h => ?_) (fun h => ?_) | refine X0 ?_ | refine Xv ?_ | refine X1 (hk) ?_ | refine X1 (ht2) ?_ | simp only [go_sem, optI, Option.getD_some, Option.getD_none, Int.reduceToNat, reduceIte, Nat.reduceEqDiff, Nat.reduceAdd, Nat.reduceMul, Nat.reduceSub, Nat.reduceLT, Nat.reduceLeDiff, reduceCtorEq, *] | refine Xs _ (fun h => ?_) (fun h => ?_) | with_reducible refine And.intro ?_ ?_
          all_goals first | (refine Xrp ?_; simp [resOf, Wn.le, Wn.leL, Wn.cw, C.scal, scal, rcC, rcB, hres, encCred]; done) | (exfalso; simp_all; done) | (simp; done) | skip
          all_goals trace_state
        · have hres := hcr
          rw [if_neg (fun r => hq r.1)] at hres
          have htt : ¬ tx = t := fun r => hq (hend.1 r)
          clear hcr hend htx hok
          repeat' first | refine SW.step good fun K hK => ?_ | refine X2 good fun K hK => ?_ | refine X3 good fun K hK => ?_ | refine SW.seqK fun J hJ => ?_ | refine SW.last good fun K hK => ?_ | (refine hK _ ?_; clear hK K) | (refine hJ _ _ (Wk.refl _) ?_; clear hJ J) | clear hK K | clear hJ J | refine SW.skip ?_ | refine SW.ret ?_ | refine SW.retT ?_ | refine SW.retB ?_ | refine SW.exit ?_ | refine SW.exitT ?_ | refine SW.exitB ?_ | refine XN ?_ | refine SW.block ?_ | refine SW.normB ?_ | refine SW.normT ?_ | refine XT ?_ | refine XF ?_ | refine XC (fun h => ?_) (fun h => ?_) | refine X0 ?_ | refine Xv ?_ | refine X1 (hk) ?_ | refine X1 (ht2) ?_ | simp only [go_sem, optI, Option.getD_some, Option.getD_none, Int.reduceToNat, reduceIte, Nat.reduceEqDiff, Nat.reduceAdd, Nat.reduceMul, Nat.reduceSub, Nat.reduceLT, Nat.reduceLeDiff, reduceCtorEq, *] | refine Xs _ (fun h => ?_) (fun h => ?_) | with_reducible refine And.intro ?_ ?_
          all_goals first | (refine Xrp ?_; simp [resOf, Wn.le, Wn.leL, Wn.cw, C.scal, scal, rcC, rcB, hres, encCred, credZ]; done) | (exfalso; simp_all; done) | (simp; done) | skip
          all_goals trace_state
      · have hok : credOk ⟨n0, ⟨n1, n2⟩, n3, ⟨n4, n5⟩, ⟨n6, n7⟩, n8, n9⟩ = false := by simpa using hok
        rw [if_neg (by rw [hok]; simp)] at hcr
        rw [hok] at hk
        have hres := hcr
        clear hcr hend hok
        repeat' first | refine SW.step good fun K hK => ?_ | refine X2 good fun K hK => ?_ | refine X3 good fun K hK => ?_ | refine SW.seqK fun J hJ => ?_ | refine SW.last good fun K hK => ?_ | (refine hK _ ?_; clear hK K) | (refine hJ _ _ (Wk.refl _) ?_; clear hJ J) | clear hK K | clear hJ J | refine SW.skip ?_ | refine SW.ret ?_ | refine SW.retT ?_ | refine SW.retB ?_ | refine SW.exit ?_ | refine SW.exitT ?_ | refine SW.exitB ?_ | refine XN ?_ | refine SW.block ?_ | refine SW.normB ?_ | refine SW.normT ?_ | refine XT ?_ | refine XF ?_ | refine XC (fun h => ?_) (fun h => ?_) | refine X0 ?_ | refine Xv ?_ | refine X1 (hk) ?_ | refine X1 (ht2) ?_ | simp only [go_sem, optI, Option.getD_some, Option.getD_none, Int.reduceToNat, reduceIte, Nat.reduceEqDiff, Nat.reduceAdd, Nat.reduceMul, Nat.reduceSub, Nat.reduceLT, Nat.reduceLeDiff, reduceCtorEq, *] | refine Xs _ (fun h => ?_) (fun h => ?_) | with_reducible refine And.intro ?_ ?_
        all_goals first | (refine Xrp ?_; simp [resOf, Wn.le, Wn.leL, Wn.cw, C.scal, scal, rcC, rcB, hres, encCred, credZ]; done) | (exfalso; simp_all; done) | (simp; done) | skip
        all_goals trace_state
end Go.Proofs.YtoemclhjcbcjaaaGreat.AB
namespace Go.Proofs.YtoemclhjcbcjaaaGreat.AB
open Go
set_option maxRecDepth 100000
set_option linter.unusedSimpArgs false
set_option linter.unusedVariables false
def rsT (t : List UInt8) (p : Int) : List UInt8 := match readShort t p with | some (x, _) => x | none => []
def rsE (t : List UInt8) (p : Int) : Int := match readShort t p with | some (_, e) => e | none => 0
def rsB (t : List UInt8) (p : Int) : Bool := (readShort t p).isSome
section
variable {P : Program} {T : Tab} {st : St} {rv : List ResultVar} {res : AV} {p : Prop} {xs : List AV}
theorem ret_m1 {o o' : Ob} (h : resL T st rv = some (p, xs)) (hp : p) (ho : st.h (.a 0) = some o') (hoo : (outM st [] [some o] []).leO o o') (hle : (outM st [] [some o] []).le res (resOf xs)) : retM T rv res [some o] [] .ret st := by
  simp only [retM, h]
  refine ⟨hp, [], rfl, .nil, fun j k hj => by simp at hj, fun k o1 hk => ?_, fun j o i hj => by simp at hj, hle⟩
  cases k with
  | zero => simp at hk; subst hk; exact ⟨o', ho, hoo⟩
  | succ k => simp at hk
end
set_option maxHeartbeats 1000000 in
theorem ac_ReadShort (t : List UInt8) (p : Int) (ht : t.length ≤ 4611686018427387904) : AC Tryz.prog 54 [vS t, vI p] (.tup [vS (rsT t p), vI (rsE t p), vB (rsB t p)]) [] := by
  have hR := ac_ReadVar t p ht
  unfold rvV rvE rvB at hR
  cases hr : readVar t p with
  | none =>
    simp only [hr, Option.isSome_none] at hR
    have hres : readShort t p = none := by unfold readShort; rw [hr]
    refine XA good (fn := Tryz.f54) rfl ?_
    simp only [entry, List.getD_cons_zero, List.getD_cons_succ]
    repeat' first | refine SW.step good fun K hK => ?_ | refine X2 good fun K hK => ?_ | refine X3 good fun K hK => ?_ | refine SW.seqK fun J hJ => ?_ | refine SW.last good fun K hK => ?_ | (refine hK _ ?_; clear hK K) | (refine hJ _ _ (Wk.refl _) ?_; clear hJ J) | clear hK K | clear hJ J | refine SW.skip ?_ | refine SW.ret ?_ | refine SW.retT ?_ | refine SW.retB ?_ | refine SW.exit ?_ | refine SW.exitT ?_ | refine SW.exitB ?_ | refine XN ?_ | refine SW.block ?_ | refine SW.normB ?_ | refine SW.normT ?_ | refine XT ?_ | refine XF ?_ | refine XC (fun h => ?_) (fun h => ?_) | refine X0 ?_ | refine Xv ?_ | refine X1 (hR) ?_ | simp only [go_sem, optI, Option.getD_some, Option.getD_none, Int.reduceToNat, reduceIte, Nat.reduceEqDiff, Nat.reduceAdd, Nat.reduceMul, Nat.reduceSub, Nat.reduceLT, Nat.reduceLeDiff, reduceCtorEq, *] | refine Xs _ (fun h => ?_) (fun h => ?_) | with_reducible refine And.intro ?_ ?_
    all_goals first | (refine Xrp ?_; simp [resOf, Wn.le, Wn.leL, Wn.cw, C.scal, scal, rsT, rsE, rsB, hres]; done) | (exfalso; simp at *; done) | skip
  | some ne =>
    obtain ⟨n, e⟩ := ne
    obtain ⟨a1, a2, a3, a4, a5⟩ := readVar_spec hr
    simp only [hr, Option.isSome_some] at hR
    have hw1 : IntKind.i64.wrap ((t.length : Int) - (e : Int)) = ((t.length - e : Nat) : Int) := by rw [wrap64 (by omega) (by omega)]; omega
    have hw2 : IntKind.i64.wrap ((e : Int) + (n : Int)) = ((e + n : Nat) : Int) := wrap64 (by omega) (by omega)
    by_cases c1 : 20000 < n
    · have hres : readShort t p = none := by unfold readShort; rw [hr]; simp only; rw [if_pos (.inl c1)]
      have g1 : decide ((20000 : Int) < (n : Int)) = true := by simp; omega
      clear a5 hr
      refine XA good (fn := Tryz.f54) rfl ?_
      simp only [entry, List.getD_cons_zero, List.getD_cons_succ]
      repeat' first | refine SW.step good fun K hK => ?_ | refine X2 good fun K hK => ?_ | refine X3 good fun K hK => ?_ | refine SW.seqK fun J hJ => ?_ | refine SW.last good fun K hK => ?_ | (refine hK _ ?_; clear hK K) | (refine hJ _ _ (Wk.refl _) ?_; clear hJ J) | clear hK K | clear hJ J | refine SW.skip ?_ | refine SW.ret ?_ | refine SW.retT ?_ | refine SW.retB ?_ | refine SW.exit ?_ | refine SW.exitT ?_ | refine SW.exitB ?_ | refine XN ?_ | refine SW.block ?_ | refine SW.normB ?_ | refine SW.normT ?_ | refine XT ?_ | refine XF ?_ | refine XC (fun h => ?_) (fun h => ?_) | refine X0 ?_ | refine Xv ?_ | refine X1 (hR) ?_ | simp only [go_sem, optI, Option.getD_some, Option.getD_none, Int.reduceToNat, reduceIte, Nat.reduceEqDiff, Nat.reduceAdd, Nat.reduceMul, Nat.reduceSub, Nat.reduceLT, Nat.reduceLeDiff, reduceCtorEq, *] | refine Xs _ (fun h => ?_) (fun h => ?_) | with_reducible refine And.intro ?_ ?_
      all_goals first | (refine Xrp ?_; simp [resOf, Wn.le, Wn.leL, Wn.cw, C.scal, scal, rsT, rsE, rsB, hres]; done) | (exfalso; simp at *; done) | skip
    · have g1 : decide ((20000 : Int) < (n : Int)) = false := by simp; omega
      by_cases c2 : t.length - e < n
      · have hres : readShort t p = none := by unfold readShort; rw [hr]; simp only; rw [if_pos (.inr c2)]
        have g2 : decide (((t.length - e : Nat) : Int) < (n : Int)) = true := by simp; omega
        clear a5 hr
        refine XA good (fn := Tryz.f54) rfl ?_
        simp only [entry, List.getD_cons_zero, List.getD_cons_succ]
        repeat' first | refine SW.step good fun K hK => ?_ | refine X2 good fun K hK => ?_ | refine X3 good fun K hK => ?_ | refine SW.seqK fun J hJ => ?_ | refine SW.last good fun K hK => ?_ | (refine hK _ ?_; clear hK K) | (refine hJ _ _ (Wk.refl _) ?_; clear hJ J) | clear hK K | clear hJ J | refine SW.skip ?_ | refine SW.ret ?_ | refine SW.retT ?_ | refine SW.retB ?_ | refine SW.exit ?_ | refine SW.exitT ?_ | refine SW.exitB ?_ | refine XN ?_ | refine SW.block ?_ | refine SW.normB ?_ | refine SW.normT ?_ | refine XT ?_ | refine XF ?_ | refine XC (fun h => ?_) (fun h => ?_) | refine X0 ?_ | refine Xv ?_ | refine X1 (hR) ?_ | simp only [go_sem, optI, Option.getD_some, Option.getD_none, Int.reduceToNat, reduceIte, Nat.reduceEqDiff, Nat.reduceAdd, Nat.reduceMul, Nat.reduceSub, Nat.reduceLT, Nat.reduceLeDiff, reduceCtorEq, *] | refine Xs _ (fun h => ?_) (fun h => ?_) | with_reducible refine And.intro ?_ ?_
        all_goals first | (refine Xrp ?_; simp [resOf, Wn.le, Wn.leL, Wn.cw, C.scal, scal, rsT, rsE, rsB, hres]; done) | (exfalso; simp at *; done) | skip
      · have hres : readShort t p = some ((t.drop e).take n, e + n) := by unfold readShort; rw [hr]; simp only; rw [if_neg (by omega)]
        have g2 : decide (((t.length - e : Nat) : Int) < (n : Int)) = false := by simp; omega
        have hen : e + n - e = n := by omega
        clear a5 hr
        refine XA good (fn := Tryz.f54) rfl ?_
        simp only [entry, List.getD_cons_zero, List.getD_cons_succ]
        repeat' first | refine SW.step good fun K hK => ?_ | refine X2 good fun K hK => ?_ | refine X3 good fun K hK => ?_ | refine SW.seqK fun J hJ => ?_ | refine SW.last good fun K hK => ?_ | (refine hK _ ?_; clear hK K) | (refine hJ _ _ (Wk.refl _) ?_; clear hJ J) | clear hK K | clear hJ J | refine SW.skip ?_ | refine SW.ret ?_ | refine SW.retT ?_ | refine SW.retB ?_ | refine SW.exit ?_ | refine SW.exitT ?_ | refine SW.exitB ?_ | refine XN ?_ | refine SW.block ?_ | refine SW.normB ?_ | refine SW.normT ?_ | refine XT ?_ | refine XF ?_ | refine XC (fun h => ?_) (fun h => ?_) | refine X0 ?_ | refine Xv ?_ | refine X1 (hR) ?_ | simp only [go_sem, optI, Option.getD_some, Option.getD_none, Int.reduceToNat, reduceIte, Nat.reduceEqDiff, Nat.reduceAdd, Nat.reduceMul, Nat.reduceSub, Nat.reduceLT, Nat.reduceLeDiff, reduceCtorEq, *] | refine Xs _ (fun h => ?_) (fun h => ?_) | with_reducible refine And.intro ?_ ?_
        all_goals first | omega | (refine Xrp ?_; simp [resOf, Wn.le, Wn.leL, Wn.cw, C.scal, scal, rsT, rsE, rsB, hres]; done) | (exfalso; simp at *; done) | skip
set_option maxHeartbeats 1000000 in
theorem ac_ReadShort' (t : List UInt8) (p : Int) (ht : t.length ≤ 4611686018427387904) : AC Tryz.prog 57 [vS t, vI p] (.tup [vS (rsT t p), vI (rsE t p), vB (rsB t p)]) [] := by
  have hR := ac_ReadVar' t p ht
  unfold rvV rvE rvB at hR
  cases hr : readVar t p with
  | none =>
    simp only [hr, Option.isSome_none] at hR
    have hres : readShort t p = none := by unfold readShort; rw [hr]
    refine XA good (fn := Tryz.f57) rfl ?_
    simp only [entry, List.getD_cons_zero, List.getD_cons_succ]
    repeat' first | refine SW.step good fun K hK => ?_ | refine X2 good fun K hK => ?_ | refine X3 good fun K hK => ?_ | refine SW.seqK fun J hJ => ?_ | refine SW.last good fun K hK => ?_ | (refine hK _ ?_; clear hK K) | (refine hJ _ _ (Wk.refl _) ?_; clear hJ J) | clear hK K | clear hJ J | refine SW.skip ?_ | refine SW.ret ?_ | refine SW.retT ?_ | refine SW.retB ?_ | refine SW.exit ?_ | refine SW.exitT ?_ | refine SW.exitB ?_ | refine XN ?_ | refine SW.block ?_ | refine SW.normB ?_ | refine SW.normT ?_ | refine XT ?_ | refine XF ?_ | refine XC (fun h => ?_) (fun h => ?_) | refine X0 ?_ | refine Xv ?_ | refine X1 (hR) ?_ | simp only [go_sem, optI, Option.getD_some, Option.getD_none, Int.reduceToNat, reduceIte, Nat.reduceEqDiff, Nat.reduceAdd, Nat.reduceMul, Nat.reduceSub, Nat.reduceLT, Nat.reduceLeDiff, reduceCtorEq, *] | refine Xs _ (fun h => ?_) (fun h => ?_) | with_reducible refine And.intro ?_ ?_
    all_goals first | (refine Xrp ?_; simp [resOf, Wn.le, Wn.leL, Wn.cw, C.scal, scal, rsT, rsE, rsB, hres]; done) | (exfalso; simp at *; done) | skip
  | some ne =>
    obtain ⟨n, e⟩ := ne
    obtain ⟨a1, a2, a3, a4, a5⟩ := readVar_spec hr
    simp only [hr, Option.isSome_some] at hR
    have hw1 : IntKind.i64.wrap ((t.length : Int) - (e : Int)) = ((t.length - e : Nat) : Int) := by rw [wrap64 (by omega) (by omega)]; omega
    have hw2 : IntKind.i64.wrap ((e : Int) + (n : Int)) = ((e + n : Nat) : Int) := wrap64 (by omega) (by omega)
    by_cases c1 : 20000 < n
    · have hres : readShort t p = none := by unfold readShort; rw [hr]; simp only; rw [if_pos (.inl c1)]
      have g1 : decide ((20000 : Int) < (n : Int)) = true := by simp; omega
      clear a5 hr
      refine XA good (fn := Tryz.f57) rfl ?_
      simp only [entry, List.getD_cons_zero, List.getD_cons_succ]
      repeat' first | refine SW.step good fun K hK => ?_ | refine X2 good fun K hK => ?_ | refine X3 good fun K hK => ?_ | refine SW.seqK fun J hJ => ?_ | refine SW.last good fun K hK => ?_ | (refine hK _ ?_; clear hK K) | (refine hJ _ _ (Wk.refl _) ?_; clear hJ J) | clear hK K | clear hJ J | refine SW.skip ?_ | refine SW.ret ?_ | refine SW.retT ?_ | refine SW.retB ?_ | refine SW.exit ?_ | refine SW.exitT ?_ | refine SW.exitB ?_ | refine XN ?_ | refine SW.block ?_ | refine SW.normB ?_ | refine SW.normT ?_ | refine XT ?_ | refine XF ?_ | refine XC (fun h => ?_) (fun h => ?_) | refine X0 ?_ | refine Xv ?_ | refine X1 (hR) ?_ | simp only [go_sem, optI, Option.getD_some, Option.getD_none, Int.reduceToNat, reduceIte, Nat.reduceEqDiff, Nat.reduceAdd, Nat.reduceMul, Nat.reduceSub, Nat.reduceLT, Nat.reduceLeDiff, reduceCtorEq, *] | refine Xs _ (fun h => ?_) (fun h => ?_) | with_reducible refine And.intro ?_ ?_
      all_goals first | (refine Xrp ?_; simp [resOf, Wn.le, Wn.leL, Wn.cw, C.scal, scal, rsT, rsE, rsB, hres]; done) | (exfalso; simp at *; done) | skip
    · have g1 : decide ((20000 : Int) < (n : Int)) = false := by simp; omega
      by_cases c2 : t.length - e < n
      · have hres : readShort t p = none := by unfold readShort; rw [hr]; simp only; rw [if_pos (.inr c2)]
        have g2 : decide (((t.length - e : Nat) : Int) < (n : Int)) = true := by simp; omega
        clear a5 hr
        refine XA good (fn := Tryz.f57) rfl ?_
        simp only [entry, List.getD_cons_zero, List.getD_cons_succ]
        repeat' first | refine SW.step good fun K hK => ?_ | refine X2 good fun K hK => ?_ | refine X3 good fun K hK => ?_ | refine SW.seqK fun J hJ => ?_ | refine SW.last good fun K hK => ?_ | (refine hK _ ?_; clear hK K) | (refine hJ _ _ (Wk.refl _) ?_; clear hJ J) | clear hK K | clear hJ J | refine SW.skip ?_ | refine SW.ret ?_ | refine SW.retT ?_ | refine SW.retB ?_ | refine SW.exit ?_ | refine SW.exitT ?_ | refine SW.exitB ?_ | refine XN ?_ | refine SW.block ?_ | refine SW.normB ?_ | refine SW.normT ?_ | refine XT ?_ | refine XF ?_ | refine XC (fun h => ?_) (fun h => ?_) | refine X0 ?_ | refine Xv ?_ | refine X1 (hR) ?_ | simp only [go_sem, optI, Option.getD_some, Option.getD_none, Int.reduceToNat, reduceIte, Nat.reduceEqDiff, Nat.reduceAdd, Nat.reduceMul, Nat.reduceSub, Nat.reduceLT, Nat.reduceLeDiff, reduceCtorEq, *] | refine Xs _ (fun h => ?_) (fun h => ?_) | with_reducible refine And.intro ?_ ?_
        all_goals first | (refine Xrp ?_; simp [resOf, Wn.le, Wn.leL, Wn.cw, C.scal, scal, rsT, rsE, rsB, hres]; done) | (exfalso; simp at *; done) | skip
      · have hres : readShort t p = some ((t.drop e).take n, e + n) := by unfold readShort; rw [hr]; simp only; rw [if_neg (by omega)]
        have g2 : decide (((t.length - e : Nat) : Int) < (n : Int)) = false := by simp; omega
        have hen : e + n - e = n := by omega
        clear a5 hr
        refine XA good (fn := Tryz.f57) rfl ?_
        simp only [entry, List.getD_cons_zero, List.getD_cons_succ]
        repeat' first | refine SW.step good fun K hK => ?_ | refine X2 good fun K hK => ?_ | refine X3 good fun K hK => ?_ | refine SW.seqK fun J hJ => ?_ | refine SW.last good fun K hK => ?_ | (refine hK _ ?_; clear hK K) | (refine hJ _ _ (Wk.refl _) ?_; clear hJ J) | clear hK K | clear hJ J | refine SW.skip ?_ | refine SW.ret ?_ | refine SW.retT ?_ | refine SW.retB ?_ | refine SW.exit ?_ | refine SW.exitT ?_ | refine SW.exitB ?_ | refine XN ?_ | refine SW.block ?_ | refine SW.normB ?_ | refine SW.normT ?_ | refine XT ?_ | refine XF ?_ | refine XC (fun h => ?_) (fun h => ?_) | refine X0 ?_ | refine Xv ?_ | refine X1 (hR) ?_ | simp only [go_sem, optI, Option.getD_some, Option.getD_none, Int.reduceToNat, reduceIte, Nat.reduceEqDiff, Nat.reduceAdd, Nat.reduceMul, Nat.reduceSub, Nat.reduceLT, Nat.reduceLeDiff, reduceCtorEq, *] | refine Xs _ (fun h => ?_) (fun h => ?_) | with_reducible refine And.intro ?_ ?_
        all_goals first | omega | (refine Xrp ?_; simp [resOf, Wn.le, Wn.leL, Wn.cw, C.scal, scal, rsT, rsE, rsB, hres]; done) | (exfalso; simp at *; done) | skip
end Go.Proofs.YtoemclhjcbcjaaaGreat.AB
