/- Words are read: ten numbers. -/
import Derived.Test.YtbpfciidbgkekaaAbFwScan
import Derived.Test.YtbpfciidbgkekaaAbFgRing
namespace Go.Proofs.Ytbpfciidbgkekaa.AB
open Go
set_option maxRecDepth 100000
set_option linter.unusedSimpArgs false
set_option linter.unusedVariables false
theorem readNs_snoc {t : List UInt8} : ∀ (j k : Nat) (p : Int) (l : List Int) (e : Int), readNs t j p = some (l, e) → readNs t (j + k) p = (match readNs t k e with | some (l', e') => some (l ++ l', e') | none => none)
  | 0, k, p, l, e, h => by
    simp only [readNs, Option.some.injEq, Prod.mk.injEq] at h
    obtain ⟨rfl, rfl⟩ := h
    rw [Nat.zero_add]
    cases readNs t k p with
    | none => rfl
    | some x => rfl
  | j + 1, k, p, l, e, h => by
    simp only [readNs] at h
    rw [show j + 1 + k = (j + k) + 1 by omega, readNs]
    split at h
    · rename_i n e' hr
      split at h
      · rename_i l' e'' hq
        simp only [Option.some.injEq, Prod.mk.injEq] at h
        obtain ⟨rfl, rfl⟩ := h
        rw [readNs_snoc j k _ _ _ hq]
        cases readNs t k e'' with
        | none => rfl
        | some x => rfl
      · cases h
    · cases h
theorem readNs_step {t : List UInt8} {j c : Nat} {p : Int} {l : List Int} {e : Int} (h : readNs t j p = some (l, e)) (hj : j < c) : readNs t c p = (match readVar t e with
    | some (n, e') => (match readNs t (c - j - 1) e' with | some (l', e'') => some (l ++ (n : Int) :: l', e'') | none => none)
    | none => none) := by
  rw [show c = j + (c - j - 1 + 1) by omega, readNs_snoc j _ _ _ _ h, readNs, show j + (c - j - 1 + 1) - j - 1 = c - j - 1 by omega]
  cases readVar t e with
  | none => rfl
  | some x =>
    obtain ⟨n, e'⟩ := x
    simp only
    cases readNs t (c - j - 1) e' with
    | none => rfl
    | some y => rfl
theorem readNs_more {t : List UInt8} {j : Nat} {p : Int} {l : List Int} {e : Int} {n e' : Nat} (h : readNs t j p = some (l, e)) (hr : readVar t e = some (n, e')) : readNs t (j + 1) p = some (l ++ [(n : Int)], (e' : Int)) := by
  rw [readNs_snoc j 1 _ _ _ h, readNs, hr]; rfl
theorem readNs_none {t : List UInt8} {j c : Nat} {p : Int} {l : List Int} {e : Int} (h : readNs t j p = some (l, e)) (hj : j < c) (hr : readVar t e = none) : readNs t c p = none := by
  rw [readNs_step h hj, hr]
theorem readNs_split {t : List UInt8} {c j : Nat} {p : Int} {l : List Int} {e : Int} (h : readNs t c p = some (l, e)) (hj : j ≤ c) : ∃ l1 e1, readNs t j p = some (l1, e1) := by
  cases hq : readNs t j p with
  | some x => exact ⟨x.1, x.2, rfl⟩
  | none =>
    exfalso
    have : ∀ (j k : Nat) (p : Int), readNs t j p = none → readNs t (j + k) p = none := by
      intro j
      induction j with
      | zero => intro k p h; simp [readNs] at h
      | succ j ih =>
        intro k p h
        rw [show j + 1 + k = (j + k) + 1 by omega]
        simp only [readNs] at h ⊢
        cases hr : readVar t p with
        | none => rfl
        | some ne =>
          rw [hr] at h; simp only at h ⊢
          cases hq : readNs t j ne.2 with
          | none => rw [ih k _ hq]
          | some x => rw [hq] at h; cases h
    have := this j (c - j) p hq
    rw [show j + (c - j) = c by omega, h] at this
    cases this
set_option maxHeartbeats 1000000 in
theorem ac_readVars (t : List UInt8) (p : Int) (c : Nat) (ht : t.length ≤ 4611686018427387904) (hc : c ≤ 1000) (l : List Int) (e : Int) (hle : readNs t c p = some (l, e)) :
    AC Try.prog 155 [vS t, vI p, vI c] (.tup [.own (.r 0), vI e, vB true]) [.row false 3 1 (l.map intC)] := by
  refine XA good (fn := Try.f155) rfl ?_
  simp only [entry, List.getD_cons_zero, List.getD_cons_succ]
  repeat' first | refine SW.step good fun K hK => ?_ | refine X2 good fun K hK => ?_ | refine X3 good fun K hK => ?_ | refine SW.seqK fun J hJ => ?_ | refine SW.last good fun K hK => ?_ | (refine hK _ ?_; clear hK K) | (refine hJ _ _ (Wk.refl _) ?_; clear hJ J) | clear hK K | clear hJ J | refine SW.skip ?_ | refine SW.ret ?_ | refine SW.retT ?_ | refine SW.retB ?_ | refine SW.exit ?_ | refine SW.exitT ?_ | refine SW.exitB ?_ | refine XN ?_ | refine SW.block ?_ | refine SW.normB ?_ | refine SW.normT ?_ | refine XT ?_ | refine XF ?_ | refine XC (fun h => ?_) (fun h => ?_) | simp only [go_sem, optI, Option.getD_some, Option.getD_none, Int.reduceToNat, reduceIte, Nat.reduceEqDiff, Nat.reduceAdd, Nat.reduceMul, Nat.reduceSub, Nat.reduceLT, Nat.reduceLeDiff, reduceCtorEq, *] | refine Xs _ (fun h => ?_) (fun h => ?_) | with_reducible refine And.intro ?_ ?_
  refine SW.loopTo (α := List Int × Int) (fun a => ⟨sl [(0, vS t), (1, vI a.2), (9, .own (.s 13 0)), (14, vI c), (15, vI a.1.length)], hl [(.s 13 0, .row false 3 1 (a.1.map intC))]⟩) (fun a => c - a.1.length) ([], p) (fun a => a.1.length ≤ c ∧ readNs t a.1.length p = some a) ?_ ⟨by simp, by simp [readNs]⟩ ?_
  · (refine Xto _ _ ?_ ?_ <;> simp only [go_sem, optI, Option.getD_some, Option.getD_none, Int.reduceToNat, reduceIte, Nat.reduceEqDiff, Nat.reduceAdd, Nat.reduceMul, Nat.reduceSub, Nat.reduceLT, Nat.reduceLeDiff, reduceCtorEq, Option.some.injEq, or_true, true_or] <;> (repeat' with_reducible apply And.intro) <;> (try rfl))
  · rintro ⟨m, q⟩ ⟨h2, h3⟩
    simp only at h2 h3
    by_cases hk : m.length < c
    · have e1 : decide ((m.length : Int) < c) = true := by simp; omega
      have hw : IntKind.i64.wrap ((m.length : Int) + 1) = ((m.length + 1 : Nat) : Int) := wrap64 (by omega) (by omega)
      have hR := ac_ReadVar t q ht
      unfold rvV rvE rvB at hR
      cases hr : readVar t q with
      | none => rw [readNs_none h3 hk hr] at hle; cases hle
      | some ne =>
        obtain ⟨n, e'⟩ := ne
        simp only [hr, Option.isSome_some] at hR
        have h4 := readNs_more h3 hr
        clear hle hr
        repeat' first | refine SW.step good fun K hK => ?_ | refine X2 good fun K hK => ?_ | refine X3 good fun K hK => ?_ | refine SW.seqK fun J hJ => ?_ | refine SW.last good fun K hK => ?_ | (refine hK _ ?_; clear hK K) | (refine hJ _ _ (Wk.refl _) ?_; clear hJ J) | clear hK K | clear hJ J | refine SW.skip ?_ | refine SW.ret ?_ | refine SW.retT ?_ | refine SW.retB ?_ | refine SW.exit ?_ | refine SW.exitT ?_ | refine SW.exitB ?_ | refine XN ?_ | refine SW.block ?_ | refine SW.normB ?_ | refine SW.normT ?_ | refine XT ?_ | refine XF ?_ | refine XC (fun h => ?_) (fun h => ?_) | refine X0 ?_ | refine Xv ?_ | refine X1 (hR) ?_ | simp only [go_sem, optI, Option.getD_some, Option.getD_none, Int.reduceToNat, reduceIte, Nat.reduceEqDiff, Nat.reduceAdd, Nat.reduceMul, Nat.reduceSub, Nat.reduceLT, Nat.reduceLeDiff, reduceCtorEq, *] | refine Xs _ (fun h => ?_) (fun h => ?_) | with_reducible refine And.intro ?_ ?_
        all_goals first | (intro r hr; simp at hr; subst hr; rfl) | (simp [bytesC]; omega) | (simp; done) | omega | rfl | skip
        all_goals refine ⟨(m ++ [(n : Int)], (e' : Int)), ⟨by simp; omega, by simpa using h4⟩, by simp; omega, ?_⟩
        all_goals (refine Xto _ _ ?_ ?_ <;> simp only [go_sem, optI, Option.getD_some, Option.getD_none, Int.reduceToNat, reduceIte, Nat.reduceEqDiff, Nat.reduceAdd, Nat.reduceMul, Nat.reduceSub, Nat.reduceLT, Nat.reduceLeDiff, reduceCtorEq, Option.some.injEq, or_true, true_or] <;> (repeat' with_reducible apply And.intro) <;> (try rfl))
        all_goals first | (simp; done) | skip
    · have hk : m.length = c := by omega
      have e1 : decide ((c : Int) < c) = false := by simp
      rw [hk, hle] at h3
      simp only [Option.some.injEq, Prod.mk.injEq] at h3
      obtain ⟨rfl, rfl⟩ := h3
      clear hle
      repeat' first | refine SW.step good fun K hK => ?_ | refine X2 good fun K hK => ?_ | refine X3 good fun K hK => ?_ | refine SW.seqK fun J hJ => ?_ | refine SW.last good fun K hK => ?_ | (refine hK _ ?_; clear hK K) | (refine hJ _ _ (Wk.refl _) ?_; clear hJ J) | clear hK K | clear hJ J | refine SW.skip ?_ | refine SW.ret ?_ | refine SW.retT ?_ | refine SW.retB ?_ | refine SW.exit ?_ | refine SW.exitT ?_ | refine SW.exitB ?_ | refine XN ?_ | refine SW.block ?_ | refine SW.normB ?_ | refine SW.normT ?_ | refine XT ?_ | refine XF ?_ | refine XC (fun h => ?_) (fun h => ?_) | simp only [go_sem, optI, Option.getD_some, Option.getD_none, Int.reduceToNat, reduceIte, Nat.reduceEqDiff, Nat.reduceAdd, Nat.reduceMul, Nat.reduceSub, Nat.reduceLT, Nat.reduceLeDiff, reduceCtorEq, *] | refine Xs _ (fun h => ?_) (fun h => ?_) | with_reducible refine And.intro ?_ ?_
      all_goals refine Xro (i := .s 13 0) ?_ ?_
      all_goals simp [Wn.leO, resOf, Wn.le, Wn.leL, Wn.cw, C.scal, scal, outW, idsTo, hrOf]
set_option maxHeartbeats 1000000 in
theorem ac_readVarsN (t : List UInt8) (p : Int) (c : Nat) (ht : t.length ≤ 4611686018427387904) (hc : c ≤ 1000) (hle : readNs t c p = none) :
    AC Try.prog 155 [vS t, vI p, vI c] (.tup [.nil, vI 0, vB false]) [] := by
  refine XA good (fn := Try.f155) rfl ?_
  simp only [entry, List.getD_cons_zero, List.getD_cons_succ]
  repeat' first | refine SW.step good fun K hK => ?_ | refine X2 good fun K hK => ?_ | refine X3 good fun K hK => ?_ | refine SW.seqK fun J hJ => ?_ | refine SW.last good fun K hK => ?_ | (refine hK _ ?_; clear hK K) | (refine hJ _ _ (Wk.refl _) ?_; clear hJ J) | clear hK K | clear hJ J | refine SW.skip ?_ | refine SW.ret ?_ | refine SW.retT ?_ | refine SW.retB ?_ | refine SW.exit ?_ | refine SW.exitT ?_ | refine SW.exitB ?_ | refine XN ?_ | refine SW.block ?_ | refine SW.normB ?_ | refine SW.normT ?_ | refine XT ?_ | refine XF ?_ | refine XC (fun h => ?_) (fun h => ?_) | simp only [go_sem, optI, Option.getD_some, Option.getD_none, Int.reduceToNat, reduceIte, Nat.reduceEqDiff, Nat.reduceAdd, Nat.reduceMul, Nat.reduceSub, Nat.reduceLT, Nat.reduceLeDiff, reduceCtorEq, *] | refine Xs _ (fun h => ?_) (fun h => ?_) | with_reducible refine And.intro ?_ ?_
  refine SW.loopTo (α := List Int × Int) (fun a => ⟨sl [(0, vS t), (1, vI a.2), (9, .own (.s 13 0)), (14, vI c), (15, vI a.1.length)], hl [(.s 13 0, .row false 3 1 (a.1.map intC))]⟩) (fun a => c - a.1.length) ([], p) (fun a => a.1.length ≤ c ∧ readNs t a.1.length p = some a) ?_ ⟨by simp, by simp [readNs]⟩ ?_
  · (refine Xto _ _ ?_ ?_ <;> simp only [go_sem, optI, Option.getD_some, Option.getD_none, Int.reduceToNat, reduceIte, Nat.reduceEqDiff, Nat.reduceAdd, Nat.reduceMul, Nat.reduceSub, Nat.reduceLT, Nat.reduceLeDiff, reduceCtorEq, Option.some.injEq, or_true, true_or] <;> (repeat' with_reducible apply And.intro) <;> (try rfl))
  · rintro ⟨m, q⟩ ⟨h2, h3⟩
    simp only at h2 h3
    by_cases hk : m.length < c
    · have e1 : decide ((m.length : Int) < c) = true := by simp; omega
      have hw : IntKind.i64.wrap ((m.length : Int) + 1) = ((m.length + 1 : Nat) : Int) := wrap64 (by omega) (by omega)
      have hR := ac_ReadVar t q ht
      unfold rvV rvE rvB at hR
      cases hr : readVar t q with
      | none =>
        simp only [hr, Option.isSome_none] at hR
        clear hle hr h3
        repeat' first | refine SW.step good fun K hK => ?_ | refine X2 good fun K hK => ?_ | refine X3 good fun K hK => ?_ | refine SW.seqK fun J hJ => ?_ | refine SW.last good fun K hK => ?_ | (refine hK _ ?_; clear hK K) | (refine hJ _ _ (Wk.refl _) ?_; clear hJ J) | clear hK K | clear hJ J | refine SW.skip ?_ | refine SW.ret ?_ | refine SW.retT ?_ | refine SW.retB ?_ | refine SW.exit ?_ | refine SW.exitT ?_ | refine SW.exitB ?_ | refine XN ?_ | refine SW.block ?_ | refine SW.normB ?_ | refine SW.normT ?_ | refine XT ?_ | refine XF ?_ | refine XC (fun h => ?_) (fun h => ?_) | refine X0 ?_ | refine Xv ?_ | refine X1 (hR) ?_ | simp only [go_sem, optI, Option.getD_some, Option.getD_none, Int.reduceToNat, reduceIte, Nat.reduceEqDiff, Nat.reduceAdd, Nat.reduceMul, Nat.reduceSub, Nat.reduceLT, Nat.reduceLeDiff, reduceCtorEq, *] | refine Xs _ (fun h => ?_) (fun h => ?_) | with_reducible refine And.intro ?_ ?_
        all_goals (refine Xrp ?_; simp [resOf, Wn.le, Wn.leL, Wn.cw, C.scal, scal])
      | some ne =>
        obtain ⟨n, e'⟩ := ne
        simp only [hr, Option.isSome_some] at hR
        have h4 := readNs_more h3 hr
        clear hle hr
        repeat' first | refine SW.step good fun K hK => ?_ | refine X2 good fun K hK => ?_ | refine X3 good fun K hK => ?_ | refine SW.seqK fun J hJ => ?_ | refine SW.last good fun K hK => ?_ | (refine hK _ ?_; clear hK K) | (refine hJ _ _ (Wk.refl _) ?_; clear hJ J) | clear hK K | clear hJ J | refine SW.skip ?_ | refine SW.ret ?_ | refine SW.retT ?_ | refine SW.retB ?_ | refine SW.exit ?_ | refine SW.exitT ?_ | refine SW.exitB ?_ | refine XN ?_ | refine SW.block ?_ | refine SW.normB ?_ | refine SW.normT ?_ | refine XT ?_ | refine XF ?_ | refine XC (fun h => ?_) (fun h => ?_) | refine X0 ?_ | refine Xv ?_ | refine X1 (hR) ?_ | simp only [go_sem, optI, Option.getD_some, Option.getD_none, Int.reduceToNat, reduceIte, Nat.reduceEqDiff, Nat.reduceAdd, Nat.reduceMul, Nat.reduceSub, Nat.reduceLT, Nat.reduceLeDiff, reduceCtorEq, *] | refine Xs _ (fun h => ?_) (fun h => ?_) | with_reducible refine And.intro ?_ ?_
        all_goals first | (intro r hr; simp at hr; subst hr; rfl) | (simp [bytesC]; omega) | (simp; done) | omega | rfl | skip
        all_goals refine ⟨(m ++ [(n : Int)], (e' : Int)), ⟨by simp; omega, by simpa using h4⟩, by simp; omega, ?_⟩
        all_goals (refine Xto _ _ ?_ ?_ <;> simp only [go_sem, optI, Option.getD_some, Option.getD_none, Int.reduceToNat, reduceIte, Nat.reduceEqDiff, Nat.reduceAdd, Nat.reduceMul, Nat.reduceSub, Nat.reduceLT, Nat.reduceLeDiff, reduceCtorEq, Option.some.injEq, or_true, true_or] <;> (repeat' with_reducible apply And.intro) <;> (try rfl))
        all_goals first | (simp; done) | skip
    · have hk : m.length = c := by omega
      rw [hk, hle] at h3; cases h3
end Go.Proofs.Ytbpfciidbgkekaa.AB
