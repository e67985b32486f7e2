/- Lives are read: both functions, and the law. -/
import Derived.Test.YtbpfciidbgkekaaAbGdRead
import Derived.Test.YtbpfciidbgkekaaAbGrMark
namespace Go.Proofs.Ytbpfciidbgkekaa.AB
open Go
set_option maxRecDepth 100000
set_option linter.unusedSimpArgs false
set_option linter.unusedVariables false
theorem readEv_step {t : List UInt8} {p : Int} (h : (readEvS t p).2.2 = true) : p < (readEvS t p).2.1 ∧ (readEvS t p).2.1 ≤ t.length := by
  unfold readEvS at h ⊢
  simp only at h ⊢
  split at h
  · cases h
  · rename_i hx
    split at h
    · cases h
    · rename_i hc
      rw [if_neg hx, if_neg hc]
      have hx' : (scText t (scText t (scNum t 1000000000 (scNum t 1000000000 (scNum t 100 (p, false)).2).2).2).2).2.2 = false := by simpa using hx
      have h5 := scText_ok hx'
      have h4 := scText_ok h5.1
      have h3 := scNum_ok h4.1
      have h2 := scNum_ok h3.1
      have h1 := scNum_ok h2.1
      simp only at h1 ⊢
      omega
def rlGo (t : List UInt8) : Nat → Int → List Event → Option (List Event)
  | 0, _, _ => none
  | f + 1, p, acc => if p < t.length then (if (readEvS t p).2.2 = true ∧ acc.length ≠ 60 then rlGo t f (readEvS t p).2.1 (acc ++ [(readEvS t p).1]) else none) else some acc
def readLife (t : List UInt8) : Option (List Event) := rlGo t (t.length + 1) 0 []
def RlI (t : List UInt8) (a : Nat × Int × List Event) : Prop := a.2.2.length ≤ 60 ∧ (0 ≤ a.2.1 ∧ a.2.1 ≤ t.length) ∧ t.length < a.2.1 + a.1 ∧ rlGo t a.1 a.2.1 a.2.2 = readLife t
theorem rl_start (t : List UInt8) : RlI t (t.length + 1, 0, []) := ⟨by simp, ⟨by simp, by simp⟩, by simp only; omega, rfl⟩
theorem rl_end {t : List UInt8} {f : Nat} {p : Int} {acc : List Event} (h : RlI t (f, p, acc)) (hp : ¬ p < t.length) : readLife t = some acc := by
  obtain ⟨_, h2, h3, h4⟩ := h
  simp only at h2 h3 h4
  cases f with
  | zero => exact absurd h3 (by omega)
  | succ f => rw [← h4, rlGo, if_neg hp]
theorem rl_bad {t : List UInt8} {f : Nat} {p : Int} {acc : List Event} (h : RlI t (f, p, acc)) (hp : p < t.length) (hb : ¬ ((readEvS t p).2.2 = true ∧ acc.length ≠ 60)) : readLife t = none := by
  obtain ⟨_, h2, h3, h4⟩ := h
  simp only at h2 h3 h4
  cases f with
  | zero => rw [← h4]; rfl
  | succ f => rw [← h4, rlGo, if_pos hp, if_neg hb]
theorem rl_next {t : List UInt8} {f : Nat} {p : Int} {acc : List Event} (h : RlI t (f, p, acc)) (hp : p < t.length) (hb : (readEvS t p).2.2 = true) (hl : acc.length ≠ 60) : 0 < f ∧ RlI t (f - 1, (readEvS t p).2.1, acc ++ [(readEvS t p).1]) := by
  obtain ⟨h1, h2, h3, h4⟩ := h
  simp only at h1 h2 h3 h4
  obtain ⟨s1, s2⟩ := readEv_step hb
  cases f with
  | zero => omega
  | succ f =>
    rw [rlGo, if_pos hp, if_pos ⟨hb, hl⟩] at h4
    exact ⟨by omega, by simp only [List.length_append, List.length_cons, List.length_nil]; omega, by simp only; omega, by simp only; omega, h4⟩
theorem ac_ReadEventI (t : List UInt8) (p : Int) (ht : t.length ≤ 4611686018427387904) : AC Try.prog 45 [vS t, vI p] (.tup [encEv (readEvS t p).1, vI (readEvS t p).2.1, vB (readEvS t p).2.2]) [] := by
  have := ac_ReadEvent t p ht
  rw [readEv_eq] at this
  exact this
set_option maxHeartbeats 4000000 in
theorem ac_ReadLife (t : List UInt8) (ht : t.length ≤ 1048576) (L : List Event) (hL : readLife t = some L) : AC Try.prog 63 [vS t] (.tup [.own (.r 0), vB true]) [.row false 48 14 (L.map evC)] := by
  refine XA good (fn := Try.f63) rfl ?_
  simp only [entry, List.getD_cons_zero, List.getD_cons_succ]
  repeat' first | refine SW.step good fun K hK => ?_ | refine X2 good fun K hK => ?_ | refine X3 good fun K hK => ?_ | refine SW.seqK fun J hJ => ?_ | refine SW.last good fun K hK => ?_ | (refine hK _ ?_; clear hK K) | (refine hJ _ _ (Wk.refl _) ?_; clear hJ J) | clear hK K | clear hJ J | refine SW.skip ?_ | refine SW.ret ?_ | refine SW.retT ?_ | refine SW.retB ?_ | refine SW.exit ?_ | refine SW.exitT ?_ | refine SW.exitB ?_ | refine XN ?_ | refine SW.block ?_ | refine SW.normB ?_ | refine SW.normT ?_ | refine XT ?_ | refine XF ?_ | refine XC (fun h => ?_) (fun h => ?_) | simp only [go_sem, optI, Option.getD_some, Option.getD_none, Int.reduceToNat, reduceIte, Nat.reduceEqDiff, Nat.reduceAdd, Nat.reduceMul, Nat.reduceSub, Nat.reduceLT, Nat.reduceLeDiff, reduceCtorEq, *] | refine Xs _ (fun h => ?_) (fun h => ?_) | with_reducible refine And.intro ?_ ?_
  refine SW.loopTo (α := Nat × Int × List Event) (fun a => ⟨sl [(0, vS t), (4, .own (.s 9 0)), (5, vI a.2.1)], hl [(.s 9 0, .row false 48 14 (a.2.2.map evC))]⟩) (fun a => a.1) (t.length + 1, 0, []) (RlI t) ?_ (rl_start t) ?_
  · (refine Xto _ _ ?_ ?_ <;> simp only [go_sem, optI, Option.getD_some, Option.getD_none, Int.reduceToNat, reduceIte, Nat.reduceEqDiff, Nat.reduceAdd, Nat.reduceMul, Nat.reduceSub, Nat.reduceLT, Nat.reduceLeDiff, reduceCtorEq, Option.some.injEq, or_true, true_or] <;> (repeat' with_reducible apply And.intro) <;> (try rfl))
  · rintro ⟨f, p, acc⟩ hI
    by_cases hp : p < t.length
    · by_cases hb : (readEvS t p).2.2 = true ∧ acc.length ≠ 60
      · obtain ⟨hf, hn⟩ := rl_next hI hp hb.1 hb.2
        have hr := ac_ReadEventI t p (by omega)
        have e1 : decide (p < (t.length : Int)) = true := by simpa using hp
        have e2 : decide ((acc.length : Int) = 60) = false := by simp; omega
        have hacc := hI.1
        obtain ⟨hb1, hb2⟩ := hb
        clear hL hp
        generalize readEvS t p = r at *
        obtain ⟨r1, r2, r3⟩ := r
        simp only at hb1 hr hn hacc
        subst hb1
        repeat' first | refine SW.step good fun K hK => ?_ | refine X2 good fun K hK => ?_ | refine X3 good fun K hK => ?_ | refine SW.seqK fun J hJ => ?_ | refine SW.last good fun K hK => ?_ | (refine hK _ ?_; clear hK K) | (refine hJ _ _ (Wk.refl _) ?_; clear hJ J) | clear hK K | clear hJ J | refine SW.skip ?_ | refine SW.ret ?_ | refine SW.retT ?_ | refine SW.retB ?_ | refine SW.exit ?_ | refine SW.exitT ?_ | refine SW.exitB ?_ | refine XN ?_ | refine SW.block ?_ | refine SW.normB ?_ | refine SW.normT ?_ | refine XT ?_ | refine XF ?_ | refine XC (fun h => ?_) (fun h => ?_) | refine X0 ?_ | refine Xv ?_ | refine X1 (hr) ?_ | simp only [go_sem, optI, Option.getD_some, Option.getD_none, Int.reduceToNat, reduceIte, Nat.reduceEqDiff, Nat.reduceAdd, Nat.reduceMul, Nat.reduceSub, Nat.reduceLT, Nat.reduceLeDiff, reduceCtorEq, *] | refine Xs _ (fun h => ?_) (fun h => ?_) | with_reducible refine And.intro ?_ ?_
        all_goals first | (intro r hr; simp at hr; subst hr; rfl) | (simp [bytesC]; omega) | (simp; done) | omega | rfl | skip
        all_goals refine ⟨(f - 1, r2, acc ++ [r1]), hn, by simp only; omega, ?_⟩
        all_goals (refine Xto _ _ ?_ ?_ <;> simp only [go_sem, optI, Option.getD_some, Option.getD_none, Int.reduceToNat, reduceIte, Nat.reduceEqDiff, Nat.reduceAdd, Nat.reduceMul, Nat.reduceSub, Nat.reduceLT, Nat.reduceLeDiff, reduceCtorEq, Option.some.injEq, or_true, true_or] <;> (repeat' with_reducible apply And.intro) <;> (try rfl))
        all_goals first | (simp; rfl) | (simp; done) | skip
      · have := rl_bad hI hp hb; rw [this] at hL; cases hL
    · have := rl_end hI hp
      rw [this] at hL
      cases hL
      have e1 : decide (p < (t.length : Int)) = false := by simpa using hp
      repeat' first | refine SW.step good fun K hK => ?_ | refine X2 good fun K hK => ?_ | refine X3 good fun K hK => ?_ | refine SW.seqK fun J hJ => ?_ | refine SW.last good fun K hK => ?_ | (refine hK _ ?_; clear hK K) | (refine hJ _ _ (Wk.refl _) ?_; clear hJ J) | clear hK K | clear hJ J | refine SW.skip ?_ | refine SW.ret ?_ | refine SW.retT ?_ | refine SW.retB ?_ | refine SW.exit ?_ | refine SW.exitT ?_ | refine SW.exitB ?_ | refine XN ?_ | refine SW.block ?_ | refine SW.normB ?_ | refine SW.normT ?_ | refine XT ?_ | refine XF ?_ | refine XC (fun h => ?_) (fun h => ?_) | simp only [go_sem, optI, Option.getD_some, Option.getD_none, Int.reduceToNat, reduceIte, Nat.reduceEqDiff, Nat.reduceAdd, Nat.reduceMul, Nat.reduceSub, Nat.reduceLT, Nat.reduceLeDiff, reduceCtorEq, *] | refine Xs _ (fun h => ?_) (fun h => ?_) | with_reducible refine And.intro ?_ ?_
      all_goals refine Xro (i := .s 9 0) ?_ ?_
      all_goals simp [Wn.leO, resOf, Wn.le, Wn.leL, Wn.cw, C.scal, scal, outW, idsTo, hrOf]
set_option maxHeartbeats 4000000 in
theorem ac_ReadLifeN (t : List UInt8) (ht : t.length ≤ 1048576) (hL : readLife t = none) : AC Try.prog 63 [vS t] (.tup [.nil, vB false]) [] := by
  refine XA good (fn := Try.f63) rfl ?_
  simp only [entry, List.getD_cons_zero, List.getD_cons_succ]
  repeat' first | refine SW.step good fun K hK => ?_ | refine X2 good fun K hK => ?_ | refine X3 good fun K hK => ?_ | refine SW.seqK fun J hJ => ?_ | refine SW.last good fun K hK => ?_ | (refine hK _ ?_; clear hK K) | (refine hJ _ _ (Wk.refl _) ?_; clear hJ J) | clear hK K | clear hJ J | refine SW.skip ?_ | refine SW.ret ?_ | refine SW.retT ?_ | refine SW.retB ?_ | refine SW.exit ?_ | refine SW.exitT ?_ | refine SW.exitB ?_ | refine XN ?_ | refine SW.block ?_ | refine SW.normB ?_ | refine SW.normT ?_ | refine XT ?_ | refine XF ?_ | refine XC (fun h => ?_) (fun h => ?_) | simp only [go_sem, optI, Option.getD_some, Option.getD_none, Int.reduceToNat, reduceIte, Nat.reduceEqDiff, Nat.reduceAdd, Nat.reduceMul, Nat.reduceSub, Nat.reduceLT, Nat.reduceLeDiff, reduceCtorEq, *] | refine Xs _ (fun h => ?_) (fun h => ?_) | with_reducible refine And.intro ?_ ?_
  refine SW.loopTo (α := Nat × Int × List Event) (fun a => ⟨sl [(0, vS t), (4, .own (.s 9 0)), (5, vI a.2.1)], hl [(.s 9 0, .row false 48 14 (a.2.2.map evC))]⟩) (fun a => a.1) (t.length + 1, 0, []) (RlI t) ?_ (rl_start t) ?_
  · (refine Xto _ _ ?_ ?_ <;> simp only [go_sem, optI, Option.getD_some, Option.getD_none, Int.reduceToNat, reduceIte, Nat.reduceEqDiff, Nat.reduceAdd, Nat.reduceMul, Nat.reduceSub, Nat.reduceLT, Nat.reduceLeDiff, reduceCtorEq, Option.some.injEq, or_true, true_or] <;> (repeat' with_reducible apply And.intro) <;> (try rfl))
  · rintro ⟨f, p, acc⟩ hI
    by_cases hp : p < t.length
    · have hr := ac_ReadEventI t p (by omega)
      have e1 : decide (p < (t.length : Int)) = true := by simpa using hp
      have hacc := hI.1
      by_cases hb1 : (readEvS t p).2.2 = true
      · by_cases hb2 : acc.length ≠ 60
        · obtain ⟨hf, hn⟩ := rl_next hI hp hb1 hb2
          have e2 : decide ((acc.length : Int) = 60) = false := by simp; omega
          clear hL hp
          generalize readEvS t p = r at *
          obtain ⟨r1, r2, r3⟩ := r
          simp only at hb1 hr hn hacc
          subst hb1
          repeat' first | refine SW.step good fun K hK => ?_ | refine X2 good fun K hK => ?_ | refine X3 good fun K hK => ?_ | refine SW.seqK fun J hJ => ?_ | refine SW.last good fun K hK => ?_ | (refine hK _ ?_; clear hK K) | (refine hJ _ _ (Wk.refl _) ?_; clear hJ J) | clear hK K | clear hJ J | refine SW.skip ?_ | refine SW.ret ?_ | refine SW.retT ?_ | refine SW.retB ?_ | refine SW.exit ?_ | refine SW.exitT ?_ | refine SW.exitB ?_ | refine XN ?_ | refine SW.block ?_ | refine SW.normB ?_ | refine SW.normT ?_ | refine XT ?_ | refine XF ?_ | refine XC (fun h => ?_) (fun h => ?_) | refine X0 ?_ | refine Xv ?_ | refine X1 (hr) ?_ | simp only [go_sem, optI, Option.getD_some, Option.getD_none, Int.reduceToNat, reduceIte, Nat.reduceEqDiff, Nat.reduceAdd, Nat.reduceMul, Nat.reduceSub, Nat.reduceLT, Nat.reduceLeDiff, reduceCtorEq, *] | refine Xs _ (fun h => ?_) (fun h => ?_) | with_reducible refine And.intro ?_ ?_
          all_goals first | (intro r hr; simp at hr; subst hr; rfl) | (simp [bytesC]; omega) | (simp; done) | omega | rfl | skip
          all_goals refine ⟨(f - 1, r2, acc ++ [r1]), hn, by simp only; omega, ?_⟩
          all_goals (refine Xto _ _ ?_ ?_ <;> simp only [go_sem, optI, Option.getD_some, Option.getD_none, Int.reduceToNat, reduceIte, Nat.reduceEqDiff, Nat.reduceAdd, Nat.reduceMul, Nat.reduceSub, Nat.reduceLT, Nat.reduceLeDiff, reduceCtorEq, Option.some.injEq, or_true, true_or] <;> (repeat' with_reducible apply And.intro) <;> (try rfl))
          all_goals first | (simp; rfl) | (simp; done) | skip
        · have e2 : decide ((acc.length : Int) = 60) = true := by simp; omega
          clear hL hp hI
          generalize readEvS t p = r at *
          obtain ⟨r1, r2, r3⟩ := r
          simp only at hb1 hr hacc
          subst hb1
          repeat' first | refine SW.step good fun K hK => ?_ | refine X2 good fun K hK => ?_ | refine X3 good fun K hK => ?_ | refine SW.seqK fun J hJ => ?_ | refine SW.last good fun K hK => ?_ | (refine hK _ ?_; clear hK K) | (refine hJ _ _ (Wk.refl _) ?_; clear hJ J) | clear hK K | clear hJ J | refine SW.skip ?_ | refine SW.ret ?_ | refine SW.retT ?_ | refine SW.retB ?_ | refine SW.exit ?_ | refine SW.exitT ?_ | refine SW.exitB ?_ | refine XN ?_ | refine SW.block ?_ | refine SW.normB ?_ | refine SW.normT ?_ | refine XT ?_ | refine XF ?_ | refine XC (fun h => ?_) (fun h => ?_) | refine X0 ?_ | refine Xv ?_ | refine X1 (hr) ?_ | simp only [go_sem, optI, Option.getD_some, Option.getD_none, Int.reduceToNat, reduceIte, Nat.reduceEqDiff, Nat.reduceAdd, Nat.reduceMul, Nat.reduceSub, Nat.reduceLT, Nat.reduceLeDiff, reduceCtorEq, *] | refine Xs _ (fun h => ?_) (fun h => ?_) | with_reducible refine And.intro ?_ ?_
          all_goals first | (intro r hr; simp at hr; subst hr; rfl) | (simp [bytesC]; omega) | (simp; done) | omega | rfl | skip
          all_goals (refine Xrp ?_; simp [resOf, Wn.le, Wn.leL, Wn.cw, C.scal, scal])
      · have hb1 : (readEvS t p).2.2 = false := by simpa using hb1
        clear hL hp hI
        generalize readEvS t p = r at *
        obtain ⟨r1, r2, r3⟩ := r
        simp only at hb1 hr hacc
        subst hb1
        repeat' first | refine SW.step good fun K hK => ?_ | refine X2 good fun K hK => ?_ | refine X3 good fun K hK => ?_ | refine SW.seqK fun J hJ => ?_ | refine SW.last good fun K hK => ?_ | (refine hK _ ?_; clear hK K) | (refine hJ _ _ (Wk.refl _) ?_; clear hJ J) | clear hK K | clear hJ J | refine SW.skip ?_ | refine SW.ret ?_ | refine SW.retT ?_ | refine SW.retB ?_ | refine SW.exit ?_ | refine SW.exitT ?_ | refine SW.exitB ?_ | refine XN ?_ | refine SW.block ?_ | refine SW.normB ?_ | refine SW.normT ?_ | refine XT ?_ | refine XF ?_ | refine XC (fun h => ?_) (fun h => ?_) | refine X0 ?_ | refine Xv ?_ | refine X1 (hr) ?_ | simp only [go_sem, optI, Option.getD_some, Option.getD_none, Int.reduceToNat, reduceIte, Nat.reduceEqDiff, Nat.reduceAdd, Nat.reduceMul, Nat.reduceSub, Nat.reduceLT, Nat.reduceLeDiff, reduceCtorEq, *] | refine Xs _ (fun h => ?_) (fun h => ?_) | with_reducible refine And.intro ?_ ?_
        all_goals first | (intro r hr; simp at hr; subst hr; rfl) | (simp [bytesC]; omega) | (simp; done) | omega | rfl | skip
        all_goals (refine Xrp ?_; simp [resOf, Wn.le, Wn.leL, Wn.cw, C.scal, scal])
    · have := rl_end hI hp; rw [this] at hL; cases hL
set_option maxHeartbeats 4000000 in
theorem ac_ReadLifeS (t : List UInt8) (ht : t.length ≤ 1048576) : AC Try.prog 62 [vS t] (.tup [.own (.r 0), vB (readLife t).isSome]) [.row false 48 14 (((readLife t).getD []).map evC)] := by
  refine XA good (fn := Try.f62) rfl ?_
  simp only [entry, List.getD_cons_zero, List.getD_cons_succ]
  repeat' first | refine SW.step good fun K hK => ?_ | refine X2 good fun K hK => ?_ | refine X3 good fun K hK => ?_ | refine SW.seqK fun J hJ => ?_ | refine SW.last good fun K hK => ?_ | (refine hK _ ?_; clear hK K) | (refine hJ _ _ (Wk.refl _) ?_; clear hJ J) | clear hK K | clear hJ J | refine SW.skip ?_ | refine SW.ret ?_ | refine SW.retT ?_ | refine SW.retB ?_ | refine SW.exit ?_ | refine SW.exitT ?_ | refine SW.exitB ?_ | refine XN ?_ | refine SW.block ?_ | refine SW.normB ?_ | refine SW.normT ?_ | refine XT ?_ | refine XF ?_ | refine XC (fun h => ?_) (fun h => ?_) | simp only [go_sem, optI, Option.getD_some, Option.getD_none, Int.reduceToNat, reduceIte, Nat.reduceEqDiff, Nat.reduceAdd, Nat.reduceMul, Nat.reduceSub, Nat.reduceLT, Nat.reduceLeDiff, reduceCtorEq, *] | refine Xs _ (fun h => ?_) (fun h => ?_) | with_reducible refine And.intro ?_ ?_
  refine SW.loopTo (α := Nat × Int × List Event) (fun a => ⟨sl [(0, vS t), (4, .own (.s 9 0)), (5, vI a.2.1)], hl [(.s 9 0, .row false 48 14 (a.2.2.map evC))]⟩) (fun a => a.1) (t.length + 1, 0, []) (RlI t) ?_ (rl_start t) ?_
  · (refine Xto _ _ ?_ ?_ <;> simp only [go_sem, optI, Option.getD_some, Option.getD_none, Int.reduceToNat, reduceIte, Nat.reduceEqDiff, Nat.reduceAdd, Nat.reduceMul, Nat.reduceSub, Nat.reduceLT, Nat.reduceLeDiff, reduceCtorEq, Option.some.injEq, or_true, true_or] <;> (repeat' with_reducible apply And.intro) <;> (try rfl))
  · rintro ⟨f, p, acc⟩ hI
    by_cases hp : p < t.length
    · have hr := ac_ReadEventS t p (by omega)
      have e1 : decide (p < (t.length : Int)) = true := by simpa using hp
      have hacc := hI.1
      by_cases hb1 : (readEvS t p).2.2 = true
      · by_cases hb2 : acc.length ≠ 60
        · obtain ⟨hf, hn⟩ := rl_next hI hp hb1 hb2
          have hacc' : acc.length ≤ 60 := hacc
          have e2 : decide ((60 : Int) ≤ (acc.length : Int)) = false := by simp; omega
          have e3 : decide ((acc.length : Int) ≥ 60) = false := e2
          clear hp
          generalize readEvS t p = r at *
          obtain ⟨r1, r2, r3⟩ := r
          simp only at hb1 hr hn hacc
          subst hb1
          repeat' first | refine SW.step good fun K hK => ?_ | refine X2 good fun K hK => ?_ | refine X3 good fun K hK => ?_ | refine SW.seqK fun J hJ => ?_ | refine SW.last good fun K hK => ?_ | (refine hK _ ?_; clear hK K) | (refine hJ _ _ (Wk.refl _) ?_; clear hJ J) | clear hK K | clear hJ J | refine SW.skip ?_ | refine SW.ret ?_ | refine SW.retT ?_ | refine SW.retB ?_ | refine SW.exit ?_ | refine SW.exitT ?_ | refine SW.exitB ?_ | refine XN ?_ | refine SW.block ?_ | refine SW.normB ?_ | refine SW.normT ?_ | refine XT ?_ | refine XF ?_ | refine XC (fun h => ?_) (fun h => ?_) | refine X0 ?_ | refine Xv ?_ | refine X1 (hr) ?_ | simp only [go_sem, optI, Option.getD_some, Option.getD_none, Int.reduceToNat, reduceIte, Nat.reduceEqDiff, Nat.reduceAdd, Nat.reduceMul, Nat.reduceSub, Nat.reduceLT, Nat.reduceLeDiff, reduceCtorEq, *] | refine Xs _ (fun h => ?_) (fun h => ?_) | with_reducible refine And.intro ?_ ?_
          all_goals first | (intro r hr; simp at hr; subst hr; rfl) | (simp [bytesC]; omega) | (simp; done) | omega | rfl | skip
          all_goals refine ⟨(f - 1, r2, acc ++ [r1]), hn, by simp only; omega, ?_⟩
          all_goals (refine Xto _ _ ?_ ?_ <;> simp only [go_sem, optI, Option.getD_some, Option.getD_none, Int.reduceToNat, reduceIte, Nat.reduceEqDiff, Nat.reduceAdd, Nat.reduceMul, Nat.reduceSub, Nat.reduceLT, Nat.reduceLeDiff, reduceCtorEq, Option.some.injEq, or_true, true_or] <;> (repeat' with_reducible apply And.intro) <;> (try rfl))
          all_goals first | (simp; rfl) | (simp; done) | skip
        · have e2 : decide ((60 : Int) ≤ (acc.length : Int)) = true := by simp; omega
          have e3 : decide ((acc.length : Int) ≥ 60) = true := e2
          have hnone := rl_bad hI hp (fun q => hb2 q.2)
          rw [hnone]
          clear hp hI hnone
          generalize readEvS t p = r at *
          obtain ⟨r1, r2, r3⟩ := r
          simp only at hb1 hr hacc
          subst hb1
          repeat' first | refine SW.step good fun K hK => ?_ | refine X2 good fun K hK => ?_ | refine X3 good fun K hK => ?_ | refine SW.seqK fun J hJ => ?_ | refine SW.last good fun K hK => ?_ | (refine hK _ ?_; clear hK K) | (refine hJ _ _ (Wk.refl _) ?_; clear hJ J) | clear hK K | clear hJ J | refine SW.skip ?_ | refine SW.ret ?_ | refine SW.retT ?_ | refine SW.retB ?_ | refine SW.exit ?_ | refine SW.exitT ?_ | refine SW.exitB ?_ | refine XN ?_ | refine SW.block ?_ | refine SW.normB ?_ | refine SW.normT ?_ | refine XT ?_ | refine XF ?_ | refine XC (fun h => ?_) (fun h => ?_) | refine X0 ?_ | refine Xv ?_ | refine X1 (hr) ?_ | simp only [go_sem, optI, Option.getD_some, Option.getD_none, Int.reduceToNat, reduceIte, Nat.reduceEqDiff, Nat.reduceAdd, Nat.reduceMul, Nat.reduceSub, Nat.reduceLT, Nat.reduceLeDiff, reduceCtorEq, *] | refine Xs _ (fun h => ?_) (fun h => ?_) | with_reducible refine And.intro ?_ ?_
          all_goals first | (intro r hr; simp at hr; subst hr; rfl) | (simp [bytesC]; omega) | (simp; done) | omega | rfl | skip
          all_goals refine Xro (i := .s 28 0) ?_ ?_
          all_goals simp [Wn.leO, resOf, Wn.le, Wn.leL, Wn.cw, C.scal, scal, outW, idsTo, hrOf]
      · have hnone := rl_bad hI hp (fun q => hb1 q.1)
        have hb1 : (readEvS t p).2.2 = false := by simpa using hb1
        rw [hnone]
        clear hp hI hnone
        generalize readEvS t p = r at *
        obtain ⟨r1, r2, r3⟩ := r
        simp only at hb1 hr hacc
        subst hb1
        repeat' first | refine SW.step good fun K hK => ?_ | refine X2 good fun K hK => ?_ | refine X3 good fun K hK => ?_ | refine SW.seqK fun J hJ => ?_ | refine SW.last good fun K hK => ?_ | (refine hK _ ?_; clear hK K) | (refine hJ _ _ (Wk.refl _) ?_; clear hJ J) | clear hK K | clear hJ J | refine SW.skip ?_ | refine SW.ret ?_ | refine SW.retT ?_ | refine SW.retB ?_ | refine SW.exit ?_ | refine SW.exitT ?_ | refine SW.exitB ?_ | refine XN ?_ | refine SW.block ?_ | refine SW.normB ?_ | refine SW.normT ?_ | refine XT ?_ | refine XF ?_ | refine XC (fun h => ?_) (fun h => ?_) | refine X0 ?_ | refine Xv ?_ | refine X1 (hr) ?_ | simp only [go_sem, optI, Option.getD_some, Option.getD_none, Int.reduceToNat, reduceIte, Nat.reduceEqDiff, Nat.reduceAdd, Nat.reduceMul, Nat.reduceSub, Nat.reduceLT, Nat.reduceLeDiff, reduceCtorEq, *] | refine Xs _ (fun h => ?_) (fun h => ?_) | with_reducible refine And.intro ?_ ?_
        all_goals first | (intro r hr; simp at hr; subst hr; rfl) | (simp [bytesC]; omega) | (simp; done) | omega | rfl | skip
        all_goals refine Xro (i := .s 28 0) ?_ ?_
        all_goals simp [Wn.leO, resOf, Wn.le, Wn.leL, Wn.cw, C.scal, scal, outW, idsTo, hrOf]
    · have hsome := rl_end hI hp
      have e1 : decide (p < (t.length : Int)) = false := by simpa using hp
      clear hI hp
      repeat' first | refine SW.step good fun K hK => ?_ | refine X2 good fun K hK => ?_ | refine X3 good fun K hK => ?_ | refine SW.seqK fun J hJ => ?_ | refine SW.last good fun K hK => ?_ | (refine hK _ ?_; clear hK K) | (refine hJ _ _ (Wk.refl _) ?_; clear hJ J) | clear hK K | clear hJ J | refine SW.skip ?_ | refine SW.ret ?_ | refine SW.retT ?_ | refine SW.retB ?_ | refine SW.exit ?_ | refine SW.exitT ?_ | refine SW.exitB ?_ | refine XN ?_ | refine SW.block ?_ | refine SW.normB ?_ | refine SW.normT ?_ | refine XT ?_ | refine XF ?_ | refine XC (fun h => ?_) (fun h => ?_) | simp only [go_sem, optI, Option.getD_some, Option.getD_none, Int.reduceToNat, reduceIte, Nat.reduceEqDiff, Nat.reduceAdd, Nat.reduceMul, Nat.reduceSub, Nat.reduceLT, Nat.reduceLeDiff, reduceCtorEq, *] | refine Xs _ (fun h => ?_) (fun h => ?_) | with_reducible refine And.intro ?_ ?_
      all_goals refine Xro (i := .s 9 0) ?_ ?_
      all_goals simp [hsome, Wn.leO, resOf, Wn.le, Wn.leL, Wn.cw, C.scal, scal, outW, idsTo, hrOf]
theorem rl_len {t : List UInt8} {L : List Event} (h : readLife t = some L) : L.length ≤ 60 := by
  have : ∀ (f : Nat) (p : Int) (acc : List Event), acc.length ≤ 60 → rlGo t f p acc = some L → L.length ≤ 60 := by
    intro f
    induction f with
    | zero => intro p acc _ h; cases h
    | succ f ih =>
      intro p acc ha h
      rw [rlGo] at h
      split at h
      · split at h
        · rename_i hc
          exact ih _ _ (by simp only [List.length_append, List.length_cons, List.length_nil]; omega) h
        · cases h
      · cases h; exact ha
  exact this _ _ _ (by simp) h
set_option maxHeartbeats 2000000 in
theorem ac_lawReadLife (t : List UInt8) (ht : t.length ≤ 9223372036854775807) : AC Try.prog 13 [vS t] (vB true) [] := by
  by_cases h1 : 1048576 < t.length
  · have g1 : decide ((1048576 : Int) < (t.length : Int)) = true := by simp; omega
    refine XA good (fn := Try.f13) rfl ?_
    simp only [entry, List.getD_cons_zero, List.getD_cons_succ]
    repeat' first | refine SW.step good fun K hK => ?_ | refine X2 good fun K hK => ?_ | refine X3 good fun K hK => ?_ | refine SW.seqK fun J hJ => ?_ | refine SW.last good fun K hK => ?_ | (refine hK _ ?_; clear hK K) | (refine hJ _ _ (Wk.refl _) ?_; clear hJ J) | clear hK K | clear hJ J | refine SW.skip ?_ | refine SW.ret ?_ | refine SW.retT ?_ | refine SW.retB ?_ | refine SW.exit ?_ | refine SW.exitT ?_ | refine SW.exitB ?_ | refine XN ?_ | refine SW.block ?_ | refine SW.normB ?_ | refine SW.normT ?_ | refine XT ?_ | refine XF ?_ | refine XC (fun h => ?_) (fun h => ?_) | simp only [go_sem, optI, Option.getD_some, Option.getD_none, Int.reduceToNat, reduceIte, Nat.reduceEqDiff, Nat.reduceAdd, Nat.reduceMul, Nat.reduceSub, Nat.reduceLT, Nat.reduceLeDiff, reduceCtorEq, *] | refine Xs _ (fun h => ?_) (fun h => ?_) | with_reducible refine And.intro ?_ ?_
    all_goals (refine Xrb ?_; rfl)
  · have g1 : decide ((1048576 : Int) < (t.length : Int)) = false := by simp; omega
    have hs := ac_ReadLifeS t (by omega)
    cases hr : readLife t with
    | none =>
      have hi := ac_ReadLifeN t (by omega) hr
      rw [hr] at hs
      simp only [Option.getD_none, Option.isSome_none, List.map_nil] at hs
      have heq := ac_eqEventS [] (by simp)
      unfold evL at heq
      simp only [List.map_nil] at heq
      have hh := ac_heldEventS 1 0 (by omega) (by omega) (by omega)
      simp only [marks, List.range_zero, List.map_nil, Int.natCast_zero, Int.mul_zero, Int.add_zero] at hh
      have hm := ac_markNil 1
      clear h1 hr
      refine XA good (fn := Try.f13) rfl ?_
      simp only [entry, List.getD_cons_zero, List.getD_cons_succ]
      repeat' first | refine SW.step good fun K hK => ?_ | refine X2 good fun K hK => ?_ | refine X3 good fun K hK => ?_ | refine SW.seqK fun J hJ => ?_ | refine SW.last good fun K hK => ?_ | (refine hK _ ?_; clear hK K) | (refine hJ _ _ (Wk.refl _) ?_; clear hJ J) | clear hK K | clear hJ J | refine SW.skip ?_ | refine SW.ret ?_ | refine SW.retT ?_ | refine SW.retB ?_ | refine SW.exit ?_ | refine SW.exitT ?_ | refine SW.exitB ?_ | refine XN ?_ | refine SW.block ?_ | refine SW.normB ?_ | refine SW.normT ?_ | refine XT ?_ | refine XF ?_ | refine XC (fun h => ?_) (fun h => ?_) | refine X0 ?_ | refine Xv ?_ | refine X1 (hs) ?_ | refine X1 (hi) ?_ | refine X1 (heq) ?_ | refine X1 (hh) ?_ | (refine Xn ?_; refine X1 (hm) ?_) | simp only [go_sem, optI, Option.getD_some, Option.getD_none, Int.reduceToNat, reduceIte, Nat.reduceEqDiff, Nat.reduceAdd, Nat.reduceMul, Nat.reduceSub, Nat.reduceLT, Nat.reduceLeDiff, reduceCtorEq, *] | refine Xs _ (fun h => ?_) (fun h => ?_) | with_reducible refine And.intro ?_ ?_
      all_goals first | omega | (refine Xrb ?_; rfl) | (exfalso; simp at *; done) | skip
      all_goals trace_state
    | some L =>
      have hl := rl_len hr
      have hi := ac_ReadLife t (by omega) L hr
      rw [hr] at hs
      simp only [Option.getD_some, Option.isSome_some] at hs
      have heq := ac_eqEventS L (by omega)
      unfold evL at heq
      have hh := ac_heldEventS 1 L.length (by omega) (by omega) (by omega)
      have hm := mc_markEvents L 1 (by omega) (by omega) (by omega)
      have g2 : decide ((1 : Int) + 14 * (L.length : Int) < 0) = false := by simp; omega
      clear h1 hr
      generalize (1 : Int) + 14 * (L.length : Int) = q at *
      refine XA good (fn := Try.f13) rfl ?_
      simp only [entry, List.getD_cons_zero, List.getD_cons_succ]
      repeat' first | refine SW.step good fun K hK => ?_ | refine X2 good fun K hK => ?_ | refine X3 good fun K hK => ?_ | refine SW.seqK fun J hJ => ?_ | refine SW.last good fun K hK => ?_ | (refine hK _ ?_; clear hK K) | (refine hJ _ _ (Wk.refl _) ?_; clear hJ J) | clear hK K | clear hJ J | refine SW.skip ?_ | refine SW.ret ?_ | refine SW.retT ?_ | refine SW.retB ?_ | refine SW.exit ?_ | refine SW.exitT ?_ | refine SW.exitB ?_ | refine XN ?_ | refine SW.block ?_ | refine SW.normB ?_ | refine SW.normT ?_ | refine XT ?_ | refine XF ?_ | refine XC (fun h => ?_) (fun h => ?_) | refine X0 ?_ | refine Xv ?_ | refine X1 (hs) ?_ | refine X1 (hi) ?_ | refine X1 (heq) ?_ | refine X1 (hh) ?_ | (refine Xm (.s 21 0) ?_; first | refine Xa (hm) ?_ | refine Xb (hm) ?_) | simp only [go_sem, optI, Option.getD_some, Option.getD_none, Int.reduceToNat, reduceIte, Nat.reduceEqDiff, Nat.reduceAdd, Nat.reduceMul, Nat.reduceSub, Nat.reduceLT, Nat.reduceLeDiff, reduceCtorEq, *] | refine Xs _ (fun h => ?_) (fun h => ?_) | with_reducible refine And.intro ?_ ?_
      all_goals first | omega | (refine Xrb ?_; rfl) | (exfalso; simp at *; done) | skip
      all_goals trace_state
end Go.Proofs.Ytbpfciidbgkekaa.AB
