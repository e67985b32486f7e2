/- What an event that comes in is. -/
import Derived.Test.YtoemclhjcbcjaaaGreatAbGrMark
import Derived.Test.YtoemclhjcbcjaaaGreatAbBbPure
namespace Go.Proofs.YtoemclhjcbcjaaaGreat.AB
open Go
set_option maxRecDepth 100000
set_option linter.unusedSimpArgs false
set_option linter.unusedVariables false
theorem readEv_step {t : List UInt8} {p : Int} (h : (readEvS t p).2.2 = true) : p < (readEvS t p).2.1 ∧ (readEvS t p).2.1 ≤ t.length := by
  unfold readEvS at h ⊢
  simp only at h ⊢
  split at h
  · cases h
  · rename_i hx
    split at h
    · cases h
    · rename_i hc
      rw [if_neg hx, if_neg hc]
      have hx' : (scText t (scText t (scNum t 1000000000 (scNum t 1000000000 (scNum t 100 (p, false)).2).2).2).2).2.2 = false := by simpa using hx
      have h5 := scText_ok hx'
      have h4 := scText_ok h5.1
      have h3 := scNum_ok h4.1
      have h2 := scNum_ok h3.1
      have h1 := scNum_ok h2.1
      simp only at h1 ⊢
      omega
def rlGo (t : List UInt8) : Nat → Int → List Event → Option (List Event)
  | 0, _, _ => none
  | f + 1, p, acc => if p < t.length then (if (readEvS t p).2.2 = true ∧ acc.length ≠ 60 then rlGo t f (readEvS t p).2.1 (acc ++ [(readEvS t p).1]) else none) else some acc
def readLife (t : List UInt8) : Option (List Event) := rlGo t (t.length + 1) 0 []
def RlI (t : List UInt8) (a : Nat × Int × List Event) : Prop := a.2.2.length ≤ 60 ∧ (0 ≤ a.2.1 ∧ a.2.1 ≤ t.length) ∧ t.length < a.2.1 + a.1 ∧ rlGo t a.1 a.2.1 a.2.2 = readLife t
theorem rl_start (t : List UInt8) : RlI t (t.length + 1, 0, []) := ⟨by simp, ⟨by simp, by simp⟩, by simp only; omega, rfl⟩
theorem rl_end {t : List UInt8} {f : Nat} {p : Int} {acc : List Event} (h : RlI t (f, p, acc)) (hp : ¬ p < t.length) : readLife t = some acc := by
  obtain ⟨_, h2, h3, h4⟩ := h
  simp only at h2 h3 h4
  cases f with
  | zero => exact absurd h3 (by omega)
  | succ f => rw [← h4, rlGo, if_neg hp]
theorem rl_bad {t : List UInt8} {f : Nat} {p : Int} {acc : List Event} (h : RlI t (f, p, acc)) (hp : p < t.length) (hb : ¬ ((readEvS t p).2.2 = true ∧ acc.length ≠ 60)) : readLife t = none := by
  obtain ⟨_, h2, h3, h4⟩ := h
  simp only at h2 h3 h4
  cases f with
  | zero => rw [← h4]; rfl
  | succ f => rw [← h4, rlGo, if_pos hp, if_neg hb]
theorem rl_next {t : List UInt8} {f : Nat} {p : Int} {acc : List Event} (h : RlI t (f, p, acc)) (hp : p < t.length) (hb : (readEvS t p).2.2 = true) (hl : acc.length ≠ 60) : 0 < f ∧ RlI t (f - 1, (readEvS t p).2.1, acc ++ [(readEvS t p).1]) := by
  obtain ⟨h1, h2, h3, h4⟩ := h
  simp only at h1 h2 h3 h4
  obtain ⟨s1, s2⟩ := readEv_step hb
  cases f with
  | zero => omega
  | succ f =>
    rw [rlGo, if_pos hp, if_pos ⟨hb, hl⟩] at h4
    exact ⟨by omega, by simp only [List.length_append, List.length_cons, List.length_nil]; omega, by simp only; omega, by simp only; omega, h4⟩
theorem ac_ReadEventI (t : List UInt8) (p : Int) (ht : t.length ≤ 4611686018427387904) : AC Tryz.prog 9 [vS t, vI p] (.tup [encEv (readEvS t p).1, vI (readEvS t p).2.1, vB (readEvS t p).2.2]) [] := by
  have := ac_ReadEvent t p ht
  rw [readEv_eq] at this
  exact this
set_option maxHeartbeats 4000000 in
theorem ac_ReadLife (t : List UInt8) (ht : t.length ≤ 1048576) (L : List Event) (hL : readLife t = some L) : AC Tryz.prog 15 [vS t] (.tup [.own (.r 0), vB true]) [.row false 29 14 (L.map evC)] := by
  refine XA good (fn := Tryz.f15) rfl ?_
  simp only [entry, List.getD_cons_zero, List.getD_cons_succ]
  repeat' first | refine SW.step good fun K hK => ?_ | refine X2 good fun K hK => ?_ | refine X3 good fun K hK => ?_ | refine SW.seqK fun J hJ => ?_ | refine SW.last good fun K hK => ?_ | (refine hK _ ?_; clear hK K) | (refine hJ _ _ (Wk.refl _) ?_; clear hJ J) | clear hK K | clear hJ J | refine SW.skip ?_ | refine SW.ret ?_ | refine SW.retT ?_ | refine SW.retB ?_ | refine SW.exit ?_ | refine SW.exitT ?_ | refine SW.exitB ?_ | refine XN ?_ | refine SW.block ?_ | refine SW.normB ?_ | refine SW.normT ?_ | refine XT ?_ | refine XF ?_ | refine XC (fun h => ?_) (fun h => ?_) | simp only [go_sem, optI, Option.getD_some, Option.getD_none, Int.reduceToNat, reduceIte, Nat.reduceEqDiff, Nat.reduceAdd, Nat.reduceMul, Nat.reduceSub, Nat.reduceLT, Nat.reduceLeDiff, reduceCtorEq, *] | refine Xs _ (fun h => ?_) (fun h => ?_) | with_reducible refine And.intro ?_ ?_
  refine SW.loopTo (α := Nat × Int × List Event) (fun a => ⟨sl [(0, vS t), (4, .own (.s 9 0)), (5, vI a.2.1)], hl [(.s 9 0, .row false 29 14 (a.2.2.map evC))]⟩) (fun a => a.1) (t.length + 1, 0, []) (RlI t) ?_ (rl_start t) ?_
  · (refine Xto _ _ ?_ ?_ <;> simp only [go_sem, optI, Option.getD_some, Option.getD_none, Int.reduceToNat, reduceIte, Nat.reduceEqDiff, Nat.reduceAdd, Nat.reduceMul, Nat.reduceSub, Nat.reduceLT, Nat.reduceLeDiff, reduceCtorEq, Option.some.injEq, or_true, true_or] <;> (repeat' with_reducible apply And.intro) <;> (try rfl))
  · rintro ⟨f, p, acc⟩ hI
    by_cases hp : p < t.length
    · by_cases hb : (readEvS t p).2.2 = true ∧ acc.length ≠ 60
      · obtain ⟨hf, hn⟩ := rl_next hI hp hb.1 hb.2
        have hr := ac_ReadEventI t p (by omega)
        have e1 : decide (p < (t.length : Int)) = true := by simpa using hp
        have e2 : decide ((acc.length : Int) = 60) = false := by simp; omega
        have hacc := hI.1
        obtain ⟨hb1, hb2⟩ := hb
        clear hL hp
        generalize readEvS t p = r at *
        obtain ⟨r1, r2, r3⟩ := r
        simp only at hb1 hr hn hacc
        subst hb1
        repeat' first | refine SW.step good fun K hK => ?_ | refine X2 good fun K hK => ?_ | refine X3 good fun K hK => ?_ | refine SW.seqK fun J hJ => ?_ | refine SW.last good fun K hK => ?_ | (refine hK _ ?_; clear hK K) | (refine hJ _ _ (Wk.refl _) ?_; clear hJ J) | clear hK K | clear hJ J | refine SW.skip ?_ | refine SW.ret ?_ | refine SW.retT ?_ | refine SW.retB ?_ | refine SW.exit ?_ | refine SW.exitT ?_ | refine SW.exitB ?_ | refine XN ?_ | refine SW.block ?_ | refine SW.normB ?_ | refine SW.normT ?_ | refine XT ?_ | refine XF ?_ | refine XC (fun h => ?_) (fun h => ?_) | refine X0 ?_ | refine Xv ?_ | refine X1 (hr) ?_ | simp only [go_sem, optI, Option.getD_some, Option.getD_none, Int.reduceToNat, reduceIte, Nat.reduceEqDiff, Nat.reduceAdd, Nat.reduceMul, Nat.reduceSub, Nat.reduceLT, Nat.reduceLeDiff, reduceCtorEq, *] | refine Xs _ (fun h => ?_) (fun h => ?_) | with_reducible refine And.intro ?_ ?_
        all_goals first | (intro r hr; simp at hr; subst hr; rfl) | (simp [bytesC]; omega) | (simp; done) | omega | rfl | skip
        all_goals refine ⟨(f - 1, r2, acc ++ [r1]), hn, by simp only; omega, ?_⟩
        all_goals (refine Xto _ _ ?_ ?_ <;> simp only [go_sem, optI, Option.getD_some, Option.getD_none, Int.reduceToNat, reduceIte, Nat.reduceEqDiff, Nat.reduceAdd, Nat.reduceMul, Nat.reduceSub, Nat.reduceLT, Nat.reduceLeDiff, reduceCtorEq, Option.some.injEq, or_true, true_or] <;> (repeat' with_reducible apply And.intro) <;> (try rfl))
        all_goals first | (simp; rfl) | (simp; done) | skip
      · have := rl_bad hI hp hb; rw [this] at hL; cases hL
    · have := rl_end hI hp
      rw [this] at hL
      cases hL
      have e1 : decide (p < (t.length : Int)) = false := by simpa using hp
      repeat' first | refine SW.step good fun K hK => ?_ | refine X2 good fun K hK => ?_ | refine X3 good fun K hK => ?_ | refine SW.seqK fun J hJ => ?_ | refine SW.last good fun K hK => ?_ | (refine hK _ ?_; clear hK K) | (refine hJ _ _ (Wk.refl _) ?_; clear hJ J) | clear hK K | clear hJ J | refine SW.skip ?_ | refine SW.ret ?_ | refine SW.retT ?_ | refine SW.retB ?_ | refine SW.exit ?_ | refine SW.exitT ?_ | refine SW.exitB ?_ | refine XN ?_ | refine SW.block ?_ | refine SW.normB ?_ | refine SW.normT ?_ | refine XT ?_ | refine XF ?_ | refine XC (fun h => ?_) (fun h => ?_) | simp only [go_sem, optI, Option.getD_some, Option.getD_none, Int.reduceToNat, reduceIte, Nat.reduceEqDiff, Nat.reduceAdd, Nat.reduceMul, Nat.reduceSub, Nat.reduceLT, Nat.reduceLeDiff, reduceCtorEq, *] | refine Xs _ (fun h => ?_) (fun h => ?_) | with_reducible refine And.intro ?_ ?_
      all_goals refine Xro (i := .s 9 0) ?_ ?_
      all_goals simp [Wn.leO, resOf, Wn.le, Wn.leL, Wn.cw, C.scal, scal, outW, idsTo, hrOf]
set_option maxHeartbeats 4000000 in
theorem ac_ReadLifeN (t : List UInt8) (ht : t.length ≤ 1048576) (hL : readLife t = none) : AC Tryz.prog 15 [vS t] (.tup [.nil, vB false]) [] := by
  refine XA good (fn := Tryz.f15) rfl ?_
  simp only [entry, List.getD_cons_zero, List.getD_cons_succ]
  repeat' first | refine SW.step good fun K hK => ?_ | refine X2 good fun K hK => ?_ | refine X3 good fun K hK => ?_ | refine SW.seqK fun J hJ => ?_ | refine SW.last good fun K hK => ?_ | (refine hK _ ?_; clear hK K) | (refine hJ _ _ (Wk.refl _) ?_; clear hJ J) | clear hK K | clear hJ J | refine SW.skip ?_ | refine SW.ret ?_ | refine SW.retT ?_ | refine SW.retB ?_ | refine SW.exit ?_ | refine SW.exitT ?_ | refine SW.exitB ?_ | refine XN ?_ | refine SW.block ?_ | refine SW.normB ?_ | refine SW.normT ?_ | refine XT ?_ | refine XF ?_ | refine XC (fun h => ?_) (fun h => ?_) | simp only [go_sem, optI, Option.getD_some, Option.getD_none, Int.reduceToNat, reduceIte, Nat.reduceEqDiff, Nat.reduceAdd, Nat.reduceMul, Nat.reduceSub, Nat.reduceLT, Nat.reduceLeDiff, reduceCtorEq, *] | refine Xs _ (fun h => ?_) (fun h => ?_) | with_reducible refine And.intro ?_ ?_
  refine SW.loopTo (α := Nat × Int × List Event) (fun a => ⟨sl [(0, vS t), (4, .own (.s 9 0)), (5, vI a.2.1)], hl [(.s 9 0, .row false 29 14 (a.2.2.map evC))]⟩) (fun a => a.1) (t.length + 1, 0, []) (RlI t) ?_ (rl_start t) ?_
  · (refine Xto _ _ ?_ ?_ <;> simp only [go_sem, optI, Option.getD_some, Option.getD_none, Int.reduceToNat, reduceIte, Nat.reduceEqDiff, Nat.reduceAdd, Nat.reduceMul, Nat.reduceSub, Nat.reduceLT, Nat.reduceLeDiff, reduceCtorEq, Option.some.injEq, or_true, true_or] <;> (repeat' with_reducible apply And.intro) <;> (try rfl))
  · rintro ⟨f, p, acc⟩ hI
    by_cases hp : p < t.length
    · have hr := ac_ReadEventI t p (by omega)
      have e1 : decide (p < (t.length : Int)) = true := by simpa using hp
      have hacc := hI.1
      by_cases hb1 : (readEvS t p).2.2 = true
      · by_cases hb2 : acc.length ≠ 60
        · obtain ⟨hf, hn⟩ := rl_next hI hp hb1 hb2
          have e2 : decide ((acc.length : Int) = 60) = false := by simp; omega
          clear hL hp
          generalize readEvS t p = r at *
          obtain ⟨r1, r2, r3⟩ := r
          simp only at hb1 hr hn hacc
          subst hb1
          repeat' first | refine SW.step good fun K hK => ?_ | refine X2 good fun K hK => ?_ | refine X3 good fun K hK => ?_ | refine SW.seqK fun J hJ => ?_ | refine SW.last good fun K hK => ?_ | (refine hK _ ?_; clear hK K) | (refine hJ _ _ (Wk.refl _) ?_; clear hJ J) | clear hK K | clear hJ J | refine SW.skip ?_ | refine SW.ret ?_ | refine SW.retT ?_ | refine SW.retB ?_ | refine SW.exit ?_ | refine SW.exitT ?_ | refine SW.exitB ?_ | refine XN ?_ | refine SW.block ?_ | refine SW.normB ?_ | refine SW.normT ?_ | refine XT ?_ | refine XF ?_ | refine XC (fun h => ?_) (fun h => ?_) | refine X0 ?_ | refine Xv ?_ | refine X1 (hr) ?_ | simp only [go_sem, optI, Option.getD_some, Option.getD_none, Int.reduceToNat, reduceIte, Nat.reduceEqDiff, Nat.reduceAdd, Nat.reduceMul, Nat.reduceSub, Nat.reduceLT, Nat.reduceLeDiff, reduceCtorEq, *] | refine Xs _ (fun h => ?_) (fun h => ?_) | with_reducible refine And.intro ?_ ?_
          all_goals first | (intro r hr; simp at hr; subst hr; rfl) | (simp [bytesC]; omega) | (simp; done) | omega | rfl | skip
          all_goals refine ⟨(f - 1, r2, acc ++ [r1]), hn, by simp only; omega, ?_⟩
          all_goals (refine Xto _ _ ?_ ?_ <;> simp only [go_sem, optI, Option.getD_some, Option.getD_none, Int.reduceToNat, reduceIte, Nat.reduceEqDiff, Nat.reduceAdd, Nat.reduceMul, Nat.reduceSub, Nat.reduceLT, Nat.reduceLeDiff, reduceCtorEq, Option.some.injEq, or_true, true_or] <;> (repeat' with_reducible apply And.intro) <;> (try rfl))
          all_goals first | (simp; rfl) | (simp; done) | skip
        · have e2 : decide ((acc.length : Int) = 60) = true := by simp; omega
          clear hL hp hI
          generalize readEvS t p = r at *
          obtain ⟨r1, r2, r3⟩ := r
          simp only at hb1 hr hacc
          subst hb1
          repeat' first | refine SW.step good fun K hK => ?_ | refine X2 good fun K hK => ?_ | refine X3 good fun K hK => ?_ | refine SW.seqK fun J hJ => ?_ | refine SW.last good fun K hK => ?_ | (refine hK _ ?_; clear hK K) | (refine hJ _ _ (Wk.refl _) ?_; clear hJ J) | clear hK K | clear hJ J | refine SW.skip ?_ | refine SW.ret ?_ | refine SW.retT ?_ | refine SW.retB ?_ | refine SW.exit ?_ | refine SW.exitT ?_ | refine SW.exitB ?_ | refine XN ?_ | refine SW.block ?_ | refine SW.normB ?_ | refine SW.normT ?_ | refine XT ?_ | refine XF ?_ | refine XC (fun h => ?_) (fun h => ?_) | refine X0 ?_ | refine Xv ?_ | refine X1 (hr) ?_ | simp only [go_sem, optI, Option.getD_some, Option.getD_none, Int.reduceToNat, reduceIte, Nat.reduceEqDiff, Nat.reduceAdd, Nat.reduceMul, Nat.reduceSub, Nat.reduceLT, Nat.reduceLeDiff, reduceCtorEq, *] | refine Xs _ (fun h => ?_) (fun h => ?_) | with_reducible refine And.intro ?_ ?_
          all_goals first | (intro r hr; simp at hr; subst hr; rfl) | (simp [bytesC]; omega) | (simp; done) | omega | rfl | skip
          all_goals (refine Xrp ?_; simp [resOf, Wn.le, Wn.leL, Wn.cw, C.scal, scal])
      · have hb1 : (readEvS t p).2.2 = false := by simpa using hb1
        clear hL hp hI
        generalize readEvS t p = r at *
        obtain ⟨r1, r2, r3⟩ := r
        simp only at hb1 hr hacc
        subst hb1
        repeat' first | refine SW.step good fun K hK => ?_ | refine X2 good fun K hK => ?_ | refine X3 good fun K hK => ?_ | refine SW.seqK fun J hJ => ?_ | refine SW.last good fun K hK => ?_ | (refine hK _ ?_; clear hK K) | (refine hJ _ _ (Wk.refl _) ?_; clear hJ J) | clear hK K | clear hJ J | refine SW.skip ?_ | refine SW.ret ?_ | refine SW.retT ?_ | refine SW.retB ?_ | refine SW.exit ?_ | refine SW.exitT ?_ | refine SW.exitB ?_ | refine XN ?_ | refine SW.block ?_ | refine SW.normB ?_ | refine SW.normT ?_ | refine XT ?_ | refine XF ?_ | refine XC (fun h => ?_) (fun h => ?_) | refine X0 ?_ | refine Xv ?_ | refine X1 (hr) ?_ | simp only [go_sem, optI, Option.getD_some, Option.getD_none, Int.reduceToNat, reduceIte, Nat.reduceEqDiff, Nat.reduceAdd, Nat.reduceMul, Nat.reduceSub, Nat.reduceLT, Nat.reduceLeDiff, reduceCtorEq, *] | refine Xs _ (fun h => ?_) (fun h => ?_) | with_reducible refine And.intro ?_ ?_
        all_goals first | (intro r hr; simp at hr; subst hr; rfl) | (simp [bytesC]; omega) | (simp; done) | omega | rfl | skip
        all_goals (refine Xrp ?_; simp [resOf, Wn.le, Wn.leL, Wn.cw, C.scal, scal])
    · have := rl_end hI hp; rw [this] at hL; cases hL
set_option maxHeartbeats 4000000 in
theorem ac_ReadLifeS (t : List UInt8) (ht : t.length ≤ 1048576) : AC Tryz.prog 16 [vS t] (.tup [.own (.r 0), vB (readLife t).isSome]) [.row false 29 14 (((readLife t).getD []).map evC)] := by
  refine XA good (fn := Tryz.f16) rfl ?_
  simp only [entry, List.getD_cons_zero, List.getD_cons_succ]
  repeat' first | refine SW.step good fun K hK => ?_ | refine X2 good fun K hK => ?_ | refine X3 good fun K hK => ?_ | refine SW.seqK fun J hJ => ?_ | refine SW.last good fun K hK => ?_ | (refine hK _ ?_; clear hK K) | (refine hJ _ _ (Wk.refl _) ?_; clear hJ J) | clear hK K | clear hJ J | refine SW.skip ?_ | refine SW.ret ?_ | refine SW.retT ?_ | refine SW.retB ?_ | refine SW.exit ?_ | refine SW.exitT ?_ | refine SW.exitB ?_ | refine XN ?_ | refine SW.block ?_ | refine SW.normB ?_ | refine SW.normT ?_ | refine XT ?_ | refine XF ?_ | refine XC (fun h => ?_) (fun h => ?_) | simp only [go_sem, optI, Option.getD_some, Option.getD_none, Int.reduceToNat, reduceIte, Nat.reduceEqDiff, Nat.reduceAdd, Nat.reduceMul, Nat.reduceSub, Nat.reduceLT, Nat.reduceLeDiff, reduceCtorEq, *] | refine Xs _ (fun h => ?_) (fun h => ?_) | with_reducible refine And.intro ?_ ?_
  refine SW.loopTo (α := Nat × Int × List Event) (fun a => ⟨sl [(0, vS t), (4, .own (.s 9 0)), (5, vI a.2.1)], hl [(.s 9 0, .row false 29 14 (a.2.2.map evC))]⟩) (fun a => a.1) (t.length + 1, 0, []) (RlI t) ?_ (rl_start t) ?_
  · (refine Xto _ _ ?_ ?_ <;> simp only [go_sem, optI, Option.getD_some, Option.getD_none, Int.reduceToNat, reduceIte, Nat.reduceEqDiff, Nat.reduceAdd, Nat.reduceMul, Nat.reduceSub, Nat.reduceLT, Nat.reduceLeDiff, reduceCtorEq, Option.some.injEq, or_true, true_or] <;> (repeat' with_reducible apply And.intro) <;> (try rfl))
  · rintro ⟨f, p, acc⟩ hI
    by_cases hp : p < t.length
    · have hr := ac_ReadEventS t p (by omega)
      have e1 : decide (p < (t.length : Int)) = true := by simpa using hp
      have hacc := hI.1
      by_cases hb1 : (readEvS t p).2.2 = true
      · by_cases hb2 : acc.length ≠ 60
        · obtain ⟨hf, hn⟩ := rl_next hI hp hb1 hb2
          have hacc' : acc.length ≤ 60 := hacc
          have e2 : decide ((60 : Int) ≤ (acc.length : Int)) = false := by simp; omega
          have e3 : decide ((acc.length : Int) ≥ 60) = false := e2
          clear hp
          generalize readEvS t p = r at *
          obtain ⟨r1, r2, r3⟩ := r
          simp only at hb1 hr hn hacc
          subst hb1
          repeat' first | refine SW.step good fun K hK => ?_ | refine X2 good fun K hK => ?_ | refine X3 good fun K hK => ?_ | refine SW.seqK fun J hJ => ?_ | refine SW.last good fun K hK => ?_ | (refine hK _ ?_; clear hK K) | (refine hJ _ _ (Wk.refl _) ?_; clear hJ J) | clear hK K | clear hJ J | refine SW.skip ?_ | refine SW.ret ?_ | refine SW.retT ?_ | refine SW.retB ?_ | refine SW.exit ?_ | refine SW.exitT ?_ | refine SW.exitB ?_ | refine XN ?_ | refine SW.block ?_ | refine SW.normB ?_ | refine SW.normT ?_ | refine XT ?_ | refine XF ?_ | refine XC (fun h => ?_) (fun h => ?_) | refine X0 ?_ | refine Xv ?_ | refine X1 (hr) ?_ | simp only [go_sem, optI, Option.getD_some, Option.getD_none, Int.reduceToNat, reduceIte, Nat.reduceEqDiff, Nat.reduceAdd, Nat.reduceMul, Nat.reduceSub, Nat.reduceLT, Nat.reduceLeDiff, reduceCtorEq, *] | refine Xs _ (fun h => ?_) (fun h => ?_) | with_reducible refine And.intro ?_ ?_
          all_goals first | (intro r hr; simp at hr; subst hr; rfl) | (simp [bytesC]; omega) | (simp; done) | omega | rfl | skip
          all_goals refine ⟨(f - 1, r2, acc ++ [r1]), hn, by simp only; omega, ?_⟩
          all_goals (refine Xto _ _ ?_ ?_ <;> simp only [go_sem, optI, Option.getD_some, Option.getD_none, Int.reduceToNat, reduceIte, Nat.reduceEqDiff, Nat.reduceAdd, Nat.reduceMul, Nat.reduceSub, Nat.reduceLT, Nat.reduceLeDiff, reduceCtorEq, Option.some.injEq, or_true, true_or] <;> (repeat' with_reducible apply And.intro) <;> (try rfl))
          all_goals first | (simp; rfl) | (simp; done) | skip
        · have e2 : decide ((60 : Int) ≤ (acc.length : Int)) = true := by simp; omega
          have e3 : decide ((acc.length : Int) ≥ 60) = true := e2
          have hnone := rl_bad hI hp (fun q => hb2 q.2)
          rw [hnone]
          clear hp hI hnone
          generalize readEvS t p = r at *
          obtain ⟨r1, r2, r3⟩ := r
          simp only at hb1 hr hacc
          subst hb1
          repeat' first | refine SW.step good fun K hK => ?_ | refine X2 good fun K hK => ?_ | refine X3 good fun K hK => ?_ | refine SW.seqK fun J hJ => ?_ | refine SW.last good fun K hK => ?_ | (refine hK _ ?_; clear hK K) | (refine hJ _ _ (Wk.refl _) ?_; clear hJ J) | clear hK K | clear hJ J | refine SW.skip ?_ | refine SW.ret ?_ | refine SW.retT ?_ | refine SW.retB ?_ | refine SW.exit ?_ | refine SW.exitT ?_ | refine SW.exitB ?_ | refine XN ?_ | refine SW.block ?_ | refine SW.normB ?_ | refine SW.normT ?_ | refine XT ?_ | refine XF ?_ | refine XC (fun h => ?_) (fun h => ?_) | refine X0 ?_ | refine Xv ?_ | refine X1 (hr) ?_ | simp only [go_sem, optI, Option.getD_some, Option.getD_none, Int.reduceToNat, reduceIte, Nat.reduceEqDiff, Nat.reduceAdd, Nat.reduceMul, Nat.reduceSub, Nat.reduceLT, Nat.reduceLeDiff, reduceCtorEq, *] | refine Xs _ (fun h => ?_) (fun h => ?_) | with_reducible refine And.intro ?_ ?_
          all_goals first | (intro r hr; simp at hr; subst hr; rfl) | (simp [bytesC]; omega) | (simp; done) | omega | rfl | skip
          all_goals refine Xro (i := .s 28 0) ?_ ?_
          all_goals simp [Wn.leO, resOf, Wn.le, Wn.leL, Wn.cw, C.scal, scal, outW, idsTo, hrOf]
      · have hnone := rl_bad hI hp (fun q => hb1 q.1)
        have hb1 : (readEvS t p).2.2 = false := by simpa using hb1
        rw [hnone]
        clear hp hI hnone
        generalize readEvS t p = r at *
        obtain ⟨r1, r2, r3⟩ := r
        simp only at hb1 hr hacc
        subst hb1
        repeat' first | refine SW.step good fun K hK => ?_ | refine X2 good fun K hK => ?_ | refine X3 good fun K hK => ?_ | refine SW.seqK fun J hJ => ?_ | refine SW.last good fun K hK => ?_ | (refine hK _ ?_; clear hK K) | (refine hJ _ _ (Wk.refl _) ?_; clear hJ J) | clear hK K | clear hJ J | refine SW.skip ?_ | refine SW.ret ?_ | refine SW.retT ?_ | refine SW.retB ?_ | refine SW.exit ?_ | refine SW.exitT ?_ | refine SW.exitB ?_ | refine XN ?_ | refine SW.block ?_ | refine SW.normB ?_ | refine SW.normT ?_ | refine XT ?_ | refine XF ?_ | refine XC (fun h => ?_) (fun h => ?_) | refine X0 ?_ | refine Xv ?_ | refine X1 (hr) ?_ | simp only [go_sem, optI, Option.getD_some, Option.getD_none, Int.reduceToNat, reduceIte, Nat.reduceEqDiff, Nat.reduceAdd, Nat.reduceMul, Nat.reduceSub, Nat.reduceLT, Nat.reduceLeDiff, reduceCtorEq, *] | refine Xs _ (fun h => ?_) (fun h => ?_) | with_reducible refine And.intro ?_ ?_
        all_goals first | (intro r hr; simp at hr; subst hr; rfl) | (simp [bytesC]; omega) | (simp; done) | omega | rfl | skip
        all_goals refine Xro (i := .s 28 0) ?_ ?_
        all_goals simp [Wn.leO, resOf, Wn.le, Wn.leL, Wn.cw, C.scal, scal, outW, idsTo, hrOf]
    · have hsome := rl_end hI hp
      have e1 : decide (p < (t.length : Int)) = false := by simpa using hp
      clear hI hp
      repeat' first | refine SW.step good fun K hK => ?_ | refine X2 good fun K hK => ?_ | refine X3 good fun K hK => ?_ | refine SW.seqK fun J hJ => ?_ | refine SW.last good fun K hK => ?_ | (refine hK _ ?_; clear hK K) | (refine hJ _ _ (Wk.refl _) ?_; clear hJ J) | clear hK K | clear hJ J | refine SW.skip ?_ | refine SW.ret ?_ | refine SW.retT ?_ | refine SW.retB ?_ | refine SW.exit ?_ | refine SW.exitT ?_ | refine SW.exitB ?_ | refine XN ?_ | refine SW.block ?_ | refine SW.normB ?_ | refine SW.normT ?_ | refine XT ?_ | refine XF ?_ | refine XC (fun h => ?_) (fun h => ?_) | simp only [go_sem, optI, Option.getD_some, Option.getD_none, Int.reduceToNat, reduceIte, Nat.reduceEqDiff, Nat.reduceAdd, Nat.reduceMul, Nat.reduceSub, Nat.reduceLT, Nat.reduceLeDiff, reduceCtorEq, *] | refine Xs _ (fun h => ?_) (fun h => ?_) | with_reducible refine And.intro ?_ ?_
      all_goals refine Xro (i := .s 9 0) ?_ ?_
      all_goals simp [hsome, Wn.leO, resOf, Wn.le, Wn.leL, Wn.cw, C.scal, scal, outW, idsTo, hrOf]
theorem rl_len {t : List UInt8} {L : List Event} (h : readLife t = some L) : L.length ≤ 60 := by
  have : ∀ (f : Nat) (p : Int) (acc : List Event), acc.length ≤ 60 → rlGo t f p acc = some L → L.length ≤ 60 := by
    intro f
    induction f with
    | zero => intro p acc _ h; cases h
    | succ f ih =>
      intro p acc ha h
      rw [rlGo] at h
      split at h
      · split at h
        · rename_i hc
          exact ih _ _ (by simp only [List.length_append, List.length_cons, List.length_nil]; omega) h
        · cases h
      · cases h; exact ha
  exact this _ _ _ (by simp) h
end Go.Proofs.YtoemclhjcbcjaaaGreat.AB
namespace Go.Proofs.YtoemclhjcbcjaaaGreat.AB
open Go
set_option maxRecDepth 100000
set_option linter.unusedSimpArgs false
set_option linter.unusedVariables false
def sameEv (x y : Event) : Bool := x.kind == y.kind && (x.place == y.place && (x.num == y.num && (x.cred.kind == y.cred.kind && (x.cred.of.who == y.cred.of.who && (x.cred.of.name == y.cred.of.name && (x.cred.who == y.cred.who && (x.cred.a.who == y.cred.a.who && (x.cred.a.name == y.cred.a.name && (x.cred.b.who == y.cred.b.who && (x.cred.b.name == y.cred.b.name && (x.cred.till == y.cred.till && (x.cred.nonce == y.cred.nonce && (x.text.data.toList == y.text.data.toList)))))))))))))
def apart : List Event → List Event → Nat → Int
  | [], [], _ => -1
  | x :: xs, y :: ys, k => if sameEv x y then apart xs ys (k + 1) else k
  | _, _, k => k
theorem apart_step (L M : List Event) {k : Nat} (h1 : k < L.length) (h2 : k < M.length) : apart (L.drop k) (M.drop k) k = if sameEv L[k] M[k] then apart (L.drop (k + 1)) (M.drop (k + 1)) (k + 1) else k := by
  rw [List.drop_eq_getElem_cons h1, List.drop_eq_getElem_cons h2]; rfl
theorem apart_end (L M : List Event) (h : L.length = M.length) : apart (L.drop L.length) (M.drop L.length) L.length = -1 := by
  rw [List.drop_length, h, List.drop_length]; rfl
theorem apart_l (L M : List Event) (h : L.length < M.length) : apart (L.drop L.length) (M.drop L.length) L.length = L.length := by
  rw [List.drop_length, List.drop_eq_getElem_cons h]; rfl
theorem apart_r (L M : List Event) (h : M.length < L.length) : apart (L.drop M.length) (M.drop M.length) M.length = M.length := by
  rw [List.drop_length, List.drop_eq_getElem_cons h]; rfl
set_option maxHeartbeats 1000000 in
theorem ac_FirstApart (L M : List Event) (hL : L.length ≤ 1048576) (hM : M.length ≤ 1048576) : AC Tryz.prog 19 [evL L, evL M] (vI (apart L M 0)) [] := by
  refine XA good (fn := Tryz.f19) rfl ?_
  simp only [entry, List.getD_cons_zero, List.getD_cons_succ]
  simp only [evL]
  repeat' first | refine SW.step good fun K hK => ?_ | refine X2 good fun K hK => ?_ | refine X3 good fun K hK => ?_ | refine SW.seqK fun J hJ => ?_ | refine SW.last good fun K hK => ?_ | (refine hK _ ?_; clear hK K) | (refine hJ _ _ (Wk.refl _) ?_; clear hJ J) | clear hK K | clear hJ J | refine SW.skip ?_ | refine SW.ret ?_ | refine SW.retT ?_ | refine SW.retB ?_ | refine SW.exit ?_ | refine SW.exitT ?_ | refine SW.exitB ?_ | refine XN ?_ | refine SW.block ?_ | refine SW.normB ?_ | refine SW.normT ?_ | refine XT ?_ | refine XF ?_ | refine XC (fun h => ?_) (fun h => ?_) | simp only [go_sem, optI, Option.getD_some, Option.getD_none, Int.reduceToNat, reduceIte, Nat.reduceEqDiff, Nat.reduceAdd, Nat.reduceMul, Nat.reduceSub, Nat.reduceLT, Nat.reduceLeDiff, reduceCtorEq, *] | refine Xs _ (fun h => ?_) (fun h => ?_) | with_reducible refine And.intro ?_ ?_
  have hmin : (if (M.length : Int) < L.length then (M.length : Int) else L.length) = ((min L.length M.length : Nat) : Int) := by split <;> omega
  refine SW.loopTo (α := Nat) (fun k => ⟨sl [(0, .c true (.sl (L.map evC))), (1, .c true (.sl (M.map evC))), (5, vI (min L.length M.length : Nat)), (12, vI (min L.length M.length : Nat)), (13, vI k)], hl []⟩) (fun k => min L.length M.length - k) 0
    (fun k => k ≤ min L.length M.length ∧ apart (L.drop k) (M.drop k) k = apart L M 0) ?_ ⟨by simp, by simp⟩ ?_
  · (refine Xto _ _ ?_ ?_ <;> simp only [go_sem, optI, Option.getD_some, Option.getD_none, Int.reduceToNat, reduceIte, Nat.reduceEqDiff, Nat.reduceAdd, Nat.reduceMul, Nat.reduceSub, Nat.reduceLT, Nat.reduceLeDiff, reduceCtorEq, Option.some.injEq, or_true, true_or] <;> (repeat' with_reducible apply And.intro) <;> (try rfl))
    all_goals rw [hmin]
  · rintro k ⟨h2, h3⟩
    by_cases hk : k < min L.length M.length
    · have hk1 : k < L.length := by omega
      have hk2 : k < M.length := by omega
      have e := getD_map L evC [] hk1
      have e' := getD_map M evC [] hk2
      have e1 : decide ((k : Int) < (min L.length M.length : Nat)) = true := by simp only [decide_eq_true_eq]; omega
      have hs := apart_step L M hk1 hk2
      by_cases hv : sameEv L[k] M[k] = true
      · rw [if_pos hv] at hs
        have hv' := hv
        simp only [sameEv] at hv'
        repeat' first | refine SW.step good fun K hK => ?_ | refine X2 good fun K hK => ?_ | refine X3 good fun K hK => ?_ | refine SW.seqK fun J hJ => ?_ | refine SW.last good fun K hK => ?_ | (refine hK _ ?_; clear hK K) | (refine hJ _ _ (Wk.refl _) ?_; clear hJ J) | clear hK K | clear hJ J | refine SW.skip ?_ | refine SW.ret ?_ | refine SW.retT ?_ | refine SW.retB ?_ | refine SW.exit ?_ | refine SW.exitT ?_ | refine SW.exitB ?_ | refine XN ?_ | refine SW.block ?_ | refine SW.normB ?_ | refine SW.normT ?_ | refine XT ?_ | refine XF ?_ | refine XC (fun h => ?_) (fun h => ?_) | simp only [go_sem, optI, Option.getD_some, Option.getD_none, Int.reduceToNat, reduceIte, Nat.reduceEqDiff, Nat.reduceAdd, Nat.reduceMul, Nat.reduceSub, Nat.reduceLT, Nat.reduceLeDiff, reduceCtorEq, *] | refine Xs _ (fun h => ?_) (fun h => ?_) | with_reducible refine And.intro ?_ ?_
        all_goals first | omega | skip
        refine ⟨k + 1, ⟨by omega, by rw [← hs]; exact h3⟩, by omega, ?_⟩
        (refine Xto _ _ ?_ ?_ <;> simp only [go_sem, optI, Option.getD_some, Option.getD_none, Int.reduceToNat, reduceIte, Nat.reduceEqDiff, Nat.reduceAdd, Nat.reduceMul, Nat.reduceSub, Nat.reduceLT, Nat.reduceLeDiff, reduceCtorEq, Option.some.injEq, or_true, true_or] <;> (repeat' with_reducible apply And.intro) <;> (try rfl))
        all_goals (rw [wrap64 (by omega) (by omega)]; simp)
      · rw [if_neg hv] at hs
        have hv' : sameEv L[k] M[k] = false := by simpa using hv
        simp only [sameEv] at hv'
        repeat' first | refine SW.step good fun K hK => ?_ | refine X2 good fun K hK => ?_ | refine X3 good fun K hK => ?_ | refine SW.seqK fun J hJ => ?_ | refine SW.last good fun K hK => ?_ | (refine hK _ ?_; clear hK K) | (refine hJ _ _ (Wk.refl _) ?_; clear hJ J) | clear hK K | clear hJ J | refine SW.skip ?_ | refine SW.ret ?_ | refine SW.retT ?_ | refine SW.retB ?_ | refine SW.exit ?_ | refine SW.exitT ?_ | refine SW.exitB ?_ | refine XN ?_ | refine SW.block ?_ | refine SW.normB ?_ | refine SW.normT ?_ | refine XT ?_ | refine XF ?_ | refine XC (fun h => ?_) (fun h => ?_) | simp only [go_sem, optI, Option.getD_some, Option.getD_none, Int.reduceToNat, reduceIte, Nat.reduceEqDiff, Nat.reduceAdd, Nat.reduceMul, Nat.reduceSub, Nat.reduceLT, Nat.reduceLeDiff, reduceCtorEq, *] | refine Xs _ (fun h => ?_) (fun h => ?_) | with_reducible refine And.intro ?_ ?_
        all_goals first | omega | skip
        refine Xri ?_
        rw [← h3, hs]
    · have hk : k = min L.length M.length := by omega
      subst hk
      have e1 : decide (((min L.length M.length : Nat) : Int) < (min L.length M.length : Nat)) = false := by simp
      repeat' first | refine SW.step good fun K hK => ?_ | refine X2 good fun K hK => ?_ | refine X3 good fun K hK => ?_ | refine SW.seqK fun J hJ => ?_ | refine SW.last good fun K hK => ?_ | (refine hK _ ?_; clear hK K) | (refine hJ _ _ (Wk.refl _) ?_; clear hJ J) | clear hK K | clear hJ J | refine SW.skip ?_ | refine SW.ret ?_ | refine SW.retT ?_ | refine SW.retB ?_ | refine SW.exit ?_ | refine SW.exitT ?_ | refine SW.exitB ?_ | refine XN ?_ | refine SW.block ?_ | refine SW.normB ?_ | refine SW.normT ?_ | refine XT ?_ | refine XF ?_ | refine XC (fun h => ?_) (fun h => ?_) | simp only [go_sem, optI, Option.getD_some, Option.getD_none, Int.reduceToNat, reduceIte, Nat.reduceEqDiff, Nat.reduceAdd, Nat.reduceMul, Nat.reduceSub, Nat.reduceLT, Nat.reduceLeDiff, reduceCtorEq, *] | refine Xs _ (fun h => ?_) (fun h => ?_) | with_reducible refine And.intro ?_ ?_
      · simp only [decide_eq_true_eq] at h
        have hl' : min L.length M.length = L.length := by omega
        rw [hl', apart_end L M (by omega)] at h3
        refine Xri ?_
        rw [← h3]; try rfl
      · simp only [decide_eq_false_iff_not] at h
        refine Xri ?_
        rw [← h3]
        rcases Nat.lt_or_gt_of_ne (show L.length ≠ M.length by omega) with hh | hh
        · rw [show min L.length M.length = L.length by omega, apart_l L M hh]
        · rw [show min L.length M.length = M.length by omega, apart_r L M hh]
end Go.Proofs.YtoemclhjcbcjaaaGreat.AB
namespace Go.Proofs.YtoemclhjcbcjaaaGreat.AB
open Go
set_option maxRecDepth 100000
set_option linter.unusedSimpArgs false
set_option linter.unusedVariables false
set_option maxHeartbeats 1000000 in
theorem ac_FirstApartR (L M : List Event) (hL : L.length ≤ 1048576) (hM : M.length ≤ 1048576) : AC Tryz.prog 20 [evL L, evL M] (vI (apart L M 0)) [] := by
  refine XA good (fn := Tryz.f20) rfl ?_
  simp only [entry, List.getD_cons_zero, List.getD_cons_succ]
  simp only [evL]
  repeat' first | refine SW.step good fun K hK => ?_ | refine X2 good fun K hK => ?_ | refine X3 good fun K hK => ?_ | refine SW.seqK fun J hJ => ?_ | refine SW.last good fun K hK => ?_ | (refine hK _ ?_; clear hK K) | (refine hJ _ _ (Wk.refl _) ?_; clear hJ J) | clear hK K | clear hJ J | refine SW.skip ?_ | refine SW.ret ?_ | refine SW.retT ?_ | refine SW.retB ?_ | refine SW.exit ?_ | refine SW.exitT ?_ | refine SW.exitB ?_ | refine XN ?_ | refine SW.block ?_ | refine SW.normB ?_ | refine SW.normT ?_ | refine XT ?_ | refine XF ?_ | refine XC (fun h => ?_) (fun h => ?_) | simp only [go_sem, optI, Option.getD_some, Option.getD_none, Int.reduceToNat, reduceIte, Nat.reduceEqDiff, Nat.reduceAdd, Nat.reduceMul, Nat.reduceSub, Nat.reduceLT, Nat.reduceLeDiff, reduceCtorEq, *] | refine Xs _ (fun h => ?_) (fun h => ?_) | with_reducible refine And.intro ?_ ?_
  refine SW.loopTo (α := Nat) (fun k => ⟨sl [(0, .c true (.sl (L.map evC))), (1, .c true (.sl (M.map evC))), (5, vI k)], hl []⟩) (fun k => max L.length M.length - k) 0
    (fun k => k ≤ L.length ∧ k ≤ M.length ∧ apart (L.drop k) (M.drop k) k = apart L M 0) ?_ ⟨by simp, by simp, by simp⟩ ?_
  · (refine Xto _ _ ?_ ?_ <;> simp only [go_sem, optI, Option.getD_some, Option.getD_none, Int.reduceToNat, reduceIte, Nat.reduceEqDiff, Nat.reduceAdd, Nat.reduceMul, Nat.reduceSub, Nat.reduceLT, Nat.reduceLeDiff, reduceCtorEq, Option.some.injEq, or_true, true_or] <;> (repeat' with_reducible apply And.intro) <;> (try rfl))
  · rintro k ⟨h1, h2, h3⟩
    by_cases hk1 : k < L.length
    · have e1 : decide ((k : Int) < L.length) = true := by simp; omega
      by_cases hk2 : k < M.length
      · have e := getD_map L evC [] hk1
        have e' := getD_map M evC [] hk2
        have e2 : decide ((k : Int) ≥ L.length) = false := by simp; omega
        have e3 : decide ((k : Int) ≥ M.length) = false := by simp; omega
        have hs := apart_step L M hk1 hk2
        by_cases hv : sameEv L[k] M[k] = true
        · rw [if_pos hv] at hs
          have hv' := hv
          simp only [sameEv] at hv'
          repeat' first | refine SW.step good fun K hK => ?_ | refine X2 good fun K hK => ?_ | refine X3 good fun K hK => ?_ | refine SW.seqK fun J hJ => ?_ | refine SW.last good fun K hK => ?_ | (refine hK _ ?_; clear hK K) | (refine hJ _ _ (Wk.refl _) ?_; clear hJ J) | clear hK K | clear hJ J | refine SW.skip ?_ | refine SW.ret ?_ | refine SW.retT ?_ | refine SW.retB ?_ | refine SW.exit ?_ | refine SW.exitT ?_ | refine SW.exitB ?_ | refine XN ?_ | refine SW.block ?_ | refine SW.normB ?_ | refine SW.normT ?_ | refine XT ?_ | refine XF ?_ | refine XC (fun h => ?_) (fun h => ?_) | simp only [go_sem, optI, Option.getD_some, Option.getD_none, Int.reduceToNat, reduceIte, Nat.reduceEqDiff, Nat.reduceAdd, Nat.reduceMul, Nat.reduceSub, Nat.reduceLT, Nat.reduceLeDiff, reduceCtorEq, *] | refine Xs _ (fun h => ?_) (fun h => ?_) | with_reducible refine And.intro ?_ ?_
          all_goals first | omega | skip
          refine ⟨k + 1, ⟨by omega, by omega, by rw [← hs]; exact h3⟩, by omega, ?_⟩
          (refine Xto _ _ ?_ ?_ <;> simp only [go_sem, optI, Option.getD_some, Option.getD_none, Int.reduceToNat, reduceIte, Nat.reduceEqDiff, Nat.reduceAdd, Nat.reduceMul, Nat.reduceSub, Nat.reduceLT, Nat.reduceLeDiff, reduceCtorEq, Option.some.injEq, or_true, true_or] <;> (repeat' with_reducible apply And.intro) <;> (try rfl))
          all_goals (rw [wrap64 (by omega) (by omega)]; simp)
        · rw [if_neg hv] at hs
          have hv' : sameEv L[k] M[k] = false := by simpa using hv
          simp only [sameEv] at hv'
          repeat' first | refine SW.step good fun K hK => ?_ | refine X2 good fun K hK => ?_ | refine X3 good fun K hK => ?_ | refine SW.seqK fun J hJ => ?_ | refine SW.last good fun K hK => ?_ | (refine hK _ ?_; clear hK K) | (refine hJ _ _ (Wk.refl _) ?_; clear hJ J) | clear hK K | clear hJ J | refine SW.skip ?_ | refine SW.ret ?_ | refine SW.retT ?_ | refine SW.retB ?_ | refine SW.exit ?_ | refine SW.exitT ?_ | refine SW.exitB ?_ | refine XN ?_ | refine SW.block ?_ | refine SW.normB ?_ | refine SW.normT ?_ | refine XT ?_ | refine XF ?_ | refine XC (fun h => ?_) (fun h => ?_) | simp only [go_sem, optI, Option.getD_some, Option.getD_none, Int.reduceToNat, reduceIte, Nat.reduceEqDiff, Nat.reduceAdd, Nat.reduceMul, Nat.reduceSub, Nat.reduceLT, Nat.reduceLeDiff, reduceCtorEq, *] | refine Xs _ (fun h => ?_) (fun h => ?_) | with_reducible refine And.intro ?_ ?_
          all_goals first | omega | skip
          all_goals refine Xri ?_
          all_goals rw [← h3, hs]
      · have hk : k = M.length := by omega
        subst hk
        have e2 : decide ((M.length : Int) ≥ L.length) = false := by simp; omega
        have e3 : decide ((M.length : Int) ≥ M.length) = true := by simp
        repeat' first | refine SW.step good fun K hK => ?_ | refine X2 good fun K hK => ?_ | refine X3 good fun K hK => ?_ | refine SW.seqK fun J hJ => ?_ | refine SW.last good fun K hK => ?_ | (refine hK _ ?_; clear hK K) | (refine hJ _ _ (Wk.refl _) ?_; clear hJ J) | clear hK K | clear hJ J | refine SW.skip ?_ | refine SW.ret ?_ | refine SW.retT ?_ | refine SW.retB ?_ | refine SW.exit ?_ | refine SW.exitT ?_ | refine SW.exitB ?_ | refine XN ?_ | refine SW.block ?_ | refine SW.normB ?_ | refine SW.normT ?_ | refine XT ?_ | refine XF ?_ | refine XC (fun h => ?_) (fun h => ?_) | simp only [go_sem, optI, Option.getD_some, Option.getD_none, Int.reduceToNat, reduceIte, Nat.reduceEqDiff, Nat.reduceAdd, Nat.reduceMul, Nat.reduceSub, Nat.reduceLT, Nat.reduceLeDiff, reduceCtorEq, *] | refine Xs _ (fun h => ?_) (fun h => ?_) | with_reducible refine And.intro ?_ ?_
        all_goals refine Xri ?_
        all_goals rw [← h3, apart_r L M hk1]
    · have hk : k = L.length := by omega
      subst hk
      have e1 : decide ((L.length : Int) < L.length) = false := by simp
      have e2 : decide ((L.length : Int) ≥ L.length) = true := by simp
      by_cases hk2 : L.length < M.length
      · have e3 : decide ((L.length : Int) < M.length) = true := by simp; omega
        repeat' first | refine SW.step good fun K hK => ?_ | refine X2 good fun K hK => ?_ | refine X3 good fun K hK => ?_ | refine SW.seqK fun J hJ => ?_ | refine SW.last good fun K hK => ?_ | (refine hK _ ?_; clear hK K) | (refine hJ _ _ (Wk.refl _) ?_; clear hJ J) | clear hK K | clear hJ J | refine SW.skip ?_ | refine SW.ret ?_ | refine SW.retT ?_ | refine SW.retB ?_ | refine SW.exit ?_ | refine SW.exitT ?_ | refine SW.exitB ?_ | refine XN ?_ | refine SW.block ?_ | refine SW.normB ?_ | refine SW.normT ?_ | refine XT ?_ | refine XF ?_ | refine XC (fun h => ?_) (fun h => ?_) | simp only [go_sem, optI, Option.getD_some, Option.getD_none, Int.reduceToNat, reduceIte, Nat.reduceEqDiff, Nat.reduceAdd, Nat.reduceMul, Nat.reduceSub, Nat.reduceLT, Nat.reduceLeDiff, reduceCtorEq, *] | refine Xs _ (fun h => ?_) (fun h => ?_) | with_reducible refine And.intro ?_ ?_
        all_goals refine Xri ?_
        all_goals rw [← h3, apart_l L M hk2]
      · have e3 : decide ((L.length : Int) < M.length) = false := by simp; omega
        repeat' first | refine SW.step good fun K hK => ?_ | refine X2 good fun K hK => ?_ | refine X3 good fun K hK => ?_ | refine SW.seqK fun J hJ => ?_ | refine SW.last good fun K hK => ?_ | (refine hK _ ?_; clear hK K) | (refine hJ _ _ (Wk.refl _) ?_; clear hJ J) | clear hK K | clear hJ J | refine SW.skip ?_ | refine SW.ret ?_ | refine SW.retT ?_ | refine SW.retB ?_ | refine SW.exit ?_ | refine SW.exitT ?_ | refine SW.exitB ?_ | refine XN ?_ | refine SW.block ?_ | refine SW.normB ?_ | refine SW.normT ?_ | refine XT ?_ | refine XF ?_ | refine XC (fun h => ?_) (fun h => ?_) | simp only [go_sem, optI, Option.getD_some, Option.getD_none, Int.reduceToNat, reduceIte, Nat.reduceEqDiff, Nat.reduceAdd, Nat.reduceMul, Nat.reduceSub, Nat.reduceLT, Nat.reduceLeDiff, reduceCtorEq, *] | refine Xs _ (fun h => ?_) (fun h => ?_) | with_reducible refine And.intro ?_ ?_
        all_goals refine Xri ?_
        all_goals rw [← h3, apart_end L M (by omega)]
end Go.Proofs.YtoemclhjcbcjaaaGreat.AB
namespace Go.Proofs.YtoemclhjcbcjaaaGreat.AB
open Go
set_option maxRecDepth 100000
end Go.Proofs.YtoemclhjcbcjaaaGreat.AB
