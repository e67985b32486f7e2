/- Cut digests, chains, numbers of texts, seeds, secrets, leaf keys: both functions. -/
import Derived.Test.YtbgeagbgfioaaaaGreatAbHfDigest
import Derived.Test.YtbgeagbgfioaaaaGreatAbFcText
import Derived.Test.YtbgeagbgfioaaaaGreatAbDbStep
namespace Go.Proofs.YtbgeagbgfioaaaaGreat.AB
open Go
set_option maxRecDepth 100000
set_option linter.unusedSimpArgs false
set_option linter.unusedVariables false
theorem dig_len (t : List UInt8) : (digest t).length = 32 := by
  unfold digest
  have h1 := fm_len (dgS (padT t) ((padT t).length / 64))
  rw [bytesC, List.length_map] at h1
  rw [h1, (dgS_ok _ _).1]
def cut (t : List UInt8) : List UInt8 := (digest t).take 8
theorem cut_len (t : List UInt8) : (cut t).length = 8 := by unfold cut; rw [List.length_take, dig_len]; rfl
theorem ac_CutDigest (t : List UInt8) (ht : t.length ≤ 1048576) : AC Tryz.prog 88 [vS t, vI 8] (vS (cut t)) [] := by
  have hd := ac_Digest t ht
  have hl := dig_len t
  unfold cut
  generalize digest t = D at *
  refine XA good (fn := Tryz.f88) rfl ?_
  simp only [entry, List.getD_cons_zero, List.getD_cons_succ]
  repeat' first | refine SW.step good fun K hK => ?_ | refine X2 good fun K hK => ?_ | refine X3 good fun K hK => ?_ | refine SW.seqK fun J hJ => ?_ | refine SW.last good fun K hK => ?_ | (refine hK _ ?_; clear hK K) | (refine hJ _ _ (Wk.refl _) ?_; clear hJ J) | clear hK K | clear hJ J | refine SW.skip ?_ | refine SW.ret ?_ | refine SW.retT ?_ | refine SW.retB ?_ | refine SW.exit ?_ | refine SW.exitT ?_ | refine SW.exitB ?_ | refine XN ?_ | refine SW.block ?_ | refine SW.normB ?_ | refine SW.normT ?_ | refine XT ?_ | refine XF ?_ | refine XC (fun h => ?_) (fun h => ?_) | refine X0 ?_ | refine Xv ?_ | refine X1 (hd) ?_ | refine X1 (ac_in _ _ _) ?_ | simp only [go_sem, optI, Option.getD_some, Option.getD_none, Int.reduceToNat, reduceIte, Nat.reduceEqDiff, Nat.reduceAdd, Nat.reduceMul, Nat.reduceSub, Nat.reduceLT, Nat.reduceLeDiff, reduceCtorEq, *] | refine Xs _ (fun h => ?_) (fun h => ?_) | with_reducible refine And.intro ?_ ?_
  all_goals first | (intro r hr; simp at hr; subst hr; rfl) | (simp [bytesC]; omega) | (simp; done) | omega | rfl | skip
  all_goals first | (refine Xrs ?_; first | rfl | (simp; done)) | (simp [hl]; done) | omega | skip
theorem ac_CutDigest' (t : List UInt8) (ht : t.length ≤ 1048576) : AC Tryz.prog 83 [vS t, vI 8] (vS (cut t)) [] := by
  have hd := ac_Digest' t ht
  have hl := dig_len t
  unfold cut
  generalize digest t = D at *
  refine XA good (fn := Tryz.f83) rfl ?_
  simp only [entry, List.getD_cons_zero, List.getD_cons_succ]
  repeat' first | refine SW.step good fun K hK => ?_ | refine X2 good fun K hK => ?_ | refine X3 good fun K hK => ?_ | refine SW.seqK fun J hJ => ?_ | refine SW.last good fun K hK => ?_ | (refine hK _ ?_; clear hK K) | (refine hJ _ _ (Wk.refl _) ?_; clear hJ J) | clear hK K | clear hJ J | refine SW.skip ?_ | refine SW.ret ?_ | refine SW.retT ?_ | refine SW.retB ?_ | refine SW.exit ?_ | refine SW.exitT ?_ | refine SW.exitB ?_ | refine XN ?_ | refine SW.block ?_ | refine SW.normB ?_ | refine SW.normT ?_ | refine XT ?_ | refine XF ?_ | refine XC (fun h => ?_) (fun h => ?_) | refine X0 ?_ | refine Xv ?_ | refine X1 (hd) ?_ | refine X1 (ac_in' _ _ _) ?_ | simp only [go_sem, optI, Option.getD_some, Option.getD_none, Int.reduceToNat, reduceIte, Nat.reduceEqDiff, Nat.reduceAdd, Nat.reduceMul, Nat.reduceSub, Nat.reduceLT, Nat.reduceLeDiff, reduceCtorEq, *] | refine Xs _ (fun h => ?_) (fun h => ?_) | with_reducible refine And.intro ?_ ?_
  all_goals first | (intro r hr; simp at hr; subst hr; rfl) | (simp [bytesC]; omega) | (simp; done) | omega | rfl | skip
  all_goals first | (refine Xrs ?_; first | rfl | (simp; done)) | (simp [hl]; done) | omega | skip
theorem ac_l04Cut (t : List UInt8) (ht : t.length ≤ 1048576) : AC Tryz.prog 62 [vS t] (vS (cut t)) [] := by
  have hd := ac_CutDigest' t ht
  generalize cut t = D at *
  refine XA good (fn := Tryz.f62) rfl ?_
  simp only [entry, List.getD_cons_zero, List.getD_cons_succ]
  repeat' first | refine SW.step good fun K hK => ?_ | refine X2 good fun K hK => ?_ | refine X3 good fun K hK => ?_ | refine SW.seqK fun J hJ => ?_ | refine SW.last good fun K hK => ?_ | (refine hK _ ?_; clear hK K) | (refine hJ _ _ (Wk.refl _) ?_; clear hJ J) | clear hK K | clear hJ J | refine SW.skip ?_ | refine SW.ret ?_ | refine SW.retT ?_ | refine SW.retB ?_ | refine SW.exit ?_ | refine SW.exitT ?_ | refine SW.exitB ?_ | refine XN ?_ | refine SW.block ?_ | refine SW.normB ?_ | refine SW.normT ?_ | refine XT ?_ | refine XF ?_ | refine XC (fun h => ?_) (fun h => ?_) | refine X0 ?_ | refine Xv ?_ | refine X1 (hd) ?_ | simp only [go_sem, optI, Option.getD_some, Option.getD_none, Int.reduceToNat, reduceIte, Nat.reduceEqDiff, Nat.reduceAdd, Nat.reduceMul, Nat.reduceSub, Nat.reduceLT, Nat.reduceLeDiff, reduceCtorEq, *] | refine Xs _ (fun h => ?_) (fun h => ?_) | with_reducible refine And.intro ?_ ?_
  all_goals (refine Xrs ?_; rfl)
theorem ac_short (k : UInt8) (t : List UInt8) (ht : t.length ≤ 1048575) : AC Tryz.prog 74 [.c false (.v (.int .u8 (k.toNat : Int))), vS t] (vS (cut (k :: t))) [] := by
  have hd := ac_CutDigest (k :: t) (by simp only [List.length_cons]; omega)
  generalize cut (k :: t) = D at *
  have ek : UInt8.ofNat k.toNat = k := by simp
  refine XA good (fn := Tryz.f74) rfl ?_
  simp only [entry, List.getD_cons_zero, List.getD_cons_succ]
  repeat' first | refine SW.step good fun K hK => ?_ | refine X2 good fun K hK => ?_ | refine X3 good fun K hK => ?_ | refine SW.seqK fun J hJ => ?_ | refine SW.last good fun K hK => ?_ | (refine hK _ ?_; clear hK K) | (refine hJ _ _ (Wk.refl _) ?_; clear hJ J) | clear hK K | clear hJ J | refine SW.skip ?_ | refine SW.ret ?_ | refine SW.retT ?_ | refine SW.retB ?_ | refine SW.exit ?_ | refine SW.exitT ?_ | refine SW.exitB ?_ | refine XN ?_ | refine SW.block ?_ | refine SW.normB ?_ | refine SW.normT ?_ | refine XT ?_ | refine XF ?_ | refine XC (fun h => ?_) (fun h => ?_) | refine X0 ?_ | refine Xv ?_ | refine X1 (hd) ?_ | simp only [go_sem, optI, Option.getD_some, Option.getD_none, Int.reduceToNat, reduceIte, Nat.reduceEqDiff, Nat.reduceAdd, Nat.reduceMul, Nat.reduceSub, Nat.reduceLT, Nat.reduceLeDiff, reduceCtorEq, *] | refine Xs _ (fun h => ?_) (fun h => ?_) | with_reducible refine And.intro ?_ ?_
  all_goals first | (intro r hr; simp at hr; subst hr; rfl) | (simp [bytesC]; omega) | (simp; done) | omega | rfl | skip
  all_goals first | (refine Xrs ?_; rfl) | (simp; done) | skip
/-- a chain -/
def chT (t : List UInt8) : Nat → List UInt8
  | 0 => t
  | n + 1 => cut (99 :: chT t n)
theorem chT_len {t : List UInt8} {m : Nat} (h : t.length ≤ m) (h8 : 8 ≤ m) : ∀ n, (chT t n).length ≤ m
  | 0 => h
  | n + 1 => by rw [chT, cut_len]; exact h8
theorem ac_ChainOf (t : List UInt8) (ht : t.length ≤ 1048575) (n : Nat) (hn : n ≤ 3) : AC Tryz.prog 73 [vS t, vI n] (vS (chT t n)) [] := by
  have hm : (if (3 : Int) < (n : Int) then 3 else (n : Int)) = n := by split <;> omega
  have hx : (if (0 : Int) < n then (n : Int) else 0) = n := by split <;> omega
  have hcl : ∀ k, (chT t k).length ≤ 1048575 := chT_len ht (by decide)
  refine XA good (fn := Tryz.f73) rfl ?_
  simp only [entry, List.getD_cons_zero, List.getD_cons_succ]
  repeat' first | refine SW.step good fun K hK => ?_ | refine X2 good fun K hK => ?_ | refine X3 good fun K hK => ?_ | refine SW.seqK fun J hJ => ?_ | refine SW.last good fun K hK => ?_ | (refine hK _ ?_; clear hK K) | (refine hJ _ _ (Wk.refl _) ?_; clear hJ J) | clear hK K | clear hJ J | refine SW.skip ?_ | refine SW.ret ?_ | refine SW.retT ?_ | refine SW.retB ?_ | refine SW.exit ?_ | refine SW.exitT ?_ | refine SW.exitB ?_ | refine XN ?_ | refine SW.block ?_ | refine SW.normB ?_ | refine SW.normT ?_ | refine XT ?_ | refine XF ?_ | refine XC (fun h => ?_) (fun h => ?_) | simp only [go_sem, optI, Option.getD_some, Option.getD_none, Int.reduceToNat, reduceIte, Nat.reduceEqDiff, Nat.reduceAdd, Nat.reduceMul, Nat.reduceSub, Nat.reduceLT, Nat.reduceLeDiff, reduceCtorEq, *] | refine Xs _ (fun h => ?_) (fun h => ?_) | with_reducible refine And.intro ?_ ?_
  refine SW.loopTo (α := Nat) (fun k => ⟨sl [(0, vS (chT t k)), (7, vI n), (8, vI k)], hl []⟩) (fun k => n - k) 0 (fun k => k ≤ n) ?_ (by simp) ?_
  · (refine Xto _ _ ?_ ?_ <;> simp only [go_sem, optI, Option.getD_some, Option.getD_none, Int.reduceToNat, reduceIte, Nat.reduceEqDiff, Nat.reduceAdd, Nat.reduceMul, Nat.reduceSub, Nat.reduceLT, Nat.reduceLeDiff, reduceCtorEq, Option.some.injEq, or_true, true_or] <;> (repeat' with_reducible apply And.intro) <;> (try rfl))
    all_goals first | (simp [chT]; done) | (rw [hm, hx]; done) | skip
  · intro k h2
    by_cases hk : k < n
    · have e1 : decide ((k : Int) < n) = true := by simp; omega
      have hw : IntKind.i64.wrap ((k : Int) + 1) = ((k + 1 : Nat) : Int) := wrap64 (by omega) (by omega)
      have hs := ac_short 99 (chT t k) (hcl k)
      have ht' : chT t (k + 1) = cut (99 :: chT t k) := rfl
      generalize chT t k = M at *
      clear hm hx
      repeat' first | refine SW.step good fun K hK => ?_ | refine X2 good fun K hK => ?_ | refine X3 good fun K hK => ?_ | refine SW.seqK fun J hJ => ?_ | refine SW.last good fun K hK => ?_ | (refine hK _ ?_; clear hK K) | (refine hJ _ _ (Wk.refl _) ?_; clear hJ J) | clear hK K | clear hJ J | refine SW.skip ?_ | refine SW.ret ?_ | refine SW.retT ?_ | refine SW.retB ?_ | refine SW.exit ?_ | refine SW.exitT ?_ | refine SW.exitB ?_ | refine XN ?_ | refine SW.block ?_ | refine SW.normB ?_ | refine SW.normT ?_ | refine XT ?_ | refine XF ?_ | refine XC (fun h => ?_) (fun h => ?_) | refine X0 ?_ | refine Xv ?_ | refine X1 (hs) ?_ | simp only [go_sem, optI, Option.getD_some, Option.getD_none, Int.reduceToNat, reduceIte, Nat.reduceEqDiff, Nat.reduceAdd, Nat.reduceMul, Nat.reduceSub, Nat.reduceLT, Nat.reduceLeDiff, reduceCtorEq, *] | refine Xs _ (fun h => ?_) (fun h => ?_) | with_reducible refine And.intro ?_ ?_
      all_goals first | (intro r hr; simp at hr; subst hr; rfl) | (simp [bytesC]; omega) | (simp; done) | omega | rfl | skip
      all_goals refine ⟨k + 1, by omega, by omega, ?_⟩
      all_goals (refine Xto _ _ ?_ ?_ <;> simp only [go_sem, optI, Option.getD_some, Option.getD_none, Int.reduceToNat, reduceIte, Nat.reduceEqDiff, Nat.reduceAdd, Nat.reduceMul, Nat.reduceSub, Nat.reduceLT, Nat.reduceLeDiff, reduceCtorEq, Option.some.injEq, or_true, true_or] <;> (repeat' with_reducible apply And.intro) <;> (try rfl))
      all_goals first | (rw [ht']; done) | skip
    · have hk : k = n := by omega
      subst hk
      have e1 : decide ((k : Int) < k) = false := by simp
      generalize chT t k = M at *
      clear hm hx
      repeat' first | refine SW.step good fun K hK => ?_ | refine X2 good fun K hK => ?_ | refine X3 good fun K hK => ?_ | refine SW.seqK fun J hJ => ?_ | refine SW.last good fun K hK => ?_ | (refine hK _ ?_; clear hK K) | (refine hJ _ _ (Wk.refl _) ?_; clear hJ J) | clear hK K | clear hJ J | refine SW.skip ?_ | refine SW.ret ?_ | refine SW.retT ?_ | refine SW.retB ?_ | refine SW.exit ?_ | refine SW.exitT ?_ | refine SW.exitB ?_ | refine XN ?_ | refine SW.block ?_ | refine SW.normB ?_ | refine SW.normT ?_ | refine XT ?_ | refine XF ?_ | refine XC (fun h => ?_) (fun h => ?_) | simp only [go_sem, optI, Option.getD_some, Option.getD_none, Int.reduceToNat, reduceIte, Nat.reduceEqDiff, Nat.reduceAdd, Nat.reduceMul, Nat.reduceSub, Nat.reduceLT, Nat.reduceLeDiff, reduceCtorEq, *] | refine Xs _ (fun h => ?_) (fun h => ?_) | with_reducible refine And.intro ?_ ?_
      all_goals (refine Xrs ?_; rfl)
theorem ac_ChainOf' (t : List UInt8) (ht : t.length ≤ 1048575) (n : Nat) (hn : n ≤ 3) : AC Tryz.prog 61 [vS t, vI n] (vS (chT t n)) [] := by
  have hcl : ∀ k, (chT t k).length ≤ 1048575 := chT_len ht (by decide)
  refine XA good (fn := Tryz.f61) rfl ?_
  simp only [entry, List.getD_cons_zero, List.getD_cons_succ]
  repeat' first | refine SW.step good fun K hK => ?_ | refine X2 good fun K hK => ?_ | refine X3 good fun K hK => ?_ | refine SW.seqK fun J hJ => ?_ | refine SW.last good fun K hK => ?_ | (refine hK _ ?_; clear hK K) | (refine hJ _ _ (Wk.refl _) ?_; clear hJ J) | clear hK K | clear hJ J | refine SW.skip ?_ | refine SW.ret ?_ | refine SW.retT ?_ | refine SW.retB ?_ | refine SW.exit ?_ | refine SW.exitT ?_ | refine SW.exitB ?_ | refine XN ?_ | refine SW.block ?_ | refine SW.normB ?_ | refine SW.normT ?_ | refine XT ?_ | refine XF ?_ | refine XC (fun h => ?_) (fun h => ?_) | simp only [go_sem, optI, Option.getD_some, Option.getD_none, Int.reduceToNat, reduceIte, Nat.reduceEqDiff, Nat.reduceAdd, Nat.reduceMul, Nat.reduceSub, Nat.reduceLT, Nat.reduceLeDiff, reduceCtorEq, *] | refine Xs _ (fun h => ?_) (fun h => ?_) | with_reducible refine And.intro ?_ ?_
  refine SW.loopTo (α := Nat) (fun k => ⟨sl [(0, vS (chT t k)), (1, vI n), (5, vI k)], hl []⟩) (fun k => n - k) 0 (fun k => k ≤ n) ?_ (by simp) ?_
  · (refine Xto _ _ ?_ ?_ <;> simp only [go_sem, optI, Option.getD_some, Option.getD_none, Int.reduceToNat, reduceIte, Nat.reduceEqDiff, Nat.reduceAdd, Nat.reduceMul, Nat.reduceSub, Nat.reduceLT, Nat.reduceLeDiff, reduceCtorEq, Option.some.injEq, or_true, true_or] <;> (repeat' with_reducible apply And.intro) <;> (try rfl))
    all_goals first | (simp [chT]; done) | skip
  · intro k h2
    by_cases hk : k < n
    · have e1 : decide ((k : Int) < n) = true := by simp; omega
      have e2 : decide ((k : Int) < 3) = true := by simp; omega
      have hw : IntKind.i64.wrap ((k : Int) + 1) = ((k + 1 : Nat) : Int) := wrap64 (by omega) (by omega)
      have hs := ac_l04Cut (99 :: chT t k) (by have := hcl k; simp only [List.length_cons]; omega)
      have hm := hcl k
      have ht' : chT t (k + 1) = cut (99 :: chT t k) := rfl
      generalize chT t k = M at *
      repeat' first | refine SW.step good fun K hK => ?_ | refine X2 good fun K hK => ?_ | refine X3 good fun K hK => ?_ | refine SW.seqK fun J hJ => ?_ | refine SW.last good fun K hK => ?_ | (refine hK _ ?_; clear hK K) | (refine hJ _ _ (Wk.refl _) ?_; clear hJ J) | clear hK K | clear hJ J | refine SW.skip ?_ | refine SW.ret ?_ | refine SW.retT ?_ | refine SW.retB ?_ | refine SW.exit ?_ | refine SW.exitT ?_ | refine SW.exitB ?_ | refine XN ?_ | refine SW.block ?_ | refine SW.normB ?_ | refine SW.normT ?_ | refine XT ?_ | refine XF ?_ | refine XC (fun h => ?_) (fun h => ?_) | refine X0 ?_ | refine Xv ?_ | refine X1 (hs) ?_ | simp only [go_sem, optI, Option.getD_some, Option.getD_none, Int.reduceToNat, reduceIte, Nat.reduceEqDiff, Nat.reduceAdd, Nat.reduceMul, Nat.reduceSub, Nat.reduceLT, Nat.reduceLeDiff, reduceCtorEq, *] | refine Xs _ (fun h => ?_) (fun h => ?_) | with_reducible refine And.intro ?_ ?_
      all_goals first | (intro r hr; simp at hr; subst hr; rfl) | (simp [bytesC]; omega) | (simp; done) | omega | rfl | skip
      all_goals refine ⟨k + 1, by omega, by omega, ?_⟩
      all_goals (refine Xto _ _ ?_ ?_ <;> simp only [go_sem, optI, Option.getD_some, Option.getD_none, Int.reduceToNat, reduceIte, Nat.reduceEqDiff, Nat.reduceAdd, Nat.reduceMul, Nat.reduceSub, Nat.reduceLT, Nat.reduceLeDiff, reduceCtorEq, Option.some.injEq, or_true, true_or] <;> (repeat' with_reducible apply And.intro) <;> (try rfl))
      all_goals first | (rw [ht']; done) | skip
    · have hk : k = n := by omega
      subst hk
      have e1 : decide ((k : Int) < k) = false := by simp
      generalize chT t k = M at *
      repeat' first | refine SW.step good fun K hK => ?_ | refine X2 good fun K hK => ?_ | refine X3 good fun K hK => ?_ | refine SW.seqK fun J hJ => ?_ | refine SW.last good fun K hK => ?_ | (refine hK _ ?_; clear hK K) | (refine hJ _ _ (Wk.refl _) ?_; clear hJ J) | clear hK K | clear hJ J | refine SW.skip ?_ | refine SW.ret ?_ | refine SW.retT ?_ | refine SW.retB ?_ | refine SW.exit ?_ | refine SW.exitT ?_ | refine SW.exitB ?_ | refine XN ?_ | refine SW.block ?_ | refine SW.normB ?_ | refine SW.normT ?_ | refine XT ?_ | refine XF ?_ | refine XC (fun h => ?_) (fun h => ?_) | simp only [go_sem, optI, Option.getD_some, Option.getD_none, Int.reduceToNat, reduceIte, Nat.reduceEqDiff, Nat.reduceAdd, Nat.reduceMul, Nat.reduceSub, Nat.reduceLT, Nat.reduceLeDiff, reduceCtorEq, *] | refine Xs _ (fun h => ?_) (fun h => ?_) | with_reducible refine And.intro ?_ ?_
      all_goals (refine Xrs ?_; rfl)
end Go.Proofs.YtbgeagbgfioaaaaGreat.AB
namespace Go.Proofs.YtbgeagbgfioaaaaGreat.AB
open Go
set_option maxRecDepth 100000
set_option linter.unusedSimpArgs false
set_option linter.unusedVariables false
/-- two bits of a byte -/
def qd (b : UInt8) (s : Nat) : Nat := b.toNat / 2 ^ s % 4
def q8 (d : List UInt8) : List Nat := [qd (d.getD 0 0) 6, qd (d.getD 0 0) 4, qd (d.getD 0 0) 2, qd (d.getD 0 0) 0, qd (d.getD 1 0) 6, qd (d.getD 1 0) 4, qd (d.getD 1 0) 2, qd (d.getD 1 0) 0]
def sumN : List Nat → Nat
  | [] => 0
  | x :: r => x + sumN r
def missQ (d : List UInt8) : Nat := 24 - sumN (q8 d)
def quadsD (d : List UInt8) : List Nat := q8 d ++ [missQ d / 16 % 4, missQ d / 4 % 4, missQ d % 4]
def quads (t : List UInt8) : List Nat := quadsD (digest t)
theorem qd_le (b : UInt8) (s : Nat) : qd b s ≤ 3 := by unfold qd; omega
theorem q8_len (d : List UInt8) : (q8 d).length = 8 := rfl
theorem q8_le (d : List UInt8) : ∀ x, x ∈ q8 d → x ≤ 3 := by
  intro x hx
  simp only [q8, List.mem_cons, List.not_mem_nil, or_false] at hx
  rcases hx with rfl | rfl | rfl | rfl | rfl | rfl | rfl | rfl <;> exact qd_le _ _
theorem sumN_take_le : ∀ (L : List Nat) (k : Nat), (∀ x, x ∈ L → x ≤ 3) → sumN (L.take k) ≤ 3 * k
  | L, 0, _ => by simp [sumN]
  | [], k + 1, _ => by simp [sumN]
  | x :: L, k + 1, h => by
    have h1 := sumN_take_le L k (fun y hy => h y (List.mem_cons_of_mem _ hy))
    have h2 := h x (by simp)
    simp only [List.take_succ_cons, sumN]; omega
theorem sumN_take : ∀ {L : List Nat} {k : Nat} (h : k < L.length), sumN (L.take (k + 1)) = sumN (L.take k) + L[k]
  | x :: L, 0, _ => by simp [sumN]
  | x :: L, k + 1, h => by
    have := sumN_take (L := L) (k := k) (by simpa using h)
    simp only [List.take_succ_cons, sumN, this, List.getElem_cons_succ]; omega
theorem sum8_le (d : List UInt8) : sumN (q8 d) ≤ 24 := by
  have := sumN_take_le (q8 d) 8 (q8_le d)
  rw [List.take_of_length_le (by rw [q8_len]; omega)] at this; exact this
theorem quads_len (t : List UInt8) : (quads t).length = 11 := rfl
theorem quads_le (t : List UInt8) : ∀ x, x ∈ quads t → x ≤ 3 := by
  intro x hx
  unfold quads quadsD at hx
  rcases List.mem_append.1 hx with h | h
  · exact q8_le _ x h
  · simp only [List.mem_cons, List.not_mem_nil, or_false] at h
    rcases h with rfl | rfl | rfl <;> omega
theorem and3F : ∀ x : Fin 256, andK .i64 ((x.val : Nat) : Int) 3 = ((x.val % 4 : Nat) : Int) := by decide +kernel
theorem and3 (x : Nat) (h : x < 256) : andK .i64 (x : Int) 3 = ((x % 4 : Nat) : Int) := and3F ⟨x, h⟩
theorem shr_n (x s : Nat) (h : s ≤ 64) : shrK .i64 (x : Int) (s : Int) = ((x / 2 ^ s : Nat) : Int) := by
  have e : min (s : Int).toNat IntKind.i64.bits = s := by simp only [Int.toNat_natCast]; exact Nat.min_eq_left h
  unfold shrK
  rw [e, Int.fdiv_eq_ediv_of_nonneg _ (by exact Int.le_of_lt (Int.pow_pos (by decide)))]
  simp
theorem shr_and (x s : Nat) (h : s ≤ 64) (hx : x < 256) : andK .i64 (shrK .i64 (x : Int) (s : Int)) 3 = ((x / 2 ^ s % 4 : Nat) : Int) := by
  rw [shr_n x s h]
  exact and3 _ (Nat.lt_of_le_of_lt (Nat.div_le_self _ _) hx)
theorem shr_qd (b : UInt8) (s : Nat) (h : s ≤ 64) : andK .i64 (shrK .i64 (b.toNat : Int) (s : Int)) 3 = ((qd b s : Nat) : Int) := shr_and _ _ h (by have := b.toNat_lt; omega)
/-- a secret -/
def secr (seed leaf i : Nat) : List UInt8 := cut (115 :: (varI seed ++ varI leaf ++ varI i))
/-- the ends of a leaf's chains, one behind the other -/
def ends (seed leaf : Nat) (k : Nat) : List UInt8 := (List.range k).flatMap fun i => chT (secr seed leaf i) 3
def leafK (seed leaf : Nat) : List UInt8 := cut (108 :: ends seed leaf 11)
def row4 (seed : Nat) : List (List UInt8) := (List.range 4).map (leafK seed)
def pairK (a b : List UInt8) : List UInt8 := cut (110 :: (a ++ b))
def row2 (seed : Nat) : List (List UInt8) := [pairK (leafK seed 0) (leafK seed 1), pairK (leafK seed 2) (leafK seed 3)]
def keyOf (seed : Nat) : List UInt8 := pairK (pairK (leafK seed 0) (leafK seed 1)) (pairK (leafK seed 2) (leafK seed 3))
theorem chT8 {t : List UInt8} (h : t.length = 8) : ∀ n, (chT t n).length = 8
  | 0 => h
  | n + 1 => by rw [chT, cut_len]
theorem ends_succ (seed leaf k : Nat) : ends seed leaf (k + 1) = ends seed leaf k ++ chT (secr seed leaf k) 3 := by
  unfold ends; rw [List.range_succ, List.flatMap_append]; simp
theorem ends_len (seed leaf : Nat) : ∀ k, (ends seed leaf k).length = 8 * k
  | 0 => by simp [ends]
  | k + 1 => by rw [ends_succ, List.length_append, ends_len seed leaf k, chT8 (show (secr seed leaf k).length = 8 from cut_len _)]; omega
structure Sign where
  leaf : Int
  ends : List (List UInt8)
  way : List (List UInt8)
structure Vouched where
  cred : Cred
  sign : Sign
def len8 (L : List (List UInt8)) : Bool := L.all fun s => decide (s.length = 8)
def signForm (s : Sign) : Bool := decide (0 ≤ s.leaf ∧ s.leaf ≤ 3) && (decide (s.ends.length = 11) && (decide (s.way.length = 2) && (len8 s.ends && len8 s.way)))
/-- what chains end in -/
def outs (q : List Nat) (E : List (List UInt8)) : List UInt8 := (List.zipWith (fun q e => chT e (3 - q)) q E).flatten
/-- the way up -/
def wayUp : List (List UInt8) → Int → List UInt8 → List UInt8
  | [], _, t => t
  | w :: r, at', t => wayUp r (at' / 2) (if at' % 2 = 0 then pairK t w else pairK w t)
theorem outs_nil (E : List (List UInt8)) : outs [] E = [] := by simp [outs]
theorem outs_take {q : List Nat} {E : List (List UInt8)} {k : Nat} (h : k < q.length) (h' : k < E.length) : outs (q.take (k + 1)) (E.take (k + 1)) = outs (q.take k) (E.take k) ++ chT E[k] (3 - q[k]) := by
  unfold outs
  rw [← List.take_zipWith, ← List.take_zipWith, List.take_add_one, List.getElem?_eq_getElem (by rw [List.length_zipWith]; omega), List.flatten_append]
  simp
theorem chT_le {t : List UInt8} (h : t.length = 8) (n : Nat) : (chT t n).length ≤ 8 := Nat.le_of_eq (chT8 h n)
theorem outs_len : ∀ (q : List Nat) (E : List (List UInt8)), (∀ e, e ∈ E → e.length = 8) → (outs q E).length ≤ 8 * E.length
  | [], _, _ => by simp [outs]
  | _ :: _, [], _ => by simp [outs]
  | a :: q, e :: E, h => by
    have h1 := outs_len q E (fun x hx => h x (List.mem_cons_of_mem _ hx))
    have h2 := chT_le (h e (by simp)) (3 - a)
    unfold outs at *
    simp only [List.zipWith_cons_cons, List.flatten_cons, List.length_append, List.length_cons]; omega
theorem len8_mem {L : List (List UInt8)} (h : len8 L = true) : ∀ e, e ∈ L → e.length = 8 := fun e he => by simpa using List.all_eq_true.1 h e he
theorem wayUp_len : ∀ (L : List (List UInt8)) (a : Int) (t : List UInt8), t.length = 8 → (wayUp L a t).length = 8
  | [], _, _, h => h
  | w :: r, a, t, _ => by
    rw [wayUp]
    apply wayUp_len
    split <;> exact cut_len _
def signedBy (key text : List UInt8) (s : Sign) : Bool := signForm s && decide (wayUp s.way s.leaf (cut (108 :: outs (quads text) s.ends)) = key)
def seedOf (who : Int) : Nat := 7 * (who % 256).toNat + 1000
def verified (v : Vouched) (now : Int) : Bool := credOk v.cred && (decide (now ≤ v.cred.till) && signedBy (keyOf (seedOf v.cred.of.who)) (credText v.cred) v.sign)
end Go.Proofs.YtbgeagbgfioaaaaGreat.AB
namespace Go.Proofs.YtbgeagbgfioaaaaGreat.AB
open Go
set_option maxRecDepth 100000
set_option linter.unusedSimpArgs false
set_option linter.unusedVariables false
def natC (n : Nat) : List C := [cI (n : Int)]
attribute [go_sem] natC
set_option maxHeartbeats 4000000 in
theorem ac_QuadsOf (t : List UInt8) (ht : t.length ≤ 1048576) : AC Tryz.prog 72 [vS t] (.own (.r 0)) [.row false 3 1 ((quads t).map natC)] := by
  have hd := ac_Digest t ht
  have hdl := dig_len t
  have hs8 := sum8_le (digest t)
  have hle := q8_le (digest t)
  have hst := sumN_take_le (q8 (digest t))
  unfold quads
  generalize digest t = D at *
  obtain ⟨a, b, r, rfl⟩ : ∃ a b r, D = a :: b :: r := by
    match D, hdl with
    | a :: b :: r, _ => exact ⟨a, b, r, rfl⟩
  have hQ : q8 (a :: b :: r) = [qd a 6, qd a 4, qd a 2, qd a 0, qd b 6, qd b 4, qd b 2, qd b 0] := rfl
  unfold quadsD missQ
  generalize hq : q8 (a :: b :: r) = Q at *
  have hQl : Q.length = 8 := by rw [hQ]; rfl
  refine XA good (fn := Tryz.f72) rfl ?_
  simp only [entry, List.getD_cons_zero, List.getD_cons_succ]
  repeat' first | refine SW.step good fun K hK => ?_ | refine X2 good fun K hK => ?_ | refine X3 good fun K hK => ?_ | refine SW.seqK fun J hJ => ?_ | refine SW.last good fun K hK => ?_ | (refine hK _ ?_; clear hK K) | (refine hJ _ _ (Wk.refl _) ?_; clear hJ J) | clear hK K | clear hJ J | refine SW.skip ?_ | refine SW.ret ?_ | refine SW.retT ?_ | refine SW.retB ?_ | refine SW.exit ?_ | refine SW.exitT ?_ | refine SW.exitB ?_ | refine XN ?_ | refine SW.block ?_ | refine SW.normB ?_ | refine SW.normT ?_ | refine XT ?_ | refine XF ?_ | refine XC (fun h => ?_) (fun h => ?_) | refine X0 ?_ | refine Xv ?_ | refine X1 (hd) ?_ | simp only [go_sem, optI, Option.getD_some, Option.getD_none, Int.reduceToNat, reduceIte, Nat.reduceEqDiff, Nat.reduceAdd, Nat.reduceMul, Nat.reduceSub, Nat.reduceLT, Nat.reduceLeDiff, reduceCtorEq, *] | refine Xs _ (fun h => ?_) (fun h => ?_) | with_reducible refine And.intro ?_ ?_
  all_goals first | omega | (simp; omega) | (simp; done) | skip
  refine SW.loopTo (α := Nat) (fun i => ⟨sl [(4, .own (.s 12 0)), (5, vI (24 - (sumN (Q.take (4 * i)) : Nat))), (15, .own (.s 15 0)), (16, vI 2), (17, vI i)], hl [(.s 12 0, .row false 3 1 ((Q.take (4 * i)).map natC)), (.s 15 0, .row false 5 1 (bytesC [a, b]))]⟩) (fun i => 2 - i) 0 (fun i => i ≤ 2) ?_ (by simp) ?_
  · (refine Xto _ _ ?_ ?_ <;> simp only [go_sem, optI, Option.getD_some, Option.getD_none, Int.reduceToNat, reduceIte, Nat.reduceEqDiff, Nat.reduceAdd, Nat.reduceMul, Nat.reduceSub, Nat.reduceLT, Nat.reduceLeDiff, reduceCtorEq, Option.some.injEq, or_true, true_or] <;> (repeat' with_reducible apply And.intro) <;> (try rfl))
    all_goals first | (simp [sumN]; done) | (simp [bytesC]; done) | skip
  · intro i h2
    by_cases hi : i < 2
    · have e1 : decide ((i : Int) < 2) = true := by simp; omega
      have hw : IntKind.i64.wrap ((i : Int) + 1) = ((i + 1 : Nat) : Int) := wrap64 (by omega) (by omega)
      obtain ⟨y, hy, hyq⟩ : ∃ y, (bytesC [a, b]).getD i [] = [.v (.int .u8 ((y : UInt8).toNat : Int))] ∧ ∀ (j : Nat) (h : j < 4), Q[4 * i + j]'(by omega) = qd y (6 - 2 * j) := by
        rcases (show i = 0 ∨ i = 1 by omega) with rfl | rfl
        · refine ⟨a, rfl, fun j h => ?_⟩
          subst hQ
          rcases (show j = 0 ∨ j = 1 ∨ j = 2 ∨ j = 3 by omega) with rfl | rfl | rfl | rfl <;> rfl
        · refine ⟨b, rfl, fun j h => ?_⟩
          subst hQ
          rcases (show j = 0 ∨ j = 1 ∨ j = 2 ∨ j = 3 by omega) with rfl | rfl | rfl | rfl <;> rfl
      have hbl : (bytesC [a, b]).length = 2 := rfl
      generalize bytesC [a, b] = X at *
      clear hQ hd hdl
      repeat' first | refine SW.step good fun K hK => ?_ | refine X2 good fun K hK => ?_ | refine X3 good fun K hK => ?_ | refine SW.seqK fun J hJ => ?_ | refine SW.last good fun K hK => ?_ | (refine hK _ ?_; clear hK K) | (refine hJ _ _ (Wk.refl _) ?_; clear hJ J) | clear hK K | clear hJ J | refine SW.skip ?_ | refine SW.ret ?_ | refine SW.retT ?_ | refine SW.retB ?_ | refine SW.exit ?_ | refine SW.exitT ?_ | refine SW.exitB ?_ | refine XN ?_ | refine SW.block ?_ | refine SW.normB ?_ | refine SW.normT ?_ | refine XT ?_ | refine XF ?_ | refine XC (fun h => ?_) (fun h => ?_) | simp only [go_sem, optI, Option.getD_some, Option.getD_none, Int.reduceToNat, reduceIte, Nat.reduceEqDiff, Nat.reduceAdd, Nat.reduceMul, Nat.reduceSub, Nat.reduceLT, Nat.reduceLeDiff, reduceCtorEq, *] | refine Xs _ (fun h => ?_) (fun h => ?_) | with_reducible refine And.intro ?_ ?_
      all_goals first | (intro r hr; simp at hr; subst hr; rfl) | (simp [bytesC]; omega) | (simp; done) | omega | rfl | skip
      refine SW.loopTo (α := Nat) (fun j => ⟨sl [(4, .own (.s 12 0)), (5, vI (24 - (sumN (Q.take (4 * i + j)) : Nat))), (7, .c false (.v (.int .u8 (y.toNat : Int)))), (8, vI (6 - 2 * (j : Int))), (15, .own (.s 15 0)), (16, vI 2), (17, vI i)], hl [(.s 12 0, .row false 3 1 ((Q.take (4 * i + j)).map natC)), (.s 15 0, .row false 5 1 X)]⟩) (fun j => 4 - j) 0 (fun j => j ≤ 4) ?_ (by simp) ?_
      · (refine Xto _ _ ?_ ?_ <;> simp only [go_sem, optI, Option.getD_some, Option.getD_none, Int.reduceToNat, reduceIte, Nat.reduceEqDiff, Nat.reduceAdd, Nat.reduceMul, Nat.reduceSub, Nat.reduceLT, Nat.reduceLeDiff, reduceCtorEq, Option.some.injEq, or_true, true_or] <;> (repeat' with_reducible apply And.intro) <;> (try rfl))
        all_goals first | (simp; done) | skip
      · intro j h3
        have hsl := hst (4 * i + j) hle
        by_cases hj : j < 4
        · have f1 : decide ((0 : Int) ≤ 6 - 2 * (j : Int)) = true := by simp; omega
          have f2 : (6 : Int) - 2 * (j : Int) = ((6 - 2 * j : Nat) : Int) := by omega
          have f3 := shr_qd y (6 - 2 * j) (by omega)
          rw [← f2] at f3
          have f4 := hyq j hj
          have f5 := sumN_take (L := Q) (k := 4 * i + j) (by omega)
          have f6 : Q.take (4 * i + (j + 1)) = Q.take (4 * i + j) ++ [qd y (6 - 2 * j)] := by
            rw [show 4 * i + (j + 1) = 4 * i + j + 1 by omega, List.take_add_one, List.getElem?_eq_getElem (by omega), f4]; rfl
          have f7 : sumN (Q.take (4 * i + (j + 1))) = sumN (Q.take (4 * i + j)) + qd y (6 - 2 * j) := by
            rw [show 4 * i + (j + 1) = 4 * i + j + 1 by omega, f5, f4]
          have f8 := qd_le y (6 - 2 * j)
          have f9 : IntKind.i64.wrap (24 - (sumN (Q.take (4 * i + j)) : Int) - (qd y (6 - 2 * j) : Int)) = 24 - (sumN (Q.take (4 * i + (j + 1))) : Int) := by rw [f7, wrap64 (by omega) (by omega)]; omega
          have fa : IntKind.i64.wrap (6 - 2 * (j : Int) - 2) = 6 - 2 * ((j + 1 : Nat) : Int) := by rw [wrap64 (by omega) (by omega)]; omega
          have fb : IntKind.i64.wrap ((y.toNat : Nat) : Int) = (y.toNat : Int) := wrap64 (by omega) (by have := y.toNat_lt; omega)
          have fl : ((Q.take (4 * i + j)).map natC).length ≤ 8 := by simp; omega
          generalize sumN (Q.take (4 * i + j)) = s at *
          generalize qd y (6 - 2 * j) = g at *
          clear hyq hst hle f5 f2 f4 f7 hs8
          repeat' first | refine SW.step good fun K hK => ?_ | refine X2 good fun K hK => ?_ | refine X3 good fun K hK => ?_ | refine SW.seqK fun J hJ => ?_ | refine SW.last good fun K hK => ?_ | (refine hK _ ?_; clear hK K) | (refine hJ _ _ (Wk.refl _) ?_; clear hJ J) | clear hK K | clear hJ J | refine SW.skip ?_ | refine SW.ret ?_ | refine SW.retT ?_ | refine SW.retB ?_ | refine SW.exit ?_ | refine SW.exitT ?_ | refine SW.exitB ?_ | refine XN ?_ | refine SW.block ?_ | refine SW.normB ?_ | refine SW.normT ?_ | refine XT ?_ | refine XF ?_ | refine XC (fun h => ?_) (fun h => ?_) | simp only [go_sem, optI, Option.getD_some, Option.getD_none, Int.reduceToNat, reduceIte, Nat.reduceEqDiff, Nat.reduceAdd, Nat.reduceMul, Nat.reduceSub, Nat.reduceLT, Nat.reduceLeDiff, reduceCtorEq, *] | refine Xs _ (fun h => ?_) (fun h => ?_) | with_reducible refine And.intro ?_ ?_
          all_goals first | (intro r hr; simp at hr; subst hr; rfl) | (simp [bytesC]; omega) | (simp; done) | omega | rfl | skip
          all_goals refine ⟨j + 1, by omega, by omega, ?_⟩
          all_goals (refine Xto _ _ ?_ ?_ <;> simp only [go_sem, optI, Option.getD_some, Option.getD_none, Int.reduceToNat, reduceIte, Nat.reduceEqDiff, Nat.reduceAdd, Nat.reduceMul, Nat.reduceSub, Nat.reduceLT, Nat.reduceLeDiff, reduceCtorEq, Option.some.injEq, or_true, true_or] <;> (repeat' with_reducible apply And.intro) <;> (try rfl))
          all_goals first | (rw [f6, List.map_append]; rfl) | (rw [f6]; done) | skip
        · have hj : j = 4 := by omega
          subst hj
          have f1 : decide ((0 : Int) ≤ 6 - 2 * ((4 : Nat) : Int)) = false := by simp
          repeat' first | refine SW.step good fun K hK => ?_ | refine X2 good fun K hK => ?_ | refine X3 good fun K hK => ?_ | refine SW.seqK fun J hJ => ?_ | refine SW.last good fun K hK => ?_ | (refine hK _ ?_; clear hK K) | (refine hJ _ _ (Wk.refl _) ?_; clear hJ J) | clear hK K | clear hJ J | refine SW.skip ?_ | refine SW.ret ?_ | refine SW.retT ?_ | refine SW.retB ?_ | refine SW.exit ?_ | refine SW.exitT ?_ | refine SW.exitB ?_ | refine XN ?_ | refine SW.block ?_ | refine SW.normB ?_ | refine SW.normT ?_ | refine XT ?_ | refine XF ?_ | refine XC (fun h => ?_) (fun h => ?_) | simp only [go_sem, optI, Option.getD_some, Option.getD_none, Int.reduceToNat, reduceIte, Nat.reduceEqDiff, Nat.reduceAdd, Nat.reduceMul, Nat.reduceSub, Nat.reduceLT, Nat.reduceLeDiff, reduceCtorEq, *] | refine Xs _ (fun h => ?_) (fun h => ?_) | with_reducible refine And.intro ?_ ?_
          all_goals first | (intro r hr; simp at hr; subst hr; rfl) | (simp [bytesC]; omega) | (simp; done) | omega | rfl | skip
          all_goals refine ⟨i + 1, by omega, by omega, ?_⟩
          all_goals (refine Xto _ _ ?_ ?_ <;> simp only [go_sem, optI, Option.getD_some, Option.getD_none, Int.reduceToNat, reduceIte, Nat.reduceEqDiff, Nat.reduceAdd, Nat.reduceMul, Nat.reduceSub, Nat.reduceLT, Nat.reduceLeDiff, reduceCtorEq, Option.some.injEq, or_true, true_or] <;> (repeat' with_reducible apply And.intro) <;> (try rfl))
          all_goals first | rfl | skip
    · have hi : i = 2 := by omega
      subst hi
      have e1 : decide (((2 : Nat) : Int) < 2) = false := by simp
      have hT : Q.take (4 * 2) = Q := List.take_of_length_le (by omega)
      rw [hT]
      have g1 : (24 : Int) - (sumN Q : Int) = ((24 - sumN Q : Nat) : Int) := by omega
      have g2 : andK .i64 (shrK .i64 ((24 - sumN Q : Nat) : Int) 4) 3 = (((24 - sumN Q) / 16 % 4 : Nat) : Int) := shr_and (24 - sumN Q) 4 (by omega) (by omega)
      have g3 : andK .i64 (shrK .i64 ((24 - sumN Q : Nat) : Int) 2) 3 = (((24 - sumN Q) / 4 % 4 : Nat) : Int) := shr_and (24 - sumN Q) 2 (by omega) (by omega)
      have g4 := and3 (24 - sumN Q) (by omega)
      rw [g1]
      generalize 24 - sumN Q = m at *
      have gl : (Q.map natC).length = 8 := by rw [List.length_map]; exact hQl
      clear hQ hd hdl hst hle
      repeat' first | refine SW.step good fun K hK => ?_ | refine X2 good fun K hK => ?_ | refine X3 good fun K hK => ?_ | refine SW.seqK fun J hJ => ?_ | refine SW.last good fun K hK => ?_ | (refine hK _ ?_; clear hK K) | (refine hJ _ _ (Wk.refl _) ?_; clear hJ J) | clear hK K | clear hJ J | refine SW.skip ?_ | refine SW.ret ?_ | refine SW.retT ?_ | refine SW.retB ?_ | refine SW.exit ?_ | refine SW.exitT ?_ | refine SW.exitB ?_ | refine XN ?_ | refine SW.block ?_ | refine SW.normB ?_ | refine SW.normT ?_ | refine XT ?_ | refine XF ?_ | refine XC (fun h => ?_) (fun h => ?_) | simp only [go_sem, optI, Option.getD_some, Option.getD_none, Int.reduceToNat, reduceIte, Nat.reduceEqDiff, Nat.reduceAdd, Nat.reduceMul, Nat.reduceSub, Nat.reduceLT, Nat.reduceLeDiff, reduceCtorEq, *] | refine Xs _ (fun h => ?_) (fun h => ?_) | with_reducible refine And.intro ?_ ?_
      all_goals first | (intro r hr; simp at hr; subst hr; rfl) | (simp [bytesC]; omega) | (simp; done) | omega | rfl | skip
      refine Xro (i := .s 12 0) ?_ ?_
      · simp only [Wn.leO]; simp [natC]
      · simp [Wn.le, outW, idsTo, hrOf, resOf]
end Go.Proofs.YtbgeagbgfioaaaaGreat.AB
namespace Go.Proofs.YtbgeagbgfioaaaaGreat.AB
open Go
set_option maxRecDepth 100000
set_option linter.unusedSimpArgs false
set_option linter.unusedVariables false
set_option maxHeartbeats 4000000 in
theorem ac_QuadsOf' (t : List UInt8) (ht : t.length ≤ 1048576) : AC Tryz.prog 60 [vS t] (.own (.r 0)) [.row false 3 1 ((quads t).map natC)] := by
  have hd := ac_Digest' t ht
  have hdl := dig_len t
  have hs8 := sum8_le (digest t)
  have hle := q8_le (digest t)
  have hst := sumN_take_le (q8 (digest t))
  unfold quads
  generalize digest t = D at *
  obtain ⟨a, b, r, rfl⟩ : ∃ a b r, D = a :: b :: r := by
    match D, hdl with
    | a :: b :: r, _ => exact ⟨a, b, r, rfl⟩
  have hQ : q8 (a :: b :: r) = [qd a 6, qd a 4, qd a 2, qd a 0, qd b 6, qd b 4, qd b 2, qd b 0] := rfl
  unfold quadsD missQ
  generalize hq : q8 (a :: b :: r) = Q at *
  have hQl : Q.length = 8 := by rw [hQ]; rfl
  refine XA good (fn := Tryz.f60) rfl ?_
  simp only [entry, List.getD_cons_zero, List.getD_cons_succ]
  repeat' first | refine SW.step good fun K hK => ?_ | refine X2 good fun K hK => ?_ | refine X3 good fun K hK => ?_ | refine SW.seqK fun J hJ => ?_ | refine SW.last good fun K hK => ?_ | (refine hK _ ?_; clear hK K) | (refine hJ _ _ (Wk.refl _) ?_; clear hJ J) | clear hK K | clear hJ J | refine SW.skip ?_ | refine SW.ret ?_ | refine SW.retT ?_ | refine SW.retB ?_ | refine SW.exit ?_ | refine SW.exitT ?_ | refine SW.exitB ?_ | refine XN ?_ | refine SW.block ?_ | refine SW.normB ?_ | refine SW.normT ?_ | refine XT ?_ | refine XF ?_ | refine XC (fun h => ?_) (fun h => ?_) | refine X0 ?_ | refine Xv ?_ | refine X1 (hd) ?_ | simp only [go_sem, optI, Option.getD_some, Option.getD_none, Int.reduceToNat, reduceIte, Nat.reduceEqDiff, Nat.reduceAdd, Nat.reduceMul, Nat.reduceSub, Nat.reduceLT, Nat.reduceLeDiff, reduceCtorEq, *] | refine Xs _ (fun h => ?_) (fun h => ?_) | with_reducible refine And.intro ?_ ?_
  all_goals first | omega | (simp; omega) | (simp; done) | skip
  refine SW.loopTo (α := Nat) (fun i => ⟨sl [(4, .own (.s 12 0)), (3, vS (a :: b :: r)), (5, vI (sumN (Q.take (4 * i)) : Nat)), (6, vI i)], hl [(.s 12 0, .row false 3 1 ((Q.take (4 * i)).map natC))]⟩) (fun i => 2 - i) 0 (fun i => i ≤ 2) ?_ (by simp) ?_
  · (refine Xto _ _ ?_ ?_ <;> simp only [go_sem, optI, Option.getD_some, Option.getD_none, Int.reduceToNat, reduceIte, Nat.reduceEqDiff, Nat.reduceAdd, Nat.reduceMul, Nat.reduceSub, Nat.reduceLT, Nat.reduceLeDiff, reduceCtorEq, Option.some.injEq, or_true, true_or] <;> (repeat' with_reducible apply And.intro) <;> (try rfl))
    all_goals first | (simp [sumN]; done) | (simp [bytesC]; done) | skip
  · intro i h2
    by_cases hi : i < 2
    · have e1 : decide ((i : Int) < 2) = true := by simp; omega
      have hw : IntKind.i64.wrap ((i : Int) + 1) = ((i + 1 : Nat) : Int) := wrap64 (by omega) (by omega)
      obtain ⟨y, hy, hyq⟩ : ∃ y : UInt8, (a :: b :: r).getD i 0 = y ∧ ∀ (j : Nat) (h : j < 4), Q[4 * i + j]'(by omega) = qd y (6 - 2 * j) := by
        rcases (show i = 0 ∨ i = 1 by omega) with rfl | rfl
        · refine ⟨a, rfl, fun j h => ?_⟩
          subst hQ
          rcases (show j = 0 ∨ j = 1 ∨ j = 2 ∨ j = 3 by omega) with rfl | rfl | rfl | rfl <;> rfl
        · refine ⟨b, rfl, fun j h => ?_⟩
          subst hQ
          rcases (show j = 0 ∨ j = 1 ∨ j = 2 ∨ j = 3 by omega) with rfl | rfl | rfl | rfl <;> rfl
      clear hQ hd
      repeat' first | refine SW.step good fun K hK => ?_ | refine X2 good fun K hK => ?_ | refine X3 good fun K hK => ?_ | refine SW.seqK fun J hJ => ?_ | refine SW.last good fun K hK => ?_ | (refine hK _ ?_; clear hK K) | (refine hJ _ _ (Wk.refl _) ?_; clear hJ J) | clear hK K | clear hJ J | refine SW.skip ?_ | refine SW.ret ?_ | refine SW.retT ?_ | refine SW.retB ?_ | refine SW.exit ?_ | refine SW.exitT ?_ | refine SW.exitB ?_ | refine XN ?_ | refine SW.block ?_ | refine SW.normB ?_ | refine SW.normT ?_ | refine XT ?_ | refine XF ?_ | refine XC (fun h => ?_) (fun h => ?_) | simp only [go_sem, optI, Option.getD_some, Option.getD_none, Int.reduceToNat, reduceIte, Nat.reduceEqDiff, Nat.reduceAdd, Nat.reduceMul, Nat.reduceSub, Nat.reduceLT, Nat.reduceLeDiff, reduceCtorEq, *] | refine Xs _ (fun h => ?_) (fun h => ?_) | with_reducible refine And.intro ?_ ?_
      all_goals first | (intro r hr; simp at hr; subst hr; rfl) | (simp [bytesC]; omega) | (simp; done) | omega | rfl | skip
      refine SW.loopTo (α := Nat) (fun j => ⟨sl [(4, .own (.s 12 0)), (3, vS (a :: b :: r)), (5, vI (sumN (Q.take (4 * i + j)) : Nat)), (6, vI i), (7, vI (6 - 2 * (j : Int)))], hl [(.s 12 0, .row false 3 1 ((Q.take (4 * i + j)).map natC))]⟩) (fun j => 4 - j) 0 (fun j => j ≤ 4) ?_ (by simp) ?_
      · (refine Xto _ _ ?_ ?_ <;> simp only [go_sem, optI, Option.getD_some, Option.getD_none, Int.reduceToNat, reduceIte, Nat.reduceEqDiff, Nat.reduceAdd, Nat.reduceMul, Nat.reduceSub, Nat.reduceLT, Nat.reduceLeDiff, reduceCtorEq, Option.some.injEq, or_true, true_or] <;> (repeat' with_reducible apply And.intro) <;> (try rfl))
        all_goals first | (simp; done) | skip
      · intro j h3
        have hsl := hst (4 * i + j) hle
        by_cases hj : j < 4
        · have f1 : decide ((0 : Int) ≤ 6 - 2 * (j : Int)) = true := by simp; omega
          have f2 : (6 : Int) - 2 * (j : Int) = ((6 - 2 * j : Nat) : Int) := by omega
          have f3 := shr_qd y (6 - 2 * j) (by omega)
          rw [← f2] at f3
          have f4 := hyq j hj
          have f5 := sumN_take (L := Q) (k := 4 * i + j) (by omega)
          have f6 : Q.take (4 * i + (j + 1)) = Q.take (4 * i + j) ++ [qd y (6 - 2 * j)] := by
            rw [show 4 * i + (j + 1) = 4 * i + j + 1 by omega, List.take_add_one, List.getElem?_eq_getElem (by omega), f4]; rfl
          have f7 : sumN (Q.take (4 * i + (j + 1))) = sumN (Q.take (4 * i + j)) + qd y (6 - 2 * j) := by
            rw [show 4 * i + (j + 1) = 4 * i + j + 1 by omega, f5, f4]
          have f8 := qd_le y (6 - 2 * j)
          have f9 : IntKind.i64.wrap ((sumN (Q.take (4 * i + j)) : Int) + (qd y (6 - 2 * j) : Int)) = (sumN (Q.take (4 * i + (j + 1))) : Int) := by rw [f7, wrap64 (by omega) (by omega)]; omega
          have fu : IntKind.u64.wrap (6 - 2 * (j : Int)) = 6 - 2 * (j : Int) := by simp only [IntKind.wrap, IntKind.bits, IntKind.signed]; simp; omega
          have fa : IntKind.i64.wrap (6 - 2 * (j : Int) - 2) = 6 - 2 * ((j + 1 : Nat) : Int) := by rw [wrap64 (by omega) (by omega)]; omega
          have fb : IntKind.i64.wrap ((y.toNat : Nat) : Int) = (y.toNat : Int) := wrap64 (by omega) (by have := y.toNat_lt; omega)
          have fl : ((Q.take (4 * i + j)).map natC).length ≤ 8 := by simp; omega
          generalize sumN (Q.take (4 * i + j)) = s at *
          generalize qd y (6 - 2 * j) = g at *
          clear hyq hst hle f5 f2 f4 f7 hs8
          repeat' first | refine SW.step good fun K hK => ?_ | refine X2 good fun K hK => ?_ | refine X3 good fun K hK => ?_ | refine SW.seqK fun J hJ => ?_ | refine SW.last good fun K hK => ?_ | (refine hK _ ?_; clear hK K) | (refine hJ _ _ (Wk.refl _) ?_; clear hJ J) | clear hK K | clear hJ J | refine SW.skip ?_ | refine SW.ret ?_ | refine SW.retT ?_ | refine SW.retB ?_ | refine SW.exit ?_ | refine SW.exitT ?_ | refine SW.exitB ?_ | refine XN ?_ | refine SW.block ?_ | refine SW.normB ?_ | refine SW.normT ?_ | refine XT ?_ | refine XF ?_ | refine XC (fun h => ?_) (fun h => ?_) | simp only [go_sem, optI, Option.getD_some, Option.getD_none, Int.reduceToNat, reduceIte, Nat.reduceEqDiff, Nat.reduceAdd, Nat.reduceMul, Nat.reduceSub, Nat.reduceLT, Nat.reduceLeDiff, reduceCtorEq, *] | refine Xs _ (fun h => ?_) (fun h => ?_) | with_reducible refine And.intro ?_ ?_
          all_goals first | (intro r hr; simp at hr; subst hr; rfl) | (simp [bytesC]; omega) | (simp; done) | omega | rfl | skip
          all_goals refine ⟨j + 1, by omega, by omega, ?_⟩
          all_goals (refine Xto _ _ ?_ ?_ <;> simp only [go_sem, optI, Option.getD_some, Option.getD_none, Int.reduceToNat, reduceIte, Nat.reduceEqDiff, Nat.reduceAdd, Nat.reduceMul, Nat.reduceSub, Nat.reduceLT, Nat.reduceLeDiff, reduceCtorEq, Option.some.injEq, or_true, true_or] <;> (repeat' with_reducible apply And.intro) <;> (try rfl))
          all_goals first | (rw [f6, List.map_append]; rfl) | (rw [f6]; done) | skip
        · have hj : j = 4 := by omega
          subst hj
          have f1 : decide ((0 : Int) ≤ 6 - 2 * ((4 : Nat) : Int)) = false := by simp
          repeat' first | refine SW.step good fun K hK => ?_ | refine X2 good fun K hK => ?_ | refine X3 good fun K hK => ?_ | refine SW.seqK fun J hJ => ?_ | refine SW.last good fun K hK => ?_ | (refine hK _ ?_; clear hK K) | (refine hJ _ _ (Wk.refl _) ?_; clear hJ J) | clear hK K | clear hJ J | refine SW.skip ?_ | refine SW.ret ?_ | refine SW.retT ?_ | refine SW.retB ?_ | refine SW.exit ?_ | refine SW.exitT ?_ | refine SW.exitB ?_ | refine XN ?_ | refine SW.block ?_ | refine SW.normB ?_ | refine SW.normT ?_ | refine XT ?_ | refine XF ?_ | refine XC (fun h => ?_) (fun h => ?_) | simp only [go_sem, optI, Option.getD_some, Option.getD_none, Int.reduceToNat, reduceIte, Nat.reduceEqDiff, Nat.reduceAdd, Nat.reduceMul, Nat.reduceSub, Nat.reduceLT, Nat.reduceLeDiff, reduceCtorEq, *] | refine Xs _ (fun h => ?_) (fun h => ?_) | with_reducible refine And.intro ?_ ?_
          all_goals first | (intro r hr; simp at hr; subst hr; rfl) | (simp [bytesC]; omega) | (simp; done) | omega | rfl | skip
          all_goals refine ⟨i + 1, by omega, by omega, ?_⟩
          all_goals (refine Xto _ _ ?_ ?_ <;> simp only [go_sem, optI, Option.getD_some, Option.getD_none, Int.reduceToNat, reduceIte, Nat.reduceEqDiff, Nat.reduceAdd, Nat.reduceMul, Nat.reduceSub, Nat.reduceLT, Nat.reduceLeDiff, reduceCtorEq, Option.some.injEq, or_true, true_or] <;> (repeat' with_reducible apply And.intro) <;> (try rfl))
          all_goals first | rfl | skip
    · have hi : i = 2 := by omega
      subst hi
      have e1 : decide (((2 : Nat) : Int) < 2) = false := by simp
      have hT : Q.take (4 * 2) = Q := List.take_of_length_le (by omega)
      rw [hT]
      have g0 : IntKind.i64.wrap (24 - (sumN Q : Int)) = ((24 - sumN Q : Nat) : Int) := by rw [wrap64 (by omega) (by omega)]; omega
      have hm24 : 24 - sumN Q ≤ 24 := by omega
      generalize 24 - sumN Q = m at *
      generalize sumN Q = su at *
      have d1 : (m : Int).tdiv 16 = ((m / 16 % 4 : Nat) : Int) := by rw [Int.tdiv_eq_ediv_of_nonneg (by omega)]; omega
      have d2 : (m : Int).tdiv 4 = ((m / 4 : Nat) : Int) := by rw [Int.tdiv_eq_ediv_of_nonneg (by omega)]; omega
      have d3 : ((m / 4 : Nat) : Int).tmod 4 = ((m / 4 % 4 : Nat) : Int) := by rw [Int.tmod_eq_emod_of_nonneg (by omega)]; omega
      have d4 : (m : Int).tmod 4 = ((m % 4 : Nat) : Int) := by rw [Int.tmod_eq_emod_of_nonneg (by omega)]; omega
      have w1 : IntKind.i64.wrap ((m / 16 % 4 : Nat) : Int) = ((m / 16 % 4 : Nat) : Int) := wrap64 (by omega) (by omega)
      have w2 : IntKind.i64.wrap ((m / 4 : Nat) : Int) = ((m / 4 : Nat) : Int) := wrap64 (by omega) (by omega)
      have w3 : IntKind.i64.wrap ((m / 4 % 4 : Nat) : Int) = ((m / 4 % 4 : Nat) : Int) := wrap64 (by omega) (by omega)
      have w4 : IntKind.i64.wrap ((m % 4 : Nat) : Int) = ((m % 4 : Nat) : Int) := wrap64 (by omega) (by omega)
      generalize m / 16 % 4 = x1 at *
      generalize m / 4 % 4 = x2 at *
      generalize m / 4 = x3 at *
      generalize m % 4 = x4 at *
      have gl : (Q.map natC).length = 8 := by rw [List.length_map]; exact hQl
      clear hQ hd hdl hst hle
      repeat' first | refine SW.step good fun K hK => ?_ | refine X2 good fun K hK => ?_ | refine X3 good fun K hK => ?_ | refine SW.seqK fun J hJ => ?_ | refine SW.last good fun K hK => ?_ | (refine hK _ ?_; clear hK K) | (refine hJ _ _ (Wk.refl _) ?_; clear hJ J) | clear hK K | clear hJ J | refine SW.skip ?_ | refine SW.ret ?_ | refine SW.retT ?_ | refine SW.retB ?_ | refine SW.exit ?_ | refine SW.exitT ?_ | refine SW.exitB ?_ | refine XN ?_ | refine SW.block ?_ | refine SW.normB ?_ | refine SW.normT ?_ | refine XT ?_ | refine XF ?_ | refine XC (fun h => ?_) (fun h => ?_) | simp only [go_sem, optI, Option.getD_some, Option.getD_none, Int.reduceToNat, reduceIte, Nat.reduceEqDiff, Nat.reduceAdd, Nat.reduceMul, Nat.reduceSub, Nat.reduceLT, Nat.reduceLeDiff, reduceCtorEq, *] | refine Xs _ (fun h => ?_) (fun h => ?_) | with_reducible refine And.intro ?_ ?_
      all_goals first | (intro r hr; simp at hr; subst hr; rfl) | (simp [bytesC]; omega) | (simp; done) | omega | rfl | skip
      refine Xro (i := .s 12 0) ?_ ?_
      · simp only [Wn.leO]; simp [natC]
      · simp [Wn.le, outW, idsTo, hrOf, resOf]
end Go.Proofs.YtbgeagbgfioaaaaGreat.AB
namespace Go.Proofs.YtbgeagbgfioaaaaGreat.AB
open Go
set_option maxRecDepth 100000
set_option linter.unusedSimpArgs false
set_option linter.unusedVariables false
theorem tm_rng (n : Int) : -256 < n.tmod 256 ∧ n.tmod 256 < 256 := by
  constructor
  · have := Int.lt_tmod_of_pos n (show (0 : Int) < 256 by decide); omega
  · exact Int.tmod_lt_of_pos n (by decide)
theorem tm_emod (n : Int) : (n.tmod 256 + 256).tmod 256 = n % 256 := by
  have h := tm_rng n
  rw [Int.tmod_eq_emod_of_nonneg (a := n.tmod 256 + 256) (by omega), Int.add_emod_right, Int.tmod_eq_emod]
  split <;> omega
theorem tm_neg (n : Int) (h : n.tmod 256 < 0) : n.tmod 256 + 256 = n % 256 := by
  have h1 := tm_emod n
  have hr := tm_rng n
  rw [Int.tmod_eq_emod_of_nonneg (by omega)] at h1; omega
theorem tm_pos (n : Int) (h : ¬ n.tmod 256 < 0) : n.tmod 256 = n % 256 := by
  have h1 := tm_emod n
  have hr := tm_rng n
  rw [Int.tmod_eq_emod_of_nonneg (by omega)] at h1; omega
theorem ac_place (n : Int) : AC Tryz.prog 76 [vI n] (vI (n % 256)) [] := by
  have h := tm_rng n
  have h1 := tm_emod n
  have h3 : IntKind.i64.wrap (n.tmod 256 + 256) = n.tmod 256 + 256 := wrap64 (by omega) (by omega)
  clear h
  refine XA good (fn := Tryz.f76) rfl ?_
  simp only [entry, List.getD_cons_zero, List.getD_cons_succ]
  repeat' first | refine SW.step good fun K hK => ?_ | refine X2 good fun K hK => ?_ | refine X3 good fun K hK => ?_ | refine SW.seqK fun J hJ => ?_ | refine SW.last good fun K hK => ?_ | (refine hK _ ?_; clear hK K) | (refine hJ _ _ (Wk.refl _) ?_; clear hJ J) | clear hK K | clear hJ J | refine SW.skip ?_ | refine SW.ret ?_ | refine SW.retT ?_ | refine SW.retB ?_ | refine SW.exit ?_ | refine SW.exitT ?_ | refine SW.exitB ?_ | refine XN ?_ | refine SW.block ?_ | refine SW.normB ?_ | refine SW.normT ?_ | refine XT ?_ | refine XF ?_ | refine XC (fun h => ?_) (fun h => ?_) | simp only [go_sem, optI, Option.getD_some, Option.getD_none, Int.reduceToNat, reduceIte, Nat.reduceEqDiff, Nat.reduceAdd, Nat.reduceMul, Nat.reduceSub, Nat.reduceLT, Nat.reduceLeDiff, reduceCtorEq, *] | refine Xs _ (fun h => ?_) (fun h => ?_) | with_reducible refine And.intro ?_ ?_
  all_goals first | (intro r hr; simp at hr; subst hr; rfl) | (simp [bytesC]; omega) | (simp; done) | omega | rfl | skip
  all_goals refine Xri ?_
  all_goals first | rfl | (rw [← h1]; done) | simp_all
theorem ac_l08Mod (n : Int) : AC Tryz.prog 64 [vI n] (vI (n % 256)) [] := by
  have h := tm_rng n
  have h3 : IntKind.i64.wrap (n.tmod 256 + 256) = n.tmod 256 + 256 := wrap64 (by omega) (by omega)
  clear h
  by_cases hm : n.tmod 256 < 0
  · have e1 : decide (n.tmod 256 < 0) = true := by simpa using hm
    have e2 := tm_neg n hm
    clear hm
    refine XA good (fn := Tryz.f64) rfl ?_
    simp only [entry, List.getD_cons_zero, List.getD_cons_succ]
    repeat' first | refine SW.step good fun K hK => ?_ | refine X2 good fun K hK => ?_ | refine X3 good fun K hK => ?_ | refine SW.seqK fun J hJ => ?_ | refine SW.last good fun K hK => ?_ | (refine hK _ ?_; clear hK K) | (refine hJ _ _ (Wk.refl _) ?_; clear hJ J) | clear hK K | clear hJ J | refine SW.skip ?_ | refine SW.ret ?_ | refine SW.retT ?_ | refine SW.retB ?_ | refine SW.exit ?_ | refine SW.exitT ?_ | refine SW.exitB ?_ | refine XN ?_ | refine SW.block ?_ | refine SW.normB ?_ | refine SW.normT ?_ | refine XT ?_ | refine XF ?_ | refine XC (fun h => ?_) (fun h => ?_) | simp only [go_sem, optI, Option.getD_some, Option.getD_none, Int.reduceToNat, reduceIte, Nat.reduceEqDiff, Nat.reduceAdd, Nat.reduceMul, Nat.reduceSub, Nat.reduceLT, Nat.reduceLeDiff, reduceCtorEq, *] | refine Xs _ (fun h => ?_) (fun h => ?_) | with_reducible refine And.intro ?_ ?_
    all_goals first | (intro r hr; simp at hr; subst hr; rfl) | (simp [bytesC]; omega) | (simp; done) | omega | rfl | skip
    all_goals refine Xri ?_
    all_goals first | rfl | exact e2.symm | simp_all
  · have e1 : decide (n.tmod 256 < 0) = false := by simpa using hm
    have e2 := tm_pos n hm
    clear hm
    refine XA good (fn := Tryz.f64) rfl ?_
    simp only [entry, List.getD_cons_zero, List.getD_cons_succ]
    repeat' first | refine SW.step good fun K hK => ?_ | refine X2 good fun K hK => ?_ | refine X3 good fun K hK => ?_ | refine SW.seqK fun J hJ => ?_ | refine SW.last good fun K hK => ?_ | (refine hK _ ?_; clear hK K) | (refine hJ _ _ (Wk.refl _) ?_; clear hJ J) | clear hK K | clear hJ J | refine SW.skip ?_ | refine SW.ret ?_ | refine SW.retT ?_ | refine SW.retB ?_ | refine SW.exit ?_ | refine SW.exitT ?_ | refine SW.exitB ?_ | refine XN ?_ | refine SW.block ?_ | refine SW.normB ?_ | refine SW.normT ?_ | refine XT ?_ | refine XF ?_ | refine XC (fun h => ?_) (fun h => ?_) | simp only [go_sem, optI, Option.getD_some, Option.getD_none, Int.reduceToNat, reduceIte, Nat.reduceEqDiff, Nat.reduceAdd, Nat.reduceMul, Nat.reduceSub, Nat.reduceLT, Nat.reduceLeDiff, reduceCtorEq, *] | refine Xs _ (fun h => ?_) (fun h => ?_) | with_reducible refine And.intro ?_ ?_
    all_goals first | (intro r hr; simp at hr; subst hr; rfl) | (simp [bytesC]; omega) | (simp; done) | omega | rfl | skip
    all_goals refine Xri ?_
    all_goals first | rfl | exact e2.symm | simp_all
theorem seedOf_cast (n : Int) : ((seedOf n : Nat) : Int) = 7 * (n % 256) + 1000 := by unfold seedOf; omega
theorem seedOf_le (n : Int) : seedOf n ≤ 1000000 := by unfold seedOf; omega
theorem ac_SeedOf (n : Int) : AC Tryz.prog 50 [vI n] (vI (seedOf n : Nat)) [] := by
  have hp := ac_place n
  rw [seedOf_cast]
  have h0 : 0 ≤ n % 256 ∧ n % 256 < 256 := by omega
  generalize n % 256 = r at *
  have w1 : IntKind.i64.wrap (7 * r) = 7 * r := wrap64 (by omega) (by omega)
  have w2 : IntKind.i64.wrap (7 * r + 1000) = 7 * r + 1000 := wrap64 (by omega) (by omega)
  clear h0
  refine XA good (fn := Tryz.f50) rfl ?_
  simp only [entry, List.getD_cons_zero, List.getD_cons_succ]
  repeat' first | refine SW.step good fun K hK => ?_ | refine X2 good fun K hK => ?_ | refine X3 good fun K hK => ?_ | refine SW.seqK fun J hJ => ?_ | refine SW.last good fun K hK => ?_ | (refine hK _ ?_; clear hK K) | (refine hJ _ _ (Wk.refl _) ?_; clear hJ J) | clear hK K | clear hJ J | refine SW.skip ?_ | refine SW.ret ?_ | refine SW.retT ?_ | refine SW.retB ?_ | refine SW.exit ?_ | refine SW.exitT ?_ | refine SW.exitB ?_ | refine XN ?_ | refine SW.block ?_ | refine SW.normB ?_ | refine SW.normT ?_ | refine XT ?_ | refine XF ?_ | refine XC (fun h => ?_) (fun h => ?_) | refine X0 ?_ | refine Xv ?_ | refine X1 (hp) ?_ | simp only [go_sem, optI, Option.getD_some, Option.getD_none, Int.reduceToNat, reduceIte, Nat.reduceEqDiff, Nat.reduceAdd, Nat.reduceMul, Nat.reduceSub, Nat.reduceLT, Nat.reduceLeDiff, reduceCtorEq, *] | refine Xs _ (fun h => ?_) (fun h => ?_) | with_reducible refine And.intro ?_ ?_
  all_goals first | (intro r hr; simp at hr; subst hr; rfl) | (simp [bytesC]; omega) | (simp; done) | omega | rfl | skip
  all_goals refine Xri ?_
  all_goals simp_all
theorem ac_SeedOf' (n : Int) : AC Tryz.prog 36 [vI n] (vI (seedOf n : Nat)) [] := by
  have hp := ac_l08Mod n
  rw [seedOf_cast]
  have h0 : 0 ≤ n % 256 ∧ n % 256 < 256 := by omega
  generalize n % 256 = r at *
  have w1 : IntKind.i64.wrap (7 * r) = 7 * r := wrap64 (by omega) (by omega)
  have w2 : IntKind.i64.wrap (7 * r + 1000) = 7 * r + 1000 := wrap64 (by omega) (by omega)
  clear h0
  refine XA good (fn := Tryz.f36) rfl ?_
  simp only [entry, List.getD_cons_zero, List.getD_cons_succ]
  repeat' first | refine SW.step good fun K hK => ?_ | refine X2 good fun K hK => ?_ | refine X3 good fun K hK => ?_ | refine SW.seqK fun J hJ => ?_ | refine SW.last good fun K hK => ?_ | (refine hK _ ?_; clear hK K) | (refine hJ _ _ (Wk.refl _) ?_; clear hJ J) | clear hK K | clear hJ J | refine SW.skip ?_ | refine SW.ret ?_ | refine SW.retT ?_ | refine SW.retB ?_ | refine SW.exit ?_ | refine SW.exitT ?_ | refine SW.exitB ?_ | refine XN ?_ | refine SW.block ?_ | refine SW.normB ?_ | refine SW.normT ?_ | refine XT ?_ | refine XF ?_ | refine XC (fun h => ?_) (fun h => ?_) | refine X0 ?_ | refine Xv ?_ | refine X1 (hp) ?_ | simp only [go_sem, optI, Option.getD_some, Option.getD_none, Int.reduceToNat, reduceIte, Nat.reduceEqDiff, Nat.reduceAdd, Nat.reduceMul, Nat.reduceSub, Nat.reduceLT, Nat.reduceLeDiff, reduceCtorEq, *] | refine Xs _ (fun h => ?_) (fun h => ?_) | with_reducible refine And.intro ?_ ?_
  all_goals first | (intro r hr; simp at hr; subst hr; rfl) | (simp [bytesC]; omega) | (simp; done) | omega | rfl | skip
  all_goals refine Xri ?_
  all_goals simp_all
theorem inD {n : Nat} {hi : Int} (h : (n : Int) ≤ hi) : decide ((0 : Int) ≤ (n : Int) ∧ (n : Int) ≤ hi) = true := by simp; omega
theorem ac_l04Few (n : Nat) (h : n ≤ 1000000) : AC Tryz.prog 101 [vI n] (vB true) [] := by
  have a := ac_in' (n : Int) 0 1000000
  rw [inD (by omega)] at a
  refine XA good (fn := Tryz.f101) rfl ?_
  simp only [entry, List.getD_cons_zero, List.getD_cons_succ]
  repeat' first | refine SW.step good fun K hK => ?_ | refine X2 good fun K hK => ?_ | refine X3 good fun K hK => ?_ | refine SW.seqK fun J hJ => ?_ | refine SW.last good fun K hK => ?_ | (refine hK _ ?_; clear hK K) | (refine hJ _ _ (Wk.refl _) ?_; clear hJ J) | clear hK K | clear hJ J | refine SW.skip ?_ | refine SW.ret ?_ | refine SW.retT ?_ | refine SW.retB ?_ | refine SW.exit ?_ | refine SW.exitT ?_ | refine SW.exitB ?_ | refine XN ?_ | refine SW.block ?_ | refine SW.normB ?_ | refine SW.normT ?_ | refine XT ?_ | refine XF ?_ | refine XC (fun h => ?_) (fun h => ?_) | refine X0 ?_ | refine Xv ?_ | refine X1 (a) ?_ | simp only [go_sem, optI, Option.getD_some, Option.getD_none, Int.reduceToNat, reduceIte, Nat.reduceEqDiff, Nat.reduceAdd, Nat.reduceMul, Nat.reduceSub, Nat.reduceLT, Nat.reduceLeDiff, reduceCtorEq, *] | refine Xs _ (fun h => ?_) (fun h => ?_) | with_reducible refine And.intro ?_ ?_
  all_goals refine Xrb ?_
  all_goals rfl
theorem ac_SecretOf (seed leaf i : Nat) (h0 : seed ≤ 1000000) (h1 : leaf ≤ 3) (h2 : i ≤ 10) : AC Tryz.prog 99 [vI seed, vI leaf, vI i] (vS (secr seed leaf i)) [] := by
  have a0 := ac_in (seed : Int) 0 1000000
  have a1 := ac_in (leaf : Int) 0 1000000
  have a2 := ac_in (i : Int) 0 1000000
  rw [inD (by omega)] at a0 a1 a2
  have v0 := ac_var (seed : Int) (by omega) (by omega)
  have v1 := ac_var (leaf : Int) (by omega) (by omega)
  have v2 := ac_var (i : Int) (by omega) (by omega)
  have l0 := varI_len (seed : Int)
  have l1 := varI_len (leaf : Int)
  have l2 := varI_len (i : Int)
  unfold secr
  generalize varI (seed : Int) = X at *
  generalize varI (leaf : Int) = Y at *
  generalize varI (i : Int) = Z at *
  have hs := ac_short 115 (X ++ Y ++ Z) (by simp only [List.length_append]; omega)
  generalize cut (115 :: (X ++ Y ++ Z)) = R at *
  refine XA good (fn := Tryz.f99) rfl ?_
  simp only [entry, List.getD_cons_zero, List.getD_cons_succ]
  repeat' first | refine SW.step good fun K hK => ?_ | refine X2 good fun K hK => ?_ | refine X3 good fun K hK => ?_ | refine SW.seqK fun J hJ => ?_ | refine SW.last good fun K hK => ?_ | (refine hK _ ?_; clear hK K) | (refine hJ _ _ (Wk.refl _) ?_; clear hJ J) | clear hK K | clear hJ J | refine SW.skip ?_ | refine SW.ret ?_ | refine SW.retT ?_ | refine SW.retB ?_ | refine SW.exit ?_ | refine SW.exitT ?_ | refine SW.exitB ?_ | refine XN ?_ | refine SW.block ?_ | refine SW.normB ?_ | refine SW.normT ?_ | refine XT ?_ | refine XF ?_ | refine XC (fun h => ?_) (fun h => ?_) | refine X0 ?_ | refine Xv ?_ | refine X1 (a0) ?_ | refine X1 (a1) ?_ | refine X1 (a2) ?_ | refine X1 (v0) ?_ | refine X1 (v1) ?_ | refine X1 (v2) ?_ | refine X1 (hs) ?_ | simp only [go_sem, optI, Option.getD_some, Option.getD_none, Int.reduceToNat, reduceIte, Nat.reduceEqDiff, Nat.reduceAdd, Nat.reduceMul, Nat.reduceSub, Nat.reduceLT, Nat.reduceLeDiff, reduceCtorEq, *] | refine Xs _ (fun h => ?_) (fun h => ?_) | with_reducible refine And.intro ?_ ?_
  all_goals first | (intro r hr; simp at hr; subst hr; rfl) | (simp [bytesC]; omega) | (simp; done) | omega | rfl | skip
  all_goals (refine Xrs ?_; rfl)
theorem ac_SecretOf' (seed leaf i : Nat) (h0 : seed ≤ 1000000) (h1 : leaf ≤ 3) (h2 : i ≤ 10) : AC Tryz.prog 94 [vI seed, vI leaf, vI i] (vS (secr seed leaf i)) [] := by
  have a0 := ac_l04Few seed (by omega)
  have a1 := ac_l04Few leaf (by omega)
  have a2 := ac_l04Few i (by omega)
  have v0 := ac_var' (seed : Int) (by omega) (by omega)
  have v1 := ac_var' (leaf : Int) (by omega) (by omega)
  have v2 := ac_var' (i : Int) (by omega) (by omega)
  have l0 := varI_len (seed : Int)
  have l1 := varI_len (leaf : Int)
  have l2 := varI_len (i : Int)
  unfold secr
  generalize varI (seed : Int) = X at *
  generalize varI (leaf : Int) = Y at *
  generalize varI (i : Int) = Z at *
  have hs := ac_l04Cut (115 :: (X ++ Y ++ Z)) (by simp only [List.length_cons, List.length_append]; omega)
  generalize cut (115 :: (X ++ Y ++ Z)) = R at *
  refine XA good (fn := Tryz.f94) rfl ?_
  simp only [entry, List.getD_cons_zero, List.getD_cons_succ]
  repeat' first | refine SW.step good fun K hK => ?_ | refine X2 good fun K hK => ?_ | refine X3 good fun K hK => ?_ | refine SW.seqK fun J hJ => ?_ | refine SW.last good fun K hK => ?_ | (refine hK _ ?_; clear hK K) | (refine hJ _ _ (Wk.refl _) ?_; clear hJ J) | clear hK K | clear hJ J | refine SW.skip ?_ | refine SW.ret ?_ | refine SW.retT ?_ | refine SW.retB ?_ | refine SW.exit ?_ | refine SW.exitT ?_ | refine SW.exitB ?_ | refine XN ?_ | refine SW.block ?_ | refine SW.normB ?_ | refine SW.normT ?_ | refine XT ?_ | refine XF ?_ | refine XC (fun h => ?_) (fun h => ?_) | refine X0 ?_ | refine Xv ?_ | refine X1 (a0) ?_ | refine X1 (a1) ?_ | refine X1 (a2) ?_ | refine X1 (v0) ?_ | refine X1 (v1) ?_ | refine X1 (v2) ?_ | refine X1 (hs) ?_ | simp only [go_sem, optI, Option.getD_some, Option.getD_none, Int.reduceToNat, reduceIte, Nat.reduceEqDiff, Nat.reduceAdd, Nat.reduceMul, Nat.reduceSub, Nat.reduceLT, Nat.reduceLeDiff, reduceCtorEq, *] | refine Xs _ (fun h => ?_) (fun h => ?_) | with_reducible refine And.intro ?_ ?_
  all_goals first | (intro r hr; simp at hr; subst hr; rfl) | (simp [bytesC]; omega) | (simp; done) | omega | rfl | skip
  all_goals (refine Xrs ?_; rfl)
end Go.Proofs.YtbgeagbgfioaaaaGreat.AB
namespace Go.Proofs.YtbgeagbgfioaaaaGreat.AB
open Go
set_option maxRecDepth 100000
set_option linter.unusedSimpArgs false
set_option linter.unusedVariables false
theorem ac_LeafKey (seed leaf : Nat) (h0 : seed ≤ 1000000) (h1 : leaf ≤ 3) : AC Tryz.prog 89 [vI seed, vI leaf] (vS (leafK seed leaf)) [] := by
  refine XA good (fn := Tryz.f89) rfl ?_
  simp only [entry, List.getD_cons_zero, List.getD_cons_succ]
  repeat' first | refine SW.step good fun K hK => ?_ | refine X2 good fun K hK => ?_ | refine X3 good fun K hK => ?_ | refine SW.seqK fun J hJ => ?_ | refine SW.last good fun K hK => ?_ | (refine hK _ ?_; clear hK K) | (refine hJ _ _ (Wk.refl _) ?_; clear hJ J) | clear hK K | clear hJ J | refine SW.skip ?_ | refine SW.ret ?_ | refine SW.retT ?_ | refine SW.retB ?_ | refine SW.exit ?_ | refine SW.exitT ?_ | refine SW.exitB ?_ | refine XN ?_ | refine SW.block ?_ | refine SW.normB ?_ | refine SW.normT ?_ | refine XT ?_ | refine XF ?_ | refine XC (fun h => ?_) (fun h => ?_) | simp only [go_sem, optI, Option.getD_some, Option.getD_none, Int.reduceToNat, reduceIte, Nat.reduceEqDiff, Nat.reduceAdd, Nat.reduceMul, Nat.reduceSub, Nat.reduceLT, Nat.reduceLeDiff, reduceCtorEq, *] | refine Xs _ (fun h => ?_) (fun h => ?_) | with_reducible refine And.intro ?_ ?_
  refine SW.loopTo (α := Nat) (fun k => ⟨sl [(0, vI seed), (1, vI leaf), (5, vS (ends seed leaf k)), (7, vI k)], hl []⟩) (fun k => 11 - k) 0 (fun k => k ≤ 11) ?_ (by simp) ?_
  · (refine Xto _ _ ?_ ?_ <;> simp only [go_sem, optI, Option.getD_some, Option.getD_none, Int.reduceToNat, reduceIte, Nat.reduceEqDiff, Nat.reduceAdd, Nat.reduceMul, Nat.reduceSub, Nat.reduceLT, Nat.reduceLeDiff, reduceCtorEq, Option.some.injEq, or_true, true_or] <;> (repeat' with_reducible apply And.intro) <;> (try rfl))
    all_goals first | rfl | (simp [ends]; done) | skip
  · intro k h2
    have he := ends_len seed leaf k
    by_cases hk : k < 11
    · have e1 : decide ((k : Int) < 11) = true := by simp; omega
      have hw : IntKind.i64.wrap ((k : Int) + 1) = ((k + 1 : Nat) : Int) := wrap64 (by omega) (by omega)
      have hsl : (secr seed leaf k).length = 8 := cut_len _
      have a1 := ac_SecretOf seed leaf k h0 h1 (by omega)
      have a2 := ac_ChainOf (secr seed leaf k) (by omega) 3 (by omega)
      have hcl : (chT (secr seed leaf k) 3).length = 8 := chT8 hsl 3
      have hs := ends_succ seed leaf k
      generalize secr seed leaf k = X at *
      generalize chT X 3 = Y at *
      generalize ends seed leaf k = E at *
      have heb : E.length ≤ 80 := by omega
      clear he h2
      repeat' first | refine SW.step good fun K hK => ?_ | refine X2 good fun K hK => ?_ | refine X3 good fun K hK => ?_ | refine SW.seqK fun J hJ => ?_ | refine SW.last good fun K hK => ?_ | (refine hK _ ?_; clear hK K) | (refine hJ _ _ (Wk.refl _) ?_; clear hJ J) | clear hK K | clear hJ J | refine SW.skip ?_ | refine SW.ret ?_ | refine SW.retT ?_ | refine SW.retB ?_ | refine SW.exit ?_ | refine SW.exitT ?_ | refine SW.exitB ?_ | refine XN ?_ | refine SW.block ?_ | refine SW.normB ?_ | refine SW.normT ?_ | refine XT ?_ | refine XF ?_ | refine XC (fun h => ?_) (fun h => ?_) | refine X0 ?_ | refine Xv ?_ | refine X1 (a1) ?_ | refine X1 (a2) ?_ | simp only [go_sem, optI, Option.getD_some, Option.getD_none, Int.reduceToNat, reduceIte, Nat.reduceEqDiff, Nat.reduceAdd, Nat.reduceMul, Nat.reduceSub, Nat.reduceLT, Nat.reduceLeDiff, reduceCtorEq, *] | refine Xs _ (fun h => ?_) (fun h => ?_) | with_reducible refine And.intro ?_ ?_
      all_goals first | (intro r hr; simp at hr; subst hr; rfl) | (simp [bytesC]; omega) | (simp; done) | omega | rfl | skip
      all_goals refine ⟨k + 1, by omega, by omega, ?_⟩
      all_goals (refine Xto _ _ ?_ ?_ <;> simp only [go_sem, optI, Option.getD_some, Option.getD_none, Int.reduceToNat, reduceIte, Nat.reduceEqDiff, Nat.reduceAdd, Nat.reduceMul, Nat.reduceSub, Nat.reduceLT, Nat.reduceLeDiff, reduceCtorEq, Option.some.injEq, or_true, true_or] <;> (repeat' with_reducible apply And.intro) <;> (try rfl))
      all_goals first | (rw [hs]; done) | (rw [hs]; simp; done) | skip
    · have hk : k = 11 := by omega
      subst hk
      have e1 : decide (((11 : Nat) : Int) < 11) = false := by simp
      have hlk : leafK seed leaf = cut (108 :: ends seed leaf 11) := rfl
      generalize ends seed leaf 11 = E at *
      have hs := ac_short 108 E (by omega)
      generalize cut (108 :: E) = R at *
      clear he h2
      repeat' first | refine SW.step good fun K hK => ?_ | refine X2 good fun K hK => ?_ | refine X3 good fun K hK => ?_ | refine SW.seqK fun J hJ => ?_ | refine SW.last good fun K hK => ?_ | (refine hK _ ?_; clear hK K) | (refine hJ _ _ (Wk.refl _) ?_; clear hJ J) | clear hK K | clear hJ J | refine SW.skip ?_ | refine SW.ret ?_ | refine SW.retT ?_ | refine SW.retB ?_ | refine SW.exit ?_ | refine SW.exitT ?_ | refine SW.exitB ?_ | refine XN ?_ | refine SW.block ?_ | refine SW.normB ?_ | refine SW.normT ?_ | refine XT ?_ | refine XF ?_ | refine XC (fun h => ?_) (fun h => ?_) | refine X0 ?_ | refine Xv ?_ | refine X1 (hs) ?_ | simp only [go_sem, optI, Option.getD_some, Option.getD_none, Int.reduceToNat, reduceIte, Nat.reduceEqDiff, Nat.reduceAdd, Nat.reduceMul, Nat.reduceSub, Nat.reduceLT, Nat.reduceLeDiff, reduceCtorEq, *] | refine Xs _ (fun h => ?_) (fun h => ?_) | with_reducible refine And.intro ?_ ?_
      all_goals first | (intro r hr; simp at hr; subst hr; rfl) | (simp [bytesC]; omega) | (simp; done) | omega | rfl | skip
      all_goals (refine Xrs ?_; first | exact hlk | rfl)
theorem ac_LeafKey' (seed leaf : Nat) (h0 : seed ≤ 1000000) (h1 : leaf ≤ 3) : AC Tryz.prog 84 [vI seed, vI leaf] (vS (leafK seed leaf)) [] := by
  refine XA good (fn := Tryz.f84) rfl ?_
  simp only [entry, List.getD_cons_zero, List.getD_cons_succ]
  repeat' first | refine SW.step good fun K hK => ?_ | refine X2 good fun K hK => ?_ | refine X3 good fun K hK => ?_ | refine SW.seqK fun J hJ => ?_ | refine SW.last good fun K hK => ?_ | (refine hK _ ?_; clear hK K) | (refine hJ _ _ (Wk.refl _) ?_; clear hJ J) | clear hK K | clear hJ J | refine SW.skip ?_ | refine SW.ret ?_ | refine SW.retT ?_ | refine SW.retB ?_ | refine SW.exit ?_ | refine SW.exitT ?_ | refine SW.exitB ?_ | refine XN ?_ | refine SW.block ?_ | refine SW.normB ?_ | refine SW.normT ?_ | refine XT ?_ | refine XF ?_ | refine XC (fun h => ?_) (fun h => ?_) | simp only [go_sem, optI, Option.getD_some, Option.getD_none, Int.reduceToNat, reduceIte, Nat.reduceEqDiff, Nat.reduceAdd, Nat.reduceMul, Nat.reduceSub, Nat.reduceLT, Nat.reduceLeDiff, reduceCtorEq, *] | refine Xs _ (fun h => ?_) (fun h => ?_) | with_reducible refine And.intro ?_ ?_
  refine SW.loopTo (α := Nat) (fun k => ⟨sl [(0, vI seed), (1, vI leaf), (5, vS (108 :: ends seed leaf k)), (6, vI k)], hl []⟩) (fun k => 11 - k) 0 (fun k => k ≤ 11) ?_ (by simp) ?_
  · (refine Xto _ _ ?_ ?_ <;> simp only [go_sem, optI, Option.getD_some, Option.getD_none, Int.reduceToNat, reduceIte, Nat.reduceEqDiff, Nat.reduceAdd, Nat.reduceMul, Nat.reduceSub, Nat.reduceLT, Nat.reduceLeDiff, reduceCtorEq, Option.some.injEq, or_true, true_or] <;> (repeat' with_reducible apply And.intro) <;> (try rfl))
    all_goals first | rfl | (simp [ends]; done) | skip
  · intro k h2
    have he := ends_len seed leaf k
    by_cases hk : k < 11
    · have e1 : decide ((k : Int) < 11) = true := by simp; omega
      have hw : IntKind.i64.wrap ((k : Int) + 1) = ((k + 1 : Nat) : Int) := wrap64 (by omega) (by omega)
      have hsl : (secr seed leaf k).length = 8 := cut_len _
      have a1 := ac_SecretOf' seed leaf k h0 h1 (by omega)
      have a2 := ac_ChainOf' (secr seed leaf k) (by omega) 3 (by omega)
      have hcl : (chT (secr seed leaf k) 3).length = 8 := chT8 hsl 3
      have hs := ends_succ seed leaf k
      generalize secr seed leaf k = X at *
      generalize chT X 3 = Y at *
      generalize ends seed leaf k = E at *
      have heb : E.length ≤ 80 := by omega
      clear he h2
      repeat' first | refine SW.step good fun K hK => ?_ | refine X2 good fun K hK => ?_ | refine X3 good fun K hK => ?_ | refine SW.seqK fun J hJ => ?_ | refine SW.last good fun K hK => ?_ | (refine hK _ ?_; clear hK K) | (refine hJ _ _ (Wk.refl _) ?_; clear hJ J) | clear hK K | clear hJ J | refine SW.skip ?_ | refine SW.ret ?_ | refine SW.retT ?_ | refine SW.retB ?_ | refine SW.exit ?_ | refine SW.exitT ?_ | refine SW.exitB ?_ | refine XN ?_ | refine SW.block ?_ | refine SW.normB ?_ | refine SW.normT ?_ | refine XT ?_ | refine XF ?_ | refine XC (fun h => ?_) (fun h => ?_) | refine X0 ?_ | refine Xv ?_ | refine X1 (a1) ?_ | refine X1 (a2) ?_ | simp only [go_sem, optI, Option.getD_some, Option.getD_none, Int.reduceToNat, reduceIte, Nat.reduceEqDiff, Nat.reduceAdd, Nat.reduceMul, Nat.reduceSub, Nat.reduceLT, Nat.reduceLeDiff, reduceCtorEq, *] | refine Xs _ (fun h => ?_) (fun h => ?_) | with_reducible refine And.intro ?_ ?_
      all_goals first | (intro r hr; simp at hr; subst hr; rfl) | (simp [bytesC]; omega) | (simp; done) | omega | rfl | skip
      all_goals refine ⟨k + 1, by omega, by omega, ?_⟩
      all_goals (refine Xto _ _ ?_ ?_ <;> simp only [go_sem, optI, Option.getD_some, Option.getD_none, Int.reduceToNat, reduceIte, Nat.reduceEqDiff, Nat.reduceAdd, Nat.reduceMul, Nat.reduceSub, Nat.reduceLT, Nat.reduceLeDiff, reduceCtorEq, Option.some.injEq, or_true, true_or] <;> (repeat' with_reducible apply And.intro) <;> (try rfl))
      all_goals first | (rw [hs]; done) | (rw [hs]; simp; done) | skip
    · have hk : k = 11 := by omega
      subst hk
      have e1 : decide (((11 : Nat) : Int) < 11) = false := by simp
      have hlk : leafK seed leaf = cut (108 :: ends seed leaf 11) := rfl
      generalize ends seed leaf 11 = E at *
      have hs := ac_l04Cut (108 :: E) (by simp only [List.length_cons]; omega)
      generalize cut (108 :: E) = R at *
      clear he h2
      repeat' first | refine SW.step good fun K hK => ?_ | refine X2 good fun K hK => ?_ | refine X3 good fun K hK => ?_ | refine SW.seqK fun J hJ => ?_ | refine SW.last good fun K hK => ?_ | (refine hK _ ?_; clear hK K) | (refine hJ _ _ (Wk.refl _) ?_; clear hJ J) | clear hK K | clear hJ J | refine SW.skip ?_ | refine SW.ret ?_ | refine SW.retT ?_ | refine SW.retB ?_ | refine SW.exit ?_ | refine SW.exitT ?_ | refine SW.exitB ?_ | refine XN ?_ | refine SW.block ?_ | refine SW.normB ?_ | refine SW.normT ?_ | refine XT ?_ | refine XF ?_ | refine XC (fun h => ?_) (fun h => ?_) | refine X0 ?_ | refine Xv ?_ | refine X1 (hs) ?_ | simp only [go_sem, optI, Option.getD_some, Option.getD_none, Int.reduceToNat, reduceIte, Nat.reduceEqDiff, Nat.reduceAdd, Nat.reduceMul, Nat.reduceSub, Nat.reduceLT, Nat.reduceLeDiff, reduceCtorEq, *] | refine Xs _ (fun h => ?_) (fun h => ?_) | with_reducible refine And.intro ?_ ?_
      all_goals first | (intro r hr; simp at hr; subst hr; rfl) | (simp [bytesC]; omega) | (simp; done) | omega | rfl | skip
      all_goals (refine Xrs ?_; first | exact hlk | rfl)
end Go.Proofs.YtbgeagbgfioaaaaGreat.AB
