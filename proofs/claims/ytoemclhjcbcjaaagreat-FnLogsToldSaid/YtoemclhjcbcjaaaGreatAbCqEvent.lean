/- Drawn events. -/
import Derived.Test.YtoemclhjcbcjaaaGreatAbCkAny
import Derived.Test.YtoemclhjcbcjaaaGreatAbCjEvents
namespace Go.Proofs.YtoemclhjcbcjaaaGreat.AB
open Go
set_option maxRecDepth 100000
set_option linter.unusedSimpArgs false
set_option linter.unusedVariables false
theorem sp_a (c c1 : Cur) (s : List UInt8) (hs : s.length ≤ 1048576) (t : List UInt8) (ht : t.length = 1) (c2 : Cur) (m2 : MC Tryz.prog 52 [.ptr (.a 0) 0, vI 1] [cuO c1] (vS t) [some (cuO c2)] []) (m1 : MC Tryz.prog 41 [.ptr (.a 0) 0, vI 12] [cuO c] (vI 0) [some (cuO c1)] []) : MC Tryz.prog 33 [.ptr (.a 0) 0, vS s] [cuO c] (vS (s ++ t)) [some (cuO c2)] [] := by
  simp only [cuO] at *
  refine XM good (fn := Tryz.f33) rfl ?_
  try simp only [List.getD_cons_zero, List.getD_cons_succ]
  repeat' first | refine SW.step good fun K hK => ?_ | refine X2 good fun K hK => ?_ | refine X3 good fun K hK => ?_ | refine SW.seqK fun J hJ => ?_ | refine SW.last good fun K hK => ?_ | (refine hK _ ?_; clear hK K) | (refine hJ _ _ (Wk.refl _) ?_; clear hJ J) | clear hK K | clear hJ J | refine SW.skip ?_ | refine SW.ret ?_ | refine SW.retT ?_ | refine SW.retB ?_ | refine SW.exit ?_ | refine SW.exitT ?_ | refine SW.exitB ?_ | refine XN ?_ | refine SW.block ?_ | refine SW.normB ?_ | refine SW.normT ?_ | refine XT ?_ | refine XF ?_ | refine XC (fun h => ?_) (fun h => ?_) | (refine Xm (.a 0) ?_; first | refine Xd (m1) ?_ | refine Xa (m1) ?_ | refine Xb (m1) ?_) | (refine Xm (.a 0) ?_; first | refine Xd (m2) ?_ | refine Xa (m2) ?_ | refine Xb (m2) ?_) | simp only [go_sem, optI, Option.getD_some, Option.getD_none, Int.reduceToNat, reduceIte, Nat.reduceEqDiff, Nat.reduceAdd, Nat.reduceMul, Nat.reduceSub, Nat.reduceLT, Nat.reduceLeDiff, reduceCtorEq, *] | refine Xs _ (fun h => ?_) (fun h => ?_) | with_reducible refine And.intro ?_ ?_
  all_goals first | (intro r hr; simp at hr; subst hr; rfl) | (simp [bytesC]; omega) | (simp; done) | omega | rfl | skip
  all_goals first | (refine Xrm ?_ ?_ <;> simp [Wn.leO, resOf, Wn.le, Wn.leL, Wn.cw, C.scal, scal, cuO, encRole, encCred] <;> done) | (exfalso; simp_all; done)
theorem sp_b (c c1 : Cur) (s : List UInt8) (hs : s.length ≤ 1048576) (j : Nat) (hj : j ≤ s.length) (c2 : Cur) (m2 : MC Tryz.prog 41 [.ptr (.a 0) 0, vI ((s.length + 1 : Nat) : Int)] [cuO c1] (vI (j : Int)) [some (cuO c2)] []) (m1 : MC Tryz.prog 41 [.ptr (.a 0) 0, vI 12] [cuO c] (vI 1) [some (cuO c1)] []) : MC Tryz.prog 33 [.ptr (.a 0) 0, vS s] [cuO c] (vS (s.take j)) [some (cuO c2)] [] := by
  have hw : IntKind.i64.wrap ((s.length : Int) + 1) = ((s.length + 1 : Nat) : Int) := wrap64 (by omega) (by omega)
  simp only [cuO] at *
  refine XM good (fn := Tryz.f33) rfl ?_
  try simp only [List.getD_cons_zero, List.getD_cons_succ]
  repeat' first | refine SW.step good fun K hK => ?_ | refine X2 good fun K hK => ?_ | refine X3 good fun K hK => ?_ | refine SW.seqK fun J hJ => ?_ | refine SW.last good fun K hK => ?_ | (refine hK _ ?_; clear hK K) | (refine hJ _ _ (Wk.refl _) ?_; clear hJ J) | clear hK K | clear hJ J | refine SW.skip ?_ | refine SW.ret ?_ | refine SW.retT ?_ | refine SW.retB ?_ | refine SW.exit ?_ | refine SW.exitT ?_ | refine SW.exitB ?_ | refine XN ?_ | refine SW.block ?_ | refine SW.normB ?_ | refine SW.normT ?_ | refine XT ?_ | refine XF ?_ | refine XC (fun h => ?_) (fun h => ?_) | (refine Xm (.a 0) ?_; first | refine Xd (m1) ?_ | refine Xa (m1) ?_ | refine Xb (m1) ?_) | (refine Xm (.a 0) ?_; first | refine Xd (m2) ?_ | refine Xa (m2) ?_ | refine Xb (m2) ?_) | simp only [go_sem, optI, Option.getD_some, Option.getD_none, Int.reduceToNat, reduceIte, Nat.reduceEqDiff, Nat.reduceAdd, Nat.reduceMul, Nat.reduceSub, Nat.reduceLT, Nat.reduceLeDiff, reduceCtorEq, *] | refine Xs _ (fun h => ?_) (fun h => ?_) | with_reducible refine And.intro ?_ ?_
  all_goals first | (intro r hr; simp at hr; subst hr; rfl) | (simp [bytesC]; omega) | (simp; done) | omega | rfl | skip
  all_goals first | (refine Xrm ?_ ?_ <;> simp [Wn.leO, resOf, Wn.le, Wn.leL, Wn.cw, C.scal, scal, cuO, encRole, encCred] <;> done) | (exfalso; simp_all; done)
theorem sp_c2 (c c1 : Cur) (s : List UInt8) (hs : s.length ≤ 1048576) (j : Nat) (hj : j < s.length) (c2 c3 : Cur) (t : List UInt8) (ht : t.length = 1) (m2 : MC Tryz.prog 41 [.ptr (.a 0) 0, vI (s.length : Int)] [cuO c1] (vI (j : Int)) [some (cuO c2)] []) (m3 : MC Tryz.prog 52 [.ptr (.a 0) 0, vI 1] [cuO c2] (vS t) [some (cuO c3)] []) (m1 : MC Tryz.prog 41 [.ptr (.a 0) 0, vI 12] [cuO c] (vI 2) [some (cuO c1)] []) : MC Tryz.prog 33 [.ptr (.a 0) 0, vS s] [cuO c] (vS (s.take j ++ t ++ s.drop (j + 1))) [some (cuO c3)] [] := by
  have hw : IntKind.i64.wrap ((j : Int) + 1) = ((j + 1 : Nat) : Int) := wrap64 (by omega) (by omega)
  have d0 : decide ((0 : Int) < (s.length : Int)) = true := decide_eq_true (by omega)
  have htk : (s.drop (j + 1)).take (s.length - (j + 1)) = s.drop (j + 1) := List.take_of_length_le (by simp)
  simp only [cuO] at *
  refine XM good (fn := Tryz.f33) rfl ?_
  try simp only [List.getD_cons_zero, List.getD_cons_succ]
  repeat' first | refine SW.step good fun K hK => ?_ | refine X2 good fun K hK => ?_ | refine X3 good fun K hK => ?_ | refine SW.seqK fun J hJ => ?_ | refine SW.last good fun K hK => ?_ | (refine hK _ ?_; clear hK K) | (refine hJ _ _ (Wk.refl _) ?_; clear hJ J) | clear hK K | clear hJ J | refine SW.skip ?_ | refine SW.ret ?_ | refine SW.retT ?_ | refine SW.retB ?_ | refine SW.exit ?_ | refine SW.exitT ?_ | refine SW.exitB ?_ | refine XN ?_ | refine SW.block ?_ | refine SW.normB ?_ | refine SW.normT ?_ | refine XT ?_ | refine XF ?_ | refine XC (fun h => ?_) (fun h => ?_) | (refine Xm (.a 0) ?_; first | refine Xd (m1) ?_ | refine Xa (m1) ?_ | refine Xb (m1) ?_) | (refine Xm (.a 0) ?_; first | refine Xd (m2) ?_ | refine Xa (m2) ?_ | refine Xb (m2) ?_) | (refine Xm (.a 0) ?_; first | refine Xd (m3) ?_ | refine Xa (m3) ?_ | refine Xb (m3) ?_) | simp only [go_sem, optI, Option.getD_some, Option.getD_none, Int.reduceToNat, reduceIte, Nat.reduceEqDiff, Nat.reduceAdd, Nat.reduceMul, Nat.reduceSub, Nat.reduceLT, Nat.reduceLeDiff, reduceCtorEq, *] | refine Xs _ (fun h => ?_) (fun h => ?_) | with_reducible refine And.intro ?_ ?_
  all_goals first | (intro r hr; simp at hr; subst hr; rfl) | (simp [bytesC]; omega) | (simp; done) | omega | rfl | skip
  all_goals first | (refine Xrm ?_ ?_ <;> simp [Wn.leO, resOf, Wn.le, Wn.leL, Wn.cw, C.scal, scal, cuO, encRole, encCred] <;> done) | (exfalso; simp_all; done)
theorem sp_d2 (c c1 : Cur) (s : List UInt8) (hs : s.length ≤ 1048576) (h0 : s.length = 0) (m1 : MC Tryz.prog 41 [.ptr (.a 0) 0, vI 12] [cuO c] (vI 2) [some (cuO c1)] []) : MC Tryz.prog 33 [.ptr (.a 0) 0, vS s] [cuO c] (vS (s)) [some (cuO c1)] [] := by
  have d0 : decide ((0 : Int) < (s.length : Int)) = false := decide_eq_false (by omega)
  clear h0
  simp only [cuO] at *
  refine XM good (fn := Tryz.f33) rfl ?_
  try simp only [List.getD_cons_zero, List.getD_cons_succ]
  repeat' first | refine SW.step good fun K hK => ?_ | refine X2 good fun K hK => ?_ | refine X3 good fun K hK => ?_ | refine SW.seqK fun J hJ => ?_ | refine SW.last good fun K hK => ?_ | (refine hK _ ?_; clear hK K) | (refine hJ _ _ (Wk.refl _) ?_; clear hJ J) | clear hK K | clear hJ J | refine SW.skip ?_ | refine SW.ret ?_ | refine SW.retT ?_ | refine SW.retB ?_ | refine SW.exit ?_ | refine SW.exitT ?_ | refine SW.exitB ?_ | refine XN ?_ | refine SW.block ?_ | refine SW.normB ?_ | refine SW.normT ?_ | refine XT ?_ | refine XF ?_ | refine XC (fun h => ?_) (fun h => ?_) | (refine Xm (.a 0) ?_; first | refine Xd (m1) ?_ | refine Xa (m1) ?_ | refine Xb (m1) ?_) | simp only [go_sem, optI, Option.getD_some, Option.getD_none, Int.reduceToNat, reduceIte, Nat.reduceEqDiff, Nat.reduceAdd, Nat.reduceMul, Nat.reduceSub, Nat.reduceLT, Nat.reduceLeDiff, reduceCtorEq, *] | refine Xs _ (fun h => ?_) (fun h => ?_) | with_reducible refine And.intro ?_ ?_
  all_goals first | (intro r hr; simp at hr; subst hr; rfl) | (simp [bytesC]; omega) | (simp; done) | omega | rfl | skip
  all_goals first | (refine Xrm ?_ ?_ <;> simp [Wn.leO, resOf, Wn.le, Wn.leL, Wn.cw, C.scal, scal, cuO, encRole, encCred] <;> done) | (exfalso; simp_all; done)
theorem sp_c3 (c c1 : Cur) (s : List UInt8) (hs : s.length ≤ 1048576) (j : Nat) (hj : j < s.length) (c2 c3 : Cur) (t : List UInt8) (ht : t.length = 1) (m2 : MC Tryz.prog 41 [.ptr (.a 0) 0, vI (s.length : Int)] [cuO c1] (vI (j : Int)) [some (cuO c2)] []) (m3 : MC Tryz.prog 52 [.ptr (.a 0) 0, vI 1] [cuO c2] (vS t) [some (cuO c3)] []) (m1 : MC Tryz.prog 41 [.ptr (.a 0) 0, vI 12] [cuO c] (vI 3) [some (cuO c1)] []) : MC Tryz.prog 33 [.ptr (.a 0) 0, vS s] [cuO c] (vS (s.take j ++ t ++ s.drop (j + 1))) [some (cuO c3)] [] := by
  have hw : IntKind.i64.wrap ((j : Int) + 1) = ((j + 1 : Nat) : Int) := wrap64 (by omega) (by omega)
  have d0 : decide ((0 : Int) < (s.length : Int)) = true := decide_eq_true (by omega)
  have htk : (s.drop (j + 1)).take (s.length - (j + 1)) = s.drop (j + 1) := List.take_of_length_le (by simp)
  simp only [cuO] at *
  refine XM good (fn := Tryz.f33) rfl ?_
  try simp only [List.getD_cons_zero, List.getD_cons_succ]
  repeat' first | refine SW.step good fun K hK => ?_ | refine X2 good fun K hK => ?_ | refine X3 good fun K hK => ?_ | refine SW.seqK fun J hJ => ?_ | refine SW.last good fun K hK => ?_ | (refine hK _ ?_; clear hK K) | (refine hJ _ _ (Wk.refl _) ?_; clear hJ J) | clear hK K | clear hJ J | refine SW.skip ?_ | refine SW.ret ?_ | refine SW.retT ?_ | refine SW.retB ?_ | refine SW.exit ?_ | refine SW.exitT ?_ | refine SW.exitB ?_ | refine XN ?_ | refine SW.block ?_ | refine SW.normB ?_ | refine SW.normT ?_ | refine XT ?_ | refine XF ?_ | refine XC (fun h => ?_) (fun h => ?_) | (refine Xm (.a 0) ?_; first | refine Xd (m1) ?_ | refine Xa (m1) ?_ | refine Xb (m1) ?_) | (refine Xm (.a 0) ?_; first | refine Xd (m2) ?_ | refine Xa (m2) ?_ | refine Xb (m2) ?_) | (refine Xm (.a 0) ?_; first | refine Xd (m3) ?_ | refine Xa (m3) ?_ | refine Xb (m3) ?_) | simp only [go_sem, optI, Option.getD_some, Option.getD_none, Int.reduceToNat, reduceIte, Nat.reduceEqDiff, Nat.reduceAdd, Nat.reduceMul, Nat.reduceSub, Nat.reduceLT, Nat.reduceLeDiff, reduceCtorEq, *] | refine Xs _ (fun h => ?_) (fun h => ?_) | with_reducible refine And.intro ?_ ?_
  all_goals first | (intro r hr; simp at hr; subst hr; rfl) | (simp [bytesC]; omega) | (simp; done) | omega | rfl | skip
  all_goals first | (refine Xrm ?_ ?_ <;> simp [Wn.leO, resOf, Wn.le, Wn.leL, Wn.cw, C.scal, scal, cuO, encRole, encCred] <;> done) | (exfalso; simp_all; done)
theorem sp_d3 (c c1 : Cur) (s : List UInt8) (hs : s.length ≤ 1048576) (h0 : s.length = 0) (m1 : MC Tryz.prog 41 [.ptr (.a 0) 0, vI 12] [cuO c] (vI 3) [some (cuO c1)] []) : MC Tryz.prog 33 [.ptr (.a 0) 0, vS s] [cuO c] (vS (s)) [some (cuO c1)] [] := by
  have d0 : decide ((0 : Int) < (s.length : Int)) = false := decide_eq_false (by omega)
  clear h0
  simp only [cuO] at *
  refine XM good (fn := Tryz.f33) rfl ?_
  try simp only [List.getD_cons_zero, List.getD_cons_succ]
  repeat' first | refine SW.step good fun K hK => ?_ | refine X2 good fun K hK => ?_ | refine X3 good fun K hK => ?_ | refine SW.seqK fun J hJ => ?_ | refine SW.last good fun K hK => ?_ | (refine hK _ ?_; clear hK K) | (refine hJ _ _ (Wk.refl _) ?_; clear hJ J) | clear hK K | clear hJ J | refine SW.skip ?_ | refine SW.ret ?_ | refine SW.retT ?_ | refine SW.retB ?_ | refine SW.exit ?_ | refine SW.exitT ?_ | refine SW.exitB ?_ | refine XN ?_ | refine SW.block ?_ | refine SW.normB ?_ | refine SW.normT ?_ | refine XT ?_ | refine XF ?_ | refine XC (fun h => ?_) (fun h => ?_) | (refine Xm (.a 0) ?_; first | refine Xd (m1) ?_ | refine Xa (m1) ?_ | refine Xb (m1) ?_) | simp only [go_sem, optI, Option.getD_some, Option.getD_none, Int.reduceToNat, reduceIte, Nat.reduceEqDiff, Nat.reduceAdd, Nat.reduceMul, Nat.reduceSub, Nat.reduceLT, Nat.reduceLeDiff, reduceCtorEq, *] | refine Xs _ (fun h => ?_) (fun h => ?_) | with_reducible refine And.intro ?_ ?_
  all_goals first | (intro r hr; simp at hr; subst hr; rfl) | (simp [bytesC]; omega) | (simp; done) | omega | rfl | skip
  all_goals first | (refine Xrm ?_ ?_ <;> simp [Wn.leO, resOf, Wn.le, Wn.leL, Wn.cw, C.scal, scal, cuO, encRole, encCred] <;> done) | (exfalso; simp_all; done)
theorem sp_e (c c1 : Cur) (s : List UInt8) (hs : s.length ≤ 1048576) (k : Int) (h0 : k ≠ 0) (h1 : k ≠ 1) (h2 : k ≠ 2) (h3 : k ≠ 3) (m1 : MC Tryz.prog 41 [.ptr (.a 0) 0, vI 12] [cuO c] (vI k) [some (cuO c1)] []) : MC Tryz.prog 33 [.ptr (.a 0) 0, vS s] [cuO c] (vS (s)) [some (cuO c1)] [] := by
  have d0 : decide (k = 0) = false := by simpa using h0
  have d1 : decide (k = 1) = false := by simpa using h1
  have d2 : decide (k = 2) = false := by simpa using h2
  have d3 : decide (k = 3) = false := by simpa using h3
  clear h0 h1 h2 h3
  simp only [cuO] at *
  refine XM good (fn := Tryz.f33) rfl ?_
  try simp only [List.getD_cons_zero, List.getD_cons_succ]
  repeat' first | refine SW.step good fun K hK => ?_ | refine X2 good fun K hK => ?_ | refine X3 good fun K hK => ?_ | refine SW.seqK fun J hJ => ?_ | refine SW.last good fun K hK => ?_ | (refine hK _ ?_; clear hK K) | (refine hJ _ _ (Wk.refl _) ?_; clear hJ J) | clear hK K | clear hJ J | refine SW.skip ?_ | refine SW.ret ?_ | refine SW.retT ?_ | refine SW.retB ?_ | refine SW.exit ?_ | refine SW.exitT ?_ | refine SW.exitB ?_ | refine XN ?_ | refine SW.block ?_ | refine SW.normB ?_ | refine SW.normT ?_ | refine XT ?_ | refine XF ?_ | refine XC (fun h => ?_) (fun h => ?_) | (refine Xm (.a 0) ?_; first | refine Xd (m1) ?_ | refine Xa (m1) ?_ | refine Xb (m1) ?_) | simp only [go_sem, optI, Option.getD_some, Option.getD_none, Int.reduceToNat, reduceIte, Nat.reduceEqDiff, Nat.reduceAdd, Nat.reduceMul, Nat.reduceSub, Nat.reduceLT, Nat.reduceLeDiff, reduceCtorEq, *] | refine Xs _ (fun h => ?_) (fun h => ?_) | with_reducible refine And.intro ?_ ?_
  all_goals first | (intro r hr; simp at hr; subst hr; rfl) | (simp [bytesC]; omega) | (simp; done) | omega | rfl | skip
  all_goals first | (refine Xrm ?_ ?_ <;> simp [Wn.leO, resOf, Wn.le, Wn.leL, Wn.cw, C.scal, scal, cuO, encRole, encCred] <;> done) | (exfalso; simp_all; done)
theorem spoilt_ex (c : Cur) (s : List UInt8) (hc : c.ok) (hs : s.length ≤ 1048576) : ∃ (t : List UInt8) (c' : Cur), t.length ≤ s.length + 1 ∧ Fwd c c' ∧ MC Tryz.prog 33 [.ptr (.a 0) 0, vS s] [cuO c] (vS t) [some (cuO c')] [] := by
  obtain ⟨k, c1, hk, f1, m1⟩ := below_ex c 12 hc (by decide) (by decide)
  by_cases k0 : k = 0
  · subst k0
    obtain ⟨t, c2, ht, f2, m2⟩ := text1_ex c1 f1.2
    exact ⟨s ++ t, c2, by simp; omega, f1.trans f2, sp_a c c1 s hs t ht c2 m2 m1⟩
  by_cases k1 : k = 1
  · subst k1
    obtain ⟨i, c2, hi, f2, m2⟩ := belowA_ex c1 ((s.length + 1 : Nat) : Int) f1.2 (by omega) (by omega)
    obtain ⟨j, rfl⟩ : ∃ j : Nat, i = (j : Int) := ⟨i.toNat, by omega⟩
    exact ⟨s.take j, c2, by simp; omega, f1.trans f2, sp_b c c1 s hs j (by omega) c2 m2 m1⟩
  by_cases k23 : k = 2 ∨ k = 3
  · by_cases h0 : s.length = 0
    · rcases k23 with rfl | rfl
      · exact ⟨s, c1, by omega, f1, sp_d2 c c1 s hs h0 m1⟩
      · exact ⟨s, c1, by omega, f1, sp_d3 c c1 s hs h0 m1⟩
    · obtain ⟨i, c2, hi, f2, m2⟩ := belowA_ex c1 (s.length : Int) f1.2 (by omega) (by omega)
      obtain ⟨j, rfl⟩ : ∃ j : Nat, i = (j : Int) := ⟨i.toNat, by omega⟩
      obtain ⟨t, c3, ht, f3, m3⟩ := text1_ex c2 f2.2
      rcases k23 with rfl | rfl
      · exact ⟨_, c3, by simp; omega, (f1.trans f2).trans f3, sp_c2 c c1 s hs j (by omega) c2 c3 t ht m2 m3 m1⟩
      · exact ⟨_, c3, by simp; omega, (f1.trans f2).trans f3, sp_c3 c c1 s hs j (by omega) c2 c3 t ht m2 m3 m1⟩
  · exact ⟨s, c1, by omega, f1, sp_e c c1 s hs k k0 k1 (by omega) (by omega) m1⟩
end Go.Proofs.YtoemclhjcbcjaaaGreat.AB
namespace Go.Proofs.YtoemclhjcbcjaaaGreat.AB
open Go
set_option maxRecDepth 100000
set_option linter.unusedSimpArgs false
set_option linter.unusedVariables false
theorem long_set {n k : Nat} (x : UInt8) (h : k < n) : (bytesC (List.replicate k x ++ List.replicate (n - k) 0)).set k [.v (.int .u8 (x.toNat : Int))] = bytesC (List.replicate (k + 1) x ++ List.replicate (n - (k + 1)) 0) := by
  unfold bytesC
  rw [← List.map_set (f := fun b : UInt8 => [C.v (.int .u8 (b.toNat : Int))]) (a := x)]
  congr 1
  rw [List.set_append_right _ _ (by simp), List.length_replicate, Nat.sub_self, show n - k = (n - (k + 1)) + 1 by omega, List.replicate_succ, List.set_cons_zero, List.replicate_succ', List.append_assoc]
  rfl
theorem ac_Long (n : Nat) (x : UInt8) (hn : n ≤ 1000) : AC Tryz.prog 46 [vI n, .c false (.v (.int .u8 (x.toNat : Int)))] (vS (List.replicate n x)) [] := by
  refine XA good (fn := Tryz.f46) rfl ?_
  simp only [entry, List.getD_cons_zero, List.getD_cons_succ]
  repeat' first | refine SW.step good fun K hK => ?_ | refine X2 good fun K hK => ?_ | refine X3 good fun K hK => ?_ | refine SW.seqK fun J hJ => ?_ | refine SW.last good fun K hK => ?_ | (refine hK _ ?_; clear hK K) | (refine hJ _ _ (Wk.refl _) ?_; clear hJ J) | clear hK K | clear hJ J | refine SW.skip ?_ | refine SW.ret ?_ | refine SW.retT ?_ | refine SW.retB ?_ | refine SW.exit ?_ | refine SW.exitT ?_ | refine SW.exitB ?_ | refine XN ?_ | refine SW.block ?_ | refine SW.normB ?_ | refine SW.normT ?_ | refine XT ?_ | refine XF ?_ | refine XC (fun h => ?_) (fun h => ?_) | simp only [go_sem, optI, Option.getD_some, Option.getD_none, Int.reduceToNat, reduceIte, Nat.reduceEqDiff, Nat.reduceAdd, Nat.reduceMul, Nat.reduceSub, Nat.reduceLT, Nat.reduceLeDiff, reduceCtorEq, *] | refine Xs _ (fun h => ?_) (fun h => ?_) | with_reducible refine And.intro ?_ ?_
  all_goals first | (intro r hr; simp at hr; subst hr; rfl) | (simp [bytesC]; omega) | (simp; done) | omega | rfl | skip
  refine SW.loopTo (α := Nat) (fun k => ⟨sl [(0, vI n), (1, .c false (.v (.int .u8 (x.toNat : Int)))), (5, .own (.s 8 0)), (6, vI k)], hl [(.s 8 0, .row false 5 1 (bytesC (List.replicate k x ++ List.replicate (n - k) 0)))]⟩) (fun k => n - k) 0 (fun k => k ≤ n) ?_ (by simp) ?_
  · (refine Xto _ _ ?_ ?_ <;> simp only [go_sem, optI, Option.getD_some, Option.getD_none, Int.reduceToNat, reduceIte, Nat.reduceEqDiff, Nat.reduceAdd, Nat.reduceMul, Nat.reduceSub, Nat.reduceLT, Nat.reduceLeDiff, reduceCtorEq, Option.some.injEq, or_true, true_or] <;> (repeat' with_reducible apply And.intro) <;> (try rfl))
    all_goals first | (simp [bytesC]; done) | skip
  · intro k hk
    by_cases hkn : k < n
    · have d1 : decide ((k : Int) < (n : Int)) = true := decide_eq_true (by omega)
      have hw : IntKind.i64.wrap ((k : Int) + 1) = ((k + 1 : Nat) : Int) := wrap64 (by omega) (by omega)
      have hs := long_set x hkn
      have hl1 : (bytesC (List.replicate k x ++ List.replicate (n - k) 0)).length = n := by rw [bytesC_len]; simp; omega
      have hg : (bytesC (List.replicate k x ++ List.replicate (n - k) 0)).getD k [] = [.v (.int .u8 (((List.replicate k x ++ List.replicate (n - k) 0).getD k 0).toNat : Int))] := bytesC_get (by simp; omega)
      generalize ((List.replicate k x ++ List.replicate (n - k) (0 : UInt8)).getD k 0) = z at *
      generalize bytesC (List.replicate k x ++ List.replicate (n - k) 0) = R at *
      have hl2 : k < R.length ∧ R.length ≤ 1000 := by omega
      clear hl1
      repeat' first | refine SW.step good fun K hK => ?_ | refine X2 good fun K hK => ?_ | refine X3 good fun K hK => ?_ | refine SW.seqK fun J hJ => ?_ | refine SW.last good fun K hK => ?_ | (refine hK _ ?_; clear hK K) | (refine hJ _ _ (Wk.refl _) ?_; clear hJ J) | clear hK K | clear hJ J | refine SW.skip ?_ | refine SW.ret ?_ | refine SW.retT ?_ | refine SW.retB ?_ | refine SW.exit ?_ | refine SW.exitT ?_ | refine SW.exitB ?_ | refine XN ?_ | refine SW.block ?_ | refine SW.normB ?_ | refine SW.normT ?_ | refine XT ?_ | refine XF ?_ | refine XC (fun h => ?_) (fun h => ?_) | simp only [go_sem, optI, Option.getD_some, Option.getD_none, Int.reduceToNat, reduceIte, Nat.reduceEqDiff, Nat.reduceAdd, Nat.reduceMul, Nat.reduceSub, Nat.reduceLT, Nat.reduceLeDiff, reduceCtorEq, *] | refine Xs _ (fun h => ?_) (fun h => ?_) | with_reducible refine And.intro ?_ ?_
      all_goals first | (intro r hr; simp at hr; subst hr; rfl) | (simp [bytesC]; omega) | (simp; done) | omega | rfl | skip
      all_goals refine ⟨k + 1, by omega, by omega, ?_⟩
      all_goals (refine Xto _ _ ?_ ?_ <;> simp only [go_sem, optI, Option.getD_some, Option.getD_none, Int.reduceToNat, reduceIte, Nat.reduceEqDiff, Nat.reduceAdd, Nat.reduceMul, Nat.reduceSub, Nat.reduceLT, Nat.reduceLeDiff, reduceCtorEq, Option.some.injEq, or_true, true_or] <;> (repeat' with_reducible apply And.intro) <;> (try rfl))
      all_goals first | (rw [← hs]; simp; done) | (rw [← hs]; rfl) | skip
    · have hkn : k = n := by omega
      subst hkn
      have d1 : decide ((k : Int) < (k : Int)) = false := by simp
      have hz : List.replicate k x ++ List.replicate (k - k) 0 = List.replicate k x := by simp
      rw [hz]
      repeat' first | refine SW.step good fun K hK => ?_ | refine X2 good fun K hK => ?_ | refine X3 good fun K hK => ?_ | refine SW.seqK fun J hJ => ?_ | refine SW.last good fun K hK => ?_ | (refine hK _ ?_; clear hK K) | (refine hJ _ _ (Wk.refl _) ?_; clear hJ J) | clear hK K | clear hJ J | refine SW.skip ?_ | refine SW.ret ?_ | refine SW.retT ?_ | refine SW.retB ?_ | refine SW.exit ?_ | refine SW.exitT ?_ | refine SW.exitB ?_ | refine XN ?_ | refine SW.block ?_ | refine SW.normB ?_ | refine SW.normT ?_ | refine XT ?_ | refine XF ?_ | refine XC (fun h => ?_) (fun h => ?_) | simp only [go_sem, optI, Option.getD_some, Option.getD_none, Int.reduceToNat, reduceIte, Nat.reduceEqDiff, Nat.reduceAdd, Nat.reduceMul, Nat.reduceSub, Nat.reduceLT, Nat.reduceLeDiff, reduceCtorEq, *] | refine Xs _ (fun h => ?_) (fun h => ?_) | with_reducible refine And.intro ?_ ?_
      all_goals first | (intro r hr; simp at hr; subst hr; rfl) | (simp [bytesC]; omega) | (simp; done) | omega | rfl | skip
      all_goals (refine Xrs ?_; rfl)
set_option maxHeartbeats 4000000 in
theorem eventOk_ex (b : List UInt8) (hb : b.length ≤ 1048576) : ∃ (e : Event), MC Tryz.prog 23 [.c false (.sl (bytesC b))] [] (encEv e) [] [] := by
  obtain ⟨h0, mN⟩ := mc_New b hb
  obtain ⟨k, c1, hk, f1, m1⟩ := below_ex ⟨b, 0, h0⟩ 8 ⟨Nat.zero_le _, hb⟩ (by decide) (by decide)
  obtain ⟨y, c2, hy, f2, m2⟩ := below_ex c1 60 f1.2 (by decide) (by decide)
  obtain ⟨ids, E, hE, _, mE⟩ := events_ex b hb
  obtain ⟨⟨xk, ⟨o1, o2⟩, xw, ⟨a1, a2⟩, ⟨b1, b2⟩, xt, xn⟩, c3, f3, m3⟩ := any_ex c2 f2.2
  have hr := mod_rng y E.length (by omega)
  have e1 : y.tmod E.length = y % E.length := Int.tmod_eq_emod_of_nonneg hy.1
  generalize y % (E.length : Int) = i at *
  obtain ⟨j, rfl⟩ : ∃ j : Nat, i = (j : Int) := ⟨i.toNat, by omega⟩
  have hj : j < E.length := by omega
  have e2 := getD_map E evC [] hj
  generalize E[j] = x at *
  obtain ⟨zk, zp, zn, ⟨yk, ⟨p1, p2⟩, yw, ⟨q1, q2⟩, ⟨r1, r2⟩, yt, yn⟩, tx⟩ := x
  have n0 : (E.length : Int) ≠ 0 := by omega
  have w0 : IntKind.i64.wrap (j : Int) = (j : Int) := wrap64 (by omega) (by omega)
  have t2 : y.tmod 2 = y % 2 := Int.tmod_eq_emod_of_nonneg hy.1
  obtain ⟨u, hu⟩ : ∃ u : Nat, y % 2 = (u : Int) := ⟨(y % 2).toNat, by omega⟩
  have hu2 : u ≤ 1 := by omega
  rw [hu] at t2
  have w2 : IntKind.i64.wrap (u : Int) = (u : Int) := wrap64 (by omega) (by omega)
  have w3 : IntKind.i64.wrap (600 + (u : Int)) = ((600 + u : Nat) : Int) := by rw [wrap64 (by omega) (by omega)]; omega
  have aL := ac_Long (600 + u) 97 (by omega)
  simp only [cuO, encCred] at *
  have hee : 8 ≤ E.length ∧ E.length ≤ 36 := hE
  by_cases k0 : k = 0
  · subst k0
    refine ⟨⟨y.tmod 13, zp, zn, ⟨yk, ⟨p1, p2⟩, yw, ⟨q1, q2⟩, ⟨r1, r2⟩, yt, yn⟩, tx⟩, ?_⟩
    clear hr hu hE f1 f2 f3 hk hy
    refine XM good (fn := Tryz.f23) rfl ?_
    try simp only [List.getD_cons_zero, List.getD_cons_succ]
    repeat' first | refine SW.step good fun K hK => ?_ | refine X2 good fun K hK => ?_ | refine X3 good fun K hK => ?_ | refine SW.seqK fun J hJ => ?_ | refine SW.last good fun K hK => ?_ | (refine hK _ ?_; clear hK K) | (refine hJ _ _ (Wk.refl _) ?_; clear hJ J) | clear hK K | clear hJ J | refine SW.skip ?_ | refine SW.ret ?_ | refine SW.retT ?_ | refine SW.retB ?_ | refine SW.exit ?_ | refine SW.exitT ?_ | refine SW.exitB ?_ | refine XN ?_ | refine SW.block ?_ | refine SW.normB ?_ | refine SW.normT ?_ | refine XT ?_ | refine XF ?_ | refine XC (fun h => ?_) (fun h => ?_) | refine Xzb (mN) ?_ | refine Xzc (mN) ?_ | refine Xzb (mE) ?_ | refine Xzc (mE) ?_ | (refine Xm (.s 10 0) ?_; first | refine Xd (m1) ?_ | refine Xa (m1) ?_ | refine Xb (m1) ?_) | (refine Xm (.s 10 0) ?_; first | refine Xd (m2) ?_ | refine Xa (m2) ?_ | refine Xb (m2) ?_) | simp only [go_sem, optI, Option.getD_some, Option.getD_none, Int.reduceToNat, reduceIte, Nat.reduceEqDiff, Nat.reduceAdd, Nat.reduceMul, Nat.reduceSub, Nat.reduceLT, Nat.reduceLeDiff, reduceCtorEq, *] | refine Xs _ (fun h => ?_) (fun h => ?_) | with_reducible refine And.intro ?_ ?_
    all_goals first | (intro r hr; simp at hr; subst hr; rfl) | (simp [bytesC]; omega) | (simp; done) | omega | rfl | skip
    all_goals (refine Xr0 ?_; simp [resOf, Wn.le, Wn.leL, Wn.cw, C.scal, scal, encEv]; done)
  by_cases k1 : k = 1
  · subst k1
    refine ⟨⟨zk, -1, zn, ⟨yk, ⟨p1, p2⟩, yw, ⟨q1, q2⟩, ⟨r1, r2⟩, yt, yn⟩, tx⟩, ?_⟩
    clear hr hu hE f1 f2 f3 hk hy
    refine XM good (fn := Tryz.f23) rfl ?_
    try simp only [List.getD_cons_zero, List.getD_cons_succ]
    repeat' first | refine SW.step good fun K hK => ?_ | refine X2 good fun K hK => ?_ | refine X3 good fun K hK => ?_ | refine SW.seqK fun J hJ => ?_ | refine SW.last good fun K hK => ?_ | (refine hK _ ?_; clear hK K) | (refine hJ _ _ (Wk.refl _) ?_; clear hJ J) | clear hK K | clear hJ J | refine SW.skip ?_ | refine SW.ret ?_ | refine SW.retT ?_ | refine SW.retB ?_ | refine SW.exit ?_ | refine SW.exitT ?_ | refine SW.exitB ?_ | refine XN ?_ | refine SW.block ?_ | refine SW.normB ?_ | refine SW.normT ?_ | refine XT ?_ | refine XF ?_ | refine XC (fun h => ?_) (fun h => ?_) | refine Xzb (mN) ?_ | refine Xzc (mN) ?_ | refine Xzb (mE) ?_ | refine Xzc (mE) ?_ | (refine Xm (.s 10 0) ?_; first | refine Xd (m1) ?_ | refine Xa (m1) ?_ | refine Xb (m1) ?_) | (refine Xm (.s 10 0) ?_; first | refine Xd (m2) ?_ | refine Xa (m2) ?_ | refine Xb (m2) ?_) | simp only [go_sem, optI, Option.getD_some, Option.getD_none, Int.reduceToNat, reduceIte, Nat.reduceEqDiff, Nat.reduceAdd, Nat.reduceMul, Nat.reduceSub, Nat.reduceLT, Nat.reduceLeDiff, reduceCtorEq, *] | refine Xs _ (fun h => ?_) (fun h => ?_) | with_reducible refine And.intro ?_ ?_
    all_goals first | (intro r hr; simp at hr; subst hr; rfl) | (simp [bytesC]; omega) | (simp; done) | omega | rfl | skip
    all_goals (refine Xr0 ?_; simp [resOf, Wn.le, Wn.leL, Wn.cw, C.scal, scal, encEv]; done)
  by_cases k2 : k = 2
  · subst k2
    refine ⟨⟨zk, zp, -1, ⟨yk, ⟨p1, p2⟩, yw, ⟨q1, q2⟩, ⟨r1, r2⟩, yt, yn⟩, tx⟩, ?_⟩
    clear hr hu hE f1 f2 f3 hk hy
    refine XM good (fn := Tryz.f23) rfl ?_
    try simp only [List.getD_cons_zero, List.getD_cons_succ]
    repeat' first | refine SW.step good fun K hK => ?_ | refine X2 good fun K hK => ?_ | refine X3 good fun K hK => ?_ | refine SW.seqK fun J hJ => ?_ | refine SW.last good fun K hK => ?_ | (refine hK _ ?_; clear hK K) | (refine hJ _ _ (Wk.refl _) ?_; clear hJ J) | clear hK K | clear hJ J | refine SW.skip ?_ | refine SW.ret ?_ | refine SW.retT ?_ | refine SW.retB ?_ | refine SW.exit ?_ | refine SW.exitT ?_ | refine SW.exitB ?_ | refine XN ?_ | refine SW.block ?_ | refine SW.normB ?_ | refine SW.normT ?_ | refine XT ?_ | refine XF ?_ | refine XC (fun h => ?_) (fun h => ?_) | refine Xzb (mN) ?_ | refine Xzc (mN) ?_ | refine Xzb (mE) ?_ | refine Xzc (mE) ?_ | (refine Xm (.s 10 0) ?_; first | refine Xd (m1) ?_ | refine Xa (m1) ?_ | refine Xb (m1) ?_) | (refine Xm (.s 10 0) ?_; first | refine Xd (m2) ?_ | refine Xa (m2) ?_ | refine Xb (m2) ?_) | simp only [go_sem, optI, Option.getD_some, Option.getD_none, Int.reduceToNat, reduceIte, Nat.reduceEqDiff, Nat.reduceAdd, Nat.reduceMul, Nat.reduceSub, Nat.reduceLT, Nat.reduceLeDiff, reduceCtorEq, *] | refine Xs _ (fun h => ?_) (fun h => ?_) | with_reducible refine And.intro ?_ ?_
    all_goals first | (intro r hr; simp at hr; subst hr; rfl) | (simp [bytesC]; omega) | (simp; done) | omega | rfl | skip
    all_goals (refine Xr0 ?_; simp [resOf, Wn.le, Wn.leL, Wn.cw, C.scal, scal, encEv]; done)
  by_cases k3 : k = 3
  · subst k3
    refine ⟨⟨zk, zp, zn, ⟨xk, ⟨o1, o2⟩, xw, ⟨a1, a2⟩, ⟨b1, b2⟩, xt, xn⟩, tx⟩, ?_⟩
    clear hr hu hE f1 f2 f3 hk hy
    refine XM good (fn := Tryz.f23) rfl ?_
    try simp only [List.getD_cons_zero, List.getD_cons_succ]
    repeat' first | refine SW.step good fun K hK => ?_ | refine X2 good fun K hK => ?_ | refine X3 good fun K hK => ?_ | refine SW.seqK fun J hJ => ?_ | refine SW.last good fun K hK => ?_ | (refine hK _ ?_; clear hK K) | (refine hJ _ _ (Wk.refl _) ?_; clear hJ J) | clear hK K | clear hJ J | refine SW.skip ?_ | refine SW.ret ?_ | refine SW.retT ?_ | refine SW.retB ?_ | refine SW.exit ?_ | refine SW.exitT ?_ | refine SW.exitB ?_ | refine XN ?_ | refine SW.block ?_ | refine SW.normB ?_ | refine SW.normT ?_ | refine XT ?_ | refine XF ?_ | refine XC (fun h => ?_) (fun h => ?_) | refine Xzb (mN) ?_ | refine Xzc (mN) ?_ | refine Xzb (mE) ?_ | refine Xzc (mE) ?_ | (refine Xm (.s 10 0) ?_; first | refine Xd (m1) ?_ | refine Xa (m1) ?_ | refine Xb (m1) ?_) | (refine Xm (.s 10 0) ?_; first | refine Xd (m2) ?_ | refine Xa (m2) ?_ | refine Xb (m2) ?_) | (refine Xm (.s 10 0) ?_; first | refine Xd (m3) ?_ | refine Xa (m3) ?_ | refine Xb (m3) ?_) | simp only [go_sem, optI, Option.getD_some, Option.getD_none, Int.reduceToNat, reduceIte, Nat.reduceEqDiff, Nat.reduceAdd, Nat.reduceMul, Nat.reduceSub, Nat.reduceLT, Nat.reduceLeDiff, reduceCtorEq, *] | refine Xs _ (fun h => ?_) (fun h => ?_) | with_reducible refine And.intro ?_ ?_
    all_goals first | (intro r hr; simp at hr; subst hr; rfl) | (simp [bytesC]; omega) | (simp; done) | omega | rfl | skip
    all_goals (refine Xr0 ?_; simp [resOf, Wn.le, Wn.leL, Wn.cw, C.scal, scal, encEv]; done)
  by_cases k4 : k = 4
  · subst k4
    refine ⟨⟨zk, zp, zn, ⟨yk, ⟨p1, p2⟩, yw, ⟨q1, q2⟩, ⟨r1, r2⟩, yt, yn⟩, ⟨(List.replicate (600 + u) 97).toArray⟩⟩, ?_⟩
    clear hr hu hE f1 f2 f3 hk hy
    refine XM good (fn := Tryz.f23) rfl ?_
    try simp only [List.getD_cons_zero, List.getD_cons_succ]
    repeat' first | refine SW.step good fun K hK => ?_ | refine X2 good fun K hK => ?_ | refine X3 good fun K hK => ?_ | refine SW.seqK fun J hJ => ?_ | refine SW.last good fun K hK => ?_ | (refine hK _ ?_; clear hK K) | (refine hJ _ _ (Wk.refl _) ?_; clear hJ J) | clear hK K | clear hJ J | refine SW.skip ?_ | refine SW.ret ?_ | refine SW.retT ?_ | refine SW.retB ?_ | refine SW.exit ?_ | refine SW.exitT ?_ | refine SW.exitB ?_ | refine XN ?_ | refine SW.block ?_ | refine SW.normB ?_ | refine SW.normT ?_ | refine XT ?_ | refine XF ?_ | refine XC (fun h => ?_) (fun h => ?_) | refine X0 ?_ | refine Xv ?_ | refine X1 (aL) ?_ | refine Xzb (mN) ?_ | refine Xzc (mN) ?_ | refine Xzb (mE) ?_ | refine Xzc (mE) ?_ | (refine Xm (.s 10 0) ?_; first | refine Xd (m1) ?_ | refine Xa (m1) ?_ | refine Xb (m1) ?_) | (refine Xm (.s 10 0) ?_; first | refine Xd (m2) ?_ | refine Xa (m2) ?_ | refine Xb (m2) ?_) | simp only [go_sem, optI, Option.getD_some, Option.getD_none, Int.reduceToNat, reduceIte, Nat.reduceEqDiff, Nat.reduceAdd, Nat.reduceMul, Nat.reduceSub, Nat.reduceLT, Nat.reduceLeDiff, reduceCtorEq, *] | refine Xs _ (fun h => ?_) (fun h => ?_) | with_reducible refine And.intro ?_ ?_
    all_goals first | (intro r hr; simp at hr; subst hr; rfl) | (simp [bytesC]; omega) | (simp; done) | omega | rfl | skip
    all_goals (refine Xr0 ?_; simp [resOf, Wn.le, Wn.leL, Wn.cw, C.scal, scal, encEv]; done)
  have d0 : decide (k = 0) = false := by simpa using k0
  have d1 : decide (k = 1) = false := by simpa using k1
  have d2 : decide (k = 2) = false := by simpa using k2
  have d3 : decide (k = 3) = false := by simpa using k3
  have d4 : decide (k = 4) = false := by simpa using k4
  clear k0 k1 k2 k3 k4
  refine ⟨⟨zk, zp, zn, ⟨yk, ⟨p1, p2⟩, yw, ⟨q1, q2⟩, ⟨r1, r2⟩, yt, yn⟩, tx⟩, ?_⟩
  clear hr hu hE f1 f2 f3 hk hy
  refine XM good (fn := Tryz.f23) rfl ?_
  try simp only [List.getD_cons_zero, List.getD_cons_succ]
  repeat' first | refine SW.step good fun K hK => ?_ | refine X2 good fun K hK => ?_ | refine X3 good fun K hK => ?_ | refine SW.seqK fun J hJ => ?_ | refine SW.last good fun K hK => ?_ | (refine hK _ ?_; clear hK K) | (refine hJ _ _ (Wk.refl _) ?_; clear hJ J) | clear hK K | clear hJ J | refine SW.skip ?_ | refine SW.ret ?_ | refine SW.retT ?_ | refine SW.retB ?_ | refine SW.exit ?_ | refine SW.exitT ?_ | refine SW.exitB ?_ | refine XN ?_ | refine SW.block ?_ | refine SW.normB ?_ | refine SW.normT ?_ | refine XT ?_ | refine XF ?_ | refine XC (fun h => ?_) (fun h => ?_) | refine Xzb (mN) ?_ | refine Xzc (mN) ?_ | refine Xzb (mE) ?_ | refine Xzc (mE) ?_ | (refine Xm (.s 10 0) ?_; first | refine Xd (m1) ?_ | refine Xa (m1) ?_ | refine Xb (m1) ?_) | (refine Xm (.s 10 0) ?_; first | refine Xd (m2) ?_ | refine Xa (m2) ?_ | refine Xb (m2) ?_) | simp only [go_sem, optI, Option.getD_some, Option.getD_none, Int.reduceToNat, reduceIte, Nat.reduceEqDiff, Nat.reduceAdd, Nat.reduceMul, Nat.reduceSub, Nat.reduceLT, Nat.reduceLeDiff, reduceCtorEq, *] | refine Xs _ (fun h => ?_) (fun h => ?_) | with_reducible refine And.intro ?_ ?_
  all_goals first | (intro r hr; simp at hr; subst hr; rfl) | (simp [bytesC]; omega) | (simp; done) | omega | rfl | skip
  all_goals (refine Xr0 ?_; simp [resOf, Wn.le, Wn.leL, Wn.cw, C.scal, scal, encEv]; done)
end Go.Proofs.YtoemclhjcbcjaaaGreat.AB
