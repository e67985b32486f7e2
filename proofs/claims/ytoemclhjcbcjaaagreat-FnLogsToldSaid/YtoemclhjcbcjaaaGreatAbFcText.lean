/- Words as texts, and shown. -/
import Derived.Test.YtoemclhjcbcjaaaGreatAbBase
namespace Go.Proofs.YtoemclhjcbcjaaaGreat.AB
open Go
set_option maxRecDepth 100000
set_option linter.unusedSimpArgs false
set_option linter.unusedVariables false
theorem ac_in (x lo hi : Int) : AC Tryz.prog 47 [vI x, vI lo, vI hi] (vB (decide (lo ≤ x ∧ x ≤ hi))) [] := by
  refine XA good (fn := Tryz.f47) rfl ?_
  simp only [entry, List.getD_cons_zero, List.getD_cons_succ]
  repeat' first | refine SW.step good fun K hK => ?_ | refine X2 good fun K hK => ?_ | refine X3 good fun K hK => ?_ | refine SW.seqK fun J hJ => ?_ | refine SW.last good fun K hK => ?_ | (refine hK _ ?_; clear hK K) | (refine hJ _ _ (Wk.refl _) ?_; clear hJ J) | clear hK K | clear hJ J | refine SW.skip ?_ | refine SW.ret ?_ | refine SW.retT ?_ | refine SW.retB ?_ | refine SW.exit ?_ | refine SW.exitT ?_ | refine SW.exitB ?_ | refine XN ?_ | refine SW.block ?_ | refine SW.normB ?_ | refine SW.normT ?_ | refine XT ?_ | refine XF ?_ | refine XC (fun h => ?_) (fun h => ?_) | simp only [go_sem, optI, Option.getD_some, Option.getD_none, Int.reduceToNat, reduceIte, Nat.reduceEqDiff, Nat.reduceAdd, Nat.reduceMul, Nat.reduceSub, Nat.reduceLT, Nat.reduceLeDiff, reduceCtorEq, *] | refine Xs _ (fun h => ?_) (fun h => ?_) | with_reducible refine And.intro ?_ ?_
  all_goals refine ret_bool (by simp only [resL, res1_tmp, go_sem, optI, Option.getD_some, Option.getD_none, Int.reduceToNat, reduceIte, Nat.reduceEqDiff, Nat.reduceAdd, Nat.reduceMul, Nat.reduceSub, Nat.reduceLT, Nat.reduceLeDiff, reduceCtorEq]; rfl) (by simp) ?_
  all_goals (simp_all; try omega)
theorem ac_in' (x lo hi : Int) : AC Tryz.prog 49 [vI x, vI lo, vI hi] (vB (decide (lo ≤ x ∧ x ≤ hi))) [] := by
  refine XA good (fn := Tryz.f49) rfl ?_
  simp only [entry, List.getD_cons_zero, List.getD_cons_succ]
  repeat' first | refine SW.step good fun K hK => ?_ | refine X2 good fun K hK => ?_ | refine X3 good fun K hK => ?_ | refine SW.seqK fun J hJ => ?_ | refine SW.last good fun K hK => ?_ | (refine hK _ ?_; clear hK K) | (refine hJ _ _ (Wk.refl _) ?_; clear hJ J) | clear hK K | clear hJ J | refine SW.skip ?_ | refine SW.ret ?_ | refine SW.retT ?_ | refine SW.retB ?_ | refine SW.exit ?_ | refine SW.exitT ?_ | refine SW.exitB ?_ | refine XN ?_ | refine SW.block ?_ | refine SW.normB ?_ | refine SW.normT ?_ | refine XT ?_ | refine XF ?_ | refine XC (fun h => ?_) (fun h => ?_) | simp only [go_sem, optI, Option.getD_some, Option.getD_none, Int.reduceToNat, reduceIte, Nat.reduceEqDiff, Nat.reduceAdd, Nat.reduceMul, Nat.reduceSub, Nat.reduceLT, Nat.reduceLeDiff, reduceCtorEq, *] | refine Xs _ (fun h => ?_) (fun h => ?_) | with_reducible refine And.intro ?_ ?_
  all_goals refine ret_bool (by simp only [resL, res1_tmp, go_sem, optI, Option.getD_some, Option.getD_none, Int.reduceToNat, reduceIte, Nat.reduceEqDiff, Nat.reduceAdd, Nat.reduceMul, Nat.reduceSub, Nat.reduceLT, Nat.reduceLeDiff, reduceCtorEq]; rfl) (by simp) ?_
  all_goals (simp_all; try omega)
structure Role where
  who : Int
  name : Int
def encRole (r : Role) : AV := .agg [vI r.who, vI r.name]
def roleOk (r : Role) : Bool := decide (0 ≤ r.who ∧ r.who ≤ 5) && decide (0 ≤ r.name ∧ r.name ≤ 3)
theorem ac_RoleOk (r : Role) : AC Tryz.prog 72 [encRole r] (vB (roleOk r)) [] := by
  refine XA good (fn := Tryz.f72) rfl ?_
  simp only [entry, List.getD_cons_zero, List.getD_cons_succ]
  simp only [encRole]
  repeat' first | refine SW.step good fun K hK => ?_ | refine X2 good fun K hK => ?_ | refine X3 good fun K hK => ?_ | refine SW.seqK fun J hJ => ?_ | refine SW.last good fun K hK => ?_ | (refine hK _ ?_; clear hK K) | (refine hJ _ _ (Wk.refl _) ?_; clear hJ J) | clear hK K | clear hJ J | refine SW.skip ?_ | refine SW.ret ?_ | refine SW.retT ?_ | refine SW.retB ?_ | refine SW.exit ?_ | refine SW.exitT ?_ | refine SW.exitB ?_ | refine XN ?_ | refine SW.block ?_ | refine SW.normB ?_ | refine SW.normT ?_ | refine XT ?_ | refine XF ?_ | refine XC (fun h => ?_) (fun h => ?_) | refine X0 ?_ | refine Xv ?_ | refine X1 (ac_in _ _ _) ?_ | simp only [go_sem, optI, Option.getD_some, Option.getD_none, Int.reduceToNat, reduceIte, Nat.reduceEqDiff, Nat.reduceAdd, Nat.reduceMul, Nat.reduceSub, Nat.reduceLT, Nat.reduceLeDiff, reduceCtorEq, *] | refine Xs _ (fun h => ?_) (fun h => ?_) | with_reducible refine And.intro ?_ ?_
  all_goals refine ret_bool (by simp only [resL, res1_tmp, go_sem, optI, Option.getD_some, Option.getD_none, Int.reduceToNat, reduceIte, Nat.reduceEqDiff, Nat.reduceAdd, Nat.reduceMul, Nat.reduceSub, Nat.reduceLT, Nat.reduceLeDiff, reduceCtorEq]; rfl) (by simp) ?_
  all_goals (simp_all [roleOk]; try omega)
theorem ac_RoleOk' (r : Role) : AC Tryz.prog 74 [encRole r] (vB (roleOk r)) [] := by
  refine XA good (fn := Tryz.f74) rfl ?_
  simp only [entry, List.getD_cons_zero, List.getD_cons_succ]
  simp only [encRole]
  repeat' first | refine SW.step good fun K hK => ?_ | refine X2 good fun K hK => ?_ | refine X3 good fun K hK => ?_ | refine SW.seqK fun J hJ => ?_ | refine SW.last good fun K hK => ?_ | (refine hK _ ?_; clear hK K) | (refine hJ _ _ (Wk.refl _) ?_; clear hJ J) | clear hK K | clear hJ J | refine SW.skip ?_ | refine SW.ret ?_ | refine SW.retT ?_ | refine SW.retB ?_ | refine SW.exit ?_ | refine SW.exitT ?_ | refine SW.exitB ?_ | refine XN ?_ | refine SW.block ?_ | refine SW.normB ?_ | refine SW.normT ?_ | refine XT ?_ | refine XF ?_ | refine XC (fun h => ?_) (fun h => ?_) | refine X0 ?_ | refine Xv ?_ | refine X1 (ac_in' _ _ _) ?_ | simp only [go_sem, optI, Option.getD_some, Option.getD_none, Int.reduceToNat, reduceIte, Nat.reduceEqDiff, Nat.reduceAdd, Nat.reduceMul, Nat.reduceSub, Nat.reduceLT, Nat.reduceLeDiff, reduceCtorEq, *] | refine Xs _ (fun h => ?_) (fun h => ?_) | with_reducible refine And.intro ?_ ?_
  all_goals refine ret_bool (by simp only [resL, res1_tmp, go_sem, optI, Option.getD_some, Option.getD_none, Int.reduceToNat, reduceIte, Nat.reduceEqDiff, Nat.reduceAdd, Nat.reduceMul, Nat.reduceSub, Nat.reduceLT, Nat.reduceLeDiff, reduceCtorEq]; rfl) (by simp) ?_
  all_goals (simp_all [roleOk]; try omega)
/-- a letter -/
def letr (b n : Int) : List UInt8 := [UInt8.ofNat ((b + n) % 256).toNat]
theorem wrap8_64 (x : Int) : IntKind.u8.wrap (IntKind.i64.wrap x) = x % 256 := by
  simp only [IntKind.wrap, IntKind.bits, IntKind.signed]
  simp
  split <;> omega
theorem wrap8_8 (x y : Int) : IntKind.u8.wrap (x + IntKind.u8.wrap y) = (x + y) % 256 := by
  simp only [IntKind.wrap, IntKind.bits, IntKind.signed]
  simp
theorem letr_len (b n : Int) : (letr b n).length = 1 := rfl
def showRole (r : Role) : List UInt8 := if roleOk r then letr 65 r.who ++ [46] ++ letr 114 r.name else [63]
theorem showRole_len (r : Role) : (showRole r).length ≤ 3 := by unfold showRole; split <;> simp [letr_len]
end Go.Proofs.YtoemclhjcbcjaaaGreat.AB
namespace Go.Proofs.YtoemclhjcbcjaaaGreat.AB
open Go
set_option maxRecDepth 100000
set_option linter.unusedSimpArgs false
set_option linter.unusedVariables false
/-- a number's bytes -/
def varN (n : Nat) : List UInt8 := if n > 127 then UInt8.ofNat (n % 128 + 128) :: varN (n / 128) else [UInt8.ofNat n]
termination_by n
decreasing_by omega
theorem varN_len : ∀ (k n : Nat), n < 128 ^ (k + 1) → (varN n).length ≤ k + 1
  | 0, n, h => by unfold varN; rw [if_neg (by omega)]; simp
  | k + 1, n, h => by
    unfold varN
    split
    · have := varN_len k (n / 128) (by rw [Nat.pow_succ] at h; omega)
      simp only [List.length_cons]; omega
    · simp
theorem varN_len10 {n : Nat} (h : n ≤ 9223372036854775807) : (varN n).length ≤ 10 := varN_len 9 n (by omega)
theorem wrap64n {m : Nat} (h : m ≤ 9223372036854775807) : IntKind.i64.wrap (m : Int) = m := wrap64 (by omega) (by omega)
theorem wrap8n {m : Nat} (h : m ≤ 255) : IntKind.u8.wrap (m : Int) = m := wrap8 (by omega) (by omega)
theorem ofInt_nat {m : Nat} (h : m ≤ 9223372036854775807) : (BitVec.ofInt 64 (m : Int)).toNat = m := by
  rw [BitVec.toNat_ofInt]; omega
theorem andK_nat {a b : Nat} (ha : a ≤ 9223372036854775807) (hb : b ≤ 9223372036854775807) : andK .i64 a b = (a &&& b : Nat) := by
  unfold andK
  show IntKind.i64.wrap ((BitVec.ofInt 64 (a : Int) &&& BitVec.ofInt 64 (b : Int)).toNat : Int) = _
  rw [BitVec.toNat_and, ofInt_nat ha, ofInt_nat hb, wrap64n (Nat.le_trans Nat.and_le_left ha)]
theorem orK_nat {a b : Nat} (ha : a ≤ 9223372036854775807) (hb : b ≤ 9223372036854775807) : orK .i64 a b = (a ||| b : Nat) := by
  unfold orK
  show IntKind.i64.wrap ((BitVec.ofInt 64 (a : Int) ||| BitVec.ofInt 64 (b : Int)).toNat : Int) = _
  rw [BitVec.toNat_or, ofInt_nat ha, ofInt_nat hb, wrap64n (by have := Nat.or_lt_two_pow (n := 63) (x := a) (y := b) (by omega) (by omega); omega)]
theorem and127 {m : Nat} (h : m ≤ 9223372036854775807) : andK .i64 m 127 = (m % 128 : Nat) := by
  rw [show (127 : Int) = ((2 ^ 7 - 1 : Nat) : Int) from rfl, andK_nat h (by omega), Nat.and_two_pow_sub_one_eq_mod]
theorem or128 {m : Nat} (h : m < 128) : orK .i64 m 128 = (m + 128 : Nat) := by
  rw [show (128 : Int) = ((128 : Nat) : Int) from rfl, orK_nat (by omega) (by omega), show m ||| 128 = m + 128 from by revert m; decide]
theorem shr7 (m : Nat) : shrK .i64 m 7 = (m / 128 : Nat) := by
  unfold shrK
  rw [show ((2 : Int) ^ min (Int.toNat 7) IntKind.i64.bits) = 128 from by decide, Int.fdiv_eq_ediv_of_nonneg _ (by omega)]; omega
theorem bytesC_snoc (l : List UInt8) {k : Nat} (h : k ≤ 255) : bytesC (l ++ [UInt8.ofNat k]) = bytesC l ++ [[.v (.int .u8 (k : Int))]] := by
  rw [bytesC_app, show bytesC [UInt8.ofNat k] = [[.v (.int .u8 (k : Int))]] from bytesC_one k (by omega) (by omega)]
theorem bytesC_len (l : List UInt8) : (bytesC l).length = l.length := by simp [bytesC]
theorem ac_varText (n : Nat) (hn : n ≤ 9223372036854775807) : AC Tryz.prog 26 [vI n] (vS (varN n)) [] := by
  refine XA good (fn := Tryz.f26) rfl ?_
  simp only [entry, List.getD_cons_zero, List.getD_cons_succ]
  repeat' first | refine SW.step good fun K hK => ?_ | refine X2 good fun K hK => ?_ | refine X3 good fun K hK => ?_ | refine SW.seqK fun J hJ => ?_ | refine SW.last good fun K hK => ?_ | (refine hK _ ?_; clear hK K) | (refine hJ _ _ (Wk.refl _) ?_; clear hJ J) | clear hK K | clear hJ J | refine SW.skip ?_ | refine SW.ret ?_ | refine SW.retT ?_ | refine SW.retB ?_ | refine SW.exit ?_ | refine SW.exitT ?_ | refine SW.exitB ?_ | refine XN ?_ | refine SW.block ?_ | refine SW.normB ?_ | refine SW.normT ?_ | refine XT ?_ | refine XF ?_ | refine XC (fun h => ?_) (fun h => ?_) | simp only [go_sem, optI, Option.getD_some, Option.getD_none, Int.reduceToNat, reduceIte, Nat.reduceEqDiff, Nat.reduceAdd, Nat.reduceMul, Nat.reduceSub, Nat.reduceLT, Nat.reduceLeDiff, reduceCtorEq, *] | refine Xs _ (fun h => ?_) (fun h => ?_) | with_reducible refine And.intro ?_ ?_
  refine SW.loopTo (α := Nat × List UInt8) (fun a => ⟨sl [(0, vI a.1), (3, .own (.s 4 0))], hl [(.s 4 0, .row false 5 1 (bytesC a.2))]⟩) (fun a => a.1) (n, []) (fun a => a.2 ++ varN a.1 = varN n ∧ a.1 ≤ n) ?_ ⟨by simp, Nat.le_refl _⟩ ?_
  · (refine Xto _ _ ?_ ?_ <;> simp only [go_sem, optI, Option.getD_some, Option.getD_none, Int.reduceToNat, reduceIte, Nat.reduceEqDiff, Nat.reduceAdd, Nat.reduceMul, Nat.reduceSub, Nat.reduceLT, Nat.reduceLeDiff, reduceCtorEq, Option.some.injEq, or_true, true_or] <;> (repeat' with_reducible apply And.intro) <;> (try rfl))
  · rintro ⟨m, l⟩ ⟨h1, h2⟩
    simp only at h1 h2
    have hl : l.length ≤ 10 := by have := congrArg List.length h1; have := varN_len10 hn; simp at *; omega
    repeat' first | refine SW.step good fun K hK => ?_ | refine X2 good fun K hK => ?_ | refine X3 good fun K hK => ?_ | refine SW.seqK fun J hJ => ?_ | refine SW.last good fun K hK => ?_ | (refine hK _ ?_; clear hK K) | (refine hJ _ _ (Wk.refl _) ?_; clear hJ J) | clear hK K | clear hJ J | refine SW.skip ?_ | refine SW.ret ?_ | refine SW.retT ?_ | refine SW.retB ?_ | refine SW.exit ?_ | refine SW.exitT ?_ | refine SW.exitB ?_ | refine XN ?_ | refine SW.block ?_ | refine SW.normB ?_ | refine SW.normT ?_ | refine XT ?_ | refine XF ?_ | refine XC (fun h => ?_) (fun h => ?_) | simp only [go_sem, optI, Option.getD_some, Option.getD_none, Int.reduceToNat, reduceIte, Nat.reduceEqDiff, Nat.reduceAdd, Nat.reduceMul, Nat.reduceSub, Nat.reduceLT, Nat.reduceLeDiff, reduceCtorEq, *] | refine Xs _ (fun h => ?_) (fun h => ?_) | with_reducible refine And.intro ?_ ?_
    all_goals first | (intro r hr; simp at hr; subst hr; rfl) | (simp [bytesC]; omega) | (simp; done) | omega | rfl | skip
    · simp only [decide_eq_true_eq] at h
      refine ⟨(m / 128, l ++ [UInt8.ofNat (m % 128 + 128)]), ⟨?_, ?_⟩, ?_, ?_⟩
      · rw [← h1]; conv => rhs; unfold varN
        rw [if_pos (by omega)]; simp
      · simp only; omega
      · simp only; omega
      · (refine Xto _ _ ?_ ?_ <;> simp only [go_sem, optI, Option.getD_some, Option.getD_none, Int.reduceToNat, reduceIte, Nat.reduceEqDiff, Nat.reduceAdd, Nat.reduceMul, Nat.reduceSub, Nat.reduceLT, Nat.reduceLeDiff, reduceCtorEq, Option.some.injEq, or_true, true_or] <;> (repeat' with_reducible apply And.intro) <;> (try rfl))
        · rw [and127 (by omega), or128 (by omega), wrap8n (by omega), bytesC_snoc _ (by omega)]
        · rw [shr7]
    · simp only [decide_eq_false_iff_not] at h
      refine Xrs ?_
      rw [← h1, wrap8n (by omega)]; unfold varN
      rw [if_neg (by omega)]; simp
theorem ac_l01Var (n : Nat) (hn : n ≤ 9223372036854775807) : AC Tryz.prog 29 [vI n] (vS (varN n)) [] := by
  refine XA good (fn := Tryz.f29) rfl ?_
  simp only [entry, List.getD_cons_zero, List.getD_cons_succ]
  repeat' first | refine SW.step good fun K hK => ?_ | refine X2 good fun K hK => ?_ | refine X3 good fun K hK => ?_ | refine SW.seqK fun J hJ => ?_ | refine SW.last good fun K hK => ?_ | (refine hK _ ?_; clear hK K) | (refine hJ _ _ (Wk.refl _) ?_; clear hJ J) | clear hK K | clear hJ J | refine SW.skip ?_ | refine SW.ret ?_ | refine SW.retT ?_ | refine SW.retB ?_ | refine SW.exit ?_ | refine SW.exitT ?_ | refine SW.exitB ?_ | refine XN ?_ | refine SW.block ?_ | refine SW.normB ?_ | refine SW.normT ?_ | refine XT ?_ | refine XF ?_ | refine XC (fun h => ?_) (fun h => ?_) | simp only [go_sem, optI, Option.getD_some, Option.getD_none, Int.reduceToNat, reduceIte, Nat.reduceEqDiff, Nat.reduceAdd, Nat.reduceMul, Nat.reduceSub, Nat.reduceLT, Nat.reduceLeDiff, reduceCtorEq, *] | refine Xs _ (fun h => ?_) (fun h => ?_) | with_reducible refine And.intro ?_ ?_
  refine SW.loopTo (α := Nat × List UInt8) (fun a => ⟨sl [(0, vI a.1), (3, .own (.s 4 0))], hl [(.s 4 0, .row false 5 1 (bytesC a.2))]⟩) (fun a => a.1) (n, []) (fun a => a.2 ++ varN a.1 = varN n ∧ a.1 ≤ n) ?_ ⟨by simp, Nat.le_refl _⟩ ?_
  · (refine Xto _ _ ?_ ?_ <;> simp only [go_sem, optI, Option.getD_some, Option.getD_none, Int.reduceToNat, reduceIte, Nat.reduceEqDiff, Nat.reduceAdd, Nat.reduceMul, Nat.reduceSub, Nat.reduceLT, Nat.reduceLeDiff, reduceCtorEq, Option.some.injEq, or_true, true_or] <;> (repeat' with_reducible apply And.intro) <;> (try rfl))
  · rintro ⟨m, l⟩ ⟨h1, h2⟩
    simp only at h1 h2
    have hl : l.length ≤ 10 := by have := congrArg List.length h1; have := varN_len10 hn; simp at *; omega
    repeat' first | refine SW.step good fun K hK => ?_ | refine X2 good fun K hK => ?_ | refine X3 good fun K hK => ?_ | refine SW.seqK fun J hJ => ?_ | refine SW.last good fun K hK => ?_ | (refine hK _ ?_; clear hK K) | (refine hJ _ _ (Wk.refl _) ?_; clear hJ J) | clear hK K | clear hJ J | refine SW.skip ?_ | refine SW.ret ?_ | refine SW.retT ?_ | refine SW.retB ?_ | refine SW.exit ?_ | refine SW.exitT ?_ | refine SW.exitB ?_ | refine XN ?_ | refine SW.block ?_ | refine SW.normB ?_ | refine SW.normT ?_ | refine XT ?_ | refine XF ?_ | refine XC (fun h => ?_) (fun h => ?_) | simp only [go_sem, optI, Option.getD_some, Option.getD_none, Int.reduceToNat, reduceIte, Nat.reduceEqDiff, Nat.reduceAdd, Nat.reduceMul, Nat.reduceSub, Nat.reduceLT, Nat.reduceLeDiff, reduceCtorEq, *] | refine Xs _ (fun h => ?_) (fun h => ?_) | with_reducible refine And.intro ?_ ?_
    all_goals first | (intro r hr; simp at hr; subst hr; rfl) | (simp [bytesC]; omega) | (simp; done) | omega | rfl | skip
    · simp only [decide_eq_true_eq] at h
      refine ⟨(m / 128, l ++ [UInt8.ofNat (m % 128 + 128)]), ⟨?_, ?_⟩, ?_, ?_⟩
      · rw [← h1]; conv => rhs; unfold varN
        rw [if_pos (by omega)]; simp
      · simp only; omega
      · simp only; omega
      · (refine Xto _ _ ?_ ?_ <;> simp only [go_sem, optI, Option.getD_some, Option.getD_none, Int.reduceToNat, reduceIte, Nat.reduceEqDiff, Nat.reduceAdd, Nat.reduceMul, Nat.reduceSub, Nat.reduceLT, Nat.reduceLeDiff, reduceCtorEq, Option.some.injEq, or_true, true_or] <;> (repeat' with_reducible apply And.intro) <;> (try rfl))
        · rw [show ((m : Int).tmod 128) = (m % 128 : Nat) from by rw [Int.tmod_eq_emod_of_nonneg (by omega)]; omega]
          rw [show ((m % 128 : Nat) : Int) + 128 = (m % 128 + 128 : Nat) from by omega, wrap64n (by omega), wrap8n (by omega), bytesC_snoc _ (by omega)]
        · rw [show ((m : Int).tdiv 128) = (m / 128 : Nat) from by rw [Int.tdiv_eq_ediv_of_nonneg (by omega)]; omega]
          rw [wrap64n (by omega)]
    · simp only [decide_eq_false_iff_not] at h
      refine Xrs ?_
      rw [← h1, wrap8n (by omega)]; unfold varN
      rw [if_neg (by omega)]; simp
/-- the bytes of a number that is not below 0 -/
def varI (n : Int) : List UInt8 := varN (n.toNat % 9223372036854775808)
theorem varI_len (n : Int) : (varI n).length ≤ 10 := varN_len10 (by omega)
theorem varI_nat {n : Nat} (h : n ≤ 9223372036854775807) : varI n = varN n := by unfold varI; rw [Int.toNat_natCast, Nat.mod_eq_of_lt (by omega)]
theorem ac_var (n : Int) (h0 : 0 ≤ n) (h1 : n ≤ 9223372036854775807) : AC Tryz.prog 26 [vI n] (vS (varI n)) [] := by
  obtain ⟨m, rfl⟩ := Int.eq_ofNat_of_zero_le h0
  rw [varI_nat (by omega)]; exact ac_varText m (by omega)
theorem ac_var' (n : Int) (h0 : 0 ≤ n) (h1 : n ≤ 9223372036854775807) : AC Tryz.prog 29 [vI n] (vS (varI n)) [] := by
  obtain ⟨m, rfl⟩ := Int.eq_ofNat_of_zero_le h0
  rw [varI_nat (by omega)]; exact ac_l01Var m (by omega)
end Go.Proofs.YtoemclhjcbcjaaaGreat.AB
namespace Go.Proofs.YtoemclhjcbcjaaaGreat.AB
open Go
set_option maxRecDepth 100000
set_option linter.unusedSimpArgs false
set_option linter.unusedVariables false
structure Cred where
  kind : Int
  of : Role
  who : Int
  a : Role
  b : Role
  till : Int
  nonce : Int
def Cred.nums (c : Cred) : List Int := [c.kind, c.of.who, c.of.name, c.who, c.a.who, c.a.name, c.b.who, c.b.name, c.till, c.nonce]
def credC (c : Cred) : List C := [cI c.kind, cI c.of.who, cI c.of.name, cI c.who, cI c.a.who, cI c.a.name, cI c.b.who, cI c.b.name, cI c.till, cI c.nonce]
def encCred (c : Cred) : AV := .agg [vI c.kind, vI c.of.who, vI c.of.name, vI c.who, vI c.a.who, vI c.a.name, vI c.b.who, vI c.b.name, vI c.till, vI c.nonce]
def inB (x lo hi : Int) : Bool := decide (lo ≤ x ∧ x ≤ hi)
def roleNone (r : Role) : Bool := decide (r.who = 0) && decide (r.name = 0)
def credOk (c : Cred) : Bool :=
  roleOk c.of && (inB c.till 1 9999 && (inB c.nonce 0 99 &&
    (if c.kind = 1 then inB c.who 0 5 && (roleNone c.a && roleNone c.b)
     else if c.kind = 2 then decide (c.who = 0) && (roleOk c.a && roleNone c.b)
     else if c.kind = 3 then decide (c.who = 0) && (roleOk c.a && (roleOk c.b && decide (c.b.who = 0)))
     else if c.kind = 4 then decide (c.who = 0) && (roleOk c.a && roleOk c.b)
     else false)))
theorem ac_isPerson (n : Int) : AC Tryz.prog 73 [vI n] (vB (inB n 0 5)) [] := by
  refine XA good (fn := Tryz.f73) rfl ?_
  simp only [entry, List.getD_cons_zero, List.getD_cons_succ]
  repeat' first | refine SW.step good fun K hK => ?_ | refine X2 good fun K hK => ?_ | refine X3 good fun K hK => ?_ | refine SW.seqK fun J hJ => ?_ | refine SW.last good fun K hK => ?_ | (refine hK _ ?_; clear hK K) | (refine hJ _ _ (Wk.refl _) ?_; clear hJ J) | clear hK K | clear hJ J | refine SW.skip ?_ | refine SW.ret ?_ | refine SW.retT ?_ | refine SW.retB ?_ | refine SW.exit ?_ | refine SW.exitT ?_ | refine SW.exitB ?_ | refine XN ?_ | refine SW.block ?_ | refine SW.normB ?_ | refine SW.normT ?_ | refine XT ?_ | refine XF ?_ | refine XC (fun h => ?_) (fun h => ?_) | refine X0 ?_ | refine Xv ?_ | refine X1 (ac_in _ _ _) ?_ | simp only [go_sem, optI, Option.getD_some, Option.getD_none, Int.reduceToNat, reduceIte, Nat.reduceEqDiff, Nat.reduceAdd, Nat.reduceMul, Nat.reduceSub, Nat.reduceLT, Nat.reduceLeDiff, reduceCtorEq, *] | refine Xs _ (fun h => ?_) (fun h => ?_) | with_reducible refine And.intro ?_ ?_
  all_goals refine Xrb ?_
  all_goals rfl
set_option maxHeartbeats 2000000 in
theorem ac_CredOk (c : Cred) : AC Tryz.prog 48 [encCred c] (vB (credOk c)) [] := by
  refine XA good (fn := Tryz.f48) rfl ?_
  simp only [entry, List.getD_cons_zero, List.getD_cons_succ]
  simp only [encCred]
  repeat' first | refine SW.step good fun K hK => ?_ | refine X2 good fun K hK => ?_ | refine X3 good fun K hK => ?_ | refine SW.seqK fun J hJ => ?_ | refine SW.last good fun K hK => ?_ | (refine hK _ ?_; clear hK K) | (refine hJ _ _ (Wk.refl _) ?_; clear hJ J) | clear hK K | clear hJ J | refine SW.skip ?_ | refine SW.ret ?_ | refine SW.retT ?_ | refine SW.retB ?_ | refine SW.exit ?_ | refine SW.exitT ?_ | refine SW.exitB ?_ | refine XN ?_ | refine SW.block ?_ | refine SW.normB ?_ | refine SW.normT ?_ | refine XT ?_ | refine XF ?_ | refine XC (fun h => ?_) (fun h => ?_) | refine X0 ?_ | refine Xv ?_ | refine X1 (ac_RoleOk ⟨_, _⟩) ?_ | refine X1 (ac_isPerson _) ?_ | refine X1 (ac_in _ _ _) ?_ | simp only [go_sem, optI, Option.getD_some, Option.getD_none, Int.reduceToNat, reduceIte, Nat.reduceEqDiff, Nat.reduceAdd, Nat.reduceMul, Nat.reduceSub, Nat.reduceLT, Nat.reduceLeDiff, reduceCtorEq, *] | refine Xs _ (fun h => ?_) (fun h => ?_) | with_reducible refine And.intro ?_ ?_
  all_goals refine Xrb ?_
  all_goals (simp_all [credOk, inB, roleNone, ibeq]; try omega)
set_option maxHeartbeats 2000000 in
theorem ac_CredOk' (c : Cred) : AC Tryz.prog 51 [encCred c] (vB (credOk c)) [] := by
  refine XA good (fn := Tryz.f51) rfl ?_
  simp only [entry, List.getD_cons_zero, List.getD_cons_succ]
  simp only [encCred]
  repeat' first | refine SW.step good fun K hK => ?_ | refine X2 good fun K hK => ?_ | refine X3 good fun K hK => ?_ | refine SW.seqK fun J hJ => ?_ | refine SW.last good fun K hK => ?_ | (refine hK _ ?_; clear hK K) | (refine hJ _ _ (Wk.refl _) ?_; clear hJ J) | clear hK K | clear hJ J | refine SW.skip ?_ | refine SW.ret ?_ | refine SW.retT ?_ | refine SW.retB ?_ | refine SW.exit ?_ | refine SW.exitT ?_ | refine SW.exitB ?_ | refine XN ?_ | refine SW.block ?_ | refine SW.normB ?_ | refine SW.normT ?_ | refine XT ?_ | refine XF ?_ | refine XC (fun h => ?_) (fun h => ?_) | refine X0 ?_ | refine Xv ?_ | refine X1 (ac_RoleOk' ⟨_, _⟩) ?_ | refine X1 (ac_in' _ _ _) ?_ | simp only [go_sem, optI, Option.getD_some, Option.getD_none, Int.reduceToNat, reduceIte, Nat.reduceEqDiff, Nat.reduceAdd, Nat.reduceMul, Nat.reduceSub, Nat.reduceLT, Nat.reduceLeDiff, reduceCtorEq, *] | refine Xs _ (fun h => ?_) (fun h => ?_) | with_reducible refine And.intro ?_ ?_
  all_goals refine Xrb ?_
  all_goals (simp_all [credOk, inB, roleNone, ibeq]; try omega)
end Go.Proofs.YtoemclhjcbcjaaaGreat.AB
namespace Go.Proofs.YtoemclhjcbcjaaaGreat.AB
open Go
set_option maxRecDepth 100000
set_option linter.unusedSimpArgs false
set_option linter.unusedVariables false
def varL (ns : List Int) : List UInt8 := ns.flatMap varI
def credText (c : Cred) : List UInt8 := if credOk c then varL c.nums else []
theorem credOk_nums {c : Cred} (h : credOk c = true) : ∀ n, n ∈ c.nums → 0 ≤ n ∧ n ≤ 9999 := by
  simp only [credOk, Bool.and_eq_true, inB, roleOk, roleNone, decide_eq_true_eq] at h
  simp only [Cred.nums, List.mem_cons, List.not_mem_nil, or_false, forall_eq_or_imp, forall_eq]
  obtain ⟨h1, h2, h3, h4⟩ := h
  split at h4
  · simp_all; omega
  · split at h4
    · simp_all; omega
    · split at h4
      · simp_all; omega
      · split at h4
        · simp_all; omega
        · cases h4
theorem varL_len (ns : List Int) : (varL ns).length ≤ 10 * ns.length := by
  induction ns with
  | nil => simp [varL]
  | cons n ns ih => have := varI_len n; simp only [varL, List.flatMap_cons, List.length_append, List.length_cons] at ih ⊢; omega
theorem varL_take (ns : List Int) {k : Nat} (h : k < ns.length) : varL (ns.take (k + 1)) = varL (ns.take k) ++ varI ns[k] := by
  unfold varL
  rw [List.take_add_one, List.getElem?_eq_getElem h, List.flatMap_append]; simp
theorem getD_map {α β : Type} (L : List α) (f : α → β) (d : β) {k : Nat} (h : k < L.length) : (L.map f).getD k d = f L[k] := by
  simp [List.getD_eq_getElem?_getD, List.getElem?_eq_getElem h]
theorem credText_len (c : Cred) : (credText c).length ≤ 100 := by
  unfold credText
  split
  · have := varL_len c.nums; rw [show c.nums.length = 10 from rfl] at this; omega
  · simp
theorem ac_CredText (c : Cred) : AC Tryz.prog 25 [encCred c] (vS (credText c)) [] := by
  by_cases hc : credOk c = true
  · have hn := credOk_nums hc
    refine XA good (fn := Tryz.f25) rfl ?_
    simp only [entry, List.getD_cons_zero, List.getD_cons_succ]
    simp only [encCred]
    repeat' first | refine SW.step good fun K hK => ?_ | refine X2 good fun K hK => ?_ | refine X3 good fun K hK => ?_ | refine SW.seqK fun J hJ => ?_ | refine SW.last good fun K hK => ?_ | (refine hK _ ?_; clear hK K) | (refine hJ _ _ (Wk.refl _) ?_; clear hJ J) | clear hK K | clear hJ J | refine SW.skip ?_ | refine SW.ret ?_ | refine SW.retT ?_ | refine SW.retB ?_ | refine SW.exit ?_ | refine SW.exitT ?_ | refine SW.exitB ?_ | refine XN ?_ | refine SW.block ?_ | refine SW.normB ?_ | refine SW.normT ?_ | refine XT ?_ | refine XF ?_ | refine XC (fun h => ?_) (fun h => ?_) | refine X0 ?_ | refine Xv ?_ | refine X1 (ac_CredOk c) ?_ | simp only [go_sem, optI, Option.getD_some, Option.getD_none, Int.reduceToNat, reduceIte, Nat.reduceEqDiff, Nat.reduceAdd, Nat.reduceMul, Nat.reduceSub, Nat.reduceLT, Nat.reduceLeDiff, reduceCtorEq, *] | refine Xs _ (fun h => ?_) (fun h => ?_) | with_reducible refine And.intro ?_ ?_
    have hL : c.nums.length = 10 := rfl
    refine SW.loopTo (α := Nat) (fun k => ⟨sl [(3, vS (varL (c.nums.take k))), (35, .own (.s 35 0)), (36, vI 10), (37, vI k)], hl [(.s 35 0, .row false 3 1 (c.nums.map fun n => [cI n]))]⟩) (fun k => 10 - k) 0 (fun k => k ≤ 10) ?_ (by simp) ?_
    · (refine Xto _ _ ?_ ?_ <;> simp only [go_sem, optI, Option.getD_some, Option.getD_none, Int.reduceToNat, reduceIte, Nat.reduceEqDiff, Nat.reduceAdd, Nat.reduceMul, Nat.reduceSub, Nat.reduceLT, Nat.reduceLeDiff, reduceCtorEq, Option.some.injEq, or_true, true_or] <;> (repeat' with_reducible apply And.intro) <;> (try rfl))
    · intro k h2
      generalize hg : c.nums = L at *
      have hlen := varL_len (L.take k)
      have hlen2 : (L.take k).length ≤ 10 := by simp; omega
      by_cases hk : k < 10
      · have e := getD_map L (fun n => [cI n]) [] (k := k) (by omega)
        have e1 : decide ((k : Int) < 10) = true := by simp; omega
        have hlen3 := varI_len (L[k]'(by omega))
        have hb := hn (L[k]'(by omega)) (List.getElem_mem (by omega))
        repeat' first | refine SW.step good fun K hK => ?_ | refine X2 good fun K hK => ?_ | refine X3 good fun K hK => ?_ | refine SW.seqK fun J hJ => ?_ | refine SW.last good fun K hK => ?_ | (refine hK _ ?_; clear hK K) | (refine hJ _ _ (Wk.refl _) ?_; clear hJ J) | clear hK K | clear hJ J | refine SW.skip ?_ | refine SW.ret ?_ | refine SW.retT ?_ | refine SW.retB ?_ | refine SW.exit ?_ | refine SW.exitT ?_ | refine SW.exitB ?_ | refine XN ?_ | refine SW.block ?_ | refine SW.normB ?_ | refine SW.normT ?_ | refine XT ?_ | refine XF ?_ | refine XC (fun h => ?_) (fun h => ?_) | refine X0 ?_ | refine Xv ?_ | refine X1 (ac_var _ (by omega) (by omega)) ?_ | simp only [go_sem, optI, Option.getD_some, Option.getD_none, Int.reduceToNat, reduceIte, Nat.reduceEqDiff, Nat.reduceAdd, Nat.reduceMul, Nat.reduceSub, Nat.reduceLT, Nat.reduceLeDiff, reduceCtorEq, *] | refine Xs _ (fun h => ?_) (fun h => ?_) | with_reducible refine And.intro ?_ ?_
        all_goals first | (intro r hr; simp at hr; subst hr; rfl) | (simp [bytesC]; omega) | (simp; done) | omega | rfl | skip
        refine ⟨k + 1, by omega, by omega, ?_⟩
        (refine Xto _ _ ?_ ?_ <;> simp only [go_sem, optI, Option.getD_some, Option.getD_none, Int.reduceToNat, reduceIte, Nat.reduceEqDiff, Nat.reduceAdd, Nat.reduceMul, Nat.reduceSub, Nat.reduceLT, Nat.reduceLeDiff, reduceCtorEq, Option.some.injEq, or_true, true_or] <;> (repeat' with_reducible apply And.intro) <;> (try rfl))
        · rw [varL_take _ (by omega)]
        · rw [wrap64 (by omega) (by omega)]; simp
      · have hk : k = 10 := by omega
        subst hk
        repeat' first | refine SW.step good fun K hK => ?_ | refine X2 good fun K hK => ?_ | refine X3 good fun K hK => ?_ | refine SW.seqK fun J hJ => ?_ | refine SW.last good fun K hK => ?_ | (refine hK _ ?_; clear hK K) | (refine hJ _ _ (Wk.refl _) ?_; clear hJ J) | clear hK K | clear hJ J | refine SW.skip ?_ | refine SW.ret ?_ | refine SW.retT ?_ | refine SW.retB ?_ | refine SW.exit ?_ | refine SW.exitT ?_ | refine SW.exitB ?_ | refine XN ?_ | refine SW.block ?_ | refine SW.normB ?_ | refine SW.normT ?_ | refine XT ?_ | refine XF ?_ | refine XC (fun h => ?_) (fun h => ?_) | simp only [go_sem, optI, Option.getD_some, Option.getD_none, Int.reduceToNat, reduceIte, Nat.reduceEqDiff, Nat.reduceAdd, Nat.reduceMul, Nat.reduceSub, Nat.reduceLT, Nat.reduceLeDiff, reduceCtorEq, *] | refine Xs _ (fun h => ?_) (fun h => ?_) | with_reducible refine And.intro ?_ ?_
        all_goals first | (intro r hr; simp at hr; subst hr; rfl) | (simp [bytesC]; omega) | (simp; done) | omega | rfl | (refine Xrs ?_ <;> (rw [List.take_of_length_le (by omega)]; simp [credText, hc, hg]))
  · have hc' : credOk c = false := by simpa using hc
    refine XA good (fn := Tryz.f25) rfl ?_
    simp only [entry, List.getD_cons_zero, List.getD_cons_succ]
    simp only [encCred]
    repeat' first | refine SW.step good fun K hK => ?_ | refine X2 good fun K hK => ?_ | refine X3 good fun K hK => ?_ | refine SW.seqK fun J hJ => ?_ | refine SW.last good fun K hK => ?_ | (refine hK _ ?_; clear hK K) | (refine hJ _ _ (Wk.refl _) ?_; clear hJ J) | clear hK K | clear hJ J | refine SW.skip ?_ | refine SW.ret ?_ | refine SW.retT ?_ | refine SW.retB ?_ | refine SW.exit ?_ | refine SW.exitT ?_ | refine SW.exitB ?_ | refine XN ?_ | refine SW.block ?_ | refine SW.normB ?_ | refine SW.normT ?_ | refine XT ?_ | refine XF ?_ | refine XC (fun h => ?_) (fun h => ?_) | refine X0 ?_ | refine Xv ?_ | refine X1 (ac_CredOk c) ?_ | simp only [go_sem, optI, Option.getD_some, Option.getD_none, Int.reduceToNat, reduceIte, Nat.reduceEqDiff, Nat.reduceAdd, Nat.reduceMul, Nat.reduceSub, Nat.reduceLT, Nat.reduceLeDiff, reduceCtorEq, *] | refine Xs _ (fun h => ?_) (fun h => ?_) | with_reducible refine And.intro ?_ ?_
    all_goals first | (intro r hr; simp at hr; subst hr; rfl) | (simp [bytesC]; omega) | (simp; done) | omega | rfl | (refine Xrs ?_ <;> simp [credText, hc'])
set_option maxHeartbeats 1000000 in
theorem ac_CredText' (c : Cred) : AC Tryz.prog 28 [encCred c] (vS (credText c)) [] := by
  by_cases hc : credOk c = true
  · have hn := credOk_nums hc
    simp only [Cred.nums, List.mem_cons, List.not_mem_nil, or_false, forall_eq_or_imp, forall_eq] at hn
    obtain ⟨⟨_, _⟩, ⟨_, _⟩, ⟨_, _⟩, ⟨_, _⟩, ⟨_, _⟩, ⟨_, _⟩, ⟨_, _⟩, ⟨_, _⟩, ⟨_, _⟩, ⟨_, _⟩⟩ := hn
    have l0 := varI_len c.kind
    have l1 := varI_len c.of.who
    have l2 := varI_len c.of.name
    have l3 := varI_len c.who
    have l4 := varI_len c.a.who
    have l5 := varI_len c.a.name
    have l6 := varI_len c.b.who
    have l7 := varI_len c.b.name
    have l8 := varI_len c.till
    have l9 := varI_len c.nonce
    refine XA good (fn := Tryz.f28) rfl ?_
    simp only [entry, List.getD_cons_zero, List.getD_cons_succ]
    simp only [encCred]
    repeat' first | refine SW.step good fun K hK => ?_ | refine X2 good fun K hK => ?_ | refine X3 good fun K hK => ?_ | refine SW.seqK fun J hJ => ?_ | refine SW.last good fun K hK => ?_ | (refine hK _ ?_; clear hK K) | (refine hJ _ _ (Wk.refl _) ?_; clear hJ J) | clear hK K | clear hJ J | refine SW.skip ?_ | refine SW.ret ?_ | refine SW.retT ?_ | refine SW.retB ?_ | refine SW.exit ?_ | refine SW.exitT ?_ | refine SW.exitB ?_ | refine XN ?_ | refine SW.block ?_ | refine SW.normB ?_ | refine SW.normT ?_ | refine XT ?_ | refine XF ?_ | refine XC (fun h => ?_) (fun h => ?_) | refine X0 ?_ | refine Xv ?_ | refine X1 (ac_CredOk' c) ?_ | refine X1 (ac_var' _ (by omega) (by omega)) ?_ | simp only [go_sem, optI, Option.getD_some, Option.getD_none, Int.reduceToNat, reduceIte, Nat.reduceEqDiff, Nat.reduceAdd, Nat.reduceMul, Nat.reduceSub, Nat.reduceLT, Nat.reduceLeDiff, reduceCtorEq, *] | refine Xs _ (fun h => ?_) (fun h => ?_) | with_reducible refine And.intro ?_ ?_
    all_goals first | (intro r hr; simp at hr; subst hr; rfl) | (simp [bytesC]; omega) | (simp; done) | omega | rfl | (refine Xrs ?_ <;> simp [credText, hc, varL, Cred.nums])
  · have hc' : credOk c = false := by simpa using hc
    refine XA good (fn := Tryz.f28) rfl ?_
    simp only [entry, List.getD_cons_zero, List.getD_cons_succ]
    simp only [encCred]
    repeat' first | refine SW.step good fun K hK => ?_ | refine X2 good fun K hK => ?_ | refine X3 good fun K hK => ?_ | refine SW.seqK fun J hJ => ?_ | refine SW.last good fun K hK => ?_ | (refine hK _ ?_; clear hK K) | (refine hJ _ _ (Wk.refl _) ?_; clear hJ J) | clear hK K | clear hJ J | refine SW.skip ?_ | refine SW.ret ?_ | refine SW.retT ?_ | refine SW.retB ?_ | refine SW.exit ?_ | refine SW.exitT ?_ | refine SW.exitB ?_ | refine XN ?_ | refine SW.block ?_ | refine SW.normB ?_ | refine SW.normT ?_ | refine XT ?_ | refine XF ?_ | refine XC (fun h => ?_) (fun h => ?_) | refine X0 ?_ | refine Xv ?_ | refine X1 (ac_CredOk' c) ?_ | simp only [go_sem, optI, Option.getD_some, Option.getD_none, Int.reduceToNat, reduceIte, Nat.reduceEqDiff, Nat.reduceAdd, Nat.reduceMul, Nat.reduceSub, Nat.reduceLT, Nat.reduceLeDiff, reduceCtorEq, *] | refine Xs _ (fun h => ?_) (fun h => ?_) | with_reducible refine And.intro ?_ ?_
    all_goals first | (intro r hr; simp at hr; subst hr; rfl) | (simp [bytesC]; omega) | (simp; done) | omega | rfl | (refine Xrs ?_ <;> simp [credText, hc'])
end Go.Proofs.YtoemclhjcbcjaaaGreat.AB
