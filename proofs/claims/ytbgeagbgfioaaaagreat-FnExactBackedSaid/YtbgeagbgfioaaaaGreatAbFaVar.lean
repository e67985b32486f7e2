/- Numbers in bytes. -/
import Derived.Test.YtbgeagbgfioaaaaGreatAbFaRole
namespace Go.Proofs.YtbgeagbgfioaaaaGreat.AB
open Go
set_option maxRecDepth 100000
set_option linter.unusedSimpArgs false
set_option linter.unusedVariables false
/-- a number's bytes -/
def varN (n : Nat) : List UInt8 := if n > 127 then UInt8.ofNat (n % 128 + 128) :: varN (n / 128) else [UInt8.ofNat n]
termination_by n
decreasing_by omega
theorem varN_len : ∀ (k n : Nat), n < 128 ^ (k + 1) → (varN n).length ≤ k + 1
  | 0, n, h => by unfold varN; rw [if_neg (by omega)]; simp
  | k + 1, n, h => by
    unfold varN
    split
    · have := varN_len k (n / 128) (by rw [Nat.pow_succ] at h; omega)
      simp only [List.length_cons]; omega
    · simp
theorem varN_len10 {n : Nat} (h : n ≤ 9223372036854775807) : (varN n).length ≤ 10 := varN_len 9 n (by omega)
theorem wrap64n {m : Nat} (h : m ≤ 9223372036854775807) : IntKind.i64.wrap (m : Int) = m := wrap64 (by omega) (by omega)
theorem wrap8n {m : Nat} (h : m ≤ 255) : IntKind.u8.wrap (m : Int) = m := wrap8 (by omega) (by omega)
theorem ofInt_nat {m : Nat} (h : m ≤ 9223372036854775807) : (BitVec.ofInt 64 (m : Int)).toNat = m := by
  rw [BitVec.toNat_ofInt]; omega
theorem andK_nat {a b : Nat} (ha : a ≤ 9223372036854775807) (hb : b ≤ 9223372036854775807) : andK .i64 a b = (a &&& b : Nat) := by
  unfold andK
  show IntKind.i64.wrap ((BitVec.ofInt 64 (a : Int) &&& BitVec.ofInt 64 (b : Int)).toNat : Int) = _
  rw [BitVec.toNat_and, ofInt_nat ha, ofInt_nat hb, wrap64n (Nat.le_trans Nat.and_le_left ha)]
theorem orK_nat {a b : Nat} (ha : a ≤ 9223372036854775807) (hb : b ≤ 9223372036854775807) : orK .i64 a b = (a ||| b : Nat) := by
  unfold orK
  show IntKind.i64.wrap ((BitVec.ofInt 64 (a : Int) ||| BitVec.ofInt 64 (b : Int)).toNat : Int) = _
  rw [BitVec.toNat_or, ofInt_nat ha, ofInt_nat hb, wrap64n (by have := Nat.or_lt_two_pow (n := 63) (x := a) (y := b) (by omega) (by omega); omega)]
theorem and127 {m : Nat} (h : m ≤ 9223372036854775807) : andK .i64 m 127 = (m % 128 : Nat) := by
  rw [show (127 : Int) = ((2 ^ 7 - 1 : Nat) : Int) from rfl, andK_nat h (by omega), Nat.and_two_pow_sub_one_eq_mod]
theorem or128 {m : Nat} (h : m < 128) : orK .i64 m 128 = (m + 128 : Nat) := by
  rw [show (128 : Int) = ((128 : Nat) : Int) from rfl, orK_nat (by omega) (by omega), show m ||| 128 = m + 128 from by revert m; decide]
theorem shr7 (m : Nat) : shrK .i64 m 7 = (m / 128 : Nat) := by
  unfold shrK
  rw [show ((2 : Int) ^ min (Int.toNat 7) IntKind.i64.bits) = 128 from by decide, Int.fdiv_eq_ediv_of_nonneg _ (by omega)]; omega
theorem bytesC_snoc (l : List UInt8) {k : Nat} (h : k ≤ 255) : bytesC (l ++ [UInt8.ofNat k]) = bytesC l ++ [[.v (.int .u8 (k : Int))]] := by
  rw [bytesC_app, show bytesC [UInt8.ofNat k] = [[.v (.int .u8 (k : Int))]] from bytesC_one k (by omega) (by omega)]
theorem bytesC_len (l : List UInt8) : (bytesC l).length = l.length := by simp [bytesC]
theorem ac_varText (n : Nat) (hn : n ≤ 9223372036854775807) : AC Tryz.prog 77 [vI n] (vS (varN n)) [] := by
  refine XA good (fn := Tryz.f77) rfl ?_
  simp only [entry, List.getD_cons_zero, List.getD_cons_succ]
  repeat' first | refine SW.step good fun K hK => ?_ | refine X2 good fun K hK => ?_ | refine X3 good fun K hK => ?_ | refine SW.seqK fun J hJ => ?_ | refine SW.last good fun K hK => ?_ | (refine hK _ ?_; clear hK K) | (refine hJ _ _ (Wk.refl _) ?_; clear hJ J) | clear hK K | clear hJ J | refine SW.skip ?_ | refine SW.ret ?_ | refine SW.retT ?_ | refine SW.retB ?_ | refine SW.exit ?_ | refine SW.exitT ?_ | refine SW.exitB ?_ | refine XN ?_ | refine SW.block ?_ | refine SW.normB ?_ | refine SW.normT ?_ | refine XT ?_ | refine XF ?_ | refine XC (fun h => ?_) (fun h => ?_) | simp only [go_sem, optI, Option.getD_some, Option.getD_none, Int.reduceToNat, reduceIte, Nat.reduceEqDiff, Nat.reduceAdd, Nat.reduceMul, Nat.reduceSub, Nat.reduceLT, Nat.reduceLeDiff, reduceCtorEq, *] | refine Xs _ (fun h => ?_) (fun h => ?_) | with_reducible refine And.intro ?_ ?_
  refine SW.loopTo (α := Nat × List UInt8) (fun a => ⟨sl [(0, vI a.1), (3, .own (.s 4 0))], hl [(.s 4 0, .row false 5 1 (bytesC a.2))]⟩) (fun a => a.1) (n, []) (fun a => a.2 ++ varN a.1 = varN n ∧ a.1 ≤ n) ?_ ⟨by simp, Nat.le_refl _⟩ ?_
  · (refine Xto _ _ ?_ ?_ <;> simp only [go_sem, optI, Option.getD_some, Option.getD_none, Int.reduceToNat, reduceIte, Nat.reduceEqDiff, Nat.reduceAdd, Nat.reduceMul, Nat.reduceSub, Nat.reduceLT, Nat.reduceLeDiff, reduceCtorEq, Option.some.injEq, or_true, true_or] <;> (repeat' with_reducible apply And.intro) <;> (try rfl))
  · rintro ⟨m, l⟩ ⟨h1, h2⟩
    simp only at h1 h2
    have hl : l.length ≤ 10 := by have := congrArg List.length h1; have := varN_len10 hn; simp at *; omega
    repeat' first | refine SW.step good fun K hK => ?_ | refine X2 good fun K hK => ?_ | refine X3 good fun K hK => ?_ | refine SW.seqK fun J hJ => ?_ | refine SW.last good fun K hK => ?_ | (refine hK _ ?_; clear hK K) | (refine hJ _ _ (Wk.refl _) ?_; clear hJ J) | clear hK K | clear hJ J | refine SW.skip ?_ | refine SW.ret ?_ | refine SW.retT ?_ | refine SW.retB ?_ | refine SW.exit ?_ | refine SW.exitT ?_ | refine SW.exitB ?_ | refine XN ?_ | refine SW.block ?_ | refine SW.normB ?_ | refine SW.normT ?_ | refine XT ?_ | refine XF ?_ | refine XC (fun h => ?_) (fun h => ?_) | simp only [go_sem, optI, Option.getD_some, Option.getD_none, Int.reduceToNat, reduceIte, Nat.reduceEqDiff, Nat.reduceAdd, Nat.reduceMul, Nat.reduceSub, Nat.reduceLT, Nat.reduceLeDiff, reduceCtorEq, *] | refine Xs _ (fun h => ?_) (fun h => ?_) | with_reducible refine And.intro ?_ ?_
    all_goals first | (intro r hr; simp at hr; subst hr; rfl) | (simp [bytesC]; omega) | (simp; done) | omega | rfl | skip
    · simp only [decide_eq_true_eq] at h
      refine ⟨(m / 128, l ++ [UInt8.ofNat (m % 128 + 128)]), ⟨?_, ?_⟩, ?_, ?_⟩
      · rw [← h1]; conv => rhs; unfold varN
        rw [if_pos (by omega)]; simp
      · simp only; omega
      · simp only; omega
      · (refine Xto _ _ ?_ ?_ <;> simp only [go_sem, optI, Option.getD_some, Option.getD_none, Int.reduceToNat, reduceIte, Nat.reduceEqDiff, Nat.reduceAdd, Nat.reduceMul, Nat.reduceSub, Nat.reduceLT, Nat.reduceLeDiff, reduceCtorEq, Option.some.injEq, or_true, true_or] <;> (repeat' with_reducible apply And.intro) <;> (try rfl))
        · rw [and127 (by omega), or128 (by omega), wrap8n (by omega), bytesC_snoc _ (by omega)]
        · rw [shr7]
    · simp only [decide_eq_false_iff_not] at h
      refine Xrs ?_
      rw [← h1, wrap8n (by omega)]; unfold varN
      rw [if_neg (by omega)]; simp
theorem ac_l01Var (n : Nat) (hn : n ≤ 9223372036854775807) : AC Tryz.prog 65 [vI n] (vS (varN n)) [] := by
  refine XA good (fn := Tryz.f65) rfl ?_
  simp only [entry, List.getD_cons_zero, List.getD_cons_succ]
  repeat' first | refine SW.step good fun K hK => ?_ | refine X2 good fun K hK => ?_ | refine X3 good fun K hK => ?_ | refine SW.seqK fun J hJ => ?_ | refine SW.last good fun K hK => ?_ | (refine hK _ ?_; clear hK K) | (refine hJ _ _ (Wk.refl _) ?_; clear hJ J) | clear hK K | clear hJ J | refine SW.skip ?_ | refine SW.ret ?_ | refine SW.retT ?_ | refine SW.retB ?_ | refine SW.exit ?_ | refine SW.exitT ?_ | refine SW.exitB ?_ | refine XN ?_ | refine SW.block ?_ | refine SW.normB ?_ | refine SW.normT ?_ | refine XT ?_ | refine XF ?_ | refine XC (fun h => ?_) (fun h => ?_) | simp only [go_sem, optI, Option.getD_some, Option.getD_none, Int.reduceToNat, reduceIte, Nat.reduceEqDiff, Nat.reduceAdd, Nat.reduceMul, Nat.reduceSub, Nat.reduceLT, Nat.reduceLeDiff, reduceCtorEq, *] | refine Xs _ (fun h => ?_) (fun h => ?_) | with_reducible refine And.intro ?_ ?_
  refine SW.loopTo (α := Nat × List UInt8) (fun a => ⟨sl [(0, vI a.1), (3, .own (.s 4 0))], hl [(.s 4 0, .row false 5 1 (bytesC a.2))]⟩) (fun a => a.1) (n, []) (fun a => a.2 ++ varN a.1 = varN n ∧ a.1 ≤ n) ?_ ⟨by simp, Nat.le_refl _⟩ ?_
  · (refine Xto _ _ ?_ ?_ <;> simp only [go_sem, optI, Option.getD_some, Option.getD_none, Int.reduceToNat, reduceIte, Nat.reduceEqDiff, Nat.reduceAdd, Nat.reduceMul, Nat.reduceSub, Nat.reduceLT, Nat.reduceLeDiff, reduceCtorEq, Option.some.injEq, or_true, true_or] <;> (repeat' with_reducible apply And.intro) <;> (try rfl))
  · rintro ⟨m, l⟩ ⟨h1, h2⟩
    simp only at h1 h2
    have hl : l.length ≤ 10 := by have := congrArg List.length h1; have := varN_len10 hn; simp at *; omega
    repeat' first | refine SW.step good fun K hK => ?_ | refine X2 good fun K hK => ?_ | refine X3 good fun K hK => ?_ | refine SW.seqK fun J hJ => ?_ | refine SW.last good fun K hK => ?_ | (refine hK _ ?_; clear hK K) | (refine hJ _ _ (Wk.refl _) ?_; clear hJ J) | clear hK K | clear hJ J | refine SW.skip ?_ | refine SW.ret ?_ | refine SW.retT ?_ | refine SW.retB ?_ | refine SW.exit ?_ | refine SW.exitT ?_ | refine SW.exitB ?_ | refine XN ?_ | refine SW.block ?_ | refine SW.normB ?_ | refine SW.normT ?_ | refine XT ?_ | refine XF ?_ | refine XC (fun h => ?_) (fun h => ?_) | simp only [go_sem, optI, Option.getD_some, Option.getD_none, Int.reduceToNat, reduceIte, Nat.reduceEqDiff, Nat.reduceAdd, Nat.reduceMul, Nat.reduceSub, Nat.reduceLT, Nat.reduceLeDiff, reduceCtorEq, *] | refine Xs _ (fun h => ?_) (fun h => ?_) | with_reducible refine And.intro ?_ ?_
    all_goals first | (intro r hr; simp at hr; subst hr; rfl) | (simp [bytesC]; omega) | (simp; done) | omega | rfl | skip
    · simp only [decide_eq_true_eq] at h
      refine ⟨(m / 128, l ++ [UInt8.ofNat (m % 128 + 128)]), ⟨?_, ?_⟩, ?_, ?_⟩
      · rw [← h1]; conv => rhs; unfold varN
        rw [if_pos (by omega)]; simp
      · simp only; omega
      · simp only; omega
      · (refine Xto _ _ ?_ ?_ <;> simp only [go_sem, optI, Option.getD_some, Option.getD_none, Int.reduceToNat, reduceIte, Nat.reduceEqDiff, Nat.reduceAdd, Nat.reduceMul, Nat.reduceSub, Nat.reduceLT, Nat.reduceLeDiff, reduceCtorEq, Option.some.injEq, or_true, true_or] <;> (repeat' with_reducible apply And.intro) <;> (try rfl))
        · rw [show ((m : Int).tmod 128) = (m % 128 : Nat) from by rw [Int.tmod_eq_emod_of_nonneg (by omega)]; omega]
          rw [show ((m % 128 : Nat) : Int) + 128 = (m % 128 + 128 : Nat) from by omega, wrap64n (by omega), wrap8n (by omega), bytesC_snoc _ (by omega)]
        · rw [show ((m : Int).tdiv 128) = (m / 128 : Nat) from by rw [Int.tdiv_eq_ediv_of_nonneg (by omega)]; omega]
          rw [wrap64n (by omega)]
    · simp only [decide_eq_false_iff_not] at h
      refine Xrs ?_
      rw [← h1, wrap8n (by omega)]; unfold varN
      rw [if_neg (by omega)]; simp
/-- the bytes of a number that is not below 0 -/
def varI (n : Int) : List UInt8 := varN (n.toNat % 9223372036854775808)
theorem varI_len (n : Int) : (varI n).length ≤ 10 := varN_len10 (by omega)
theorem varI_nat {n : Nat} (h : n ≤ 9223372036854775807) : varI n = varN n := by unfold varI; rw [Int.toNat_natCast, Nat.mod_eq_of_lt (by omega)]
theorem ac_var (n : Int) (h0 : 0 ≤ n) (h1 : n ≤ 9223372036854775807) : AC Tryz.prog 77 [vI n] (vS (varI n)) [] := by
  obtain ⟨m, rfl⟩ := Int.eq_ofNat_of_zero_le h0
  rw [varI_nat (by omega)]; exact ac_varText m (by omega)
theorem ac_var' (n : Int) (h0 : 0 ≤ n) (h1 : n ≤ 9223372036854775807) : AC Tryz.prog 65 [vI n] (vS (varI n)) [] := by
  obtain ⟨m, rfl⟩ := Int.eq_ofNat_of_zero_le h0
  rw [varI_nat (by omega)]; exact ac_l01Var m (by omega)
end Go.Proofs.YtbgeagbgfioaaaaGreat.AB
