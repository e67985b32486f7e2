/- Numbers and texts are read: the program's functions and the reference's. -/
import Derived.Test.YtbpfciidbgkekaaAbFtVar
namespace Go.Proofs.Ytbpfciidbgkekaa.AB
open Go
set_option maxRecDepth 100000
set_option linter.unusedSimpArgs false
set_option linter.unusedVariables false
def rvV (t : List UInt8) (p : Int) : Int := match readVar t p with | some (n, _) => n | none => 0
def rvE (t : List UInt8) (p : Int) : Int := match readVar t p with | some (_, e) => e | none => 0
def rvB (t : List UInt8) (p : Int) : Bool := (readVar t p).isSome
theorem orK_shl {n m k : Nat} (hn : n < 128 ^ k) (hm : m < 128) (hk : k < 5) : orK .i64 (n : Int) (shlK .i64 (m : Int) ((7 * k : Nat) : Int)) = ((n + m * 128 ^ k : Nat) : Int) := by
  have hp : (128 : Nat) ^ k = 2 ^ (7 * k) := by rw [show (128 : Nat) = 2 ^ 7 from rfl, ← Nat.pow_mul]
  have hb : (128 : Nat) ^ k ≤ 128 ^ 4 := Nat.pow_le_pow_right (by omega) (by omega)
  have hmb : m * 128 ^ k ≤ 127 * 128 ^ 4 := Nat.mul_le_mul (by omega) hb
  have h1 : shlK .i64 (m : Int) ((7 * k : Nat) : Int) = ((m * 128 ^ k : Nat) : Int) := by
    unfold shlK
    rw [Int.toNat_natCast, show min (7 * k) IntKind.i64.bits = 7 * k from Nat.min_eq_left (by show 7 * k ≤ 64; omega)]
    rw [show (m : Int) * 2 ^ (7 * k) = ((m * 128 ^ k : Nat) : Int) from by rw [hp]; simp]
    exact wrap64 (by omega) (by omega)
  rw [h1, orK_nat (by omega) (by omega)]
  rw [Nat.or_comm, hp, ← Nat.shiftLeft_eq, ← Nat.shiftLeft_add_eq_or_of_lt (by rw [← hp]; exact hn), Nat.add_comm]
set_option maxHeartbeats 1000000 in
theorem ac_ReadVar (t : List UInt8) (p : Int) (ht : t.length ≤ 4611686018427387904) : AC Try.prog 153 [vS t, vI p] (.tup [vI (rvV t p), vI (rvE t p), vB (rvB t p)]) [] := by
  by_cases hp : 0 ≤ p ∧ p ≤ t.length
  · obtain ⟨q, rfl⟩ := Int.eq_ofNat_of_zero_le hp.1
    have hq : q ≤ t.length := by omega
    have hd : decide (0 ≤ (q : Int) ∧ (q : Int) ≤ t.length) = true := by simpa using hp
    refine XA good (fn := Try.f153) rfl ?_
    simp only [entry, List.getD_cons_zero, List.getD_cons_succ]
    repeat' first | refine SW.step good fun K hK => ?_ | refine X2 good fun K hK => ?_ | refine X3 good fun K hK => ?_ | refine SW.seqK fun J hJ => ?_ | refine SW.last good fun K hK => ?_ | (refine hK _ ?_; clear hK K) | (refine hJ _ _ (Wk.refl _) ?_; clear hJ J) | clear hK K | clear hJ J | refine SW.skip ?_ | refine SW.ret ?_ | refine SW.retT ?_ | refine SW.retB ?_ | refine SW.exit ?_ | refine SW.exitT ?_ | refine SW.exitB ?_ | refine XN ?_ | refine SW.block ?_ | refine SW.normB ?_ | refine SW.normT ?_ | refine XT ?_ | refine XF ?_ | refine XC (fun h => ?_) (fun h => ?_) | refine X0 ?_ | refine Xv ?_ | refine X1 (ac_in _ _ _) ?_ | simp only [go_sem, optI, Option.getD_some, Option.getD_none, Int.reduceToNat, reduceIte, Nat.reduceEqDiff, Nat.reduceAdd, Nat.reduceMul, Nat.reduceSub, Nat.reduceLT, Nat.reduceLeDiff, reduceCtorEq, *] | refine Xs _ (fun h => ?_) (fun h => ?_) | with_reducible refine And.intro ?_ ?_
    refine SW.loopTo (α := Nat × Nat) (fun a => ⟨sl [(0, vS t), (1, vI q), (7, vI a.2), (8, vI a.1)], hl []⟩) (fun a => 5 - a.1) (0, 0) (fun a => a.1 ≤ 5 ∧ q + a.1 ≤ t.length ∧ a.2 < 128 ^ a.1 ∧ readVar t q = rvGo (5 - a.1) q a.1 a.2 (t.drop (q + a.1))) ?_ ⟨by simp, by simpa using hq, by simp, by simp [readVar, hq]⟩ ?_
    · (refine Xto _ _ ?_ ?_ <;> simp only [go_sem, optI, Option.getD_some, Option.getD_none, Int.reduceToNat, reduceIte, Nat.reduceEqDiff, Nat.reduceAdd, Nat.reduceMul, Nat.reduceSub, Nat.reduceLT, Nat.reduceLeDiff, reduceCtorEq, Option.some.injEq, or_true, true_or] <;> (repeat' with_reducible apply And.intro) <;> (try rfl))
    · rintro ⟨k, n⟩ ⟨h1, h2, h3, h4⟩
      simp only at h1 h2 h3 h4
      by_cases hk : k < 5 ∧ q + k < t.length
      · obtain ⟨hk5, hkl⟩ := hk
        have hw : IntKind.i64.wrap ((q : Int) + (k : Int)) = ((q + k : Nat) : Int) := wrap64 (by omega) (by omega)
        have hw7 : IntKind.i64.wrap (7 * (k : Int)) = ((7 * k : Nat) : Int) := wrap64 (by omega) (by omega)
        have g1 : decide ((k : Int) < 5) = true := by simp; omega
        have g2 : decide (((q + k : Nat) : Int) < (t.length : Int)) = true := by simp; omega
        obtain ⟨x, hx⟩ : ∃ x, x = t[q + k] := ⟨_, rfl⟩
        have e : t.getD (q + k) 0 = x := by rw [List.getD_eq_getElem?_getD, List.getElem?_eq_getElem hkl, hx]; rfl
        have hdr : t.drop (q + k) = x :: t.drop (q + k + 1) := by rw [hx]; exact List.drop_eq_getElem_cons hkl
        clear hx
        have hxl := u8_lt x
        have hxw : IntKind.i64.wrap (x.toNat : Int) = (x.toNat : Int) := wrap64 (by omega) (by omega)
        have ha : andK .i64 (x.toNat : Int) 127 = ((x.toNat % 128 : Nat) : Int) := and127 (by omega)
        have ho := orK_shl (m := x.toNat % 128) h3 (by omega) hk5
        have hb : (128 : Nat) ^ k ≤ 128 ^ 4 := Nat.pow_le_pow_right (by omega) (by omega)
        have hmb : x.toNat % 128 * 128 ^ k ≤ 127 * 128 ^ 4 := Nat.mul_le_mul (by omega) hb
        rw [hdr, show 5 - k = (4 - k) + 1 by omega, rvGo] at h4
        by_cases c1 : x.toNat > 127
        · rw [if_pos c1] at h4
          have g3 : decide ((127 : Int) < (x.toNat : Int)) = true := by simp; omega
          repeat' first | refine SW.step good fun K hK => ?_ | refine X2 good fun K hK => ?_ | refine X3 good fun K hK => ?_ | refine SW.seqK fun J hJ => ?_ | refine SW.last good fun K hK => ?_ | (refine hK _ ?_; clear hK K) | (refine hJ _ _ (Wk.refl _) ?_; clear hJ J) | clear hK K | clear hJ J | refine SW.skip ?_ | refine SW.ret ?_ | refine SW.retT ?_ | refine SW.retB ?_ | refine SW.exit ?_ | refine SW.exitT ?_ | refine SW.exitB ?_ | refine XN ?_ | refine SW.block ?_ | refine SW.normB ?_ | refine SW.normT ?_ | refine XT ?_ | refine XF ?_ | refine XC (fun h => ?_) (fun h => ?_) | simp only [go_sem, optI, Option.getD_some, Option.getD_none, Int.reduceToNat, reduceIte, Nat.reduceEqDiff, Nat.reduceAdd, Nat.reduceMul, Nat.reduceSub, Nat.reduceLT, Nat.reduceLeDiff, reduceCtorEq, *] | refine Xs _ (fun h => ?_) (fun h => ?_) | with_reducible refine And.intro ?_ ?_
          all_goals first | omega | skip
          refine ⟨(k + 1, n + x.toNat % 128 * 128 ^ k), ⟨by simp only; omega, by simp only; omega, ?_, ?_⟩, by simp only; omega, ?_⟩
          · simp only [Nat.pow_succ]; have : x.toNat % 128 * 128 ^ k ≤ 127 * 128 ^ k := Nat.mul_le_mul (by omega) (Nat.le_refl _); omega
          · simp only; first | rw [h4, show 5 - (k + 1) = 4 - k by omega, show q + (k + 1) = q + k + 1 by omega] | rw [show 5 - (k + 1) = 4 - k by omega, show q + (k + 1) = q + k + 1 by omega]
          · (refine Xto _ _ ?_ ?_ <;> simp only [go_sem, optI, Option.getD_some, Option.getD_none, Int.reduceToNat, reduceIte, Nat.reduceEqDiff, Nat.reduceAdd, Nat.reduceMul, Nat.reduceSub, Nat.reduceLT, Nat.reduceLeDiff, reduceCtorEq, Option.some.injEq, or_true, true_or] <;> (repeat' with_reducible apply And.intro) <;> (try rfl))
            all_goals (try (rw [wrap64 (by omega) (by omega)]; try simp))
        · rw [if_neg c1] at h4
          have g3 : decide ((127 : Int) < (x.toNat : Int)) = false := by simp; omega
          have hm : x.toNat % 128 = x.toNat := Nat.mod_eq_of_lt (by omega)
          rw [hm] at ho hmb
          have hx0 : x = 0 ↔ (x.toNat : Int) = 0 := by rw [← UInt8.toNat_inj]; simp
          by_cases c2 : (x = 0 ∧ 0 < k) ∨ 1000000000 < n + x.toNat * 128 ^ k
          · rw [if_pos c2] at h4
            have hres := h4
            repeat' first | refine SW.step good fun K hK => ?_ | refine X2 good fun K hK => ?_ | refine X3 good fun K hK => ?_ | refine SW.seqK fun J hJ => ?_ | refine SW.last good fun K hK => ?_ | (refine hK _ ?_; clear hK K) | (refine hJ _ _ (Wk.refl _) ?_; clear hJ J) | clear hK K | clear hJ J | refine SW.skip ?_ | refine SW.ret ?_ | refine SW.retT ?_ | refine SW.retB ?_ | refine SW.exit ?_ | refine SW.exitT ?_ | refine SW.exitB ?_ | refine XN ?_ | refine SW.block ?_ | refine SW.normB ?_ | refine SW.normT ?_ | refine XT ?_ | refine XF ?_ | refine XC (fun h => ?_) (fun h => ?_) | simp only [go_sem, optI, Option.getD_some, Option.getD_none, Int.reduceToNat, reduceIte, Nat.reduceEqDiff, Nat.reduceAdd, Nat.reduceMul, Nat.reduceSub, Nat.reduceLT, Nat.reduceLeDiff, reduceCtorEq, *] | refine Xs _ (fun h => ?_) (fun h => ?_) | with_reducible refine And.intro ?_ ?_
            all_goals first | omega | skip
            all_goals first
              | (refine Xrp ?_; simp [resOf, Wn.le, Wn.leL, Wn.cw, C.scal, scal, rvV, rvE, rvB, hres]; done)
              | (exfalso; rw [hx0] at c2; clear hx0; simp only [decide_eq_true_eq, decide_eq_false_iff_not] at *; omega)
              | skip
          · rw [if_neg c2] at h4
            have hres := h4
            repeat' first | refine SW.step good fun K hK => ?_ | refine X2 good fun K hK => ?_ | refine X3 good fun K hK => ?_ | refine SW.seqK fun J hJ => ?_ | refine SW.last good fun K hK => ?_ | (refine hK _ ?_; clear hK K) | (refine hJ _ _ (Wk.refl _) ?_; clear hJ J) | clear hK K | clear hJ J | refine SW.skip ?_ | refine SW.ret ?_ | refine SW.retT ?_ | refine SW.retB ?_ | refine SW.exit ?_ | refine SW.exitT ?_ | refine SW.exitB ?_ | refine XN ?_ | refine SW.block ?_ | refine SW.normB ?_ | refine SW.normT ?_ | refine XT ?_ | refine XF ?_ | refine XC (fun h => ?_) (fun h => ?_) | simp only [go_sem, optI, Option.getD_some, Option.getD_none, Int.reduceToNat, reduceIte, Nat.reduceEqDiff, Nat.reduceAdd, Nat.reduceMul, Nat.reduceSub, Nat.reduceLT, Nat.reduceLeDiff, reduceCtorEq, *] | refine Xs _ (fun h => ?_) (fun h => ?_) | with_reducible refine And.intro ?_ ?_
            all_goals first | omega | skip
            all_goals first
              | (exfalso; rw [hx0] at c2; clear hx0; simp only [decide_eq_true_eq, decide_eq_false_iff_not] at *; omega)
              | (rw [wrap64 (x := (((q + k : Nat) : Int) + 1)) (by omega) (by omega)]; (refine Xrp ?_; simp [resOf, Wn.le, Wn.leL, Wn.cw, C.scal, scal, rvV, rvE, rvB, hres]; done))
              | skip
      · have hres : readVar t q = none := by
          rw [h4]
          by_cases hk5 : k = 5
          · subst hk5; rfl
          · rw [List.drop_of_length_le (by omega), show 5 - k = (4 - k) + 1 by omega]; rfl
        have hw : IntKind.i64.wrap ((q : Int) + (k : Int)) = ((q + k : Nat) : Int) := wrap64 (by omega) (by omega)
        repeat' first | refine SW.step good fun K hK => ?_ | refine X2 good fun K hK => ?_ | refine X3 good fun K hK => ?_ | refine SW.seqK fun J hJ => ?_ | refine SW.last good fun K hK => ?_ | (refine hK _ ?_; clear hK K) | (refine hJ _ _ (Wk.refl _) ?_; clear hJ J) | clear hK K | clear hJ J | refine SW.skip ?_ | refine SW.ret ?_ | refine SW.retT ?_ | refine SW.retB ?_ | refine SW.exit ?_ | refine SW.exitT ?_ | refine SW.exitB ?_ | refine XN ?_ | refine SW.block ?_ | refine SW.normB ?_ | refine SW.normT ?_ | refine XT ?_ | refine XF ?_ | refine XC (fun h => ?_) (fun h => ?_) | simp only [go_sem, optI, Option.getD_some, Option.getD_none, Int.reduceToNat, reduceIte, Nat.reduceEqDiff, Nat.reduceAdd, Nat.reduceMul, Nat.reduceSub, Nat.reduceLT, Nat.reduceLeDiff, reduceCtorEq, *] | refine Xs _ (fun h => ?_) (fun h => ?_) | with_reducible refine And.intro ?_ ?_
        all_goals first | (exfalso; simp only [decide_eq_true_eq, decide_eq_false_iff_not] at *; omega) | (refine Xrp ?_; simp [resOf, Wn.le, Wn.leL, Wn.cw, C.scal, scal, rvV, rvE, rvB, hres]; done) | skip
  · have hd : decide (0 ≤ p ∧ p ≤ t.length) = false := by simpa using hp
    have hres : readVar t p = none := by unfold readVar; rw [if_neg hp]
    refine XA good (fn := Try.f153) rfl ?_
    simp only [entry, List.getD_cons_zero, List.getD_cons_succ]
    repeat' first | refine SW.step good fun K hK => ?_ | refine X2 good fun K hK => ?_ | refine X3 good fun K hK => ?_ | refine SW.seqK fun J hJ => ?_ | refine SW.last good fun K hK => ?_ | (refine hK _ ?_; clear hK K) | (refine hJ _ _ (Wk.refl _) ?_; clear hJ J) | clear hK K | clear hJ J | refine SW.skip ?_ | refine SW.ret ?_ | refine SW.retT ?_ | refine SW.retB ?_ | refine SW.exit ?_ | refine SW.exitT ?_ | refine SW.exitB ?_ | refine XN ?_ | refine SW.block ?_ | refine SW.normB ?_ | refine SW.normT ?_ | refine XT ?_ | refine XF ?_ | refine XC (fun h => ?_) (fun h => ?_) | refine X0 ?_ | refine Xv ?_ | refine X1 (ac_in _ _ _) ?_ | simp only [go_sem, optI, Option.getD_some, Option.getD_none, Int.reduceToNat, reduceIte, Nat.reduceEqDiff, Nat.reduceAdd, Nat.reduceMul, Nat.reduceSub, Nat.reduceLT, Nat.reduceLeDiff, reduceCtorEq, *] | refine Xs _ (fun h => ?_) (fun h => ?_) | with_reducible refine And.intro ?_ ?_
    all_goals (refine Xrp ?_; simp [resOf, Wn.le, Wn.leL, Wn.cw, C.scal, scal, rvV, rvE, rvB, hres]; done)
end Go.Proofs.Ytbpfciidbgkekaa.AB
