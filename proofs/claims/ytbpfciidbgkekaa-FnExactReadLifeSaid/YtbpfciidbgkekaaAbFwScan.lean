/- Numbers and texts are read: the reference's functions; texts; the readers' methods. -/
import Derived.Test.YtbpfciidbgkekaaAbFuScan
namespace Go.Proofs.Ytbpfciidbgkekaa.AB
open Go
set_option maxRecDepth 100000
set_option linter.unusedSimpArgs false
set_option linter.unusedVariables false
set_option maxHeartbeats 2000000 in
theorem ac_ReadVar' (t : List UInt8) (p : Int) (ht : t.length ≤ 4611686018427387904) : AC Try.prog 129 [vS t, vI p] (.tup [vI (rvV t p), vI (rvE t p), vB (rvB t p)]) [] := by
  by_cases hp : 0 ≤ p ∧ p ≤ t.length
  · obtain ⟨q, rfl⟩ := Int.eq_ofNat_of_zero_le hp.1
    have hq : q ≤ t.length := by omega
    have hd : decide (0 ≤ (q : Int) ∧ (q : Int) ≤ t.length) = true := by simpa using hp
    refine XA good (fn := Try.f129) rfl ?_
    simp only [entry, List.getD_cons_zero, List.getD_cons_succ]
    repeat' first | refine SW.step good fun K hK => ?_ | refine X2 good fun K hK => ?_ | refine X3 good fun K hK => ?_ | refine SW.seqK fun J hJ => ?_ | refine SW.last good fun K hK => ?_ | (refine hK _ ?_; clear hK K) | (refine hJ _ _ (Wk.refl _) ?_; clear hJ J) | clear hK K | clear hJ J | refine SW.skip ?_ | refine SW.ret ?_ | refine SW.retT ?_ | refine SW.retB ?_ | refine SW.exit ?_ | refine SW.exitT ?_ | refine SW.exitB ?_ | refine XN ?_ | refine SW.block ?_ | refine SW.normB ?_ | refine SW.normT ?_ | refine XT ?_ | refine XF ?_ | refine XC (fun h => ?_) (fun h => ?_) | refine X0 ?_ | refine Xv ?_ | refine X1 (ac_in' _ _ _) ?_ | simp only [go_sem, optI, Option.getD_some, Option.getD_none, Int.reduceToNat, reduceIte, Nat.reduceEqDiff, Nat.reduceAdd, Nat.reduceMul, Nat.reduceSub, Nat.reduceLT, Nat.reduceLeDiff, reduceCtorEq, *] | refine Xs _ (fun h => ?_) (fun h => ?_) | with_reducible refine And.intro ?_ ?_
    refine SW.loopTo (α := Nat) (fun k => ⟨sl [(0, vS t), (1, vI q), (7, vI (sayL ((t.drop q).take k) : Nat)), (8, vI (128 ^ k : Nat)), (9, vI (q + k : Nat))], hl []⟩) (fun k => 5 - k) 0 (fun k => k ≤ 5 ∧ q + k ≤ t.length ∧ (∀ y, y ∈ (t.drop q).take k → 127 < y.toNat) ∧ readVar t q = rvGo (5 - k) q k (sayL ((t.drop q).take k)) (t.drop (q + k))) ?_ ⟨by simp, by simpa using hq, by simp, by simp [readVar, hq, sayL]⟩ ?_
    · (refine Xto _ _ ?_ ?_ <;> simp only [go_sem, optI, Option.getD_some, Option.getD_none, Int.reduceToNat, reduceIte, Nat.reduceEqDiff, Nat.reduceAdd, Nat.reduceMul, Nat.reduceSub, Nat.reduceLT, Nat.reduceLeDiff, reduceCtorEq, Option.some.injEq, or_true, true_or] <;> (repeat' with_reducible apply And.intro) <;> (try rfl))
    · rintro k ⟨h1, h2, h3, h4⟩
      have hal : ((t.drop q).take k).length = k := by simp; omega
      have hw5 : IntKind.i64.wrap ((q : Int) + 5) = ((q + 5 : Nat) : Int) := wrap64 (by omega) (by omega)
      by_cases hk : k < 5 ∧ q + k < t.length
      · obtain ⟨hk5, hkl⟩ := hk
        have g1 : decide (((q + k : Nat) : Int) < ((q + 5 : Nat) : Int)) = true := by simp; omega
        have g2 : decide (((q + k : Nat) : Int) < (t.length : Int)) = true := by simp; omega
        obtain ⟨x, hx⟩ : ∃ x, x = t[q + k] := ⟨_, rfl⟩
        have e : t.getD (q + k) 0 = x := by rw [List.getD_eq_getElem?_getD, List.getElem?_eq_getElem hkl, hx]; rfl
        have hdr : t.drop (q + k) = x :: t.drop (q + k + 1) := by rw [hx]; exact List.drop_eq_getElem_cons hkl
        have htk : (t.drop q).take (k + 1) = (t.drop q).take k ++ [x] := by
          rw [List.take_add_one, List.getElem?_drop, List.getElem?_eq_getElem hkl, hx]; rfl
        clear hx
        have hxl := u8_lt x
        have hxw : IntKind.i64.wrap (x.toNat : Int) = (x.toNat : Int) := wrap64 (by omega) (by omega)
        have hrem : ((x.toNat : Int).tmod 128) = ((x.toNat % 128 : Nat) : Int) := by rw [Int.tmod_eq_emod_of_nonneg (by omega)]; omega
        generalize ha : (t.drop q).take k = a at *
        have hb : (128 : Nat) ^ k ≤ 128 ^ 4 := Nat.pow_le_pow_right (by omega) (by omega)
        have hmb : x.toNat % 128 * 128 ^ k ≤ 127 * 128 ^ 4 := Nat.mul_le_mul (by omega) hb
        have hsl := sayL_lt a
        rw [hal] at hsl
        have hsa := sayL_app a x
        rw [hal] at hsa
        have hmul : IntKind.i64.wrap (((x.toNat % 128 : Nat) : Int) * ((128 ^ k : Nat) : Int)) = ((x.toNat % 128 * 128 ^ k : Nat) : Int) := by
          rw [← Int.natCast_mul]; exact wrap64 (by omega) (by omega)
        have hadd : IntKind.i64.wrap ((sayL a : Int) + ((x.toNat % 128 * 128 ^ k : Nat) : Int)) = ((sayL (a ++ [x]) : Nat) : Int) := by
          rw [hsa, Int.natCast_add]; exact wrap64 (by omega) (by omega)
        have hsc : IntKind.i64.wrap (((128 ^ k : Nat) : Int) * 128) = ((128 ^ (k + 1) : Nat) : Int) := by
          rw [Nat.pow_succ, Int.natCast_mul]; exact wrap64 (by omega) (by omega)
        have hi1 : IntKind.i64.wrap (((q + k : Nat) : Int) + 1) = ((q + k + 1 : Nat) : Int) := by rw [wrap64 (by omega) (by omega)]; omega
        rw [hdr, show 5 - k = (4 - k) + 1 by omega, rvGo] at h4
        by_cases c1 : x.toNat > 127
        · rw [if_pos c1] at h4
          have g3 : decide ((x.toNat : Int) < 128) = false := by simp; omega
          repeat' first | refine SW.step good fun K hK => ?_ | refine X2 good fun K hK => ?_ | refine X3 good fun K hK => ?_ | refine SW.seqK fun J hJ => ?_ | refine SW.last good fun K hK => ?_ | (refine hK _ ?_; clear hK K) | (refine hJ _ _ (Wk.refl _) ?_; clear hJ J) | clear hK K | clear hJ J | refine SW.skip ?_ | refine SW.ret ?_ | refine SW.retT ?_ | refine SW.retB ?_ | refine SW.exit ?_ | refine SW.exitT ?_ | refine SW.exitB ?_ | refine XN ?_ | refine SW.block ?_ | refine SW.normB ?_ | refine SW.normT ?_ | refine XT ?_ | refine XF ?_ | refine XC (fun h => ?_) (fun h => ?_) | simp only [go_sem, optI, Option.getD_some, Option.getD_none, Int.reduceToNat, reduceIte, Nat.reduceEqDiff, Nat.reduceAdd, Nat.reduceMul, Nat.reduceSub, Nat.reduceLT, Nat.reduceLeDiff, reduceCtorEq, *] | refine Xs _ (fun h => ?_) (fun h => ?_) | with_reducible refine And.intro ?_ ?_
          all_goals first | omega | skip
          refine ⟨k + 1, ⟨by omega, by omega, ?_, ?_⟩, by omega, ?_⟩
          · rw [htk]; intro y hy
            rcases List.mem_append.1 hy with hy | hy
            · exact h3 y hy
            · simp at hy; subst hy; omega
          · rw [htk, hsa, show 5 - (k + 1) = 4 - k by omega, show q + (k + 1) = q + k + 1 by omega]
            try (first | exact h4 | rfl)
          · (refine Xto _ _ ?_ ?_ <;> simp only [go_sem, optI, Option.getD_some, Option.getD_none, Int.reduceToNat, reduceIte, Nat.reduceEqDiff, Nat.reduceAdd, Nat.reduceMul, Nat.reduceSub, Nat.reduceLT, Nat.reduceLeDiff, reduceCtorEq, Option.some.injEq, or_true, true_or] <;> (repeat' with_reducible apply And.intro) <;> (try rfl))
            all_goals first | (rw [htk, hsa]; done) | rfl | skip
        · rw [if_neg c1] at h4
          have g3 : decide ((x.toNat : Int) < 128) = true := by simp; omega
          have hn : sayL a + x.toNat * 128 ^ k = sayL (a ++ [x]) := by rw [hsa, Nat.mod_eq_of_lt (by omega)]
          rw [hn] at h4
          have hcut : (t.drop q).take (q + k + 1 - q) = a ++ [x] := by rw [show q + k + 1 - q = k + 1 by omega, htk]
          have hsay := varN_say a x h3 (by omega)
          have hnb : sayL (a ++ [x]) ≤ 9223372036854775807 := by rw [hsa]; omega
          have hvar := ac_l01Var (sayL (a ++ [x])) hnb
          by_cases c3 : 1000000000 < sayL (a ++ [x])
          · rw [if_pos (.inr c3)] at h4
            have hres := h4
            have g4 : decide ((1000000000 : Int) < ((sayL (a ++ [x]) : Nat) : Int)) = true := by simp; omega
            clear hsay hcut hsa hn
            repeat' first | refine SW.step good fun K hK => ?_ | refine X2 good fun K hK => ?_ | refine X3 good fun K hK => ?_ | refine SW.seqK fun J hJ => ?_ | refine SW.last good fun K hK => ?_ | (refine hK _ ?_; clear hK K) | (refine hJ _ _ (Wk.refl _) ?_; clear hJ J) | clear hK K | clear hJ J | refine SW.skip ?_ | refine SW.ret ?_ | refine SW.retT ?_ | refine SW.retB ?_ | refine SW.exit ?_ | refine SW.exitT ?_ | refine SW.exitB ?_ | refine XN ?_ | refine SW.block ?_ | refine SW.normB ?_ | refine SW.normT ?_ | refine XT ?_ | refine XF ?_ | refine XC (fun h => ?_) (fun h => ?_) | simp only [go_sem, optI, Option.getD_some, Option.getD_none, Int.reduceToNat, reduceIte, Nat.reduceEqDiff, Nat.reduceAdd, Nat.reduceMul, Nat.reduceSub, Nat.reduceLT, Nat.reduceLeDiff, reduceCtorEq, *] | refine Xs _ (fun h => ?_) (fun h => ?_) | with_reducible refine And.intro ?_ ?_
            all_goals first | omega | skip
            all_goals first | (exfalso; rw [Bool.not_eq_true'] at h; exact of_decide_eq_false h (of_decide_eq_true g5)) | (exfalso; rw [Bool.not_eq_false'] at h; exact of_decide_eq_false g5 (of_decide_eq_true h)) | (exfalso; rw [g4] at h; simp at h; done) | (refine Xrp ?_; simp [resOf, Wn.le, Wn.leL, Wn.cw, C.scal, scal, rvV, rvE, rvB, hres]; done)
          · have g4 : decide ((1000000000 : Int) < ((sayL (a ++ [x]) : Nat) : Int)) = false := by simp; omega
            by_cases c4 : x = 0 ∧ 0 < k
            · rw [if_pos (.inl c4)] at h4
              have hres := h4
              have g5 : decide (varN (sayL (a ++ [x])) = a ++ [x]) = false := by
                rw [decide_eq_false_iff_not, hsay]
                intro q
                rcases q with q | q
                · rw [q] at hal; simp at hal; omega
                · exact q c4.1
              clear hsa hn hsay c4
              repeat' first | refine SW.step good fun K hK => ?_ | refine X2 good fun K hK => ?_ | refine X3 good fun K hK => ?_ | refine SW.seqK fun J hJ => ?_ | refine SW.last good fun K hK => ?_ | (refine hK _ ?_; clear hK K) | (refine hJ _ _ (Wk.refl _) ?_; clear hJ J) | clear hK K | clear hJ J | refine SW.skip ?_ | refine SW.ret ?_ | refine SW.retT ?_ | refine SW.retB ?_ | refine SW.exit ?_ | refine SW.exitT ?_ | refine SW.exitB ?_ | refine XN ?_ | refine SW.block ?_ | refine SW.normB ?_ | refine SW.normT ?_ | refine XT ?_ | refine XF ?_ | refine XC (fun h => ?_) (fun h => ?_) | refine X0 ?_ | refine Xv ?_ | refine X1 (hvar) ?_ | simp only [go_sem, optI, Option.getD_some, Option.getD_none, Int.reduceToNat, reduceIte, Nat.reduceEqDiff, Nat.reduceAdd, Nat.reduceMul, Nat.reduceSub, Nat.reduceLT, Nat.reduceLeDiff, reduceCtorEq, *] | refine Xs _ (fun h => ?_) (fun h => ?_) | with_reducible refine And.intro ?_ ?_

              all_goals first | omega | skip
              all_goals first | (exfalso; rw [Bool.not_eq_true'] at h; exact of_decide_eq_false h (of_decide_eq_true g5)) | (exfalso; rw [Bool.not_eq_false'] at h; exact of_decide_eq_false g5 (of_decide_eq_true h)) | (exfalso; rw [g4] at h; simp at h; done) | (refine Xrp ?_; simp [resOf, Wn.le, Wn.leL, Wn.cw, C.scal, scal, rvV, rvE, rvB, hres]; done)
            · rw [if_neg (by rw [not_or]; exact ⟨c4, c3⟩)] at h4
              have hres := h4
              have g5 : decide (varN (sayL (a ++ [x])) = a ++ [x]) = true := by
                rw [decide_eq_true_eq, hsay]
                by_cases q : x = 0
                · left
                  have : k = 0 := by
                    by_cases k0 : 0 < k
                    · exact absurd ⟨q, k0⟩ c4
                    · omega
                  rw [this] at hal; exact List.eq_nil_of_length_eq_zero hal
                · exact .inr q
              clear hsa hn hsay c4
              repeat' first | refine SW.step good fun K hK => ?_ | refine X2 good fun K hK => ?_ | refine X3 good fun K hK => ?_ | refine SW.seqK fun J hJ => ?_ | refine SW.last good fun K hK => ?_ | (refine hK _ ?_; clear hK K) | (refine hJ _ _ (Wk.refl _) ?_; clear hJ J) | clear hK K | clear hJ J | refine SW.skip ?_ | refine SW.ret ?_ | refine SW.retT ?_ | refine SW.retB ?_ | refine SW.exit ?_ | refine SW.exitT ?_ | refine SW.exitB ?_ | refine XN ?_ | refine SW.block ?_ | refine SW.normB ?_ | refine SW.normT ?_ | refine XT ?_ | refine XF ?_ | refine XC (fun h => ?_) (fun h => ?_) | refine X0 ?_ | refine Xv ?_ | refine X1 (hvar) ?_ | simp only [go_sem, optI, Option.getD_some, Option.getD_none, Int.reduceToNat, reduceIte, Nat.reduceEqDiff, Nat.reduceAdd, Nat.reduceMul, Nat.reduceSub, Nat.reduceLT, Nat.reduceLeDiff, reduceCtorEq, *] | refine Xs _ (fun h => ?_) (fun h => ?_) | with_reducible refine And.intro ?_ ?_
              all_goals first | omega | skip
              all_goals first | (exfalso; rw [Bool.not_eq_true'] at h; exact of_decide_eq_false h (of_decide_eq_true g5)) | (exfalso; rw [Bool.not_eq_false'] at h; exact of_decide_eq_false g5 (of_decide_eq_true h)) | (exfalso; rw [g4] at h; simp at h; done) | (refine Xrp ?_; simp [resOf, Wn.le, Wn.leL, Wn.cw, C.scal, scal, rvV, rvE, rvB, hres]; done)
      · have hres : readVar t q = none := by
          rw [h4]
          by_cases hk5 : k = 5
          · subst hk5; rfl
          · have hdn : t.drop (q + k) = [] := List.drop_of_length_le (by omega)
            rw [hdn, show 5 - k = (4 - k) + 1 by omega]; rfl
        by_cases c1 : q + k < t.length
        · have g2 : decide (((q + k : Nat) : Int) < (t.length : Int)) = true := by simp; omega
          have g1 : decide (((q + k : Nat) : Int) < ((q + 5 : Nat) : Int)) = false := by simp; omega
          repeat' first | refine SW.step good fun K hK => ?_ | refine X2 good fun K hK => ?_ | refine X3 good fun K hK => ?_ | refine SW.seqK fun J hJ => ?_ | refine SW.last good fun K hK => ?_ | (refine hK _ ?_; clear hK K) | (refine hJ _ _ (Wk.refl _) ?_; clear hJ J) | clear hK K | clear hJ J | refine SW.skip ?_ | refine SW.ret ?_ | refine SW.retT ?_ | refine SW.retB ?_ | refine SW.exit ?_ | refine SW.exitT ?_ | refine SW.exitB ?_ | refine XN ?_ | refine SW.block ?_ | refine SW.normB ?_ | refine SW.normT ?_ | refine XT ?_ | refine XF ?_ | refine XC (fun h => ?_) (fun h => ?_) | simp only [go_sem, optI, Option.getD_some, Option.getD_none, Int.reduceToNat, reduceIte, Nat.reduceEqDiff, Nat.reduceAdd, Nat.reduceMul, Nat.reduceSub, Nat.reduceLT, Nat.reduceLeDiff, reduceCtorEq, *] | refine Xs _ (fun h => ?_) (fun h => ?_) | with_reducible refine And.intro ?_ ?_
          all_goals (refine Xrp ?_; simp [resOf, Wn.le, Wn.leL, Wn.cw, C.scal, scal, rvV, rvE, rvB, hres])
        · have g2 : decide (((q + k : Nat) : Int) < (t.length : Int)) = false := by simp; omega
          repeat' first | refine SW.step good fun K hK => ?_ | refine X2 good fun K hK => ?_ | refine X3 good fun K hK => ?_ | refine SW.seqK fun J hJ => ?_ | refine SW.last good fun K hK => ?_ | (refine hK _ ?_; clear hK K) | (refine hJ _ _ (Wk.refl _) ?_; clear hJ J) | clear hK K | clear hJ J | refine SW.skip ?_ | refine SW.ret ?_ | refine SW.retT ?_ | refine SW.retB ?_ | refine SW.exit ?_ | refine SW.exitT ?_ | refine SW.exitB ?_ | refine XN ?_ | refine SW.block ?_ | refine SW.normB ?_ | refine SW.normT ?_ | refine XT ?_ | refine XF ?_ | refine XC (fun h => ?_) (fun h => ?_) | simp only [go_sem, optI, Option.getD_some, Option.getD_none, Int.reduceToNat, reduceIte, Nat.reduceEqDiff, Nat.reduceAdd, Nat.reduceMul, Nat.reduceSub, Nat.reduceLT, Nat.reduceLeDiff, reduceCtorEq, *] | refine Xs _ (fun h => ?_) (fun h => ?_) | with_reducible refine And.intro ?_ ?_
          all_goals (refine Xrp ?_; simp [resOf, Wn.le, Wn.leL, Wn.cw, C.scal, scal, rvV, rvE, rvB, hres])
  · have hd : decide (0 ≤ p ∧ p ≤ t.length) = false := by simpa using hp
    have hres : readVar t p = none := by unfold readVar; rw [if_neg hp]
    refine XA good (fn := Try.f129) rfl ?_
    simp only [entry, List.getD_cons_zero, List.getD_cons_succ]
    repeat' first | refine SW.step good fun K hK => ?_ | refine X2 good fun K hK => ?_ | refine X3 good fun K hK => ?_ | refine SW.seqK fun J hJ => ?_ | refine SW.last good fun K hK => ?_ | (refine hK _ ?_; clear hK K) | (refine hJ _ _ (Wk.refl _) ?_; clear hJ J) | clear hK K | clear hJ J | refine SW.skip ?_ | refine SW.ret ?_ | refine SW.retT ?_ | refine SW.retB ?_ | refine SW.exit ?_ | refine SW.exitT ?_ | refine SW.exitB ?_ | refine XN ?_ | refine SW.block ?_ | refine SW.normB ?_ | refine SW.normT ?_ | refine XT ?_ | refine XF ?_ | refine XC (fun h => ?_) (fun h => ?_) | refine X0 ?_ | refine Xv ?_ | refine X1 (ac_in' _ _ _) ?_ | simp only [go_sem, optI, Option.getD_some, Option.getD_none, Int.reduceToNat, reduceIte, Nat.reduceEqDiff, Nat.reduceAdd, Nat.reduceMul, Nat.reduceSub, Nat.reduceLT, Nat.reduceLeDiff, reduceCtorEq, *] | refine Xs _ (fun h => ?_) (fun h => ?_) | with_reducible refine And.intro ?_ ?_
    all_goals (refine Xrp ?_; simp [resOf, Wn.le, Wn.leL, Wn.cw, C.scal, scal, rvV, rvE, rvB, hres])
end Go.Proofs.Ytbpfciidbgkekaa.AB
