/- A word is read. -/
import Derived.Test.YtoemclhjcbcjaaaGreatAbFuScan
import Derived.Test.YtoemclhjcbcjaaaGreatAbBbPure
namespace Go.Proofs.YtoemclhjcbcjaaaGreat.AB
open Go
set_option maxRecDepth 100000
set_option linter.unusedSimpArgs false
set_option linter.unusedVariables false
set_option maxHeartbeats 2000000 in
theorem ac_ReadVar' (t : List UInt8) (p : Int) (ht : t.length ≤ 4611686018427387904) : AC Tryz.prog 56 [vS t, vI p] (.tup [vI (rvV t p), vI (rvE t p), vB (rvB t p)]) [] := by
  by_cases hp : 0 ≤ p ∧ p ≤ t.length
  · obtain ⟨q, rfl⟩ := Int.eq_ofNat_of_zero_le hp.1
    have hq : q ≤ t.length := by omega
    have hd : decide (0 ≤ (q : Int) ∧ (q : Int) ≤ t.length) = true := by simpa using hp
    refine XA good (fn := Tryz.f56) rfl ?_
    simp only [entry, List.getD_cons_zero, List.getD_cons_succ]
    repeat' first | refine SW.step good fun K hK => ?_ | refine X2 good fun K hK => ?_ | refine X3 good fun K hK => ?_ | refine SW.seqK fun J hJ => ?_ | refine SW.last good fun K hK => ?_ | (refine hK _ ?_; clear hK K) | (refine hJ _ _ (Wk.refl _) ?_; clear hJ J) | clear hK K | clear hJ J | refine SW.skip ?_ | refine SW.ret ?_ | refine SW.retT ?_ | refine SW.retB ?_ | refine SW.exit ?_ | refine SW.exitT ?_ | refine SW.exitB ?_ | refine XN ?_ | refine SW.block ?_ | refine SW.normB ?_ | refine SW.normT ?_ | refine XT ?_ | refine XF ?_ | refine XC (fun h => ?_) (fun h => ?_) | refine X0 ?_ | refine Xv ?_ | refine X1 (ac_in' _ _ _) ?_ | simp only [go_sem, optI, Option.getD_some, Option.getD_none, Int.reduceToNat, reduceIte, Nat.reduceEqDiff, Nat.reduceAdd, Nat.reduceMul, Nat.reduceSub, Nat.reduceLT, Nat.reduceLeDiff, reduceCtorEq, *] | refine Xs _ (fun h => ?_) (fun h => ?_) | with_reducible refine And.intro ?_ ?_
    refine SW.loopTo (α := Nat) (fun k => ⟨sl [(0, vS t), (1, vI q), (7, vI (sayL ((t.drop q).take k) : Nat)), (8, vI (128 ^ k : Nat)), (9, vI (q + k : Nat))], hl []⟩) (fun k => 5 - k) 0 (fun k => k ≤ 5 ∧ q + k ≤ t.length ∧ (∀ y, y ∈ (t.drop q).take k → 127 < y.toNat) ∧ readVar t q = rvGo (5 - k) q k (sayL ((t.drop q).take k)) (t.drop (q + k))) ?_ ⟨by simp, by simpa using hq, by simp, by simp [readVar, hq, sayL]⟩ ?_
    · (refine Xto _ _ ?_ ?_ <;> simp only [go_sem, optI, Option.getD_some, Option.getD_none, Int.reduceToNat, reduceIte, Nat.reduceEqDiff, Nat.reduceAdd, Nat.reduceMul, Nat.reduceSub, Nat.reduceLT, Nat.reduceLeDiff, reduceCtorEq, Option.some.injEq, or_true, true_or] <;> (repeat' with_reducible apply And.intro) <;> (try rfl))
    · rintro k ⟨h1, h2, h3, h4⟩
      have hal : ((t.drop q).take k).length = k := by simp; omega
      have hw5 : IntKind.i64.wrap ((q : Int) + 5) = ((q + 5 : Nat) : Int) := wrap64 (by omega) (by omega)
      by_cases hk : k < 5 ∧ q + k < t.length
      · obtain ⟨hk5, hkl⟩ := hk
        have g1 : decide (((q + k : Nat) : Int) < ((q + 5 : Nat) : Int)) = true := by simp; omega
        have g2 : decide (((q + k : Nat) : Int) < (t.length : Int)) = true := by simp; omega
        obtain ⟨x, hx⟩ : ∃ x, x = t[q + k] := ⟨_, rfl⟩
        have e : t.getD (q + k) 0 = x := by rw [List.getD_eq_getElem?_getD, List.getElem?_eq_getElem hkl, hx]; rfl
        have hdr : t.drop (q + k) = x :: t.drop (q + k + 1) := by rw [hx]; exact List.drop_eq_getElem_cons hkl
        have htk : (t.drop q).take (k + 1) = (t.drop q).take k ++ [x] := by
          rw [List.take_add_one, List.getElem?_drop, List.getElem?_eq_getElem hkl, hx]; rfl
        clear hx
        have hxl := u8_lt x
        have hxw : IntKind.i64.wrap (x.toNat : Int) = (x.toNat : Int) := wrap64 (by omega) (by omega)
        have hrem : ((x.toNat : Int).tmod 128) = ((x.toNat % 128 : Nat) : Int) := by rw [Int.tmod_eq_emod_of_nonneg (by omega)]; omega
        generalize ha : (t.drop q).take k = a at *
        have hb : (128 : Nat) ^ k ≤ 128 ^ 4 := Nat.pow_le_pow_right (by omega) (by omega)
        have hmb : x.toNat % 128 * 128 ^ k ≤ 127 * 128 ^ 4 := Nat.mul_le_mul (by omega) hb
        have hsl := sayL_lt a
        rw [hal] at hsl
        have hsa := sayL_app a x
        rw [hal] at hsa
        have hmul : IntKind.i64.wrap (((x.toNat % 128 : Nat) : Int) * ((128 ^ k : Nat) : Int)) = ((x.toNat % 128 * 128 ^ k : Nat) : Int) := by
          rw [← Int.natCast_mul]; exact wrap64 (by omega) (by omega)
        have hadd : IntKind.i64.wrap ((sayL a : Int) + ((x.toNat % 128 * 128 ^ k : Nat) : Int)) = ((sayL (a ++ [x]) : Nat) : Int) := by
          rw [hsa, Int.natCast_add]; exact wrap64 (by omega) (by omega)
        have hsc : IntKind.i64.wrap (((128 ^ k : Nat) : Int) * 128) = ((128 ^ (k + 1) : Nat) : Int) := by
          rw [Nat.pow_succ, Int.natCast_mul]; exact wrap64 (by omega) (by omega)
        have hi1 : IntKind.i64.wrap (((q + k : Nat) : Int) + 1) = ((q + k + 1 : Nat) : Int) := by rw [wrap64 (by omega) (by omega)]; omega
        rw [hdr, show 5 - k = (4 - k) + 1 by omega, rvGo] at h4
        by_cases c1 : x.toNat > 127
        · rw [if_pos c1] at h4
          have g3 : decide ((x.toNat : Int) < 128) = false := by simp; omega
          repeat' first | refine SW.step good fun K hK => ?_ | refine X2 good fun K hK => ?_ | refine X3 good fun K hK => ?_ | refine SW.seqK fun J hJ => ?_ | refine SW.last good fun K hK => ?_ | (refine hK _ ?_; clear hK K) | (refine hJ _ _ (Wk.refl _) ?_; clear hJ J) | clear hK K | clear hJ J | refine SW.skip ?_ | refine SW.ret ?_ | refine SW.retT ?_ | refine SW.retB ?_ | refine SW.exit ?_ | refine SW.exitT ?_ | refine SW.exitB ?_ | refine XN ?_ | refine SW.block ?_ | refine SW.normB ?_ | refine SW.normT ?_ | refine XT ?_ | refine XF ?_ | refine XC (fun h => ?_) (fun h => ?_) | simp only [go_sem, optI, Option.getD_some, Option.getD_none, Int.reduceToNat, reduceIte, Nat.reduceEqDiff, Nat.reduceAdd, Nat.reduceMul, Nat.reduceSub, Nat.reduceLT, Nat.reduceLeDiff, reduceCtorEq, *] | refine Xs _ (fun h => ?_) (fun h => ?_) | with_reducible refine And.intro ?_ ?_
          all_goals first | omega | skip
          refine ⟨k + 1, ⟨by omega, by omega, ?_, ?_⟩, by omega, ?_⟩
          · rw [htk]; intro y hy
            rcases List.mem_append.1 hy with hy | hy
            · exact h3 y hy
            · simp at hy; subst hy; omega
          · rw [htk, hsa, show 5 - (k + 1) = 4 - k by omega, show q + (k + 1) = q + k + 1 by omega]
            try (first | exact h4 | rfl)
          · (refine Xto _ _ ?_ ?_ <;> simp only [go_sem, optI, Option.getD_some, Option.getD_none, Int.reduceToNat, reduceIte, Nat.reduceEqDiff, Nat.reduceAdd, Nat.reduceMul, Nat.reduceSub, Nat.reduceLT, Nat.reduceLeDiff, reduceCtorEq, Option.some.injEq, or_true, true_or] <;> (repeat' with_reducible apply And.intro) <;> (try rfl))
            all_goals first | (rw [htk, hsa]; done) | rfl | skip
        · rw [if_neg c1] at h4
          have g3 : decide ((x.toNat : Int) < 128) = true := by simp; omega
          have hn : sayL a + x.toNat * 128 ^ k = sayL (a ++ [x]) := by rw [hsa, Nat.mod_eq_of_lt (by omega)]
          rw [hn] at h4
          have hcut : (t.drop q).take (q + k + 1 - q) = a ++ [x] := by rw [show q + k + 1 - q = k + 1 by omega, htk]
          have hsay := varN_say a x h3 (by omega)
          have hnb : sayL (a ++ [x]) ≤ 9223372036854775807 := by rw [hsa]; omega
          have hvar := ac_l01Var (sayL (a ++ [x])) hnb
          by_cases c3 : 1000000000 < sayL (a ++ [x])
          · rw [if_pos (.inr c3)] at h4
            have hres := h4
            have g4 : decide ((1000000000 : Int) < ((sayL (a ++ [x]) : Nat) : Int)) = true := by simp; omega
            clear hsay hcut hsa hn
            repeat' first | refine SW.step good fun K hK => ?_ | refine X2 good fun K hK => ?_ | refine X3 good fun K hK => ?_ | refine SW.seqK fun J hJ => ?_ | refine SW.last good fun K hK => ?_ | (refine hK _ ?_; clear hK K) | (refine hJ _ _ (Wk.refl _) ?_; clear hJ J) | clear hK K | clear hJ J | refine SW.skip ?_ | refine SW.ret ?_ | refine SW.retT ?_ | refine SW.retB ?_ | refine SW.exit ?_ | refine SW.exitT ?_ | refine SW.exitB ?_ | refine XN ?_ | refine SW.block ?_ | refine SW.normB ?_ | refine SW.normT ?_ | refine XT ?_ | refine XF ?_ | refine XC (fun h => ?_) (fun h => ?_) | simp only [go_sem, optI, Option.getD_some, Option.getD_none, Int.reduceToNat, reduceIte, Nat.reduceEqDiff, Nat.reduceAdd, Nat.reduceMul, Nat.reduceSub, Nat.reduceLT, Nat.reduceLeDiff, reduceCtorEq, *] | refine Xs _ (fun h => ?_) (fun h => ?_) | with_reducible refine And.intro ?_ ?_
            all_goals first | omega | skip
            all_goals first | (exfalso; rw [Bool.not_eq_true'] at h; exact of_decide_eq_false h (of_decide_eq_true g5)) | (exfalso; rw [Bool.not_eq_false'] at h; exact of_decide_eq_false g5 (of_decide_eq_true h)) | (exfalso; rw [g4] at h; simp at h; done) | (refine Xrp ?_; simp [resOf, Wn.le, Wn.leL, Wn.cw, C.scal, scal, rvV, rvE, rvB, hres]; done)
          · have g4 : decide ((1000000000 : Int) < ((sayL (a ++ [x]) : Nat) : Int)) = false := by simp; omega
            by_cases c4 : x = 0 ∧ 0 < k
            · rw [if_pos (.inl c4)] at h4
              have hres := h4
              have g5 : decide (varN (sayL (a ++ [x])) = a ++ [x]) = false := by
                rw [decide_eq_false_iff_not, hsay]
                intro q
                rcases q with q | q
                · rw [q] at hal; simp at hal; omega
                · exact q c4.1
              clear hsa hn hsay c4
              repeat' first | refine SW.step good fun K hK => ?_ | refine X2 good fun K hK => ?_ | refine X3 good fun K hK => ?_ | refine SW.seqK fun J hJ => ?_ | refine SW.last good fun K hK => ?_ | (refine hK _ ?_; clear hK K) | (refine hJ _ _ (Wk.refl _) ?_; clear hJ J) | clear hK K | clear hJ J | refine SW.skip ?_ | refine SW.ret ?_ | refine SW.retT ?_ | refine SW.retB ?_ | refine SW.exit ?_ | refine SW.exitT ?_ | refine SW.exitB ?_ | refine XN ?_ | refine SW.block ?_ | refine SW.normB ?_ | refine SW.normT ?_ | refine XT ?_ | refine XF ?_ | refine XC (fun h => ?_) (fun h => ?_) | refine X0 ?_ | refine Xv ?_ | refine X1 (hvar) ?_ | simp only [go_sem, optI, Option.getD_some, Option.getD_none, Int.reduceToNat, reduceIte, Nat.reduceEqDiff, Nat.reduceAdd, Nat.reduceMul, Nat.reduceSub, Nat.reduceLT, Nat.reduceLeDiff, reduceCtorEq, *] | refine Xs _ (fun h => ?_) (fun h => ?_) | with_reducible refine And.intro ?_ ?_

              all_goals first | omega | skip
              all_goals first | (exfalso; rw [Bool.not_eq_true'] at h; exact of_decide_eq_false h (of_decide_eq_true g5)) | (exfalso; rw [Bool.not_eq_false'] at h; exact of_decide_eq_false g5 (of_decide_eq_true h)) | (exfalso; rw [g4] at h; simp at h; done) | (refine Xrp ?_; simp [resOf, Wn.le, Wn.leL, Wn.cw, C.scal, scal, rvV, rvE, rvB, hres]; done)
            · rw [if_neg (by rw [not_or]; exact ⟨c4, c3⟩)] at h4
              have hres := h4
              have g5 : decide (varN (sayL (a ++ [x])) = a ++ [x]) = true := by
                rw [decide_eq_true_eq, hsay]
                by_cases q : x = 0
                · left
                  have : k = 0 := by
                    by_cases k0 : 0 < k
                    · exact absurd ⟨q, k0⟩ c4
                    · omega
                  rw [this] at hal; exact List.eq_nil_of_length_eq_zero hal
                · exact .inr q
              clear hsa hn hsay c4
              repeat' first | refine SW.step good fun K hK => ?_ | refine X2 good fun K hK => ?_ | refine X3 good fun K hK => ?_ | refine SW.seqK fun J hJ => ?_ | refine SW.last good fun K hK => ?_ | (refine hK _ ?_; clear hK K) | (refine hJ _ _ (Wk.refl _) ?_; clear hJ J) | clear hK K | clear hJ J | refine SW.skip ?_ | refine SW.ret ?_ | refine SW.retT ?_ | refine SW.retB ?_ | refine SW.exit ?_ | refine SW.exitT ?_ | refine SW.exitB ?_ | refine XN ?_ | refine SW.block ?_ | refine SW.normB ?_ | refine SW.normT ?_ | refine XT ?_ | refine XF ?_ | refine XC (fun h => ?_) (fun h => ?_) | refine X0 ?_ | refine Xv ?_ | refine X1 (hvar) ?_ | simp only [go_sem, optI, Option.getD_some, Option.getD_none, Int.reduceToNat, reduceIte, Nat.reduceEqDiff, Nat.reduceAdd, Nat.reduceMul, Nat.reduceSub, Nat.reduceLT, Nat.reduceLeDiff, reduceCtorEq, *] | refine Xs _ (fun h => ?_) (fun h => ?_) | with_reducible refine And.intro ?_ ?_
              all_goals first | omega | skip
              all_goals first | (exfalso; rw [Bool.not_eq_true'] at h; exact of_decide_eq_false h (of_decide_eq_true g5)) | (exfalso; rw [Bool.not_eq_false'] at h; exact of_decide_eq_false g5 (of_decide_eq_true h)) | (exfalso; rw [g4] at h; simp at h; done) | (refine Xrp ?_; simp [resOf, Wn.le, Wn.leL, Wn.cw, C.scal, scal, rvV, rvE, rvB, hres]; done)
      · have hres : readVar t q = none := by
          rw [h4]
          by_cases hk5 : k = 5
          · subst hk5; rfl
          · have hdn : t.drop (q + k) = [] := List.drop_of_length_le (by omega)
            rw [hdn, show 5 - k = (4 - k) + 1 by omega]; rfl
        by_cases c1 : q + k < t.length
        · have g2 : decide (((q + k : Nat) : Int) < (t.length : Int)) = true := by simp; omega
          have g1 : decide (((q + k : Nat) : Int) < ((q + 5 : Nat) : Int)) = false := by simp; omega
          repeat' first | refine SW.step good fun K hK => ?_ | refine X2 good fun K hK => ?_ | refine X3 good fun K hK => ?_ | refine SW.seqK fun J hJ => ?_ | refine SW.last good fun K hK => ?_ | (refine hK _ ?_; clear hK K) | (refine hJ _ _ (Wk.refl _) ?_; clear hJ J) | clear hK K | clear hJ J | refine SW.skip ?_ | refine SW.ret ?_ | refine SW.retT ?_ | refine SW.retB ?_ | refine SW.exit ?_ | refine SW.exitT ?_ | refine SW.exitB ?_ | refine XN ?_ | refine SW.block ?_ | refine SW.normB ?_ | refine SW.normT ?_ | refine XT ?_ | refine XF ?_ | refine XC (fun h => ?_) (fun h => ?_) | simp only [go_sem, optI, Option.getD_some, Option.getD_none, Int.reduceToNat, reduceIte, Nat.reduceEqDiff, Nat.reduceAdd, Nat.reduceMul, Nat.reduceSub, Nat.reduceLT, Nat.reduceLeDiff, reduceCtorEq, *] | refine Xs _ (fun h => ?_) (fun h => ?_) | with_reducible refine And.intro ?_ ?_
          all_goals (refine Xrp ?_; simp [resOf, Wn.le, Wn.leL, Wn.cw, C.scal, scal, rvV, rvE, rvB, hres])
        · have g2 : decide (((q + k : Nat) : Int) < (t.length : Int)) = false := by simp; omega
          repeat' first | refine SW.step good fun K hK => ?_ | refine X2 good fun K hK => ?_ | refine X3 good fun K hK => ?_ | refine SW.seqK fun J hJ => ?_ | refine SW.last good fun K hK => ?_ | (refine hK _ ?_; clear hK K) | (refine hJ _ _ (Wk.refl _) ?_; clear hJ J) | clear hK K | clear hJ J | refine SW.skip ?_ | refine SW.ret ?_ | refine SW.retT ?_ | refine SW.retB ?_ | refine SW.exit ?_ | refine SW.exitT ?_ | refine SW.exitB ?_ | refine XN ?_ | refine SW.block ?_ | refine SW.normB ?_ | refine SW.normT ?_ | refine XT ?_ | refine XF ?_ | refine XC (fun h => ?_) (fun h => ?_) | simp only [go_sem, optI, Option.getD_some, Option.getD_none, Int.reduceToNat, reduceIte, Nat.reduceEqDiff, Nat.reduceAdd, Nat.reduceMul, Nat.reduceSub, Nat.reduceLT, Nat.reduceLeDiff, reduceCtorEq, *] | refine Xs _ (fun h => ?_) (fun h => ?_) | with_reducible refine And.intro ?_ ?_
          all_goals (refine Xrp ?_; simp [resOf, Wn.le, Wn.leL, Wn.cw, C.scal, scal, rvV, rvE, rvB, hres])
  · have hd : decide (0 ≤ p ∧ p ≤ t.length) = false := by simpa using hp
    have hres : readVar t p = none := by unfold readVar; rw [if_neg hp]
    refine XA good (fn := Tryz.f56) rfl ?_
    simp only [entry, List.getD_cons_zero, List.getD_cons_succ]
    repeat' first | refine SW.step good fun K hK => ?_ | refine X2 good fun K hK => ?_ | refine X3 good fun K hK => ?_ | refine SW.seqK fun J hJ => ?_ | refine SW.last good fun K hK => ?_ | (refine hK _ ?_; clear hK K) | (refine hJ _ _ (Wk.refl _) ?_; clear hJ J) | clear hK K | clear hJ J | refine SW.skip ?_ | refine SW.ret ?_ | refine SW.retT ?_ | refine SW.retB ?_ | refine SW.exit ?_ | refine SW.exitT ?_ | refine SW.exitB ?_ | refine XN ?_ | refine SW.block ?_ | refine SW.normB ?_ | refine SW.normT ?_ | refine XT ?_ | refine XF ?_ | refine XC (fun h => ?_) (fun h => ?_) | refine X0 ?_ | refine Xv ?_ | refine X1 (ac_in' _ _ _) ?_ | simp only [go_sem, optI, Option.getD_some, Option.getD_none, Int.reduceToNat, reduceIte, Nat.reduceEqDiff, Nat.reduceAdd, Nat.reduceMul, Nat.reduceSub, Nat.reduceLT, Nat.reduceLeDiff, reduceCtorEq, *] | refine Xs _ (fun h => ?_) (fun h => ?_) | with_reducible refine And.intro ?_ ?_
    all_goals (refine Xrp ?_; simp [resOf, Wn.le, Wn.leL, Wn.cw, C.scal, scal, rvV, rvE, rvB, hres])
end Go.Proofs.YtoemclhjcbcjaaaGreat.AB
namespace Go.Proofs.YtoemclhjcbcjaaaGreat.AB
open Go
set_option maxRecDepth 100000
set_option linter.unusedSimpArgs false
set_option linter.unusedVariables false
theorem readNs_snoc {t : List UInt8} : ∀ (j k : Nat) (p : Int) (l : List Int) (e : Int), readNs t j p = some (l, e) → readNs t (j + k) p = (match readNs t k e with | some (l', e') => some (l ++ l', e') | none => none)
  | 0, k, p, l, e, h => by
    simp only [readNs, Option.some.injEq, Prod.mk.injEq] at h
    obtain ⟨rfl, rfl⟩ := h
    rw [Nat.zero_add]
    cases readNs t k p with
    | none => rfl
    | some x => rfl
  | j + 1, k, p, l, e, h => by
    simp only [readNs] at h
    rw [show j + 1 + k = (j + k) + 1 by omega, readNs]
    split at h
    · rename_i n e' hr
      split at h
      · rename_i l' e'' hq
        simp only [Option.some.injEq, Prod.mk.injEq] at h
        obtain ⟨rfl, rfl⟩ := h
        rw [readNs_snoc j k _ _ _ hq]
        cases readNs t k e'' with
        | none => rfl
        | some x => rfl
      · cases h
    · cases h
theorem readNs_step {t : List UInt8} {j c : Nat} {p : Int} {l : List Int} {e : Int} (h : readNs t j p = some (l, e)) (hj : j < c) : readNs t c p = (match readVar t e with
    | some (n, e') => (match readNs t (c - j - 1) e' with | some (l', e'') => some (l ++ (n : Int) :: l', e'') | none => none)
    | none => none) := by
  rw [show c = j + (c - j - 1 + 1) by omega, readNs_snoc j _ _ _ _ h, readNs, show j + (c - j - 1 + 1) - j - 1 = c - j - 1 by omega]
  cases readVar t e with
  | none => rfl
  | some x =>
    obtain ⟨n, e'⟩ := x
    simp only
    cases readNs t (c - j - 1) e' with
    | none => rfl
    | some y => rfl
theorem readNs_more {t : List UInt8} {j : Nat} {p : Int} {l : List Int} {e : Int} {n e' : Nat} (h : readNs t j p = some (l, e)) (hr : readVar t e = some (n, e')) : readNs t (j + 1) p = some (l ++ [(n : Int)], (e' : Int)) := by
  rw [readNs_snoc j 1 _ _ _ h, readNs, hr]; rfl
theorem readNs_none {t : List UInt8} {j c : Nat} {p : Int} {l : List Int} {e : Int} (h : readNs t j p = some (l, e)) (hj : j < c) (hr : readVar t e = none) : readNs t c p = none := by
  rw [readNs_step h hj, hr]
theorem readNs_split {t : List UInt8} {c j : Nat} {p : Int} {l : List Int} {e : Int} (h : readNs t c p = some (l, e)) (hj : j ≤ c) : ∃ l1 e1, readNs t j p = some (l1, e1) := by
  cases hq : readNs t j p with
  | some x => exact ⟨x.1, x.2, rfl⟩
  | none =>
    exfalso
    have : ∀ (j k : Nat) (p : Int), readNs t j p = none → readNs t (j + k) p = none := by
      intro j
      induction j with
      | zero => intro k p h; simp [readNs] at h
      | succ j ih =>
        intro k p h
        rw [show j + 1 + k = (j + k) + 1 by omega]
        simp only [readNs] at h ⊢
        cases hr : readVar t p with
        | none => rfl
        | some ne =>
          rw [hr] at h; simp only at h ⊢
          cases hq : readNs t j ne.2 with
          | none => rw [ih k _ hq]
          | some x => rw [hq] at h; cases h
    have := this j (c - j) p hq
    rw [show j + (c - j) = c by omega, h] at this
    cases this
set_option maxHeartbeats 1000000 in
theorem ac_readVars (t : List UInt8) (p : Int) (c : Nat) (ht : t.length ≤ 4611686018427387904) (hc : c ≤ 1000) (l : List Int) (e : Int) (hle : readNs t c p = some (l, e)) :
    AC Tryz.prog 55 [vS t, vI p, vI c] (.tup [.own (.r 0), vI e, vB true]) [.row false 3 1 (l.map intC)] := by
  refine XA good (fn := Tryz.f55) rfl ?_
  simp only [entry, List.getD_cons_zero, List.getD_cons_succ]
  repeat' first | refine SW.step good fun K hK => ?_ | refine X2 good fun K hK => ?_ | refine X3 good fun K hK => ?_ | refine SW.seqK fun J hJ => ?_ | refine SW.last good fun K hK => ?_ | (refine hK _ ?_; clear hK K) | (refine hJ _ _ (Wk.refl _) ?_; clear hJ J) | clear hK K | clear hJ J | refine SW.skip ?_ | refine SW.ret ?_ | refine SW.retT ?_ | refine SW.retB ?_ | refine SW.exit ?_ | refine SW.exitT ?_ | refine SW.exitB ?_ | refine XN ?_ | refine SW.block ?_ | refine SW.normB ?_ | refine SW.normT ?_ | refine XT ?_ | refine XF ?_ | refine XC (fun h => ?_) (fun h => ?_) | simp only [go_sem, optI, Option.getD_some, Option.getD_none, Int.reduceToNat, reduceIte, Nat.reduceEqDiff, Nat.reduceAdd, Nat.reduceMul, Nat.reduceSub, Nat.reduceLT, Nat.reduceLeDiff, reduceCtorEq, *] | refine Xs _ (fun h => ?_) (fun h => ?_) | with_reducible refine And.intro ?_ ?_
  refine SW.loopTo (α := List Int × Int) (fun a => ⟨sl [(0, vS t), (1, vI a.2), (9, .own (.s 13 0)), (14, vI c), (15, vI a.1.length)], hl [(.s 13 0, .row false 3 1 (a.1.map intC))]⟩) (fun a => c - a.1.length) ([], p) (fun a => a.1.length ≤ c ∧ readNs t a.1.length p = some a) ?_ ⟨by simp, by simp [readNs]⟩ ?_
  · (refine Xto _ _ ?_ ?_ <;> simp only [go_sem, optI, Option.getD_some, Option.getD_none, Int.reduceToNat, reduceIte, Nat.reduceEqDiff, Nat.reduceAdd, Nat.reduceMul, Nat.reduceSub, Nat.reduceLT, Nat.reduceLeDiff, reduceCtorEq, Option.some.injEq, or_true, true_or] <;> (repeat' with_reducible apply And.intro) <;> (try rfl))
  · rintro ⟨m, q⟩ ⟨h2, h3⟩
    simp only at h2 h3
    by_cases hk : m.length < c
    · have e1 : decide ((m.length : Int) < c) = true := by simp; omega
      have hw : IntKind.i64.wrap ((m.length : Int) + 1) = ((m.length + 1 : Nat) : Int) := wrap64 (by omega) (by omega)
      have hR := ac_ReadVar t q ht
      unfold rvV rvE rvB at hR
      cases hr : readVar t q with
      | none => rw [readNs_none h3 hk hr] at hle; cases hle
      | some ne =>
        obtain ⟨n, e'⟩ := ne
        simp only [hr, Option.isSome_some] at hR
        have h4 := readNs_more h3 hr
        clear hle hr
        repeat' first | refine SW.step good fun K hK => ?_ | refine X2 good fun K hK => ?_ | refine X3 good fun K hK => ?_ | refine SW.seqK fun J hJ => ?_ | refine SW.last good fun K hK => ?_ | (refine hK _ ?_; clear hK K) | (refine hJ _ _ (Wk.refl _) ?_; clear hJ J) | clear hK K | clear hJ J | refine SW.skip ?_ | refine SW.ret ?_ | refine SW.retT ?_ | refine SW.retB ?_ | refine SW.exit ?_ | refine SW.exitT ?_ | refine SW.exitB ?_ | refine XN ?_ | refine SW.block ?_ | refine SW.normB ?_ | refine SW.normT ?_ | refine XT ?_ | refine XF ?_ | refine XC (fun h => ?_) (fun h => ?_) | refine X0 ?_ | refine Xv ?_ | refine X1 (hR) ?_ | simp only [go_sem, optI, Option.getD_some, Option.getD_none, Int.reduceToNat, reduceIte, Nat.reduceEqDiff, Nat.reduceAdd, Nat.reduceMul, Nat.reduceSub, Nat.reduceLT, Nat.reduceLeDiff, reduceCtorEq, *] | refine Xs _ (fun h => ?_) (fun h => ?_) | with_reducible refine And.intro ?_ ?_
        all_goals first | (intro r hr; simp at hr; subst hr; rfl) | (simp [bytesC]; omega) | (simp; done) | omega | rfl | skip
        all_goals refine ⟨(m ++ [(n : Int)], (e' : Int)), ⟨by simp; omega, by simpa using h4⟩, by simp; omega, ?_⟩
        all_goals (refine Xto _ _ ?_ ?_ <;> simp only [go_sem, optI, Option.getD_some, Option.getD_none, Int.reduceToNat, reduceIte, Nat.reduceEqDiff, Nat.reduceAdd, Nat.reduceMul, Nat.reduceSub, Nat.reduceLT, Nat.reduceLeDiff, reduceCtorEq, Option.some.injEq, or_true, true_or] <;> (repeat' with_reducible apply And.intro) <;> (try rfl))
        all_goals first | (simp; done) | skip
    · have hk : m.length = c := by omega
      have e1 : decide ((c : Int) < c) = false := by simp
      rw [hk, hle] at h3
      simp only [Option.some.injEq, Prod.mk.injEq] at h3
      obtain ⟨rfl, rfl⟩ := h3
      clear hle
      repeat' first | refine SW.step good fun K hK => ?_ | refine X2 good fun K hK => ?_ | refine X3 good fun K hK => ?_ | refine SW.seqK fun J hJ => ?_ | refine SW.last good fun K hK => ?_ | (refine hK _ ?_; clear hK K) | (refine hJ _ _ (Wk.refl _) ?_; clear hJ J) | clear hK K | clear hJ J | refine SW.skip ?_ | refine SW.ret ?_ | refine SW.retT ?_ | refine SW.retB ?_ | refine SW.exit ?_ | refine SW.exitT ?_ | refine SW.exitB ?_ | refine XN ?_ | refine SW.block ?_ | refine SW.normB ?_ | refine SW.normT ?_ | refine XT ?_ | refine XF ?_ | refine XC (fun h => ?_) (fun h => ?_) | simp only [go_sem, optI, Option.getD_some, Option.getD_none, Int.reduceToNat, reduceIte, Nat.reduceEqDiff, Nat.reduceAdd, Nat.reduceMul, Nat.reduceSub, Nat.reduceLT, Nat.reduceLeDiff, reduceCtorEq, *] | refine Xs _ (fun h => ?_) (fun h => ?_) | with_reducible refine And.intro ?_ ?_
      all_goals refine Xro (i := .s 13 0) ?_ ?_
      all_goals simp [Wn.leO, resOf, Wn.le, Wn.leL, Wn.cw, C.scal, scal, outW, idsTo, hrOf]
set_option maxHeartbeats 1000000 in
theorem ac_readVarsN (t : List UInt8) (p : Int) (c : Nat) (ht : t.length ≤ 4611686018427387904) (hc : c ≤ 1000) (hle : readNs t c p = none) :
    AC Tryz.prog 55 [vS t, vI p, vI c] (.tup [.nil, vI 0, vB false]) [] := by
  refine XA good (fn := Tryz.f55) rfl ?_
  simp only [entry, List.getD_cons_zero, List.getD_cons_succ]
  repeat' first | refine SW.step good fun K hK => ?_ | refine X2 good fun K hK => ?_ | refine X3 good fun K hK => ?_ | refine SW.seqK fun J hJ => ?_ | refine SW.last good fun K hK => ?_ | (refine hK _ ?_; clear hK K) | (refine hJ _ _ (Wk.refl _) ?_; clear hJ J) | clear hK K | clear hJ J | refine SW.skip ?_ | refine SW.ret ?_ | refine SW.retT ?_ | refine SW.retB ?_ | refine SW.exit ?_ | refine SW.exitT ?_ | refine SW.exitB ?_ | refine XN ?_ | refine SW.block ?_ | refine SW.normB ?_ | refine SW.normT ?_ | refine XT ?_ | refine XF ?_ | refine XC (fun h => ?_) (fun h => ?_) | simp only [go_sem, optI, Option.getD_some, Option.getD_none, Int.reduceToNat, reduceIte, Nat.reduceEqDiff, Nat.reduceAdd, Nat.reduceMul, Nat.reduceSub, Nat.reduceLT, Nat.reduceLeDiff, reduceCtorEq, *] | refine Xs _ (fun h => ?_) (fun h => ?_) | with_reducible refine And.intro ?_ ?_
  refine SW.loopTo (α := List Int × Int) (fun a => ⟨sl [(0, vS t), (1, vI a.2), (9, .own (.s 13 0)), (14, vI c), (15, vI a.1.length)], hl [(.s 13 0, .row false 3 1 (a.1.map intC))]⟩) (fun a => c - a.1.length) ([], p) (fun a => a.1.length ≤ c ∧ readNs t a.1.length p = some a) ?_ ⟨by simp, by simp [readNs]⟩ ?_
  · (refine Xto _ _ ?_ ?_ <;> simp only [go_sem, optI, Option.getD_some, Option.getD_none, Int.reduceToNat, reduceIte, Nat.reduceEqDiff, Nat.reduceAdd, Nat.reduceMul, Nat.reduceSub, Nat.reduceLT, Nat.reduceLeDiff, reduceCtorEq, Option.some.injEq, or_true, true_or] <;> (repeat' with_reducible apply And.intro) <;> (try rfl))
  · rintro ⟨m, q⟩ ⟨h2, h3⟩
    simp only at h2 h3
    by_cases hk : m.length < c
    · have e1 : decide ((m.length : Int) < c) = true := by simp; omega
      have hw : IntKind.i64.wrap ((m.length : Int) + 1) = ((m.length + 1 : Nat) : Int) := wrap64 (by omega) (by omega)
      have hR := ac_ReadVar t q ht
      unfold rvV rvE rvB at hR
      cases hr : readVar t q with
      | none =>
        simp only [hr, Option.isSome_none] at hR
        clear hle hr h3
        repeat' first | refine SW.step good fun K hK => ?_ | refine X2 good fun K hK => ?_ | refine X3 good fun K hK => ?_ | refine SW.seqK fun J hJ => ?_ | refine SW.last good fun K hK => ?_ | (refine hK _ ?_; clear hK K) | (refine hJ _ _ (Wk.refl _) ?_; clear hJ J) | clear hK K | clear hJ J | refine SW.skip ?_ | refine SW.ret ?_ | refine SW.retT ?_ | refine SW.retB ?_ | refine SW.exit ?_ | refine SW.exitT ?_ | refine SW.exitB ?_ | refine XN ?_ | refine SW.block ?_ | refine SW.normB ?_ | refine SW.normT ?_ | refine XT ?_ | refine XF ?_ | refine XC (fun h => ?_) (fun h => ?_) | refine X0 ?_ | refine Xv ?_ | refine X1 (hR) ?_ | simp only [go_sem, optI, Option.getD_some, Option.getD_none, Int.reduceToNat, reduceIte, Nat.reduceEqDiff, Nat.reduceAdd, Nat.reduceMul, Nat.reduceSub, Nat.reduceLT, Nat.reduceLeDiff, reduceCtorEq, *] | refine Xs _ (fun h => ?_) (fun h => ?_) | with_reducible refine And.intro ?_ ?_
        all_goals (refine Xrp ?_; simp [resOf, Wn.le, Wn.leL, Wn.cw, C.scal, scal])
      | some ne =>
        obtain ⟨n, e'⟩ := ne
        simp only [hr, Option.isSome_some] at hR
        have h4 := readNs_more h3 hr
        clear hle hr
        repeat' first | refine SW.step good fun K hK => ?_ | refine X2 good fun K hK => ?_ | refine X3 good fun K hK => ?_ | refine SW.seqK fun J hJ => ?_ | refine SW.last good fun K hK => ?_ | (refine hK _ ?_; clear hK K) | (refine hJ _ _ (Wk.refl _) ?_; clear hJ J) | clear hK K | clear hJ J | refine SW.skip ?_ | refine SW.ret ?_ | refine SW.retT ?_ | refine SW.retB ?_ | refine SW.exit ?_ | refine SW.exitT ?_ | refine SW.exitB ?_ | refine XN ?_ | refine SW.block ?_ | refine SW.normB ?_ | refine SW.normT ?_ | refine XT ?_ | refine XF ?_ | refine XC (fun h => ?_) (fun h => ?_) | refine X0 ?_ | refine Xv ?_ | refine X1 (hR) ?_ | simp only [go_sem, optI, Option.getD_some, Option.getD_none, Int.reduceToNat, reduceIte, Nat.reduceEqDiff, Nat.reduceAdd, Nat.reduceMul, Nat.reduceSub, Nat.reduceLT, Nat.reduceLeDiff, reduceCtorEq, *] | refine Xs _ (fun h => ?_) (fun h => ?_) | with_reducible refine And.intro ?_ ?_
        all_goals first | (intro r hr; simp at hr; subst hr; rfl) | (simp [bytesC]; omega) | (simp; done) | omega | rfl | skip
        all_goals refine ⟨(m ++ [(n : Int)], (e' : Int)), ⟨by simp; omega, by simpa using h4⟩, by simp; omega, ?_⟩
        all_goals (refine Xto _ _ ?_ ?_ <;> simp only [go_sem, optI, Option.getD_some, Option.getD_none, Int.reduceToNat, reduceIte, Nat.reduceEqDiff, Nat.reduceAdd, Nat.reduceMul, Nat.reduceSub, Nat.reduceLT, Nat.reduceLeDiff, reduceCtorEq, Option.some.injEq, or_true, true_or] <;> (repeat' with_reducible apply And.intro) <;> (try rfl))
        all_goals first | (simp; done) | skip
    · have hk : m.length = c := by omega
      rw [hk, hle] at h3; cases h3
end Go.Proofs.YtoemclhjcbcjaaaGreat.AB
namespace Go.Proofs.YtoemclhjcbcjaaaGreat.AB
open Go
set_option maxRecDepth 100000
set_option linter.unusedSimpArgs false
set_option linter.unusedVariables false
def rcC (t : List UInt8) : Cred := (readCred t).getD credZ
def rcB (t : List UInt8) : Bool := (readCred t).isSome
theorem ten {l : List Int} (h : l.length = 10) : ∃ a b c d e f g i j k, l = [a, b, c, d, e, f, g, i, j, k] := by
  match l, h with
  | [a, b, c, d, e, f, g, i, j, k], _ => exact ⟨a, b, c, d, e, f, g, i, j, k, rfl⟩
set_option maxHeartbeats 1000000 in
theorem ac_ReadCred (t : List UInt8) (ht : t.length ≤ 4611686018427387904) : AC Tryz.prog 36 [vS t] (.tup [encCred (rcC t), vB (rcB t)]) [] := by
  cases hn : readNs t 10 0 with
  | none =>
    have hv := ac_readVarsN t 0 10 ht (by omega) hn
    rw [show ((10 : Nat) : Int) = 10 from rfl] at hv
    have hres : readCred t = none := by unfold readCred; rw [hn]
    clear hn
    refine XA good (fn := Tryz.f36) rfl ?_
    simp only [entry, List.getD_cons_zero, List.getD_cons_succ]
    repeat' first | refine SW.step good fun K hK => ?_ | refine X2 good fun K hK => ?_ | refine X3 good fun K hK => ?_ | refine SW.seqK fun J hJ => ?_ | refine SW.last good fun K hK => ?_ | (refine hK _ ?_; clear hK K) | (refine hJ _ _ (Wk.refl _) ?_; clear hJ J) | clear hK K | clear hJ J | refine SW.skip ?_ | refine SW.ret ?_ | refine SW.retT ?_ | refine SW.retB ?_ | refine SW.exit ?_ | refine SW.exitT ?_ | refine SW.exitB ?_ | refine XN ?_ | refine SW.block ?_ | refine SW.normB ?_ | refine SW.normT ?_ | refine XT ?_ | refine XF ?_ | refine XC (fun h => ?_) (fun h => ?_) | refine X0 ?_ | refine Xv ?_ | refine X1 (hv) ?_ | simp only [go_sem, optI, Option.getD_some, Option.getD_none, Int.reduceToNat, reduceIte, Nat.reduceEqDiff, Nat.reduceAdd, Nat.reduceMul, Nat.reduceSub, Nat.reduceLT, Nat.reduceLeDiff, reduceCtorEq, *] | refine Xs _ (fun h => ?_) (fun h => ?_) | with_reducible refine And.intro ?_ ?_
    all_goals first | (refine Xrp ?_; simp [resOf, Wn.le, Wn.leL, Wn.cw, C.scal, scal, rcC, rcB, hres, credZ, encCred]; done) | (exfalso; simp_all; done) | skip
  | some x =>
    obtain ⟨l, e⟩ := x
    have hv := ac_readVars t 0 10 ht (by omega) l e hn
    rw [show ((10 : Nat) : Int) = 10 from rfl] at hv
    obtain ⟨n0, n1, n2, n3, n4, n5, n6, n7, n8, n9, rfl⟩ := ten (readNs_spec _ _ _ _ hn).1
    simp only [List.map_cons, List.map_nil] at hv
    have hcr : readCred t = if e = t.length ∧ credOk ⟨n0, ⟨n1, n2⟩, n3, ⟨n4, n5⟩, ⟨n6, n7⟩, n8, n9⟩ = true then some ⟨n0, ⟨n1, n2⟩, n3, ⟨n4, n5⟩, ⟨n6, n7⟩, n8, n9⟩ else none := by
      unfold readCred; rw [hn]; rfl
    clear hn
    have hk := ac_CredOk ⟨n0, ⟨n1, n2⟩, n3, ⟨n4, n5⟩, ⟨n6, n7⟩, n8, n9⟩
    by_cases hc : e = t.length
    · have g1 : decide (e = (t.length : Int)) = true := by simpa using hc
      by_cases hok : credOk ⟨n0, ⟨n1, n2⟩, n3, ⟨n4, n5⟩, ⟨n6, n7⟩, n8, n9⟩ = true
      · rw [if_pos ⟨hc, hok⟩] at hcr
        rw [hok] at hk
        have hres := hcr
        clear hcr hc hok
        refine XA good (fn := Tryz.f36) rfl ?_
        simp only [entry, List.getD_cons_zero, List.getD_cons_succ]
        repeat' first | refine SW.step good fun K hK => ?_ | refine X2 good fun K hK => ?_ | refine X3 good fun K hK => ?_ | refine SW.seqK fun J hJ => ?_ | refine SW.last good fun K hK => ?_ | (refine hK _ ?_; clear hK K) | (refine hJ _ _ (Wk.refl _) ?_; clear hJ J) | clear hK K | clear hJ J | refine SW.skip ?_ | refine SW.ret ?_ | refine SW.retT ?_ | refine SW.retB ?_ | refine SW.exit ?_ | refine SW.exitT ?_ | refine SW.exitB ?_ | refine XN ?_ | refine SW.block ?_ | refine SW.normB ?_ | refine SW.normT ?_ | refine XT ?_ | refine XF ?_ | refine XC (fun h => ?_) (fun h => ?_) | refine X0 ?_ | refine Xv ?_ | refine X1 (hv) ?_ | refine X1 (hk) ?_ | simp only [go_sem, optI, Option.getD_some, Option.getD_none, Int.reduceToNat, reduceIte, Nat.reduceEqDiff, Nat.reduceAdd, Nat.reduceMul, Nat.reduceSub, Nat.reduceLT, Nat.reduceLeDiff, reduceCtorEq, *] | refine Xs _ (fun h => ?_) (fun h => ?_) | with_reducible refine And.intro ?_ ?_
        all_goals first | (refine Xrp ?_; simp [resOf, Wn.le, Wn.leL, Wn.cw, C.scal, scal, rcC, rcB, hres, encCred]; done) | (exfalso; simp_all; done) | (simp; done) | skip
        all_goals trace_state
      · have hok : credOk ⟨n0, ⟨n1, n2⟩, n3, ⟨n4, n5⟩, ⟨n6, n7⟩, n8, n9⟩ = false := by simpa using hok
        rw [if_neg (by rw [hok]; simp)] at hcr
        rw [hok] at hk
        have hres := hcr
        clear hcr hc hok
        refine XA good (fn := Tryz.f36) rfl ?_
        simp only [entry, List.getD_cons_zero, List.getD_cons_succ]
        repeat' first | refine SW.step good fun K hK => ?_ | refine X2 good fun K hK => ?_ | refine X3 good fun K hK => ?_ | refine SW.seqK fun J hJ => ?_ | refine SW.last good fun K hK => ?_ | (refine hK _ ?_; clear hK K) | (refine hJ _ _ (Wk.refl _) ?_; clear hJ J) | clear hK K | clear hJ J | refine SW.skip ?_ | refine SW.ret ?_ | refine SW.retT ?_ | refine SW.retB ?_ | refine SW.exit ?_ | refine SW.exitT ?_ | refine SW.exitB ?_ | refine XN ?_ | refine SW.block ?_ | refine SW.normB ?_ | refine SW.normT ?_ | refine XT ?_ | refine XF ?_ | refine XC (fun h => ?_) (fun h => ?_) | refine X0 ?_ | refine Xv ?_ | refine X1 (hv) ?_ | refine X1 (hk) ?_ | simp only [go_sem, optI, Option.getD_some, Option.getD_none, Int.reduceToNat, reduceIte, Nat.reduceEqDiff, Nat.reduceAdd, Nat.reduceMul, Nat.reduceSub, Nat.reduceLT, Nat.reduceLeDiff, reduceCtorEq, *] | refine Xs _ (fun h => ?_) (fun h => ?_) | with_reducible refine And.intro ?_ ?_
        all_goals first | (refine Xrp ?_; simp [resOf, Wn.le, Wn.leL, Wn.cw, C.scal, scal, rcC, rcB, hres, credZ, encCred]; done) | (exfalso; simp_all; done) | (simp; done) | skip
        all_goals trace_state
    · have g1 : decide (e = (t.length : Int)) = false := by simpa using hc
      rw [if_neg (fun q => hc q.1)] at hcr
      have hres := hcr
      clear hcr hk
      refine XA good (fn := Tryz.f36) rfl ?_
      simp only [entry, List.getD_cons_zero, List.getD_cons_succ]
      repeat' first | refine SW.step good fun K hK => ?_ | refine X2 good fun K hK => ?_ | refine X3 good fun K hK => ?_ | refine SW.seqK fun J hJ => ?_ | refine SW.last good fun K hK => ?_ | (refine hK _ ?_; clear hK K) | (refine hJ _ _ (Wk.refl _) ?_; clear hJ J) | clear hK K | clear hJ J | refine SW.skip ?_ | refine SW.ret ?_ | refine SW.retT ?_ | refine SW.retB ?_ | refine SW.exit ?_ | refine SW.exitT ?_ | refine SW.exitB ?_ | refine XN ?_ | refine SW.block ?_ | refine SW.normB ?_ | refine SW.normT ?_ | refine XT ?_ | refine XF ?_ | refine XC (fun h => ?_) (fun h => ?_) | refine X0 ?_ | refine Xv ?_ | refine X1 (hv) ?_ | simp only [go_sem, optI, Option.getD_some, Option.getD_none, Int.reduceToNat, reduceIte, Nat.reduceEqDiff, Nat.reduceAdd, Nat.reduceMul, Nat.reduceSub, Nat.reduceLT, Nat.reduceLeDiff, reduceCtorEq, *] | refine Xs _ (fun h => ?_) (fun h => ?_) | with_reducible refine And.intro ?_ ?_
      all_goals first | (refine Xrp ?_; simp [resOf, Wn.le, Wn.leL, Wn.cw, C.scal, scal, rcC, rcB, hres, credZ, encCred]; done) | (exfalso; simp_all; done) | skip
      all_goals trace_state
end Go.Proofs.YtoemclhjcbcjaaaGreat.AB
