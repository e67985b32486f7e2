/- Marks: texts of numbers, rows of events. -/
import Derived.Test.YtbpfciidbgkekaaAbFeEv
namespace Go.Proofs.Ytbpfciidbgkekaa.AB
open Go
set_option maxRecDepth 100000
set_option linter.unusedSimpArgs false
set_option linter.unusedVariables false
/-- a call of an operation that may write, by a contract that writes nothing -/
theorem Xn {P : Program} {st : St} {K : St → Prop} {d : Option Nat} {l : List GOp} {xs : List Operand} {f : FuncId} {args : List AV} (h : CallK P f args l K st d) (ha : lendAll st.h (xs.map (evalO st)) = args := by simp only [go_sem, optI, Option.getD_some, Option.getD_none, Int.reduceToNat, reduceIte, Nat.reduceEqDiff, Nat.reduceAdd, Nat.reduceMul, Nat.reduceSub, Nat.reduceLT, Nat.reduceLeDiff, reduceCtorEq] <;> rfl) : semL P (⟨d, .callm f xs, none⟩ :: l) st K := by
  obtain ⟨res, hr, h1, h2, h3⟩ := h
  refine ⟨st, Wk.refl st, f, _, rfl, .inl ⟨res, hr, .inl ⟨ha ▸ h1, h2⟩, ?_⟩⟩
  cases d <;> exact h3
/-- the figures of a number, ahead of some bytes -/
def figs (n : Nat) (acc : List UInt8) : List UInt8 := if n = 0 then acc else figs (n / 10) (UInt8.ofNat (48 + n % 10) :: acc)
  termination_by n
  decreasing_by omega
theorem figs_zero (acc : List UInt8) : figs 0 acc = acc := by unfold figs; simp
theorem figs_pos {n : Nat} (h : 0 < n) (acc : List UInt8) : figs n acc = figs (n / 10) (UInt8.ofNat (48 + n % 10) :: acc) := by
  conv => lhs; unfold figs
  rw [if_neg (by omega)]
def markT (k : Nat) : List UInt8 := if k = 0 then [109, 48] else 109 :: figs k []
theorem figs_len : ∀ (f n : Nat) (acc : List UInt8), n < 10 ^ f → (figs n acc).length ≤ acc.length + f
  | 0, n, acc, h => by have : n = 0 := by simpa using h
                       subst this; rw [figs_zero]; omega
  | f + 1, n, acc, h => by
    by_cases h0 : n = 0
    · subst h0; rw [figs_zero]; omega
    · rw [figs_pos (by omega)]
      have := figs_len f (n / 10) (UInt8.ofNat (48 + n % 10) :: acc) (by rw [Nat.pow_succ] at h; omega)
      simp only [List.length_cons] at this; omega
theorem markT_len {k : Nat} (h : k ≤ 1000000000) : (markT k).length ≤ 20 := by
  unfold markT; split
  · simp
  · have := figs_len 10 k [] (by omega)
    simp only [List.length_cons, List.length_nil] at this ⊢; omega
set_option maxHeartbeats 1000000 in
theorem ac_markText (k : Nat) (hk : k ≤ 1000000000) : AC Try.prog 124 [vI k] (vS (markT k)) [] := by
  by_cases h0 : k = 0
  · subst h0
    refine XA good (fn := Try.f124) rfl ?_
    simp only [entry, List.getD_cons_zero, List.getD_cons_succ]
    repeat' first | refine SW.step good fun K hK => ?_ | refine X2 good fun K hK => ?_ | refine X3 good fun K hK => ?_ | refine SW.seqK fun J hJ => ?_ | refine SW.last good fun K hK => ?_ | (refine hK _ ?_; clear hK K) | (refine hJ _ _ (Wk.refl _) ?_; clear hJ J) | clear hK K | clear hJ J | refine SW.skip ?_ | refine SW.ret ?_ | refine SW.retT ?_ | refine SW.retB ?_ | refine SW.exit ?_ | refine SW.exitT ?_ | refine SW.exitB ?_ | refine XN ?_ | refine SW.block ?_ | refine SW.normB ?_ | refine SW.normT ?_ | refine XT ?_ | refine XF ?_ | refine XC (fun h => ?_) (fun h => ?_) | simp only [go_sem, optI, Option.getD_some, Option.getD_none, Int.reduceToNat, reduceIte, Nat.reduceEqDiff, Nat.reduceAdd, Nat.reduceMul, Nat.reduceSub, Nat.reduceLT, Nat.reduceLeDiff, reduceCtorEq, *] | refine Xs _ (fun h => ?_) (fun h => ?_) | with_reducible refine And.intro ?_ ?_
    all_goals first | (refine Xrs ?_; rfl) | (exfalso; simp_all; done)
  · have g1 : decide ((k : Int) ≤ 0) = false := by simp; omega
    refine XA good (fn := Try.f124) rfl ?_
    simp only [entry, List.getD_cons_zero, List.getD_cons_succ]
    repeat' first | refine SW.step good fun K hK => ?_ | refine X2 good fun K hK => ?_ | refine X3 good fun K hK => ?_ | refine SW.seqK fun J hJ => ?_ | refine SW.last good fun K hK => ?_ | (refine hK _ ?_; clear hK K) | (refine hJ _ _ (Wk.refl _) ?_; clear hJ J) | clear hK K | clear hJ J | refine SW.skip ?_ | refine SW.ret ?_ | refine SW.retT ?_ | refine SW.retB ?_ | refine SW.exit ?_ | refine SW.exitT ?_ | refine SW.exitB ?_ | refine XN ?_ | refine SW.block ?_ | refine SW.normB ?_ | refine SW.normT ?_ | refine XT ?_ | refine XF ?_ | refine XC (fun h => ?_) (fun h => ?_) | simp only [go_sem, optI, Option.getD_some, Option.getD_none, Int.reduceToNat, reduceIte, Nat.reduceEqDiff, Nat.reduceAdd, Nat.reduceMul, Nat.reduceSub, Nat.reduceLT, Nat.reduceLeDiff, reduceCtorEq, *] | refine Xs _ (fun h => ?_) (fun h => ?_) | with_reducible refine And.intro ?_ ?_
    refine SW.loopTo (α := Nat × List UInt8) (fun a => ⟨sl [(0, vI a.1), (3, vS a.2)], hl []⟩) (fun a => a.1) (k, []) (fun a => a.1 ≤ k ∧ a.2.length + a.1 ≤ k ∧ figs a.1 a.2 = figs k []) ?_ ⟨by simp, by simp, rfl⟩ ?_
    · (refine Xto _ _ ?_ ?_ <;> simp only [go_sem, optI, Option.getD_some, Option.getD_none, Int.reduceToNat, reduceIte, Nat.reduceEqDiff, Nat.reduceAdd, Nat.reduceMul, Nat.reduceSub, Nat.reduceLT, Nat.reduceLeDiff, reduceCtorEq, Option.some.injEq, or_true, true_or] <;> (repeat' with_reducible apply And.intro) <;> (try rfl))
    · rintro ⟨m, acc⟩ ⟨h2, h3, h4⟩
      simp only at h2 h3 h4
      by_cases hz : m = 0
      · subst hz
        rw [figs_zero] at h4
        have e1 : decide (((0 : Nat) : Int) > 0) = false := by simp
        have hl : (figs k []).length ≤ 20 := by have := figs_len 10 k [] (by omega); simp at this; omega
        repeat' first | refine SW.step good fun K hK => ?_ | refine X2 good fun K hK => ?_ | refine X3 good fun K hK => ?_ | refine SW.seqK fun J hJ => ?_ | refine SW.last good fun K hK => ?_ | (refine hK _ ?_; clear hK K) | (refine hJ _ _ (Wk.refl _) ?_; clear hJ J) | clear hK K | clear hJ J | refine SW.skip ?_ | refine SW.ret ?_ | refine SW.retT ?_ | refine SW.retB ?_ | refine SW.exit ?_ | refine SW.exitT ?_ | refine SW.exitB ?_ | refine XN ?_ | refine SW.block ?_ | refine SW.normB ?_ | refine SW.normT ?_ | refine XT ?_ | refine XF ?_ | refine XC (fun h => ?_) (fun h => ?_) | simp only [go_sem, optI, Option.getD_some, Option.getD_none, Int.reduceToNat, reduceIte, Nat.reduceEqDiff, Nat.reduceAdd, Nat.reduceMul, Nat.reduceSub, Nat.reduceLT, Nat.reduceLeDiff, reduceCtorEq, *] | refine Xs _ (fun h => ?_) (fun h => ?_) | with_reducible refine And.intro ?_ ?_
        all_goals first | omega | (simp; omega) | skip
        all_goals (refine Xrs ?_; rw [markT, if_neg h0])
      · have e1 : decide ((m : Int) > 0) = true := by simp; omega
        have e2 : ((m : Int).tmod 10) = ((m % 10 : Nat) : Int) := by rw [Int.tmod_eq_emod_of_nonneg (by omega)]; simp
        have e3 : ((m : Int).tdiv 10) = ((m / 10 : Nat) : Int) := by rw [Int.tdiv_eq_ediv_of_nonneg (by omega)]; simp
        have e4 : IntKind.u8.wrap (IntKind.i64.wrap (48 + ((m % 10 : Nat) : Int))) = ((48 + m % 10 : Nat) : Int) := by rw [wrap8_64]; omega
        rw [figs_pos (by omega)] at h4
        repeat' first | refine SW.step good fun K hK => ?_ | refine X2 good fun K hK => ?_ | refine X3 good fun K hK => ?_ | refine SW.seqK fun J hJ => ?_ | refine SW.last good fun K hK => ?_ | (refine hK _ ?_; clear hK K) | (refine hJ _ _ (Wk.refl _) ?_; clear hJ J) | clear hK K | clear hJ J | refine SW.skip ?_ | refine SW.ret ?_ | refine SW.retT ?_ | refine SW.retB ?_ | refine SW.exit ?_ | refine SW.exitT ?_ | refine SW.exitB ?_ | refine XN ?_ | refine SW.block ?_ | refine SW.normB ?_ | refine SW.normT ?_ | refine XT ?_ | refine XF ?_ | refine XC (fun h => ?_) (fun h => ?_) | simp only [go_sem, optI, Option.getD_some, Option.getD_none, Int.reduceToNat, reduceIte, Nat.reduceEqDiff, Nat.reduceAdd, Nat.reduceMul, Nat.reduceSub, Nat.reduceLT, Nat.reduceLeDiff, reduceCtorEq, *] | refine Xs _ (fun h => ?_) (fun h => ?_) | with_reducible refine And.intro ?_ ?_
        all_goals first | omega | (simp only [List.length_append, List.length_cons, List.length_nil]; omega) | skip
        all_goals refine ⟨(m / 10, UInt8.ofNat (48 + m % 10) :: acc), ⟨by simp only; omega, by simp only [List.length_cons]; omega, h4⟩, by simp only; omega, ?_⟩
        all_goals (refine Xto _ _ ?_ ?_ <;> simp only [go_sem, optI, Option.getD_some, Option.getD_none, Int.reduceToNat, reduceIte, Nat.reduceEqDiff, Nat.reduceAdd, Nat.reduceMul, Nat.reduceSub, Nat.reduceLT, Nat.reduceLeDiff, reduceCtorEq, Option.some.injEq, or_true, true_or] <;> (repeat' with_reducible apply And.intro) <;> (try rfl))
        all_goals (rw [wrap64 (by omega) (by omega)])
/-- an event of marks -/
def markEv (k : Int) : List C := [cI k, cI (k + 1), cI (k + 2), cI (k + 3), cI (k + 4), cI (k + 5), cI (k + 6), cI (k + 7), cI (k + 8), cI (k + 9), cI (k + 10), cI (k + 11), cI (k + 12), cS (markT (k + 13).toNat)]
/-- a row that is marked so far -/
def markRow (k : Int) (L : List Event) (j : Nat) : List (List C) := (List.range j).map (fun i => markEv (k + 14 * (i : Nat))) ++ (L.drop j).map evC
theorem markRow_len {k : Int} {L : List Event} {j : Nat} (h : j ≤ L.length) : (markRow k L j).length = L.length := by simp [markRow]; omega
theorem markRow_get {k : Int} {L : List Event} {j : Nat} (h : j < L.length) : (markRow k L j).getD j [] = evC L[j] := by
  unfold markRow
  rw [List.getD_eq_getElem?_getD, List.getElem?_append_right (by simp), List.length_map, List.length_range, Nat.sub_self, List.getElem?_map, List.getElem?_drop, Nat.add_zero, List.getElem?_eq_getElem h]; rfl
theorem markRow_set {k : Int} {L : List Event} {j : Nat} (h : j < L.length) : (markRow k L j).set j (markEv (k + 14 * (j : Nat))) = markRow k L (j + 1) := by
  unfold markRow
  rw [List.set_append_right _ _ (by simp), List.length_map, List.length_range, Nat.sub_self, List.drop_eq_getElem_cons h, List.map_cons, List.set_cons_zero, List.range_succ, List.map_append, List.append_assoc]; rfl
theorem markRow_all {k : Int} {L : List Event} : markRow k L L.length = (List.range L.length).map (fun i => markEv (k + 14 * (i : Nat))) := by simp [markRow]
theorem set_getD {α : Type} {X : List (List α)} {j : Nat} (h : j < X.length) (r : List α) : (X.set j r).getD j [] = r := by rw [List.getD_eq_getElem?_getD, List.getElem?_set_self h]; rfl
theorem wrapc {c : Int} (h : 0 ≤ c ∧ c ≤ 100000000) (j : Int) (hj : 0 ≤ j ∧ j ≤ 1000) : IntKind.i64.wrap (c + j + 1) = c + (j + 1) := by rw [wrap64 (by omega) (by omega)]; omega
theorem wrapc1 {c : Int} (h : 0 ≤ c ∧ c ≤ 100000000) : IntKind.i64.wrap (c + 1) = c + 1 := wrap64 (by omega) (by omega)
set_option maxHeartbeats 4000000 in
theorem mc_markEventS (L : List Event) (k : Int) (hk : 0 ≤ k) (hL : L.length ≤ 1000000) (hk2 : k ≤ 1000000) : MC Try.prog 64 [.own (.a 0), vI k] [.row false 48 14 (L.map evC)] (vI (k + 14 * L.length)) [some (.row false 48 14 (markRow k L L.length))] [] := by
  refine XM good (fn := Try.f64) rfl ?_
  try simp only [List.getD_cons_zero, List.getD_cons_succ]
  repeat' first | refine SW.step good fun K hK => ?_ | refine X2 good fun K hK => ?_ | refine X3 good fun K hK => ?_ | refine SW.seqK fun J hJ => ?_ | refine SW.last good fun K hK => ?_ | (refine hK _ ?_; clear hK K) | (refine hJ _ _ (Wk.refl _) ?_; clear hJ J) | clear hK K | clear hJ J | refine SW.skip ?_ | refine SW.ret ?_ | refine SW.retT ?_ | refine SW.retB ?_ | refine SW.exit ?_ | refine SW.exitT ?_ | refine SW.exitB ?_ | refine XN ?_ | refine SW.block ?_ | refine SW.normB ?_ | refine SW.normT ?_ | refine XT ?_ | refine XF ?_ | refine XC (fun h => ?_) (fun h => ?_) | simp only [go_sem, optI, Option.getD_some, Option.getD_none, Int.reduceToNat, reduceIte, Nat.reduceEqDiff, Nat.reduceAdd, Nat.reduceMul, Nat.reduceSub, Nat.reduceLT, Nat.reduceLeDiff, reduceCtorEq, *] | refine Xs _ (fun h => ?_) (fun h => ?_) | with_reducible refine And.intro ?_ ?_
  refine SW.loopTo (α := Nat) (fun j => ⟨sl [(0, .own (.a 0)), (1, vI (k + 14 * (j : Nat))), (5, vI j)], hl [(.a 0, .row false 48 14 (markRow k L j))]⟩) (fun j => L.length - j) 0 (fun j => j ≤ L.length) ?_ (by simp) ?_
  · (refine Xto _ _ ?_ ?_ <;> simp only [go_sem, optI, Option.getD_some, Option.getD_none, Int.reduceToNat, reduceIte, Nat.reduceEqDiff, Nat.reduceAdd, Nat.reduceMul, Nat.reduceSub, Nat.reduceLT, Nat.reduceLeDiff, reduceCtorEq, Option.some.injEq, or_true, true_or] <;> (repeat' with_reducible apply And.intro) <;> (try rfl))
    all_goals (simp [markRow])
  · intro j h2
    by_cases hj : j < L.length
    · have e := markRow_get (k := k) hj
      have e0 := markRow_len (k := k) h2
      have e1 : decide ((j : Int) < L.length) = true := by simp; omega
      have e2 : ∀ r : List C, ((markRow k L j).set j r).getD j [] = r := set_getD (by omega)
      have e3 : ∀ r s : List C, ((markRow k L j).set j r).set j s = (markRow k L j).set j s := fun r s => List.set_set ..
      have e5 := markRow_set (k := k) hj
      generalize hc : k + 14 * (j : Nat) = c at *
      have hc0 : 0 ≤ c ∧ c ≤ 100000000 := by omega
      have hnx : k + 14 * ((j + 1 : Nat) : Int) = c + 14 := by omega
      have hwj : IntKind.i64.wrap ((j : Int) + 1) = ((j + 1 : Nat) : Int) := wrap64 (by omega) (by omega)
      have hT := ac_markText (c + 13).toNat (by omega)
      rw [show (((c + 13).toNat : Nat) : Int) = c + 13 by omega] at hT
      have w0 : IntKind.i64.wrap (c + 1) = c + 1 := wrapc1 hc0
      have w1 : IntKind.i64.wrap (c + 1 + 1) = c + 2 := wrapc hc0 1 (by decide)
      have w2 : IntKind.i64.wrap (c + 2 + 1) = c + 3 := wrapc hc0 2 (by decide)
      have w3 : IntKind.i64.wrap (c + 3 + 1) = c + 4 := wrapc hc0 3 (by decide)
      have w4 : IntKind.i64.wrap (c + 4 + 1) = c + 5 := wrapc hc0 4 (by decide)
      have w5 : IntKind.i64.wrap (c + 5 + 1) = c + 6 := wrapc hc0 5 (by decide)
      have w6 : IntKind.i64.wrap (c + 6 + 1) = c + 7 := wrapc hc0 6 (by decide)
      have w7 : IntKind.i64.wrap (c + 7 + 1) = c + 8 := wrapc hc0 7 (by decide)
      have w8 : IntKind.i64.wrap (c + 8 + 1) = c + 9 := wrapc hc0 8 (by decide)
      have w9 : IntKind.i64.wrap (c + 9 + 1) = c + 10 := wrapc hc0 9 (by decide)
      have w10 : IntKind.i64.wrap (c + 10 + 1) = c + 11 := wrapc hc0 10 (by decide)
      have w11 : IntKind.i64.wrap (c + 11 + 1) = c + 12 := wrapc hc0 11 (by decide)
      have w12 : IntKind.i64.wrap (c + 12 + 1) = c + 13 := wrapc hc0 12 (by decide)
      have w13 : IntKind.i64.wrap (c + 13 + 1) = c + 14 := wrapc hc0 13 (by decide)
      repeat' first | refine Xtr [0,1,5] [.a 0] (SW.step good fun K hK => ?_) | refine X2 good fun K hK => ?_ | refine X3 good fun K hK => ?_ | refine SW.seqK fun J hJ => ?_ | refine Xtr [0,1,5] [.a 0] (SW.last good fun K hK => ?_) | (refine hK _ ?_; clear hK K) | (refine hJ _ _ (Wk.refl _) ?_; clear hJ J) | clear hK K | clear hJ J | refine SW.skip ?_ | refine SW.ret ?_ | refine SW.retT ?_ | refine SW.retB ?_ | refine SW.exit ?_ | refine SW.exitT ?_ | refine SW.exitB ?_ | refine XN ?_ | refine SW.block ?_ | refine SW.normB ?_ | refine SW.normT ?_ | refine XT ?_ | refine XF ?_ | refine XC (fun h => ?_) (fun h => ?_) | refine X0 ?_ | refine Xv ?_ | refine X1 (hT) ?_ | simp only [go_sem, optI, Option.getD_some, Option.getD_none, Int.reduceToNat, reduceIte, Nat.reduceEqDiff, Nat.reduceAdd, Nat.reduceMul, Nat.reduceSub, Nat.reduceLT, Nat.reduceLeDiff, reduceCtorEq, *] | refine Xs _ (fun h => ?_) (fun h => ?_) | with_reducible refine And.intro ?_ ?_
      clear w0 w1 w2 w3 w4 w5 w6 w7 w8 w9 w10 w11 w12 w13
      all_goals first | (simp only [List.length_set]; omega) | omega | skip
      all_goals refine ⟨j + 1, by omega, by omega, ?_⟩
      all_goals (refine Xto _ _ ?_ ?_ <;> simp only [go_sem, optI, Option.getD_some, Option.getD_none, Int.reduceToNat, reduceIte, Nat.reduceEqDiff, Nat.reduceAdd, Nat.reduceMul, Nat.reduceSub, Nat.reduceLT, Nat.reduceLeDiff, reduceCtorEq, Option.some.injEq, or_true, true_or] <;> (repeat' with_reducible apply And.intro) <;> (try rfl))
      all_goals first | exact e5 | (rw [hnx]; done) | (rw [hwj]; done) | skip
    · have hj : j = L.length := by omega
      subst hj
      have e0 := markRow_len (k := k) h2
      have e1 : decide ((L.length : Int) < L.length) = false := by simp
      repeat' first | refine SW.step good fun K hK => ?_ | refine X2 good fun K hK => ?_ | refine X3 good fun K hK => ?_ | refine SW.seqK fun J hJ => ?_ | refine SW.last good fun K hK => ?_ | (refine hK _ ?_; clear hK K) | (refine hJ _ _ (Wk.refl _) ?_; clear hJ J) | clear hK K | clear hJ J | refine SW.skip ?_ | refine SW.ret ?_ | refine SW.retT ?_ | refine SW.retB ?_ | refine SW.exit ?_ | refine SW.exitT ?_ | refine SW.exitB ?_ | refine XN ?_ | refine SW.block ?_ | refine SW.normB ?_ | refine SW.normT ?_ | refine XT ?_ | refine XF ?_ | refine XC (fun h => ?_) (fun h => ?_) | simp only [go_sem, optI, Option.getD_some, Option.getD_none, Int.reduceToNat, reduceIte, Nat.reduceEqDiff, Nat.reduceAdd, Nat.reduceMul, Nat.reduceSub, Nat.reduceLT, Nat.reduceLeDiff, reduceCtorEq, *] | refine Xs _ (fun h => ?_) (fun h => ?_) | with_reducible refine And.intro ?_ ?_
      all_goals (refine Xrm ?_ ?_ <;> simp [Wn.leO, resOf, Wn.le, Wn.leL, Wn.cw, C.scal, scal])
/-- rows of marks -/
def marks (k : Int) (n : Nat) : List (List C) := (List.range n).map (fun i => markEv (k + 14 * (i : Nat)))
theorem marks_len (k : Int) (n : Nat) : (marks k n).length = n := by simp [marks]
theorem marks_get {k : Int} {n j : Nat} (h : j < n) : (marks k n).getD j [] = markEv (k + 14 * (j : Nat)) := by
  unfold marks
  rw [List.getD_eq_getElem?_getD, List.getElem?_map, List.getElem?_range h]; rfl
theorem mc_markEvents (L : List Event) (k : Int) (hk : 0 ≤ k) (hL : L.length ≤ 1000000) (hk2 : k ≤ 1000000) : MC Try.prog 64 [.own (.a 0), vI k] [.row false 48 14 (L.map evC)] (vI (k + 14 * L.length)) [some (.row false 48 14 (marks k L.length))] [] := by
  have := mc_markEventS L k hk hL hk2
  rw [markRow_all] at this
  exact this
theorem ac_markNil (k : Int) : AC Try.prog 64 [.c true (.sl []), vI k] (vI k) [] := by
  refine XA good (fn := Try.f64) rfl ?_
  simp only [entry, List.getD_cons_zero, List.getD_cons_succ]
  repeat' first | refine SW.step good fun K hK => ?_ | refine X2 good fun K hK => ?_ | refine X3 good fun K hK => ?_ | refine SW.seqK fun J hJ => ?_ | refine SW.last good fun K hK => ?_ | (refine hK _ ?_; clear hK K) | (refine hJ _ _ (Wk.refl _) ?_; clear hJ J) | clear hK K | clear hJ J | refine SW.skip ?_ | refine SW.ret ?_ | refine SW.retT ?_ | refine SW.retB ?_ | refine SW.exit ?_ | refine SW.exitT ?_ | refine SW.exitB ?_ | refine XN ?_ | refine SW.block ?_ | refine SW.normB ?_ | refine SW.normT ?_ | refine XT ?_ | refine XF ?_ | refine XC (fun h => ?_) (fun h => ?_) | simp only [go_sem, optI, Option.getD_some, Option.getD_none, Int.reduceToNat, reduceIte, Nat.reduceEqDiff, Nat.reduceAdd, Nat.reduceMul, Nat.reduceSub, Nat.reduceLT, Nat.reduceLeDiff, reduceCtorEq, *] | refine Xs _ (fun h => ?_) (fun h => ?_) | with_reducible refine And.intro ?_ ?_
  refine SW.loopTo (α := Unit) (fun _ => ⟨sl [(0, .c true (.sl [])), (1, vI k), (5, vI 0)], hl []⟩) (fun _ => 0) () (fun _ => True) ?_ trivial ?_
  · (refine Xto _ _ ?_ ?_ <;> simp only [go_sem, optI, Option.getD_some, Option.getD_none, Int.reduceToNat, reduceIte, Nat.reduceEqDiff, Nat.reduceAdd, Nat.reduceMul, Nat.reduceSub, Nat.reduceLT, Nat.reduceLeDiff, reduceCtorEq, Option.some.injEq, or_true, true_or] <;> (repeat' with_reducible apply And.intro) <;> (try rfl))
  · rintro ⟨⟩ _
    have e1 : decide ((0 : Int) < ((0 : Nat) : Int)) = false := rfl
    repeat' first | refine SW.step good fun K hK => ?_ | refine X2 good fun K hK => ?_ | refine X3 good fun K hK => ?_ | refine SW.seqK fun J hJ => ?_ | refine SW.last good fun K hK => ?_ | (refine hK _ ?_; clear hK K) | (refine hJ _ _ (Wk.refl _) ?_; clear hJ J) | clear hK K | clear hJ J | refine SW.skip ?_ | refine SW.ret ?_ | refine SW.retT ?_ | refine SW.retB ?_ | refine SW.exit ?_ | refine SW.exitT ?_ | refine SW.exitB ?_ | refine XN ?_ | refine SW.block ?_ | refine SW.normB ?_ | refine SW.normT ?_ | refine XT ?_ | refine XF ?_ | refine XC (fun h => ?_) (fun h => ?_) | simp only [go_sem, optI, Option.getD_some, Option.getD_none, Int.reduceToNat, reduceIte, Nat.reduceEqDiff, Nat.reduceAdd, Nat.reduceMul, Nat.reduceSub, Nat.reduceLT, Nat.reduceLeDiff, reduceCtorEq, *] | refine Xs _ (fun h => ?_) (fun h => ?_) | with_reducible refine And.intro ?_ ?_
    all_goals first | (exfalso; simp at *; done) | skip
    all_goals (refine Xri ?_; rfl)
set_option maxHeartbeats 4000000 in
theorem ac_heldEventS (k : Int) (n : Nat) (hk : 0 ≤ k) (hn : n ≤ 1000000) (hk2 : k ≤ 1000000) : AC Try.prog 65 [.c true (.sl (marks k n)), vI k] (vI (k + 14 * n)) [] := by
  refine XA good (fn := Try.f65) rfl ?_
  simp only [entry, List.getD_cons_zero, List.getD_cons_succ]
  repeat' first | refine SW.step good fun K hK => ?_ | refine X2 good fun K hK => ?_ | refine X3 good fun K hK => ?_ | refine SW.seqK fun J hJ => ?_ | refine SW.last good fun K hK => ?_ | (refine hK _ ?_; clear hK K) | (refine hJ _ _ (Wk.refl _) ?_; clear hJ J) | clear hK K | clear hJ J | refine SW.skip ?_ | refine SW.ret ?_ | refine SW.retT ?_ | refine SW.retB ?_ | refine SW.exit ?_ | refine SW.exitT ?_ | refine SW.exitB ?_ | refine XN ?_ | refine SW.block ?_ | refine SW.normB ?_ | refine SW.normT ?_ | refine XT ?_ | refine XF ?_ | refine XC (fun h => ?_) (fun h => ?_) | simp only [go_sem, optI, Option.getD_some, Option.getD_none, Int.reduceToNat, reduceIte, Nat.reduceEqDiff, Nat.reduceAdd, Nat.reduceMul, Nat.reduceSub, Nat.reduceLT, Nat.reduceLeDiff, reduceCtorEq, *] | refine Xs _ (fun h => ?_) (fun h => ?_) | with_reducible refine And.intro ?_ ?_
  refine SW.loopTo (α := Nat) (fun j => ⟨sl [(0, .c true (.sl (marks k n))), (1, vI (k + 14 * (j : Nat))), (5, vI j)], hl []⟩) (fun j => n - j) 0 (fun j => j ≤ n) ?_ (by simp) ?_
  · (refine Xto _ _ ?_ ?_ <;> simp only [go_sem, optI, Option.getD_some, Option.getD_none, Int.reduceToNat, reduceIte, Nat.reduceEqDiff, Nat.reduceAdd, Nat.reduceMul, Nat.reduceSub, Nat.reduceLT, Nat.reduceLeDiff, reduceCtorEq, Option.some.injEq, or_true, true_or] <;> (repeat' with_reducible apply And.intro) <;> (try rfl))
    all_goals (simp)
  · intro j h2
    have e0 := marks_len k n
    by_cases hj : j < n
    · have e := marks_get (k := k) hj
      have e1 : decide ((j : Int) < n) = true := by simp; omega
      generalize hc : k + 14 * (j : Nat) = c at *
      have hc0 : 0 ≤ c ∧ c ≤ 100000000 := by omega
      have hnx : k + 14 * ((j + 1 : Nat) : Int) = c + 14 := by omega
      have hwj : IntKind.i64.wrap ((j : Int) + 1) = ((j + 1 : Nat) : Int) := wrap64 (by omega) (by omega)
      have hT := ac_markText (c + 13).toNat (by omega)
      rw [show (((c + 13).toNat : Nat) : Int) = c + 13 by omega] at hT
      have w0 : IntKind.i64.wrap (c + 1) = c + 1 := wrapc1 hc0
      have w1 : IntKind.i64.wrap (c + 1 + 1) = c + 2 := wrapc hc0 1 (by decide)
      have w2 : IntKind.i64.wrap (c + 2 + 1) = c + 3 := wrapc hc0 2 (by decide)
      have w3 : IntKind.i64.wrap (c + 3 + 1) = c + 4 := wrapc hc0 3 (by decide)
      have w4 : IntKind.i64.wrap (c + 4 + 1) = c + 5 := wrapc hc0 4 (by decide)
      have w5 : IntKind.i64.wrap (c + 5 + 1) = c + 6 := wrapc hc0 5 (by decide)
      have w6 : IntKind.i64.wrap (c + 6 + 1) = c + 7 := wrapc hc0 6 (by decide)
      have w7 : IntKind.i64.wrap (c + 7 + 1) = c + 8 := wrapc hc0 7 (by decide)
      have w8 : IntKind.i64.wrap (c + 8 + 1) = c + 9 := wrapc hc0 8 (by decide)
      have w9 : IntKind.i64.wrap (c + 9 + 1) = c + 10 := wrapc hc0 9 (by decide)
      have w10 : IntKind.i64.wrap (c + 10 + 1) = c + 11 := wrapc hc0 10 (by decide)
      have w11 : IntKind.i64.wrap (c + 11 + 1) = c + 12 := wrapc hc0 11 (by decide)
      have w12 : IntKind.i64.wrap (c + 12 + 1) = c + 13 := wrapc hc0 12 (by decide)
      have w13 : IntKind.i64.wrap (c + 13 + 1) = c + 14 := wrapc hc0 13 (by decide)
      have n0 : ∀ x : Int, decide (x ≠ x) = false := fun x => by simp
      unfold markEv at e
      repeat' first | refine Xtr [0,1,5] [] (SW.step good fun K hK => ?_) | refine X2 good fun K hK => ?_ | refine X3 good fun K hK => ?_ | refine SW.seqK fun J hJ => ?_ | refine Xtr [0,1,5] [] (SW.last good fun K hK => ?_) | (refine hK _ ?_; clear hK K) | (refine hJ _ _ (Wk.refl _) ?_; clear hJ J) | clear hK K | clear hJ J | refine SW.skip ?_ | refine SW.ret ?_ | refine SW.retT ?_ | refine SW.retB ?_ | refine SW.exit ?_ | refine SW.exitT ?_ | refine SW.exitB ?_ | refine XN ?_ | refine SW.block ?_ | refine SW.normB ?_ | refine SW.normT ?_ | refine XT ?_ | refine XF ?_ | refine XC (fun h => ?_) (fun h => ?_) | refine X0 ?_ | refine Xv ?_ | refine X1 (hT) ?_ | simp only [go_sem, optI, Option.getD_some, Option.getD_none, Int.reduceToNat, reduceIte, Nat.reduceEqDiff, Nat.reduceAdd, Nat.reduceMul, Nat.reduceSub, Nat.reduceLT, Nat.reduceLeDiff, reduceCtorEq, *] | refine Xs _ (fun h => ?_) (fun h => ?_) | with_reducible refine And.intro ?_ ?_
      clear w0 w1 w2 w3 w4 w5 w6 w7 w8 w9 w10 w11 w12 w13
      all_goals first | omega | skip
      all_goals refine ⟨j + 1, by omega, by omega, ?_⟩
      all_goals (refine Xto _ _ ?_ ?_ <;> simp only [go_sem, optI, Option.getD_some, Option.getD_none, Int.reduceToNat, reduceIte, Nat.reduceEqDiff, Nat.reduceAdd, Nat.reduceMul, Nat.reduceSub, Nat.reduceLT, Nat.reduceLeDiff, reduceCtorEq, Option.some.injEq, or_true, true_or] <;> (repeat' with_reducible apply And.intro) <;> (try rfl))
      all_goals first | (rw [hnx]; done) | (rw [hwj]; done) | skip
    · have hj : j = n := by omega
      subst hj
      have e1 : decide ((j : Int) < j) = false := by simp
      repeat' first | refine SW.step good fun K hK => ?_ | refine X2 good fun K hK => ?_ | refine X3 good fun K hK => ?_ | refine SW.seqK fun J hJ => ?_ | refine SW.last good fun K hK => ?_ | (refine hK _ ?_; clear hK K) | (refine hJ _ _ (Wk.refl _) ?_; clear hJ J) | clear hK K | clear hJ J | refine SW.skip ?_ | refine SW.ret ?_ | refine SW.retT ?_ | refine SW.retB ?_ | refine SW.exit ?_ | refine SW.exitT ?_ | refine SW.exitB ?_ | refine XN ?_ | refine SW.block ?_ | refine SW.normB ?_ | refine SW.normT ?_ | refine XT ?_ | refine XF ?_ | refine XC (fun h => ?_) (fun h => ?_) | simp only [go_sem, optI, Option.getD_some, Option.getD_none, Int.reduceToNat, reduceIte, Nat.reduceEqDiff, Nat.reduceAdd, Nat.reduceMul, Nat.reduceSub, Nat.reduceLT, Nat.reduceLeDiff, reduceCtorEq, *] | refine Xs _ (fun h => ?_) (fun h => ?_) | with_reducible refine And.intro ?_ ?_
      all_goals (refine Xri ?_; rfl)
end Go.Proofs.Ytbpfciidbgkekaa.AB
