/- The numbers of a text: both functions. -/
import Derived.Test.YtoemclhjcbcjaaaGreatAbBgForm
import Derived.Test.YtoemclhjcbcjaaaGreatAbBbPure
namespace Go.Proofs.YtoemclhjcbcjaaaGreat.AB
open Go
set_option maxRecDepth 100000
set_option linter.unusedSimpArgs false
set_option linter.unusedVariables false
def levS (seed : Nat) : Nat → List (List UInt8)
  | 0 => row4 seed
  | 1 => row2 seed
  | _ => [keyOf seed]
theorem lev_len (seed j : Nat) (h : j < 2) : (levS seed j).length = 2 * (2 - j) ∧ (levS seed (j + 1)).length = 2 - j := by
  rcases (show j = 0 ∨ j = 1 by omega) with rfl | rfl <;> exact ⟨rfl, rfl⟩
theorem lev_get (seed j k : Nat) (h : j < 2) (hk : k < 2 - j) : (levS seed (j + 1)).getD k [] = pairK ((levS seed j).getD (2 * k) []) ((levS seed j).getD (2 * k + 1) []) := by
  rcases (show (j = 0 ∧ k = 0) ∨ (j = 0 ∧ k = 1) ∨ (j = 1 ∧ k = 0) by omega) with ⟨rfl, rfl⟩ | ⟨rfl, rfl⟩ | ⟨rfl, rfl⟩ <;> rfl
theorem lev_8 (seed j k : Nat) (hk : k < (levS seed j).length) : ((levS seed j).getD k []).length = 8 := by
  match j with
  | 0 =>
    rw [show (levS seed 0).length = 4 from rfl] at hk
    rcases (show k = 0 ∨ k = 1 ∨ k = 2 ∨ k = 3 by omega) with rfl | rfl | rfl | rfl <;> exact cut_len _
  | 1 =>
    rw [show (levS seed 1).length = 2 from rfl] at hk
    rcases (show k = 0 ∨ k = 1 by omega) with rfl | rfl <;> exact cut_len _
  | j + 2 =>
    rw [show (levS seed (j + 2)).length = 1 from rfl] at hk
    rcases (show k = 0 by omega) with rfl; exact cut_len _
theorem strC_get {L : List (List UInt8)} {k : Nat} (h : k < L.length) : (L.map strC).getD k [] = strC (L.getD k []) := by
  rw [getD_map L strC [] h]; simp [List.getD_eq_getElem?_getD, List.getElem?_eq_getElem h]
theorem take_getD {L : List (List UInt8)} {k : Nat} (h : k < L.length) : L.take (k + 1) = L.take k ++ [L.getD k []] := by
  rw [List.take_add_one, List.getElem?_eq_getElem h]; simp [List.getD_eq_getElem?_getD, List.getElem?_eq_getElem h]
def levC (seed : Nat) (j : Nat) : List C := [.sl ((levS seed j).map strC)]
theorem row4_get (seed k : Nat) (h : k < 4) : (row4 seed).getD k [] = leafK seed k := by
  rcases (show k = 0 ∨ k = 1 ∨ k = 2 ∨ k = 3 by omega) with rfl | rfl | rfl | rfl <;> rfl
theorem range_take {α : Type} (f : Nat → α) (n j : Nat) (h : j < n) : ((List.range n).take (j + 1)).map f = ((List.range n).take j).map f ++ [f j] := by
  rw [List.take_add_one, List.getElem?_eq_getElem (by simpa using h), List.map_append]; simp
def levsN (seed n : Nat) : List (List C) := (List.range n).map (levC seed)
theorem hl_some : ∀ {M : List (Id × Ob)} {i : Id}, (hl M i).isSome = true → i ∈ M.map Prod.fst
  | [], i, h => by simp [hl] at h
  | (k, o) :: r, i, h => by
    by_cases e : i = k
    · subst e; simp
    · have h2 : (hl r i).isSome = true := by simpa [hl, e] using h
      simp only [List.map_cons, List.mem_cons]; exact .inr (hl_some h2)
theorem gone_hl {h : Hp} {M : List (Id × Ob)} {j : Id} (hne : ∀ i, i ∈ M.map Prod.fst → i ≠ j) : Wn.gone ⟨fun x => x, h, hl M⟩ j := fun i hi => hne i (hl_some hi)
theorem mul2_dec {k n : Nat} (h : k < n) : decide (((2 * k : Nat) : Int) < ((2 * n : Nat) : Int)) = true := by simp; omega
set_option maxHeartbeats 1000000 in
theorem ac_l04Rows (seed : Nat) (h0 : seed ≤ 1000000) : AC Tryz.prog 105 [vI seed] (.own (.r 0)) [.row false 99 1 (levsN seed 3)] := by
  refine XA good (fn := Tryz.f105) rfl ?_
  simp only [entry, List.getD_cons_zero, List.getD_cons_succ]
  repeat' first | refine SW.step good fun K hK => ?_ | refine X2 good fun K hK => ?_ | refine X3 good fun K hK => ?_ | refine SW.seqK fun J hJ => ?_ | refine SW.last good fun K hK => ?_ | (refine hK _ ?_; clear hK K) | (refine hJ _ _ (Wk.refl _) ?_; clear hJ J) | clear hK K | clear hJ J | refine SW.skip ?_ | refine SW.ret ?_ | refine SW.retT ?_ | refine SW.retB ?_ | refine SW.exit ?_ | refine SW.exitT ?_ | refine SW.exitB ?_ | refine XN ?_ | refine SW.block ?_ | refine SW.normB ?_ | refine SW.normT ?_ | refine XT ?_ | refine XF ?_ | refine XC (fun h => ?_) (fun h => ?_) | simp only [go_sem, optI, Option.getD_some, Option.getD_none, Int.reduceToNat, reduceIte, Nat.reduceEqDiff, Nat.reduceAdd, Nat.reduceMul, Nat.reduceSub, Nat.reduceLT, Nat.reduceLeDiff, reduceCtorEq, *] | refine Xs _ (fun h => ?_) (fun h => ?_) | with_reducible refine And.intro ?_ ?_
  refine SW.loopTo (α := Nat) (fun k => ⟨sl [(0, vI seed), (3, .own (.s 8 0)), (4, vI k)], hl [(.s 8 0, .row false 9 1 (((row4 seed).take k).map strC))]⟩) (fun k => 4 - k) 0 (fun k => k ≤ 4) ?_ (by simp) ?_
  · (refine Xto _ _ ?_ ?_ <;> simp only [go_sem, optI, Option.getD_some, Option.getD_none, Int.reduceToNat, reduceIte, Nat.reduceEqDiff, Nat.reduceAdd, Nat.reduceMul, Nat.reduceSub, Nat.reduceLT, Nat.reduceLeDiff, reduceCtorEq, Option.some.injEq, or_true, true_or] <;> (repeat' with_reducible apply And.intro) <;> (try rfl))
  · intro k h2
    by_cases hk : k < 4
    · have e1 : decide ((k : Int) < 4) = true := by simp; omega
      have hw : IntKind.i64.wrap ((k : Int) + 1) = ((k + 1 : Nat) : Int) := wrap64 (by omega) (by omega)
      have hc := ac_LeafKey' seed k h0 (by omega)
      have ht := take_getD (L := row4 seed) (k := k) hk
      rw [row4_get seed k hk] at ht
      have hlen : ((row4 seed).take k).length ≤ 4 := by rw [List.length_take]; omega
      generalize leafK seed k = X at *
      generalize (row4 seed).take k = Q at *
      repeat' first | refine SW.step good fun K hK => ?_ | refine X2 good fun K hK => ?_ | refine X3 good fun K hK => ?_ | refine SW.seqK fun J hJ => ?_ | refine SW.last good fun K hK => ?_ | (refine hK _ ?_; clear hK K) | (refine hJ _ _ (Wk.refl _) ?_; clear hJ J) | clear hK K | clear hJ J | refine SW.skip ?_ | refine SW.ret ?_ | refine SW.retT ?_ | refine SW.retB ?_ | refine SW.exit ?_ | refine SW.exitT ?_ | refine SW.exitB ?_ | refine XN ?_ | refine SW.block ?_ | refine SW.normB ?_ | refine SW.normT ?_ | refine XT ?_ | refine XF ?_ | refine XC (fun h => ?_) (fun h => ?_) | refine X0 ?_ | refine Xv ?_ | refine X1 (hc) ?_ | simp only [go_sem, optI, Option.getD_some, Option.getD_none, Int.reduceToNat, reduceIte, Nat.reduceEqDiff, Nat.reduceAdd, Nat.reduceMul, Nat.reduceSub, Nat.reduceLT, Nat.reduceLeDiff, reduceCtorEq, *] | refine Xs _ (fun h => ?_) (fun h => ?_) | with_reducible refine And.intro ?_ ?_
      all_goals first | (intro r hr; simp at hr; subst hr; rfl) | (simp [bytesC]; omega) | (simp; done) | omega | rfl | skip
      all_goals refine ⟨k + 1, by omega, by omega, ?_⟩
      all_goals (refine Xto _ _ ?_ ?_ <;> simp only [go_sem, optI, Option.getD_some, Option.getD_none, Int.reduceToNat, reduceIte, Nat.reduceEqDiff, Nat.reduceAdd, Nat.reduceMul, Nat.reduceSub, Nat.reduceLT, Nat.reduceLeDiff, reduceCtorEq, Option.some.injEq, or_true, true_or] <;> (repeat' with_reducible apply And.intro) <;> (try rfl))
      all_goals first | (rw [ht, List.map_append]; rfl) | skip
    · have hk : k = 4 := by omega
      subst hk
      have e1 : decide (((4 : Nat) : Int) < 4) = false := by simp
      rw [show (row4 seed).take 4 = row4 seed from rfl]
      have hZ := hJ
      clear hJ h2 hk
      repeat' first | refine SW.step good fun K hK => ?_ | refine X2 good fun K hK => ?_ | refine X3 good fun K hK => ?_ | refine SW.seqK fun J hJ => ?_ | refine SW.last good fun K hK => ?_ | (refine hK _ ?_; clear hK K) | (refine hJ _ _ (Wk.refl _) ?_; clear hJ J) | clear hK K | clear hJ J | refine SW.skip ?_ | refine SW.ret ?_ | refine SW.retT ?_ | refine SW.retB ?_ | refine SW.exit ?_ | refine SW.exitT ?_ | refine SW.exitB ?_ | refine XN ?_ | refine SW.block ?_ | refine SW.normB ?_ | refine SW.normT ?_ | refine XT ?_ | refine XF ?_ | refine XC (fun h => ?_) (fun h => ?_) | simp only [go_sem, optI, Option.getD_some, Option.getD_none, Int.reduceToNat, reduceIte, Nat.reduceEqDiff, Nat.reduceAdd, Nat.reduceMul, Nat.reduceSub, Nat.reduceLT, Nat.reduceLeDiff, reduceCtorEq, *] | refine Xs _ (fun h => ?_) (fun h => ?_) | with_reducible refine And.intro ?_ ?_
      refine hZ _ ⟨sl [(0, vI seed), (3, .c false (.sl ((row4 seed).map strC)))], hl []⟩ ?_ ?_
      · (refine Xto _ _ ?_ ?_ <;> simp only [go_sem, optI, Option.getD_some, Option.getD_none, Int.reduceToNat, reduceIte, Nat.reduceEqDiff, Nat.reduceAdd, Nat.reduceMul, Nat.reduceSub, Nat.reduceLT, Nat.reduceLeDiff, reduceCtorEq, Option.some.injEq, or_true, true_or] <;> (repeat' with_reducible apply And.intro) <;> (try rfl))
        all_goals first | (exact ⟨_, _, _, ⟨rfl, rfl, rfl⟩, rfl⟩) | (exact gone_hl (by simp)) | skip
      clear hZ J
      repeat' first | refine SW.step good fun K hK => ?_ | refine X2 good fun K hK => ?_ | refine X3 good fun K hK => ?_ | refine SW.seqK fun J hJ => ?_ | refine SW.last good fun K hK => ?_ | (refine hK _ ?_; clear hK K) | (refine hJ _ _ (Wk.refl _) ?_; clear hJ J) | clear hK K | clear hJ J | refine SW.skip ?_ | refine SW.ret ?_ | refine SW.retT ?_ | refine SW.retB ?_ | refine SW.exit ?_ | refine SW.exitT ?_ | refine SW.exitB ?_ | refine XN ?_ | refine SW.block ?_ | refine SW.normB ?_ | refine SW.normT ?_ | refine XT ?_ | refine XF ?_ | refine XC (fun h => ?_) (fun h => ?_) | simp only [go_sem, optI, Option.getD_some, Option.getD_none, Int.reduceToNat, reduceIte, Nat.reduceEqDiff, Nat.reduceAdd, Nat.reduceMul, Nat.reduceSub, Nat.reduceLT, Nat.reduceLeDiff, reduceCtorEq, *] | refine Xs _ (fun h => ?_) (fun h => ?_) | with_reducible refine And.intro ?_ ?_
      all_goals first | (intro r hr; simp at hr; subst hr; rfl) | (simp [bytesC]; omega) | (simp; done) | omega | rfl | skip
      refine SW.loopTo (α := Nat) (fun j => ⟨sl [(0, vI seed), (3, .c false (.sl ((levS seed j).map strC))), (5, .own (.s 20 0))], hl [(.s 20 0, .row false 99 1 (levsN seed (j + 1)))]⟩) (fun j => 2 - j) 0 (fun j => j ≤ 2) ?_ (by simp) ?_
      · (refine Xto _ _ ?_ ?_ <;> simp only [go_sem, optI, Option.getD_some, Option.getD_none, Int.reduceToNat, reduceIte, Nat.reduceEqDiff, Nat.reduceAdd, Nat.reduceMul, Nat.reduceSub, Nat.reduceLT, Nat.reduceLeDiff, reduceCtorEq, Option.some.injEq, or_true, true_or] <;> (repeat' with_reducible apply And.intro) <;> (try rfl))
        all_goals first | rfl | skip
      · intro j hj
        by_cases hjl : j < 2
        · obtain ⟨hRl, hPl⟩ := lev_len seed j hjl
          have hg := fun k => lev_get seed j k hjl
          have h8 := lev_8 seed j
          have hout : levsN seed (j + 1 + 1) = levsN seed (j + 1) ++ [[.sl ((levS seed (j + 1)).map strC)]] := by unfold levsN; rw [List.range_succ, List.map_append]; rfl
          have hol : (levsN seed (j + 1)).length ≤ 2 := by unfold levsN; simp; omega
          generalize levsN seed (j + 1) = O at *
          generalize levS seed j = R at *
          generalize hPe : levS seed (j + 1) = P at *
          have hn : 1 ≤ 2 - j ∧ 2 - j ≤ 2 := by omega
          generalize hnn : 2 - j = n at *
          have e2 : decide ((1 : Int) < (R.length : Int)) = true := by simp; omega
          have hRl2 : 2 * n ≤ R.length ∧ R.length ≤ 2 * n := by omega
          have hPl2 : n ≤ P.length ∧ P.length ≤ n := by omega
          clear hRl hPl
          repeat' first | refine SW.step good fun K hK => ?_ | refine X2 good fun K hK => ?_ | refine X3 good fun K hK => ?_ | refine SW.seqK fun J hJ => ?_ | refine SW.last good fun K hK => ?_ | (refine hK _ ?_; clear hK K) | (refine hJ _ _ (Wk.refl _) ?_; clear hJ J) | clear hK K | clear hJ J | refine SW.skip ?_ | refine SW.ret ?_ | refine SW.retT ?_ | refine SW.retB ?_ | refine SW.exit ?_ | refine SW.exitT ?_ | refine SW.exitB ?_ | refine XN ?_ | refine SW.block ?_ | refine SW.normB ?_ | refine SW.normT ?_ | refine XT ?_ | refine XF ?_ | refine XC (fun h => ?_) (fun h => ?_) | simp only [go_sem, optI, Option.getD_some, Option.getD_none, Int.reduceToNat, reduceIte, Nat.reduceEqDiff, Nat.reduceAdd, Nat.reduceMul, Nat.reduceSub, Nat.reduceLT, Nat.reduceLeDiff, reduceCtorEq, *] | refine Xs _ (fun h => ?_) (fun h => ?_) | with_reducible refine And.intro ?_ ?_
          all_goals first | (intro r hr; simp at hr; subst hr; rfl) | (simp [bytesC]; omega) | (simp; done) | omega | rfl | skip
          refine SW.loopTo (α := Nat) (fun k => ⟨sl [(0, vI seed), (3, .c false (.sl (R.map strC))), (5, .own (.s 20 0)), (6, .own (.s 24 0)), (7, vI ((2 * k : Nat) : Int))], hl [(.s 20 0, .row false 99 1 O), (.s 24 0, .row false 9 1 ((P.take k).map strC))]⟩) (fun k => n - k) 0 (fun k => k ≤ n) ?_ (by simp) ?_
          · (refine Xto _ _ ?_ ?_ <;> simp only [go_sem, optI, Option.getD_some, Option.getD_none, Int.reduceToNat, reduceIte, Nat.reduceEqDiff, Nat.reduceAdd, Nat.reduceMul, Nat.reduceSub, Nat.reduceLT, Nat.reduceLeDiff, reduceCtorEq, Option.some.injEq, or_true, true_or] <;> (repeat' with_reducible apply And.intro) <;> (try rfl))
            all_goals first | rfl | skip
          · intro k hk2
            by_cases hkn : k < n
            · have i1 : (2 * k : Nat) < R.length := by omega
              have i2 : (2 * k + 1 : Nat) < R.length := by omega
              have f1 := strC_get i1
              have f2 := strC_get i2
              have w1 : IntKind.i64.wrap (((2 * k : Nat) : Int) + 1) = ((2 * k + 1 : Nat) : Int) := wrap64 (by omega) (by omega)
              have w2 : IntKind.i64.wrap (((2 * k : Nat) : Int) + 2) = ((2 * (k + 1) : Nat) : Int) := by rw [wrap64 (by omega) (by omega)]; omega
              have d1 : decide (((2 * k : Nat) : Int) < (R.length : Int)) = true := by simp; omega
              have d2 : decide (((2 * k + 1 : Nat) : Int) < (R.length : Int)) = true := by simp; omega
              have a8 := h8 _ i1
              have b8 := h8 _ i2
              have hp := hg k hkn
              have ht := take_getD (L := P) (k := k) (by omega)
              rw [hp] at ht
              generalize R.getD (2 * k) [] = X at *
              generalize R.getD (2 * k + 1) [] = Y at *
              have hs := ac_l04Cut (110 :: (X ++ Y)) (by simp only [List.length_cons, List.length_append]; omega)
              have hpk : pairK X Y = cutD (110 :: (X ++ Y)) := rfl
              rw [hpk] at ht
              have hcl := cut_len (110 :: (X ++ Y))
              generalize cutD (110 :: (X ++ Y)) = Z at *
              have hql : (P.take k).length ≤ 2 := by rw [List.length_take]; omega
              generalize hP1 : P.take (k + 1) = P1 at *
              generalize P.take k = Q at *
              have i3 : ((2 * k + 1 : Nat) : Int) < R.length := by omega
              have i4 : ((2 * k : Nat) : Int) < R.length := by omega
              clear hg h8 hp hpk e2 hout hJ
              generalize hk3 : 2 * (k + 1) = k3 at *
              generalize 2 * k + 1 = k2 at *
              generalize 2 * k = k1 at *
              repeat' first | refine SW.step good fun K hK => ?_ | refine X2 good fun K hK => ?_ | refine X3 good fun K hK => ?_ | refine SW.seqK fun J hJ => ?_ | refine SW.last good fun K hK => ?_ | (refine hK _ ?_; clear hK K) | (refine hJ _ _ (Wk.refl _) ?_; clear hJ J) | clear hK K | clear hJ J | refine SW.skip ?_ | refine SW.ret ?_ | refine SW.retT ?_ | refine SW.retB ?_ | refine SW.exit ?_ | refine SW.exitT ?_ | refine SW.exitB ?_ | refine XN ?_ | refine SW.block ?_ | refine SW.normB ?_ | refine SW.normT ?_ | refine XT ?_ | refine XF ?_ | refine XC (fun h => ?_) (fun h => ?_) | refine X0 ?_ | refine Xv ?_ | refine X1 (hs) ?_ | simp only [go_sem, optI, Option.getD_some, Option.getD_none, Int.reduceToNat, reduceIte, Nat.reduceEqDiff, Nat.reduceAdd, Nat.reduceMul, Nat.reduceSub, Nat.reduceLT, Nat.reduceLeDiff, reduceCtorEq, *] | refine Xs _ (fun h => ?_) (fun h => ?_) | with_reducible refine And.intro ?_ ?_
              all_goals first | (intro r hr; simp at hr; subst hr; rfl) | (simp [bytesC]; omega) | (simp; done) | omega | rfl | skip
              all_goals refine ⟨k + 1, by omega, by omega, ?_⟩
              all_goals (refine Xto _ _ ?_ ?_ <;> simp only [go_sem, optI, Option.getD_some, Option.getD_none, Int.reduceToNat, reduceIte, Nat.reduceEqDiff, Nat.reduceAdd, Nat.reduceMul, Nat.reduceSub, Nat.reduceLT, Nat.reduceLeDiff, reduceCtorEq, Option.some.injEq, or_true, true_or] <;> (repeat' with_reducible apply And.intro) <;> (try rfl))
              all_goals first | (rw [hP1, ht, List.map_append]; rfl) | (rw [ht, List.map_append]; rfl) | (rw [hk3]; done) | skip
            · have hkn : k = n := by omega
              subst hkn
              have ht : P.take k = P := List.take_of_length_le (by omega)
              rw [ht]
              have d1 : decide (((2 * k : Nat) : Int) < (R.length : Int)) = false := by simp; omega
              have w1 : IntKind.i64.wrap (((2 * k : Nat) : Int) + 1) = ((2 * k + 1 : Nat) : Int) := wrap64 (by omega) (by omega)
              have d2 : decide (((2 * k + 1 : Nat) : Int) < (R.length : Int)) = false := by simp; omega
              have hZ := hJ
              clear hJ hg h8 e2 ht
              repeat' first | refine SW.step good fun K hK => ?_ | refine X2 good fun K hK => ?_ | refine X3 good fun K hK => ?_ | refine SW.seqK fun J hJ => ?_ | refine SW.last good fun K hK => ?_ | (refine hK _ ?_; clear hK K) | (refine hJ _ _ (Wk.refl _) ?_; clear hJ J) | clear hK K | clear hJ J | refine SW.skip ?_ | refine SW.ret ?_ | refine SW.retT ?_ | refine SW.retB ?_ | refine SW.exit ?_ | refine SW.exitT ?_ | refine SW.exitB ?_ | refine XN ?_ | refine SW.block ?_ | refine SW.normB ?_ | refine SW.normT ?_ | refine XT ?_ | refine XF ?_ | refine XC (fun h => ?_) (fun h => ?_) | simp only [go_sem, optI, Option.getD_some, Option.getD_none, Int.reduceToNat, reduceIte, Nat.reduceEqDiff, Nat.reduceAdd, Nat.reduceMul, Nat.reduceSub, Nat.reduceLT, Nat.reduceLeDiff, reduceCtorEq, *] | refine Xs _ (fun h => ?_) (fun h => ?_) | with_reducible refine And.intro ?_ ?_
              refine hZ _ ⟨sl [(0, vI seed), (3, .c false (.sl (R.map strC))), (5, .own (.s 20 0)), (6, .c false (.sl (P.map strC)))], hl [(.s 20 0, .row false 99 1 O)]⟩ ?_ ?_
              · (refine Xto _ _ ?_ ?_ <;> simp only [go_sem, optI, Option.getD_some, Option.getD_none, Int.reduceToNat, reduceIte, Nat.reduceEqDiff, Nat.reduceAdd, Nat.reduceMul, Nat.reduceSub, Nat.reduceLT, Nat.reduceLeDiff, reduceCtorEq, Option.some.injEq, or_true, true_or] <;> (repeat' with_reducible apply And.intro) <;> (try rfl))
                all_goals first | (exact ⟨_, _, _, ⟨rfl, rfl, rfl⟩, rfl⟩) | (exact gone_hl (by simp)) | skip
              clear hZ J
              repeat' first | refine SW.step good fun K hK => ?_ | refine X2 good fun K hK => ?_ | refine X3 good fun K hK => ?_ | refine SW.seqK fun J hJ => ?_ | refine SW.last good fun K hK => ?_ | (refine hK _ ?_; clear hK K) | (refine hJ _ _ (Wk.refl _) ?_; clear hJ J) | clear hK K | clear hJ J | refine SW.skip ?_ | refine SW.ret ?_ | refine SW.retT ?_ | refine SW.retB ?_ | refine SW.exit ?_ | refine SW.exitT ?_ | refine SW.exitB ?_ | refine XN ?_ | refine SW.block ?_ | refine SW.normB ?_ | refine SW.normT ?_ | refine XT ?_ | refine XF ?_ | refine XC (fun h => ?_) (fun h => ?_) | simp only [go_sem, optI, Option.getD_some, Option.getD_none, Int.reduceToNat, reduceIte, Nat.reduceEqDiff, Nat.reduceAdd, Nat.reduceMul, Nat.reduceSub, Nat.reduceLT, Nat.reduceLeDiff, reduceCtorEq, *] | refine Xs _ (fun h => ?_) (fun h => ?_) | with_reducible refine And.intro ?_ ?_
              all_goals first | (intro r hr; simp at hr; subst hr; rfl) | (simp [bytesC]; omega) | (simp; done) | omega | rfl | skip
              all_goals refine ⟨j + 1, by omega, by omega, ?_⟩
              all_goals (refine Xto _ _ ?_ ?_ <;> simp only [go_sem, optI, Option.getD_some, Option.getD_none, Int.reduceToNat, reduceIte, Nat.reduceEqDiff, Nat.reduceAdd, Nat.reduceMul, Nat.reduceSub, Nat.reduceLT, Nat.reduceLeDiff, reduceCtorEq, Option.some.injEq, or_true, true_or] <;> (repeat' with_reducible apply And.intro) <;> (try rfl))
              all_goals first | (rw [hout]; done) | (rw [hPe]; done) | skip
        · have hj2 : j = 2 := by omega
          subst hj2
          have e2 : decide ((1 : Int) < ((levS seed 2).length : Int)) = false := by simp [levS]
          repeat' first | refine SW.step good fun K hK => ?_ | refine X2 good fun K hK => ?_ | refine X3 good fun K hK => ?_ | refine SW.seqK fun J hJ => ?_ | refine SW.last good fun K hK => ?_ | (refine hK _ ?_; clear hK K) | (refine hJ _ _ (Wk.refl _) ?_; clear hJ J) | clear hK K | clear hJ J | refine SW.skip ?_ | refine SW.ret ?_ | refine SW.retT ?_ | refine SW.retB ?_ | refine SW.exit ?_ | refine SW.exitT ?_ | refine SW.exitB ?_ | refine XN ?_ | refine SW.block ?_ | refine SW.normB ?_ | refine SW.normT ?_ | refine XT ?_ | refine XF ?_ | refine XC (fun h => ?_) (fun h => ?_) | simp only [go_sem, optI, Option.getD_some, Option.getD_none, Int.reduceToNat, reduceIte, Nat.reduceEqDiff, Nat.reduceAdd, Nat.reduceMul, Nat.reduceSub, Nat.reduceLT, Nat.reduceLeDiff, reduceCtorEq, *] | refine Xs _ (fun h => ?_) (fun h => ?_) | with_reducible refine And.intro ?_ ?_
          all_goals first | (intro r hr; simp at hr; subst hr; rfl) | (simp [bytesC]; omega) | (simp; done) | omega | rfl | skip
          all_goals refine Xro (i := .s 20 0) ?_ ?_
          all_goals simp [Wn.leO, resOf, Wn.le, Wn.leL, Wn.cw, C.scal, scal, outW, idsTo, hrOf]
end Go.Proofs.YtoemclhjcbcjaaaGreat.AB
namespace Go.Proofs.YtoemclhjcbcjaaaGreat.AB
open Go
set_option maxRecDepth 100000
set_option linter.unusedSimpArgs false
set_option linter.unusedVariables false
def natC (n : Nat) : List C := [cI (n : Int)]
attribute [go_sem] natC
end Go.Proofs.YtoemclhjcbcjaaaGreat.AB
namespace Go.Proofs.YtoemclhjcbcjaaaGreat.AB
open Go
set_option maxRecDepth 100000
set_option linter.unusedSimpArgs false
set_option linter.unusedVariables false
set_option maxHeartbeats 4000000 in
theorem ac_QuadsOf' (t : List UInt8) (ht : t.length ≤ 1048576) : AC Tryz.prog 102 [vS t] (.own (.r 0)) [.row false 3 1 ((quads t).map natC)] := by
  have hd := ac_Digest' t ht
  have hdl := dig_len t
  have hs8 := sum8_le (digest t)
  have hle := q8_le (digest t)
  have hst := sumN_take_le (q8 (digest t))
  unfold quads
  generalize digest t = D at *
  obtain ⟨a, b, r, rfl⟩ : ∃ a b r, D = a :: b :: r := by
    match D, hdl with
    | a :: b :: r, _ => exact ⟨a, b, r, rfl⟩
  have hQ : q8 (a :: b :: r) = [qd a 6, qd a 4, qd a 2, qd a 0, qd b 6, qd b 4, qd b 2, qd b 0] := rfl
  unfold quadsD missQ
  generalize hq : q8 (a :: b :: r) = Q at *
  have hQl : Q.length = 8 := by rw [hQ]; rfl
  refine XA good (fn := Tryz.f102) rfl ?_
  simp only [entry, List.getD_cons_zero, List.getD_cons_succ]
  repeat' first | refine SW.step good fun K hK => ?_ | refine X2 good fun K hK => ?_ | refine X3 good fun K hK => ?_ | refine SW.seqK fun J hJ => ?_ | refine SW.last good fun K hK => ?_ | (refine hK _ ?_; clear hK K) | (refine hJ _ _ (Wk.refl _) ?_; clear hJ J) | clear hK K | clear hJ J | refine SW.skip ?_ | refine SW.ret ?_ | refine SW.retT ?_ | refine SW.retB ?_ | refine SW.exit ?_ | refine SW.exitT ?_ | refine SW.exitB ?_ | refine XN ?_ | refine SW.block ?_ | refine SW.normB ?_ | refine SW.normT ?_ | refine XT ?_ | refine XF ?_ | refine XC (fun h => ?_) (fun h => ?_) | refine X0 ?_ | refine Xv ?_ | refine X1 (hd) ?_ | simp only [go_sem, optI, Option.getD_some, Option.getD_none, Int.reduceToNat, reduceIte, Nat.reduceEqDiff, Nat.reduceAdd, Nat.reduceMul, Nat.reduceSub, Nat.reduceLT, Nat.reduceLeDiff, reduceCtorEq, *] | refine Xs _ (fun h => ?_) (fun h => ?_) | with_reducible refine And.intro ?_ ?_
  all_goals first | omega | (simp; omega) | (simp; done) | skip
  refine SW.loopTo (α := Nat) (fun i => ⟨sl [(4, .own (.s 12 0)), (3, vS (a :: b :: r)), (5, vI (sumN (Q.take (4 * i)) : Nat)), (6, vI i)], hl [(.s 12 0, .row false 3 1 ((Q.take (4 * i)).map natC))]⟩) (fun i => 2 - i) 0 (fun i => i ≤ 2) ?_ (by simp) ?_
  · (refine Xto _ _ ?_ ?_ <;> simp only [go_sem, optI, Option.getD_some, Option.getD_none, Int.reduceToNat, reduceIte, Nat.reduceEqDiff, Nat.reduceAdd, Nat.reduceMul, Nat.reduceSub, Nat.reduceLT, Nat.reduceLeDiff, reduceCtorEq, Option.some.injEq, or_true, true_or] <;> (repeat' with_reducible apply And.intro) <;> (try rfl))
    all_goals first | (simp [sumN]; done) | (simp [bytesC]; done) | skip
  · intro i h2
    by_cases hi : i < 2
    · have e1 : decide ((i : Int) < 2) = true := by simp; omega
      have hw : IntKind.i64.wrap ((i : Int) + 1) = ((i + 1 : Nat) : Int) := wrap64 (by omega) (by omega)
      obtain ⟨y, hy, hyq⟩ : ∃ y : UInt8, (a :: b :: r).getD i 0 = y ∧ ∀ (j : Nat) (h : j < 4), Q[4 * i + j]'(by omega) = qd y (6 - 2 * j) := by
        rcases (show i = 0 ∨ i = 1 by omega) with rfl | rfl
        · refine ⟨a, rfl, fun j h => ?_⟩
          subst hQ
          rcases (show j = 0 ∨ j = 1 ∨ j = 2 ∨ j = 3 by omega) with rfl | rfl | rfl | rfl <;> rfl
        · refine ⟨b, rfl, fun j h => ?_⟩
          subst hQ
          rcases (show j = 0 ∨ j = 1 ∨ j = 2 ∨ j = 3 by omega) with rfl | rfl | rfl | rfl <;> rfl
      clear hQ hd
      repeat' first | refine SW.step good fun K hK => ?_ | refine X2 good fun K hK => ?_ | refine X3 good fun K hK => ?_ | refine SW.seqK fun J hJ => ?_ | refine SW.last good fun K hK => ?_ | (refine hK _ ?_; clear hK K) | (refine hJ _ _ (Wk.refl _) ?_; clear hJ J) | clear hK K | clear hJ J | refine SW.skip ?_ | refine SW.ret ?_ | refine SW.retT ?_ | refine SW.retB ?_ | refine SW.exit ?_ | refine SW.exitT ?_ | refine SW.exitB ?_ | refine XN ?_ | refine SW.block ?_ | refine SW.normB ?_ | refine SW.normT ?_ | refine XT ?_ | refine XF ?_ | refine XC (fun h => ?_) (fun h => ?_) | simp only [go_sem, optI, Option.getD_some, Option.getD_none, Int.reduceToNat, reduceIte, Nat.reduceEqDiff, Nat.reduceAdd, Nat.reduceMul, Nat.reduceSub, Nat.reduceLT, Nat.reduceLeDiff, reduceCtorEq, *] | refine Xs _ (fun h => ?_) (fun h => ?_) | with_reducible refine And.intro ?_ ?_
      all_goals first | (intro r hr; simp at hr; subst hr; rfl) | (simp [bytesC]; omega) | (simp; done) | omega | rfl | skip
      refine SW.loopTo (α := Nat) (fun j => ⟨sl [(4, .own (.s 12 0)), (3, vS (a :: b :: r)), (5, vI (sumN (Q.take (4 * i + j)) : Nat)), (6, vI i), (7, vI (6 - 2 * (j : Int)))], hl [(.s 12 0, .row false 3 1 ((Q.take (4 * i + j)).map natC))]⟩) (fun j => 4 - j) 0 (fun j => j ≤ 4) ?_ (by simp) ?_
      · (refine Xto _ _ ?_ ?_ <;> simp only [go_sem, optI, Option.getD_some, Option.getD_none, Int.reduceToNat, reduceIte, Nat.reduceEqDiff, Nat.reduceAdd, Nat.reduceMul, Nat.reduceSub, Nat.reduceLT, Nat.reduceLeDiff, reduceCtorEq, Option.some.injEq, or_true, true_or] <;> (repeat' with_reducible apply And.intro) <;> (try rfl))
        all_goals first | (simp; done) | skip
      · intro j h3
        have hsl := hst (4 * i + j) hle
        by_cases hj : j < 4
        · have f1 : decide ((0 : Int) ≤ 6 - 2 * (j : Int)) = true := by simp; omega
          have f2 : (6 : Int) - 2 * (j : Int) = ((6 - 2 * j : Nat) : Int) := by omega
          have f3 := shr_qd y (6 - 2 * j) (by omega)
          rw [← f2] at f3
          have f4 := hyq j hj
          have f5 := sumN_take (L := Q) (k := 4 * i + j) (by omega)
          have f6 : Q.take (4 * i + (j + 1)) = Q.take (4 * i + j) ++ [qd y (6 - 2 * j)] := by
            rw [show 4 * i + (j + 1) = 4 * i + j + 1 by omega, List.take_add_one, List.getElem?_eq_getElem (by omega), f4]; rfl
          have f7 : sumN (Q.take (4 * i + (j + 1))) = sumN (Q.take (4 * i + j)) + qd y (6 - 2 * j) := by
            rw [show 4 * i + (j + 1) = 4 * i + j + 1 by omega, f5, f4]
          have f8 := qd_le y (6 - 2 * j)
          have f9 : IntKind.i64.wrap ((sumN (Q.take (4 * i + j)) : Int) + (qd y (6 - 2 * j) : Int)) = (sumN (Q.take (4 * i + (j + 1))) : Int) := by rw [f7, wrap64 (by omega) (by omega)]; omega
          have fu : IntKind.u64.wrap (6 - 2 * (j : Int)) = 6 - 2 * (j : Int) := by simp only [IntKind.wrap, IntKind.bits, IntKind.signed]; simp; omega
          have fa : IntKind.i64.wrap (6 - 2 * (j : Int) - 2) = 6 - 2 * ((j + 1 : Nat) : Int) := by rw [wrap64 (by omega) (by omega)]; omega
          have fb : IntKind.i64.wrap ((y.toNat : Nat) : Int) = (y.toNat : Int) := wrap64 (by omega) (by have := y.toNat_lt; omega)
          have fl : ((Q.take (4 * i + j)).map natC).length ≤ 8 := by simp; omega
          generalize sumN (Q.take (4 * i + j)) = s at *
          generalize qd y (6 - 2 * j) = g at *
          clear hyq hst hle f5 f2 f4 f7 hs8
          repeat' first | refine SW.step good fun K hK => ?_ | refine X2 good fun K hK => ?_ | refine X3 good fun K hK => ?_ | refine SW.seqK fun J hJ => ?_ | refine SW.last good fun K hK => ?_ | (refine hK _ ?_; clear hK K) | (refine hJ _ _ (Wk.refl _) ?_; clear hJ J) | clear hK K | clear hJ J | refine SW.skip ?_ | refine SW.ret ?_ | refine SW.retT ?_ | refine SW.retB ?_ | refine SW.exit ?_ | refine SW.exitT ?_ | refine SW.exitB ?_ | refine XN ?_ | refine SW.block ?_ | refine SW.normB ?_ | refine SW.normT ?_ | refine XT ?_ | refine XF ?_ | refine XC (fun h => ?_) (fun h => ?_) | simp only [go_sem, optI, Option.getD_some, Option.getD_none, Int.reduceToNat, reduceIte, Nat.reduceEqDiff, Nat.reduceAdd, Nat.reduceMul, Nat.reduceSub, Nat.reduceLT, Nat.reduceLeDiff, reduceCtorEq, *] | refine Xs _ (fun h => ?_) (fun h => ?_) | with_reducible refine And.intro ?_ ?_
          all_goals first | (intro r hr; simp at hr; subst hr; rfl) | (simp [bytesC]; omega) | (simp; done) | omega | rfl | skip
          all_goals refine ⟨j + 1, by omega, by omega, ?_⟩
          all_goals (refine Xto _ _ ?_ ?_ <;> simp only [go_sem, optI, Option.getD_some, Option.getD_none, Int.reduceToNat, reduceIte, Nat.reduceEqDiff, Nat.reduceAdd, Nat.reduceMul, Nat.reduceSub, Nat.reduceLT, Nat.reduceLeDiff, reduceCtorEq, Option.some.injEq, or_true, true_or] <;> (repeat' with_reducible apply And.intro) <;> (try rfl))
          all_goals first | (rw [f6, List.map_append]; rfl) | (rw [f6]; done) | skip
        · have hj : j = 4 := by omega
          subst hj
          have f1 : decide ((0 : Int) ≤ 6 - 2 * ((4 : Nat) : Int)) = false := by simp
          repeat' first | refine SW.step good fun K hK => ?_ | refine X2 good fun K hK => ?_ | refine X3 good fun K hK => ?_ | refine SW.seqK fun J hJ => ?_ | refine SW.last good fun K hK => ?_ | (refine hK _ ?_; clear hK K) | (refine hJ _ _ (Wk.refl _) ?_; clear hJ J) | clear hK K | clear hJ J | refine SW.skip ?_ | refine SW.ret ?_ | refine SW.retT ?_ | refine SW.retB ?_ | refine SW.exit ?_ | refine SW.exitT ?_ | refine SW.exitB ?_ | refine XN ?_ | refine SW.block ?_ | refine SW.normB ?_ | refine SW.normT ?_ | refine XT ?_ | refine XF ?_ | refine XC (fun h => ?_) (fun h => ?_) | simp only [go_sem, optI, Option.getD_some, Option.getD_none, Int.reduceToNat, reduceIte, Nat.reduceEqDiff, Nat.reduceAdd, Nat.reduceMul, Nat.reduceSub, Nat.reduceLT, Nat.reduceLeDiff, reduceCtorEq, *] | refine Xs _ (fun h => ?_) (fun h => ?_) | with_reducible refine And.intro ?_ ?_
          all_goals first | (intro r hr; simp at hr; subst hr; rfl) | (simp [bytesC]; omega) | (simp; done) | omega | rfl | skip
          all_goals refine ⟨i + 1, by omega, by omega, ?_⟩
          all_goals (refine Xto _ _ ?_ ?_ <;> simp only [go_sem, optI, Option.getD_some, Option.getD_none, Int.reduceToNat, reduceIte, Nat.reduceEqDiff, Nat.reduceAdd, Nat.reduceMul, Nat.reduceSub, Nat.reduceLT, Nat.reduceLeDiff, reduceCtorEq, Option.some.injEq, or_true, true_or] <;> (repeat' with_reducible apply And.intro) <;> (try rfl))
          all_goals first | rfl | skip
    · have hi : i = 2 := by omega
      subst hi
      have e1 : decide (((2 : Nat) : Int) < 2) = false := by simp
      have hT : Q.take (4 * 2) = Q := List.take_of_length_le (by omega)
      rw [hT]
      have g0 : IntKind.i64.wrap (24 - (sumN Q : Int)) = ((24 - sumN Q : Nat) : Int) := by rw [wrap64 (by omega) (by omega)]; omega
      have hm24 : 24 - sumN Q ≤ 24 := by omega
      generalize 24 - sumN Q = m at *
      generalize sumN Q = su at *
      have d1 : (m : Int).tdiv 16 = ((m / 16 % 4 : Nat) : Int) := by rw [Int.tdiv_eq_ediv_of_nonneg (by omega)]; omega
      have d2 : (m : Int).tdiv 4 = ((m / 4 : Nat) : Int) := by rw [Int.tdiv_eq_ediv_of_nonneg (by omega)]; omega
      have d3 : ((m / 4 : Nat) : Int).tmod 4 = ((m / 4 % 4 : Nat) : Int) := by rw [Int.tmod_eq_emod_of_nonneg (by omega)]; omega
      have d4 : (m : Int).tmod 4 = ((m % 4 : Nat) : Int) := by rw [Int.tmod_eq_emod_of_nonneg (by omega)]; omega
      have w1 : IntKind.i64.wrap ((m / 16 % 4 : Nat) : Int) = ((m / 16 % 4 : Nat) : Int) := wrap64 (by omega) (by omega)
      have w2 : IntKind.i64.wrap ((m / 4 : Nat) : Int) = ((m / 4 : Nat) : Int) := wrap64 (by omega) (by omega)
      have w3 : IntKind.i64.wrap ((m / 4 % 4 : Nat) : Int) = ((m / 4 % 4 : Nat) : Int) := wrap64 (by omega) (by omega)
      have w4 : IntKind.i64.wrap ((m % 4 : Nat) : Int) = ((m % 4 : Nat) : Int) := wrap64 (by omega) (by omega)
      generalize m / 16 % 4 = x1 at *
      generalize m / 4 % 4 = x2 at *
      generalize m / 4 = x3 at *
      generalize m % 4 = x4 at *
      have gl : (Q.map natC).length = 8 := by rw [List.length_map]; exact hQl
      clear hQ hd hdl hst hle
      repeat' first | refine SW.step good fun K hK => ?_ | refine X2 good fun K hK => ?_ | refine X3 good fun K hK => ?_ | refine SW.seqK fun J hJ => ?_ | refine SW.last good fun K hK => ?_ | (refine hK _ ?_; clear hK K) | (refine hJ _ _ (Wk.refl _) ?_; clear hJ J) | clear hK K | clear hJ J | refine SW.skip ?_ | refine SW.ret ?_ | refine SW.retT ?_ | refine SW.retB ?_ | refine SW.exit ?_ | refine SW.exitT ?_ | refine SW.exitB ?_ | refine XN ?_ | refine SW.block ?_ | refine SW.normB ?_ | refine SW.normT ?_ | refine XT ?_ | refine XF ?_ | refine XC (fun h => ?_) (fun h => ?_) | simp only [go_sem, optI, Option.getD_some, Option.getD_none, Int.reduceToNat, reduceIte, Nat.reduceEqDiff, Nat.reduceAdd, Nat.reduceMul, Nat.reduceSub, Nat.reduceLT, Nat.reduceLeDiff, reduceCtorEq, *] | refine Xs _ (fun h => ?_) (fun h => ?_) | with_reducible refine And.intro ?_ ?_
      all_goals first | (intro r hr; simp at hr; subst hr; rfl) | (simp [bytesC]; omega) | (simp; done) | omega | rfl | skip
      refine Xro (i := .s 12 0) ?_ ?_
      · simp only [Wn.leO]; simp [natC]
      · simp [Wn.le, outW, idsTo, hrOf, resOf]
end Go.Proofs.YtoemclhjcbcjaaaGreat.AB
