/- Words vouched for: the reference's function. -/
import Derived.Test.YtoemclhjcbcjaaaGreatAbBdQuads
namespace Go.Proofs.YtoemclhjcbcjaaaGreat.AB
open Go
set_option maxRecDepth 100000
set_option linter.unusedSimpArgs false
set_option linter.unusedVariables false
/-- the ends of a text's signature -/
def sigE (seed leaf : Nat) (Q : List Nat) : List (List UInt8) := (List.range 11).map fun i => chT (secr seed leaf i) (Q.getD i 0)
def flip1 (k : Nat) : Nat := if k % 2 = 0 then k + 1 else k - 1
def sigW (seed leaf : Nat) : List (List UInt8) := [(row4 seed).getD (flip1 leaf) [], (row2 seed).getD (flip1 (leaf / 2)) []]
theorem sigE_len (seed leaf : Nat) (Q : List Nat) : (sigE seed leaf Q).length = 11 := by simp [sigE]
theorem sigE_take (seed leaf : Nat) (Q : List Nat) {k : Nat} (h : k < 11) : (sigE seed leaf Q).take (k + 1) = (sigE seed leaf Q).take k ++ [chT (secr seed leaf k) (Q.getD k 0)] := by
  unfold sigE
  rw [← List.map_take, ← List.map_take, List.take_add_one, List.getElem?_eq_getElem (by simpa using h), List.map_append]; simp
theorem sigE_8 (seed leaf : Nat) (Q : List Nat) : ∀ e, e ∈ sigE seed leaf Q → e.length = 8 := by
  intro e he
  obtain ⟨i, _, rfl⟩ := List.mem_map.1 he
  exact chT8 (show (secr seed leaf i).length = 8 from cut_len _) _
theorem flipF : ∀ x : Fin 4, xorK .i64 ((x.val : Nat) : Int) 1 = ((flip1 x.val : Nat) : Int) := by decide +kernel
theorem flipX (x : Nat) (h : x < 4) : xorK .i64 (x : Int) 1 = ((flip1 x : Nat) : Int) := flipF ⟨x, h⟩
theorem natC_get {Q : List Nat} {k : Nat} (h : k < Q.length) : (Q.map natC).getD k [] = natC (Q.getD k 0) := by
  rw [getD_map Q natC [] h]; simp [List.getD_eq_getElem?_getD, List.getElem?_eq_getElem h]
theorem quad_le {Q : List Nat} (h : ∀ x, x ∈ Q → x ≤ 3) (k : Nat) : Q.getD k 0 ≤ 3 := by
  by_cases hk : k < Q.length
  · rw [List.getD_eq_getElem?_getD, List.getElem?_eq_getElem hk]; exact h _ (List.getElem_mem hk)
  · rw [List.getD_eq_getElem?_getD, List.getElem?_eq_none (by omega)]; simp
set_option maxHeartbeats 2000000 in
theorem ac_SignText' (seed leaf : Nat) (text : List UInt8) (h0 : seed ≤ 1000000) (h1 : leaf ≤ 3) (ht : text.length ≤ 1048576) : AC Tryz.prog 97 [vI seed, vI leaf, vS text] (.tup [.agg [vI leaf, .c false (.sl ((sigE seed leaf (quads text)).map strC)), .c false (.sl ((sigW seed leaf).map strC))], vB true]) [] := by
  have a0 := ac_in' (leaf : Int) 0 3
  rw [inD (by omega)] at a0
  have a1 := ac_l04Few seed h0
  have a2 := ac_QuadsOf' text ht
  have a3 := ac_l04Rows seed h0
  have ql := quads_len text
  have qle := quad_le (quads_le text)
  generalize quads text = Q at *
  have ql2 : 11 ≤ Q.length ∧ Q.length ≤ 11 := by omega
  clear ql
  refine XA good (fn := Tryz.f97) rfl ?_
  simp only [entry, List.getD_cons_zero, List.getD_cons_succ]
  repeat' first | refine SW.step good fun K hK => ?_ | refine X2 good fun K hK => ?_ | refine X3 good fun K hK => ?_ | refine SW.seqK fun J hJ => ?_ | refine SW.last good fun K hK => ?_ | (refine hK _ ?_; clear hK K) | (refine hJ _ _ (Wk.refl _) ?_; clear hJ J) | clear hK K | clear hJ J | refine SW.skip ?_ | refine SW.ret ?_ | refine SW.retT ?_ | refine SW.retB ?_ | refine SW.exit ?_ | refine SW.exitT ?_ | refine SW.exitB ?_ | refine XN ?_ | refine SW.block ?_ | refine SW.normB ?_ | refine SW.normT ?_ | refine XT ?_ | refine XF ?_ | refine XC (fun h => ?_) (fun h => ?_) | refine X0 ?_ | refine Xv ?_ | refine X1 (a0) ?_ | refine X1 (a1) ?_ | refine X1 (a2) ?_ | simp only [go_sem, optI, Option.getD_some, Option.getD_none, Int.reduceToNat, reduceIte, Nat.reduceEqDiff, Nat.reduceAdd, Nat.reduceMul, Nat.reduceSub, Nat.reduceLT, Nat.reduceLeDiff, reduceCtorEq, *] | refine Xs _ (fun h => ?_) (fun h => ?_) | with_reducible refine And.intro ?_ ?_
  all_goals first | (intro r hr; simp at hr; subst hr; rfl) | (simp [bytesC]; omega) | (simp; done) | omega | rfl | skip
  refine SW.loopTo (α := Option Nat) (fun a => match a with
    | none => ⟨sl [(0, vI seed), (1, vI leaf), (6, .ptr (.s 6 0) 0), (8, .ptr (.s 8 0) 0), (9, .own (.s 26 0)), (10, vI (0 : Nat))], hl [(.s 6 0, .box [vI 0, .nil, .nil]), (.s 8 0, .box [vI leaf, .nil, .nil]), (.s 26 0, .row false 3 1 (Q.map natC))]⟩
    | some k => ⟨sl [(0, vI seed), (1, vI leaf), (6, .ptr (.s 6 0) 0), (8, .ptr (.s 8 0) 0), (9, .own (.s 26 0)), (10, vI k)], hl [(.s 6 0, .box [vI 0, .nil, .nil]), (.s 8 0, .box [vI leaf, .own (.s 43 0), .nil]), (.s 26 0, .row false 3 1 (Q.map natC)), (.s 43 0, .row false 9 1 (((sigE seed leaf Q).take k).map strC))]⟩)
    (fun a => match a with | none => 12 | some k => 11 - k) none (fun a => match a with | none => True | some k => 1 ≤ k ∧ k ≤ 11) ?_ trivial ?_
  · (refine Xto _ _ ?_ ?_ <;> simp only [go_sem, optI, Option.getD_some, Option.getD_none, Int.reduceToNat, reduceIte, Nat.reduceEqDiff, Nat.reduceAdd, Nat.reduceMul, Nat.reduceSub, Nat.reduceLT, Nat.reduceLeDiff, reduceCtorEq, Option.some.injEq, or_true, true_or] <;> (repeat' with_reducible apply And.intro) <;> (try rfl))
    all_goals first | (simp [Wn.leO, Wn.leL, Wn.le, Wn.cw, C.scal, scal]; done) | skip
  · rintro (_ | k) hk <;> dsimp only at hk ⊢
    · have hq := qle 0
      have f1 := natC_get (Q := Q) (k := 0) (by omega)
      have s1 := ac_SecretOf' seed leaf 0 h0 h1 (by omega)
      have s2 := ac_ChainOf' (secr seed leaf 0) (by have : (secr seed leaf 0).length = 8 := cut_len _
                                                    omega) (Q.getD 0 0) (by omega)
      have ht1 := sigE_take seed leaf Q (k := 0) (by omega)
      generalize chT (secr seed leaf 0) (Q.getD 0 0) = Y at *
      generalize secr seed leaf 0 = X at *
      generalize Q.getD 0 0 = q at *
      have hQ0 : 0 < Q.length := by omega
      clear a0 a1 a2 a3 hJ qle
      repeat' first | refine SW.step good fun K hK => ?_ | refine X2 good fun K hK => ?_ | refine X3 good fun K hK => ?_ | refine SW.seqK fun J hJ => ?_ | refine SW.last good fun K hK => ?_ | (refine hK _ ?_; clear hK K) | (refine hJ _ _ (Wk.refl _) ?_; clear hJ J) | clear hK K | clear hJ J | refine SW.skip ?_ | refine SW.ret ?_ | refine SW.retT ?_ | refine SW.retB ?_ | refine SW.exit ?_ | refine SW.exitT ?_ | refine SW.exitB ?_ | refine XN ?_ | refine SW.block ?_ | refine SW.normB ?_ | refine SW.normT ?_ | refine XT ?_ | refine XF ?_ | refine XC (fun h => ?_) (fun h => ?_) | refine X0 ?_ | refine Xv ?_ | refine X1 (s1) ?_ | refine X1 (s2) ?_ | simp only [go_sem, optI, Option.getD_some, Option.getD_none, Int.reduceToNat, reduceIte, Nat.reduceEqDiff, Nat.reduceAdd, Nat.reduceMul, Nat.reduceSub, Nat.reduceLT, Nat.reduceLeDiff, reduceCtorEq, *] | refine Xs _ (fun h => ?_) (fun h => ?_) | with_reducible refine And.intro ?_ ?_
      all_goals first | (intro r hr; simp at hr; subst hr; rfl) | (simp [bytesC]; omega) | (simp; done) | omega | rfl | skip
      all_goals refine ⟨some 1, ⟨by omega, by omega⟩, by simp, ?_⟩
      all_goals (refine Xto _ _ ?_ ?_ <;> simp only [go_sem, optI, Option.getD_some, Option.getD_none, Int.reduceToNat, reduceIte, Nat.reduceEqDiff, Nat.reduceAdd, Nat.reduceMul, Nat.reduceSub, Nat.reduceLT, Nat.reduceLeDiff, reduceCtorEq, Option.some.injEq, or_true, true_or] <;> (repeat' with_reducible apply And.intro) <;> (try rfl))
      all_goals first | (rw [ht1]; rfl) | (rw [ht1, List.map_append]; rfl) | (simp [Wn.leO, Wn.leL, Wn.le, Wn.cw, C.scal, scal]; done) | skip
    · obtain ⟨hk1, hk2⟩ := hk
      by_cases hk : k < 11
      · have e1 : decide ((k : Int) < 11) = true := by simp; omega
        have hw : IntKind.i64.wrap ((k : Int) + 1) = ((k + 1 : Nat) : Int) := wrap64 (by omega) (by omega)
        have hq := qle k
        have f1 := natC_get (Q := Q) (k := k) (by omega)
        have s1 := ac_SecretOf' seed leaf k h0 h1 (by omega)
        have s2 := ac_ChainOf' (secr seed leaf k) (by have : (secr seed leaf k).length = 8 := cut_len _
                                                      omega) (Q.getD k 0) (by omega)
        have ht1 := sigE_take seed leaf Q (k := k) (by omega)
        have hel : ((sigE seed leaf Q).take k).length ≤ 11 := by rw [List.length_take]; omega
        generalize chT (secr seed leaf k) (Q.getD k 0) = Y at *
        generalize secr seed leaf k = X at *
        generalize Q.getD k 0 = q at *
        generalize (sigE seed leaf Q).take k = EK at *
        have hQ0 : k < Q.length := by omega
        clear a0 a1 a2 a3 hJ qle
        repeat' first | refine SW.step good fun K hK => ?_ | refine X2 good fun K hK => ?_ | refine X3 good fun K hK => ?_ | refine SW.seqK fun J hJ => ?_ | refine SW.last good fun K hK => ?_ | (refine hK _ ?_; clear hK K) | (refine hJ _ _ (Wk.refl _) ?_; clear hJ J) | clear hK K | clear hJ J | refine SW.skip ?_ | refine SW.ret ?_ | refine SW.retT ?_ | refine SW.retB ?_ | refine SW.exit ?_ | refine SW.exitT ?_ | refine SW.exitB ?_ | refine XN ?_ | refine SW.block ?_ | refine SW.normB ?_ | refine SW.normT ?_ | refine XT ?_ | refine XF ?_ | refine XC (fun h => ?_) (fun h => ?_) | refine X0 ?_ | refine Xv ?_ | refine X1 (s1) ?_ | refine X1 (s2) ?_ | simp only [go_sem, optI, Option.getD_some, Option.getD_none, Int.reduceToNat, reduceIte, Nat.reduceEqDiff, Nat.reduceAdd, Nat.reduceMul, Nat.reduceSub, Nat.reduceLT, Nat.reduceLeDiff, reduceCtorEq, *] | refine Xs _ (fun h => ?_) (fun h => ?_) | with_reducible refine And.intro ?_ ?_
        all_goals first | (intro r hr; simp at hr; subst hr; rfl) | (simp [bytesC]; omega) | (simp; done) | omega | rfl | skip
        all_goals refine ⟨some (k + 1), ⟨by omega, by omega⟩, by simp only; omega, ?_⟩
        all_goals (refine Xto _ _ ?_ ?_ <;> simp only [go_sem, optI, Option.getD_some, Option.getD_none, Int.reduceToNat, reduceIte, Nat.reduceEqDiff, Nat.reduceAdd, Nat.reduceMul, Nat.reduceSub, Nat.reduceLT, Nat.reduceLeDiff, reduceCtorEq, Option.some.injEq, or_true, true_or] <;> (repeat' with_reducible apply And.intro) <;> (try rfl))
        all_goals first | (rw [ht1, List.map_append]; rfl) | (simp [Wn.leO, Wn.leL, Wn.le, Wn.cw, C.scal, scal]; done) | skip
      · have hk : k = 11 := by omega
        subst hk
        have e1 : decide (((11 : Nat) : Int) < 11) = false := by simp
        rw [show (sigE seed leaf Q).take 11 = sigE seed leaf Q from List.take_of_length_le (by rw [sigE_len]; omega)]
        generalize sigE seed leaf Q = E at *
        clear hk1 hk2 qle
        have M0 : (levsN seed 3).getD 0 [] = [.sl ((row4 seed).map strC)] := rfl
        have M1 : (levsN seed 3).getD 1 [] = [.sl ((row2 seed).map strC)] := rfl
        have Ml : 3 ≤ (levsN seed 3).length ∧ (levsN seed 3).length ≤ 3 := ⟨Nat.le_refl 3, Nat.le_refl 3⟩
        have hx0 := flipX leaf (by omega)
        have hx1 := flipX (leaf / 2) (by omega)
        have hy0 : flip1 leaf < 4 := by unfold flip1; split <;> omega
        have hy1 : flip1 (leaf / 2) < 2 := by unfold flip1; split <;> omega
        have r4 : (row4 seed).length = 4 := rfl
        have r2 : (row2 seed).length = 2 := rfl
        have g0 := strC_get (L := row4 seed) (k := flip1 leaf) (by omega)
        have g1 := strC_get (L := row2 seed) (k := flip1 (leaf / 2)) (by omega)
        have hW : sigW seed leaf = [(row4 seed).getD (flip1 leaf) [], (row2 seed).getD (flip1 (leaf / 2)) []] := rfl
        have q1 : (leaf : Int).tdiv 2 = ((leaf / 2 : Nat) : Int) := by rw [Int.tdiv_eq_ediv_of_nonneg (by omega)]; omega
        have q2 : IntKind.i64.wrap ((leaf / 2 : Nat) : Int) = ((leaf / 2 : Nat) : Int) := wrap64 (by omega) (by omega)
        have q3 : ((leaf / 2 : Nat) : Int).tdiv 2 = ((leaf / 2 / 2 : Nat) : Int) := by rw [Int.tdiv_eq_ediv_of_nonneg (by omega)]; omega
        have q4 : IntKind.i64.wrap ((leaf / 2 / 2 : Nat) : Int) = ((leaf / 2 / 2 : Nat) : Int) := wrap64 (by omega) (by omega)
        have n0 : flip1 leaf < (row4 seed).length := by omega
        have n1 : flip1 (leaf / 2) < (row2 seed).length := by omega
        have n2 : ((row4 seed).map strC).length = (row4 seed).length := List.length_map ..
        generalize levsN seed 3 = M at *
        generalize row4 seed = R4 at *
        generalize row2 seed = R2 at *
        generalize R4.getD (flip1 leaf) [] = W0 at *
        generalize R2.getD (flip1 (leaf / 2)) [] = W1 at *
        generalize flip1 (leaf / 2) = x1 at *
        generalize flip1 leaf = x0 at *
        generalize hl4 : leaf / 2 / 2 = l4 at *
        generalize hl2 : leaf / 2 = l2 at *
        generalize sigW seed leaf = WW at *
        clear r4 r2 hl2 hl4 n2
        repeat' first | refine SW.step good fun K hK => ?_ | refine X2 good fun K hK => ?_ | refine X3 good fun K hK => ?_ | refine SW.seqK fun J hJ => ?_ | refine SW.last good fun K hK => ?_ | (refine hK _ ?_; clear hK K) | (refine hJ _ _ (Wk.refl _) ?_; clear hJ J) | clear hK K | clear hJ J | refine SW.skip ?_ | refine SW.ret ?_ | refine SW.retT ?_ | refine SW.retB ?_ | refine SW.exit ?_ | refine SW.exitT ?_ | refine SW.exitB ?_ | refine XN ?_ | refine SW.block ?_ | refine SW.normB ?_ | refine SW.normT ?_ | refine XT ?_ | refine XF ?_ | refine XC (fun h => ?_) (fun h => ?_) | refine X0 ?_ | refine Xv ?_ | refine X1 (a3) ?_ | simp only [go_sem, optI, Option.getD_some, Option.getD_none, Int.reduceToNat, reduceIte, Nat.reduceEqDiff, Nat.reduceAdd, Nat.reduceMul, Nat.reduceSub, Nat.reduceLT, Nat.reduceLeDiff, reduceCtorEq, *] | refine Xs _ (fun h => ?_) (fun h => ?_) | with_reducible refine And.intro ?_ ?_
        all_goals first | (intro r hr; simp at hr; subst hr; rfl) | (simp [bytesC]; omega) | (simp; done) | omega | rfl | skip
        refine SW.loopTo (α := Nat) (fun a => match a with
          | 0 => ⟨sl [(6, .ptr (.s 6 0) 0), (8, .ptr (.s 8 0) 0), (11, .own (.s 46 0)), (12, vI leaf), (13, vI (0 : Nat))], hl [(.s 6 0, .box [vI 0, .nil, .nil]), (.s 8 0, .box [vI leaf, .own (.s 43 0), .nil]), (.s 43 0, .row false 9 1 (E.map strC)), (.s 46 0, .row false 99 1 M)]⟩
          | 1 => ⟨sl [(6, .ptr (.s 6 0) 0), (8, .ptr (.s 8 0) 0), (11, .own (.s 46 0)), (12, vI l2), (13, vI (1 : Nat))], hl [(.s 6 0, .box [vI 0, .nil, .nil]), (.s 8 0, .box [vI leaf, .own (.s 43 0), .own (.s 66 0)]), (.s 43 0, .row false 9 1 (E.map strC)), (.s 46 0, .row false 99 1 M), (.s 66 0, .row false 9 1 [strC W0])]⟩
          | _ => ⟨sl [(6, .ptr (.s 6 0) 0), (8, .ptr (.s 8 0) 0), (11, .own (.s 46 0)), (12, vI l4), (13, vI (2 : Nat))], hl [(.s 6 0, .box [vI 0, .nil, .nil]), (.s 8 0, .box [vI leaf, .own (.s 43 0), .own (.s 66 0)]), (.s 43 0, .row false 9 1 (E.map strC)), (.s 46 0, .row false 99 1 M), (.s 66 0, .row false 9 1 [strC W0, strC W1])]⟩)
          (fun a => 2 - a) 0 (fun a => a ≤ 2) ?_ (by simp) ?_
        · (refine Xto _ _ ?_ ?_ <;> simp only [go_sem, optI, Option.getD_some, Option.getD_none, Int.reduceToNat, reduceIte, Nat.reduceEqDiff, Nat.reduceAdd, Nat.reduceMul, Nat.reduceSub, Nat.reduceLT, Nat.reduceLeDiff, reduceCtorEq, Option.some.injEq, or_true, true_or] <;> (repeat' with_reducible apply And.intro) <;> (try rfl))
          all_goals first | (simp [Wn.leO, Wn.leL, Wn.le, Wn.cw, C.scal, scal]; done) | skip
        · intro a ha
          rcases (show a = 0 ∨ a = 1 ∨ a = 2 by omega) with rfl | rfl | rfl
          all_goals (try dsimp only)
          · have d1 : decide ((1 : Int) < (M.length : Int)) = true := by simp; omega
            have v1 : IntKind.i64.wrap (((0 : Nat) : Int) + 1) = 1 := by decide
            repeat' first | refine SW.step good fun K hK => ?_ | refine X2 good fun K hK => ?_ | refine X3 good fun K hK => ?_ | refine SW.seqK fun J hJ => ?_ | refine SW.last good fun K hK => ?_ | (refine hK _ ?_; clear hK K) | (refine hJ _ _ (Wk.refl _) ?_; clear hJ J) | clear hK K | clear hJ J | refine SW.skip ?_ | refine SW.ret ?_ | refine SW.retT ?_ | refine SW.retB ?_ | refine SW.exit ?_ | refine SW.exitT ?_ | refine SW.exitB ?_ | refine XN ?_ | refine SW.block ?_ | refine SW.normB ?_ | refine SW.normT ?_ | refine XT ?_ | refine XF ?_ | refine XC (fun h => ?_) (fun h => ?_) | simp only [go_sem, optI, Option.getD_some, Option.getD_none, Int.reduceToNat, reduceIte, Nat.reduceEqDiff, Nat.reduceAdd, Nat.reduceMul, Nat.reduceSub, Nat.reduceLT, Nat.reduceLeDiff, reduceCtorEq, *] | refine Xs _ (fun h => ?_) (fun h => ?_) | with_reducible refine And.intro ?_ ?_
            all_goals first | (intro r hr; simp at hr; subst hr; rfl) | (simp [bytesC]; omega) | (simp; done) | omega | rfl | skip
            all_goals refine ⟨1, by omega, by omega, ?_⟩
            all_goals (try dsimp only)
            all_goals (refine Xto _ _ ?_ ?_ <;> simp only [go_sem, optI, Option.getD_some, Option.getD_none, Int.reduceToNat, reduceIte, Nat.reduceEqDiff, Nat.reduceAdd, Nat.reduceMul, Nat.reduceSub, Nat.reduceLT, Nat.reduceLeDiff, reduceCtorEq, Option.some.injEq, or_true, true_or] <;> (repeat' with_reducible apply And.intro) <;> (try rfl))
            all_goals first | rfl | (simp [Wn.leO, Wn.leL, Wn.le, Wn.cw, C.scal, scal]; done) | skip
          · have d1 : decide ((2 : Int) < (M.length : Int)) = true := by simp; omega
            have v1 : IntKind.i64.wrap (((1 : Nat) : Int) + 1) = 2 := by decide
            repeat' first | refine SW.step good fun K hK => ?_ | refine X2 good fun K hK => ?_ | refine X3 good fun K hK => ?_ | refine SW.seqK fun J hJ => ?_ | refine SW.last good fun K hK => ?_ | (refine hK _ ?_; clear hK K) | (refine hJ _ _ (Wk.refl _) ?_; clear hJ J) | clear hK K | clear hJ J | refine SW.skip ?_ | refine SW.ret ?_ | refine SW.retT ?_ | refine SW.retB ?_ | refine SW.exit ?_ | refine SW.exitT ?_ | refine SW.exitB ?_ | refine XN ?_ | refine SW.block ?_ | refine SW.normB ?_ | refine SW.normT ?_ | refine XT ?_ | refine XF ?_ | refine XC (fun h => ?_) (fun h => ?_) | simp only [go_sem, optI, Option.getD_some, Option.getD_none, Int.reduceToNat, reduceIte, Nat.reduceEqDiff, Nat.reduceAdd, Nat.reduceMul, Nat.reduceSub, Nat.reduceLT, Nat.reduceLeDiff, reduceCtorEq, *] | refine Xs _ (fun h => ?_) (fun h => ?_) | with_reducible refine And.intro ?_ ?_
            all_goals first | (intro r hr; simp at hr; subst hr; rfl) | (simp [bytesC]; omega) | (simp; done) | omega | rfl | skip
            all_goals refine ⟨2, by omega, by omega, ?_⟩
            all_goals (try dsimp only)
            all_goals (refine Xto _ _ ?_ ?_ <;> simp only [go_sem, optI, Option.getD_some, Option.getD_none, Int.reduceToNat, reduceIte, Nat.reduceEqDiff, Nat.reduceAdd, Nat.reduceMul, Nat.reduceSub, Nat.reduceLT, Nat.reduceLeDiff, reduceCtorEq, Option.some.injEq, or_true, true_or] <;> (repeat' with_reducible apply And.intro) <;> (try rfl))
            all_goals first | rfl | (simp [Wn.leO, Wn.leL, Wn.le, Wn.cw, C.scal, scal]; done) | skip
          · have d1 : decide ((3 : Int) < (M.length : Int)) = false := by simp; omega
            have v1 : IntKind.i64.wrap (((2 : Nat) : Int) + 1) = 3 := by decide
            repeat' first | refine SW.step good fun K hK => ?_ | refine X2 good fun K hK => ?_ | refine X3 good fun K hK => ?_ | refine SW.seqK fun J hJ => ?_ | refine SW.last good fun K hK => ?_ | (refine hK _ ?_; clear hK K) | (refine hJ _ _ (Wk.refl _) ?_; clear hJ J) | clear hK K | clear hJ J | refine SW.skip ?_ | refine SW.ret ?_ | refine SW.retT ?_ | refine SW.retB ?_ | refine SW.exit ?_ | refine SW.exitT ?_ | refine SW.exitB ?_ | refine XN ?_ | refine SW.block ?_ | refine SW.normB ?_ | refine SW.normT ?_ | refine XT ?_ | refine XF ?_ | refine XC (fun h => ?_) (fun h => ?_) | simp only [go_sem, optI, Option.getD_some, Option.getD_none, Int.reduceToNat, reduceIte, Nat.reduceEqDiff, Nat.reduceAdd, Nat.reduceMul, Nat.reduceSub, Nat.reduceLT, Nat.reduceLeDiff, reduceCtorEq, *] | refine Xs _ (fun h => ?_) (fun h => ?_) | with_reducible refine And.intro ?_ ?_
            all_goals first | (intro r hr; simp at hr; subst hr; rfl) | (simp [bytesC]; omega) | (simp; done) | omega | rfl | skip
            all_goals (refine Xrp ?_)
            all_goals simp [resOf, Wn.le, Wn.leL, Wn.cw, gone0, outW, C.scal, scal, hupd, hl, hW, go_sem]
theorem signForm_is2 {s : Sign} (h : signForm s = true) : (0 ≤ s.leaf ∧ s.leaf ≤ 3) ∧ s.ends.length = 11 ∧ s.way.length = 2 ∧ len8 s.ends = true ∧ len8 s.way = true := by
  unfold signForm at h
  simp only [Bool.and_eq_true, decide_eq_true_eq] at h
  exact ⟨h.1, h.2.1, h.2.2.1, h.2.2.2.1, h.2.2.2.2⟩
def sayT (L : List (List UInt8)) : List UInt8 := L.flatMap fun e => varI 8 ++ e
theorem sayT_take {L : List (List UInt8)} {k : Nat} (h : k < L.length) : sayT (L.take (k + 1)) = sayT (L.take k) ++ varI 8 ++ L[k] := by
  unfold sayT
  rw [List.take_add_one, List.getElem?_eq_getElem h, List.flatMap_append]; simp
theorem sayT_len : ∀ (L : List (List UInt8)), (∀ e, e ∈ L → e.length = 8) → (sayT L).length ≤ 18 * L.length
  | [], _ => by simp [sayT]
  | e :: L, h => by
    have h1 := sayT_len L (fun x hx => h x (List.mem_cons_of_mem _ hx))
    have h2 := h e (by simp)
    have h3 := varI_len 8
    unfold sayT at *
    simp only [List.flatMap_cons, List.length_append, List.length_cons]; omega
set_option maxHeartbeats 2000000 in
theorem ac_VouchedText' (v : Vouched) (hE : SmallS v.sign.ends) (hW : SmallS v.sign.way) : ∃ t : List UInt8, t.length ≤ 400 ∧ AC Tryz.prog 70 [encVou true v] (vS t) [] := by
  have c0 := ac_CredText' v.cred
  have c1 := ac_l04Form v.sign true hE hW
  have htl := credText_len v.cred
  generalize credText v.cred = tx at *
  obtain ⟨⟨xk, ⟨o1, o2⟩, xw, ⟨a1, a2⟩, ⟨b1, b2⟩, xt, xn⟩, ⟨lf, E, W⟩⟩ := v
  by_cases h0 : tx = []
  · refine ⟨[], by simp, ?_⟩
    subst h0
    simp only [encCred, encSign] at c0 c1
    refine XA good (fn := Tryz.f70) rfl ?_
    simp only [entry, List.getD_cons_zero, List.getD_cons_succ]
    repeat' first | refine SW.step good fun K hK => ?_ | refine X2 good fun K hK => ?_ | refine X3 good fun K hK => ?_ | refine SW.seqK fun J hJ => ?_ | refine SW.last good fun K hK => ?_ | (refine hK _ ?_; clear hK K) | (refine hJ _ _ (Wk.refl _) ?_; clear hJ J) | clear hK K | clear hJ J | refine SW.skip ?_ | refine SW.ret ?_ | refine SW.retT ?_ | refine SW.retB ?_ | refine SW.exit ?_ | refine SW.exitT ?_ | refine SW.exitB ?_ | refine XN ?_ | refine SW.block ?_ | refine SW.normB ?_ | refine SW.normT ?_ | refine XT ?_ | refine XF ?_ | refine XC (fun h => ?_) (fun h => ?_) | refine X0 ?_ | refine Xv ?_ | refine X1 (c0) ?_ | refine X1 (c1) ?_ | simp only [go_sem, optI, Option.getD_some, Option.getD_none, Int.reduceToNat, reduceIte, Nat.reduceEqDiff, Nat.reduceAdd, Nat.reduceMul, Nat.reduceSub, Nat.reduceLT, Nat.reduceLeDiff, reduceCtorEq, *] | refine Xs _ (fun h => ?_) (fun h => ?_) | with_reducible refine And.intro ?_ ?_
    all_goals first | (exfalso; simp at *; done) | (intro r hr; simp at hr; subst hr; rfl) | (simp [bytesC]; omega) | (simp; done) | omega | rfl | skip
    all_goals (refine Xrs ?_; rfl)
  have d0 : decide (tx = []) = false := by simpa using h0
  cases hf : signForm ⟨lf, E, W⟩ with
  | false =>
    refine ⟨[], by simp, ?_⟩
    rw [hf] at c1
    simp only [encCred, encSign] at c0 c1
    refine XA good (fn := Tryz.f70) rfl ?_
    simp only [entry, List.getD_cons_zero, List.getD_cons_succ]
    repeat' first | refine SW.step good fun K hK => ?_ | refine X2 good fun K hK => ?_ | refine X3 good fun K hK => ?_ | refine SW.seqK fun J hJ => ?_ | refine SW.last good fun K hK => ?_ | (refine hK _ ?_; clear hK K) | (refine hJ _ _ (Wk.refl _) ?_; clear hJ J) | clear hK K | clear hJ J | refine SW.skip ?_ | refine SW.ret ?_ | refine SW.retT ?_ | refine SW.retB ?_ | refine SW.exit ?_ | refine SW.exitT ?_ | refine SW.exitB ?_ | refine XN ?_ | refine SW.block ?_ | refine SW.normB ?_ | refine SW.normT ?_ | refine XT ?_ | refine XF ?_ | refine XC (fun h => ?_) (fun h => ?_) | refine X0 ?_ | refine Xv ?_ | refine X1 (c0) ?_ | refine X1 (c1) ?_ | simp only [go_sem, optI, Option.getD_some, Option.getD_none, Int.reduceToNat, reduceIte, Nat.reduceEqDiff, Nat.reduceAdd, Nat.reduceMul, Nat.reduceSub, Nat.reduceLT, Nat.reduceLeDiff, reduceCtorEq, *] | refine Xs _ (fun h => ?_) (fun h => ?_) | with_reducible refine And.intro ?_ ?_
    all_goals first | (exfalso; simp at h; exact h0 h) | (exfalso; simp at *; done) | (intro r hr; simp at hr; subst hr; rfl) | (simp [bytesC]; omega) | (simp; done) | omega | rfl | skip
    all_goals (refine Xrs ?_; rfl)
  | true =>
    obtain ⟨g1, g2, g3, g4, g5⟩ := signForm_is2 hf
    simp only at g1 g2 g3 g4 g5
    rw [hf] at c1
    have g2' : 11 ≤ E.length ∧ E.length ≤ 11 := by omega
    have g3' : 2 ≤ W.length ∧ W.length ≤ 2 := by omega
    clear g2 g3
    have sE := sayT_len E (fun e he => by simpa using List.all_eq_true.1 g4 e he)
    have sW := sayT_len W (fun e he => by simpa using List.all_eq_true.1 g5 e he)
    have e8 : ∀ e, e ∈ E → e.length = 8 := fun e he => by simpa using List.all_eq_true.1 g4 e he
    have w8 : ∀ e, e ∈ W → e.length = 8 := fun e he => by simpa using List.all_eq_true.1 g5 e he
    have v1 := ac_var' (tx.length : Int) (by omega) (by omega)
    have v2 := ac_var' lf (by omega) (by omega)
    have v3 := ac_var' 8 (by omega) (by omega)
    have l1 := varI_len (tx.length : Int)
    have l2 := varI_len lf
    have l3 := varI_len 8
    refine ⟨varI tx.length ++ tx ++ varI lf ++ sayT E ++ sayT W, by simp only [List.length_append]; omega, ?_⟩
    simp only [encCred, encSign] at c0 c1
    generalize varI (tx.length : Int) = V1 at *
    generalize varI lf = V2 at *
    have hpl : (V1 ++ tx ++ V2).length ≤ 120 := by simp only [List.length_append]; omega
    clear hf g4 g5 g1 hE hW
    refine XA good (fn := Tryz.f70) rfl ?_
    simp only [entry, List.getD_cons_zero, List.getD_cons_succ]
    repeat' first | refine SW.step good fun K hK => ?_ | refine X2 good fun K hK => ?_ | refine X3 good fun K hK => ?_ | refine SW.seqK fun J hJ => ?_ | refine SW.last good fun K hK => ?_ | (refine hK _ ?_; clear hK K) | (refine hJ _ _ (Wk.refl _) ?_; clear hJ J) | clear hK K | clear hJ J | refine SW.skip ?_ | refine SW.ret ?_ | refine SW.retT ?_ | refine SW.retB ?_ | refine SW.exit ?_ | refine SW.exitT ?_ | refine SW.exitB ?_ | refine XN ?_ | refine SW.block ?_ | refine SW.normB ?_ | refine SW.normT ?_ | refine XT ?_ | refine XF ?_ | refine XC (fun h => ?_) (fun h => ?_) | refine X0 ?_ | refine Xv ?_ | refine X1 (c0) ?_ | refine X1 (c1) ?_ | refine X1 (v1) ?_ | refine X1 (v2) ?_ | simp only [go_sem, optI, Option.getD_some, Option.getD_none, Int.reduceToNat, reduceIte, Nat.reduceEqDiff, Nat.reduceAdd, Nat.reduceMul, Nat.reduceSub, Nat.reduceLT, Nat.reduceLeDiff, reduceCtorEq, *] | refine Xs _ (fun h => ?_) (fun h => ?_) | with_reducible refine And.intro ?_ ?_
    all_goals first | (exfalso; simp at h; exact h0 h) | (exfalso; simp at *; done) | (intro r hr; simp at hr; subst hr; rfl) | (simp [bytesC]; omega) | (simp; done) | omega | rfl | skip
    refine SW.loopTo (α := Nat) (fun k => ⟨sl [(1, .ptr (.s 1 0) 0), (4, vS (V1 ++ tx ++ V2 ++ sayT (E.take k))), (5, vI k)], hl [(.s 1 0, .box [vI xk, vI o1, vI o2, vI xw, vI a1, vI a2, vI b1, vI b2, vI xt, vI xn, vI lf, .c true (.sl (E.map strC)), .c true (.sl (W.map strC))])]⟩) (fun k => E.length - k) 0 (fun k => k ≤ E.length) ?_ (by simp) ?_
    · (refine Xto _ _ ?_ ?_ <;> simp only [go_sem, optI, Option.getD_some, Option.getD_none, Int.reduceToNat, reduceIte, Nat.reduceEqDiff, Nat.reduceAdd, Nat.reduceMul, Nat.reduceSub, Nat.reduceLT, Nat.reduceLeDiff, reduceCtorEq, Option.some.injEq, or_true, true_or] <;> (repeat' with_reducible apply And.intro) <;> (try rfl))
      all_goals first | (simp [sayT]; done) | skip
    · intro k hk
      have hkl := sayT_len (E.take k) (fun e he => e8 e (List.mem_of_mem_take he))
      have hkl2 : (sayT (E.take k)).length ≤ 198 := by rw [List.length_take] at hkl; omega
      by_cases hkE : k < E.length
      · have e1 : decide ((k : Int) < (E.length : Int)) = true := by simp; omega
        have hw : IntKind.i64.wrap ((k : Int) + 1) = ((k + 1 : Nat) : Int) := wrap64 (by omega) (by omega)
        have f1 := getD_map E strC [] hkE
        have ht := sayT_take hkE
        have hx8 := e8 _ (List.getElem_mem hkE)
        generalize E[k] = x at *
        generalize sayT (E.take k) = Y at *
        generalize varI 8 = V3 at *
        have hyl : (V1 ++ tx ++ V2 ++ Y).length ≤ 318 := by simp only [List.length_append] at hpl ⊢; omega
        have hyl2 : (V1 ++ tx ++ V2 ++ Y ++ V3).length ≤ 328 := by simp only [List.length_append] at hyl ⊢; omega
        clear c0 c1 v1 v2 hpl hkl hkl2 htl sE sW l1 l2 e8 w8 hJ d0 h0
        repeat' first | refine SW.step good fun K hK => ?_ | refine X2 good fun K hK => ?_ | refine X3 good fun K hK => ?_ | refine SW.seqK fun J hJ => ?_ | refine SW.last good fun K hK => ?_ | (refine hK _ ?_; clear hK K) | (refine hJ _ _ (Wk.refl _) ?_; clear hJ J) | clear hK K | clear hJ J | refine SW.skip ?_ | refine SW.ret ?_ | refine SW.retT ?_ | refine SW.retB ?_ | refine SW.exit ?_ | refine SW.exitT ?_ | refine SW.exitB ?_ | refine XN ?_ | refine SW.block ?_ | refine SW.normB ?_ | refine SW.normT ?_ | refine XT ?_ | refine XF ?_ | refine XC (fun h => ?_) (fun h => ?_) | refine X0 ?_ | refine Xv ?_ | refine X1 (v3) ?_ | simp only [go_sem, optI, Option.getD_some, Option.getD_none, Int.reduceToNat, reduceIte, Nat.reduceEqDiff, Nat.reduceAdd, Nat.reduceMul, Nat.reduceSub, Nat.reduceLT, Nat.reduceLeDiff, reduceCtorEq, *] | refine Xs _ (fun h => ?_) (fun h => ?_) | with_reducible refine And.intro ?_ ?_
        all_goals first | (intro r hr; simp at hr; subst hr; rfl) | (simp [bytesC]; omega) | (simp; done) | omega | rfl | (simp only [List.length_append] at *; omega) | skip
        all_goals refine ⟨k + 1, by omega, by omega, ?_⟩
        all_goals (refine Xto _ _ ?_ ?_ <;> simp only [go_sem, optI, Option.getD_some, Option.getD_none, Int.reduceToNat, reduceIte, Nat.reduceEqDiff, Nat.reduceAdd, Nat.reduceMul, Nat.reduceSub, Nat.reduceLT, Nat.reduceLeDiff, reduceCtorEq, Option.some.injEq, or_true, true_or] <;> (repeat' with_reducible apply And.intro) <;> (try rfl))
        all_goals first | (rw [ht]; simp; done) | skip
      · have hkE : k = E.length := by omega
        subst hkE
        have e1 : decide ((E.length : Int) < (E.length : Int)) = false := by simp
        rw [List.take_length] at hkl2 ⊢
        clear hkl
        generalize sayT E = YE at *
        have hyl : (V1 ++ tx ++ V2 ++ YE).length ≤ 318 := by simp only [List.length_append] at hpl ⊢; omega
        generalize V1 ++ tx ++ V2 ++ YE = P at *
        repeat' first | refine SW.step good fun K hK => ?_ | refine X2 good fun K hK => ?_ | refine X3 good fun K hK => ?_ | refine SW.seqK fun J hJ => ?_ | refine SW.last good fun K hK => ?_ | (refine hK _ ?_; clear hK K) | (refine hJ _ _ (Wk.refl _) ?_; clear hJ J) | clear hK K | clear hJ J | refine SW.skip ?_ | refine SW.ret ?_ | refine SW.retT ?_ | refine SW.retB ?_ | refine SW.exit ?_ | refine SW.exitT ?_ | refine SW.exitB ?_ | refine XN ?_ | refine SW.block ?_ | refine SW.normB ?_ | refine SW.normT ?_ | refine XT ?_ | refine XF ?_ | refine XC (fun h => ?_) (fun h => ?_) | refine X0 ?_ | refine Xv ?_ | refine X1 (v3) ?_ | simp only [go_sem, optI, Option.getD_some, Option.getD_none, Int.reduceToNat, reduceIte, Nat.reduceEqDiff, Nat.reduceAdd, Nat.reduceMul, Nat.reduceSub, Nat.reduceLT, Nat.reduceLeDiff, reduceCtorEq, *] | refine Xs _ (fun h => ?_) (fun h => ?_) | with_reducible refine And.intro ?_ ?_
        all_goals first | (intro r hr; simp at hr; subst hr; rfl) | (simp [bytesC]; omega) | (simp; done) | omega | rfl | skip
        refine SW.loopTo (α := Nat) (fun k => ⟨sl [(1, .ptr (.s 1 0) 0), (4, vS (P ++ sayT (W.take k))), (6, vI k)], hl [(.s 1 0, .box [vI xk, vI o1, vI o2, vI xw, vI a1, vI a2, vI b1, vI b2, vI xt, vI xn, vI lf, .c true (.sl (E.map strC)), .c true (.sl (W.map strC))])]⟩) (fun k => W.length - k) 0 (fun k => k ≤ W.length) ?_ (by simp) ?_
        · (refine Xto _ _ ?_ ?_ <;> simp only [go_sem, optI, Option.getD_some, Option.getD_none, Int.reduceToNat, reduceIte, Nat.reduceEqDiff, Nat.reduceAdd, Nat.reduceMul, Nat.reduceSub, Nat.reduceLT, Nat.reduceLeDiff, reduceCtorEq, Option.some.injEq, or_true, true_or] <;> (repeat' with_reducible apply And.intro) <;> (try rfl))
          all_goals first | (simp [sayT]; done) | skip
        · intro k hk
          have hkl := sayT_len (W.take k) (fun e he => w8 e (List.mem_of_mem_take he))
          have hkl3 : (sayT (W.take k)).length ≤ 36 := by rw [List.length_take] at hkl; omega
          by_cases hkE : k < W.length
          · have e1 : decide ((k : Int) < (W.length : Int)) = true := by simp; omega
            have hw : IntKind.i64.wrap ((k : Int) + 1) = ((k + 1 : Nat) : Int) := wrap64 (by omega) (by omega)
            have f1 := getD_map W strC [] hkE
            have ht := sayT_take hkE
            have hx8 := w8 _ (List.getElem_mem hkE)
            generalize W[k] = x at *
            generalize sayT (W.take k) = Y at *
            generalize varI 8 = V3 at *
            have hyl3 : (P ++ Y).length ≤ 360 := by simp only [List.length_append]; omega
            have hyl4 : (P ++ Y ++ V3).length ≤ 370 := by simp only [List.length_append] at hyl3 ⊢; omega
            clear c0 c1 v1 v2 hpl hkl hkl2 htl sE sW l1 l2 e8 w8 hJ d0 h0 hyl
            repeat' first | refine SW.step good fun K hK => ?_ | refine X2 good fun K hK => ?_ | refine X3 good fun K hK => ?_ | refine SW.seqK fun J hJ => ?_ | refine SW.last good fun K hK => ?_ | (refine hK _ ?_; clear hK K) | (refine hJ _ _ (Wk.refl _) ?_; clear hJ J) | clear hK K | clear hJ J | refine SW.skip ?_ | refine SW.ret ?_ | refine SW.retT ?_ | refine SW.retB ?_ | refine SW.exit ?_ | refine SW.exitT ?_ | refine SW.exitB ?_ | refine XN ?_ | refine SW.block ?_ | refine SW.normB ?_ | refine SW.normT ?_ | refine XT ?_ | refine XF ?_ | refine XC (fun h => ?_) (fun h => ?_) | refine X0 ?_ | refine Xv ?_ | refine X1 (v3) ?_ | simp only [go_sem, optI, Option.getD_some, Option.getD_none, Int.reduceToNat, reduceIte, Nat.reduceEqDiff, Nat.reduceAdd, Nat.reduceMul, Nat.reduceSub, Nat.reduceLT, Nat.reduceLeDiff, reduceCtorEq, *] | refine Xs _ (fun h => ?_) (fun h => ?_) | with_reducible refine And.intro ?_ ?_
            all_goals first | (intro r hr; simp at hr; subst hr; rfl) | (simp [bytesC]; omega) | (simp; done) | omega | rfl | (simp only [List.length_append] at *; omega) | skip
            all_goals refine ⟨k + 1, by omega, by omega, ?_⟩
            all_goals (refine Xto _ _ ?_ ?_ <;> simp only [go_sem, optI, Option.getD_some, Option.getD_none, Int.reduceToNat, reduceIte, Nat.reduceEqDiff, Nat.reduceAdd, Nat.reduceMul, Nat.reduceSub, Nat.reduceLT, Nat.reduceLeDiff, reduceCtorEq, Option.some.injEq, or_true, true_or] <;> (repeat' with_reducible apply And.intro) <;> (try rfl))
            all_goals first | (rw [ht]; simp; done) | skip
          · have hkE : k = W.length := by omega
            subst hkE
            have e1 : decide ((W.length : Int) < (W.length : Int)) = false := by simp
            rw [List.take_length]
            clear hkl
            generalize sayT W = YW at *
            repeat' first | refine SW.step good fun K hK => ?_ | refine X2 good fun K hK => ?_ | refine X3 good fun K hK => ?_ | refine SW.seqK fun J hJ => ?_ | refine SW.last good fun K hK => ?_ | (refine hK _ ?_; clear hK K) | (refine hJ _ _ (Wk.refl _) ?_; clear hJ J) | clear hK K | clear hJ J | refine SW.skip ?_ | refine SW.ret ?_ | refine SW.retT ?_ | refine SW.retB ?_ | refine SW.exit ?_ | refine SW.exitT ?_ | refine SW.exitB ?_ | refine XN ?_ | refine SW.block ?_ | refine SW.normB ?_ | refine SW.normT ?_ | refine XT ?_ | refine XF ?_ | refine XC (fun h => ?_) (fun h => ?_) | refine X0 ?_ | refine Xv ?_ | refine X1 (v3) ?_ | simp only [go_sem, optI, Option.getD_some, Option.getD_none, Int.reduceToNat, reduceIte, Nat.reduceEqDiff, Nat.reduceAdd, Nat.reduceMul, Nat.reduceSub, Nat.reduceLT, Nat.reduceLeDiff, reduceCtorEq, *] | refine Xs _ (fun h => ?_) (fun h => ?_) | with_reducible refine And.intro ?_ ?_
            all_goals first | (intro r hr; simp at hr; subst hr; rfl) | (simp [bytesC]; omega) | (simp; done) | omega | rfl | skip
            all_goals (refine Xrs ?_; rfl)
theorem sigW_8 (seed leaf : Nat) (h : leaf ≤ 3) : ∀ e, e ∈ sigW seed leaf → e.length = 8 := by
  intro e he
  have hy0 : flip1 leaf < 4 := by unfold flip1; split <;> omega
  have hy1 : flip1 (leaf / 2) < 2 := by unfold flip1; split <;> omega
  simp only [sigW, List.mem_cons, List.not_mem_nil, or_false] at he
  rcases he with rfl | rfl
  · exact lev_8 seed 0 _ hy0
  · exact lev_8 seed 1 _ hy1
end Go.Proofs.YtoemclhjcbcjaaaGreat.AB
namespace Go.Proofs.YtoemclhjcbcjaaaGreat.AB
open Go
set_option maxRecDepth 100000
set_option linter.unusedSimpArgs false
set_option linter.unusedVariables false
theorem ac_VouchFor' (c : Cred) (leaf : Nat) (hc : credOk c = true) (hlf : leaf ≤ 3) : AC Tryz.prog 91 [encCred c, vI leaf] (.tup [encVou false ⟨c, ⟨leaf, sigE (seedOf c.of.who) leaf (quads (credText c)), sigW (seedOf c.of.who) leaf⟩⟩, vB true]) [] := by
  have c0 := ac_CredOk' c
  have c1 := ac_SeedOf' c.of.who
  have c2 := ac_CredText' c
  have c3 := ac_SignText' (seedOf c.of.who) leaf (credText c) (seedOf_le _) hlf (by have := credText_len c; omega)
  rw [hc] at c0
  clear hc hlf
  simp only [encVou] at *
  generalize (sigE (seedOf c.of.who) leaf (quads (credText c))).map strC = EE at *
  obtain ⟨xk, ⟨o1, o2⟩, xw, ⟨a1, a2⟩, ⟨b1, b2⟩, xt, xn⟩ := c
  simp only [encCred, encVou] at *
  refine XA good (fn := Tryz.f91) rfl ?_
  simp only [entry, List.getD_cons_zero, List.getD_cons_succ]
  repeat' first | refine SW.step good fun K hK => ?_ | refine X2 good fun K hK => ?_ | refine X3 good fun K hK => ?_ | refine SW.seqK fun J hJ => ?_ | refine SW.last good fun K hK => ?_ | (refine hK _ ?_; clear hK K) | (refine hJ _ _ (Wk.refl _) ?_; clear hJ J) | clear hK K | clear hJ J | refine SW.skip ?_ | refine SW.ret ?_ | refine SW.retT ?_ | refine SW.retB ?_ | refine SW.exit ?_ | refine SW.exitT ?_ | refine SW.exitB ?_ | refine XN ?_ | refine SW.block ?_ | refine SW.normB ?_ | refine SW.normT ?_ | refine XT ?_ | refine XF ?_ | refine XC (fun h => ?_) (fun h => ?_) | refine X0 ?_ | refine Xv ?_ | refine X1 (c0) ?_ | refine X1 (c1) ?_ | refine X1 (c2) ?_ | refine X1 (c3) ?_ | simp only [go_sem, optI, Option.getD_some, Option.getD_none, Int.reduceToNat, reduceIte, Nat.reduceEqDiff, Nat.reduceAdd, Nat.reduceMul, Nat.reduceSub, Nat.reduceLT, Nat.reduceLeDiff, reduceCtorEq, *] | refine Xs _ (fun h => ?_) (fun h => ?_) | with_reducible refine And.intro ?_ ?_
  all_goals first | (intro r hr; simp at hr; subst hr; rfl) | (simp [bytesC]; omega) | (simp; done) | omega | rfl | skip
  all_goals (refine Xrp ?_)
  all_goals simp [resOf, Wn.le, Wn.leL, Wn.cw, C.scal, scal]
end Go.Proofs.YtoemclhjcbcjaaaGreat.AB
