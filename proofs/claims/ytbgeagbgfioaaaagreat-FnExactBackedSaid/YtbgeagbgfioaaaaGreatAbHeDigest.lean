/- The digest of a text: both functions. -/
import Derived.Test.YtbgeagbgfioaaaaGreatAbHdPad
namespace Go.Proofs.YtbgeagbgfioaaaaGreat.AB
open Go
set_option maxRecDepth 100000
set_option linter.unusedSimpArgs false
set_option linter.unusedVariables false
/-- a block of a text -/
def blk64 (p : List UInt8) (k : Nat) : List UInt8 := (p.drop (64 * k)).take 64
/-- the state behind the first blocks -/
def dgS (p : List UInt8) : Nat → List Int
  | 0 => iW
  | k + 1 => blockS' (blk64 p k) (dgS p k)
def byt (n : Int) : List UInt8 := [UInt8.ofNat ((n / 16777216) % 256).toNat, UInt8.ofNat ((n / 65536) % 256).toNat, UInt8.ofNat ((n / 256) % 256).toNat, UInt8.ofNat (n % 256).toNat]
def digest (t : List UInt8) : List UInt8 := (dgS (padT t) ((padT t).length / 64)).flatMap byt
theorem blk64_len {p : List UInt8} {k : Nat} (h : 64 * k + 64 ≤ p.length) : (blk64 p k).length = 64 := by
  unfold blk64; rw [List.length_take, List.length_drop]; omega
theorem ad_range (a b : Int) : 0 ≤ ad a b ∧ ad a b ≤ 4294967295 := by
  unfold ad
  simp only [IntKind.wrap, IntKind.bits, IntKind.signed]
  simp
  omega
theorem zip_range : ∀ (A B : List Int), ∀ n, n ∈ List.zipWith ad A B → 0 ≤ n ∧ n ≤ 4294967295
  | [], _, n, h => by simp at h
  | _ :: _, [], n, h => by simp at h
  | a :: A, b :: B, n, h => by
    rw [List.zipWith_cons_cons] at h
    rcases List.mem_cons.1 h with rfl | h
    · exact ad_range a b
    · exact zip_range A B n h
theorem dgS_ok (p : List UInt8) (k : Nat) : (dgS p k).length = 8 ∧ ∀ n, n ∈ dgS p k → 0 ≤ n ∧ n ≤ 4294967295 := by
  induction k with
  | zero =>
    refine ⟨rfl, ?_⟩
    have : iW.all (fun n => decide (0 ≤ n ∧ n ≤ 4294967295)) = true := by decide
    intro n hn
    simpa using List.all_eq_true.1 this n hn
  | succ k ih =>
    unfold dgS blockS'
    refine ⟨?_, zip_range _ _⟩
    rw [List.length_zipWith, ih.1, rs_len ih.1]; rfl
theorem wrap8m (x : Int) : IntKind.u8.wrap x = x % 256 := by
  simp only [IntKind.wrap, IntKind.bits, IntKind.signed]
  simp
theorem shr_i (k : IntKind) (h : k = .i64 ∨ k = .u32) (n : Int) : shrK k n 24 = n / 16777216 ∧ shrK k n 16 = n / 65536 ∧ shrK k n 8 = n / 256 := by
  rcases h with rfl | rfl <;> (simp only [shrK, IntKind.bits]; refine ⟨?_, ?_, ?_⟩ <;> (rw [Int.fdiv_eq_ediv_of_nonneg _ (by decide)]; simp))
theorem byt_c (n : Int) : bytesC (byt n) = [[.v (.int .u8 (n / 16777216 % 256))], [.v (.int .u8 (n / 65536 % 256))], [.v (.int .u8 (n / 256 % 256))], [.v (.int .u8 (n % 256))]] := by
  have h : ∀ x : Int, (((UInt8.ofNat (x % 256).toNat).toNat : Nat) : Int) = x % 256 := fun x => by
    rw [UInt8.toNat_ofNat']; omega
  simp only [byt, bytesC, List.map_cons, List.map_nil, h]
theorem fm_take (D : List Int) {k : Nat} (h : k < D.length) : (D.take (k + 1)).flatMap byt = (D.take k).flatMap byt ++ byt (D.getD k 0) := by
  rw [List.take_add_one, List.getElem?_eq_getElem h, List.flatMap_append, List.getD_eq_getElem?_getD, List.getElem?_eq_getElem h]; simp
theorem fm_len (D : List Int) : (bytesC (D.flatMap byt)).length = 4 * D.length := by
  simp only [bytesC, List.length_map]
  induction D with
  | nil => rfl
  | cons a D ih => rw [List.flatMap_cons, List.length_append, ih]; simp [byt]; omega
set_option maxHeartbeats 2000000 in
theorem ac_Digest (t : List UInt8) (ht : t.length ≤ 1048576) : AC Tryz.prog 87 [vS t] (vS (digest t)) [] := by
  have hp := ac_PadText t ht
  have hpl := padT_len t
  have hs := start_is
  unfold digest
  generalize padT t = p at *
  have hp2 : p.length ≤ 2097152 := by omega
  obtain ⟨nb, hnb⟩ : ∃ nb, p.length = 64 * nb := ⟨_, hpl⟩
  rw [show p.length / 64 = nb by omega]
  clear hpl ht
  refine XA good (fn := Tryz.f87) rfl ?_
  simp only [entry, List.getD_cons_zero, List.getD_cons_succ]
  repeat' first | refine SW.step good fun K hK => ?_ | refine X2 good fun K hK => ?_ | refine X3 good fun K hK => ?_ | refine SW.seqK fun J hJ => ?_ | refine SW.last good fun K hK => ?_ | (refine hK _ ?_; clear hK K) | (refine hJ _ _ (Wk.refl _) ?_; clear hJ J) | clear hK K | clear hJ J | refine SW.skip ?_ | refine SW.ret ?_ | refine SW.retT ?_ | refine SW.retB ?_ | refine SW.exit ?_ | refine SW.exitT ?_ | refine SW.exitB ?_ | refine XN ?_ | refine SW.block ?_ | refine SW.normB ?_ | refine SW.normT ?_ | refine XT ?_ | refine XF ?_ | refine XC (fun h => ?_) (fun h => ?_) | refine X0 ?_ | refine Xv ?_ | refine X1 (hs) ?_ | refine X1 (hp) ?_ | simp only [go_sem, optI, Option.getD_some, Option.getD_none, Int.reduceToNat, reduceIte, Nat.reduceEqDiff, Nat.reduceAdd, Nat.reduceMul, Nat.reduceSub, Nat.reduceLT, Nat.reduceLeDiff, reduceCtorEq, *] | refine Xs _ (fun h => ?_) (fun h => ?_) | with_reducible refine And.intro ?_ ?_
  all_goals first | omega | skip
  refine SW.loopTo (α := Nat) (fun k => ⟨sl [(3, .own (.s 9 0)), (4, vS p), (5, vI ((64 * k : Nat) : Int))], hl [(.s 9 0, .row false 3 1 ((dgS p k).map nC))]⟩) (fun k => nb - k) 0 (fun k => k ≤ nb) ?_ (by simp) ?_
  · (refine Xto _ _ ?_ ?_ <;> simp only [go_sem, optI, Option.getD_some, Option.getD_none, Int.reduceToNat, reduceIte, Nat.reduceEqDiff, Nat.reduceAdd, Nat.reduceMul, Nat.reduceSub, Nat.reduceLT, Nat.reduceLeDiff, reduceCtorEq, Option.some.injEq, or_true, true_or] <;> (repeat' with_reducible apply And.intro) <;> (try rfl))
  · intro k h2
    by_cases hk : k < nb
    · have e1 : decide (((64 * k : Nat) : Int) < ((64 * nb : Nat) : Int)) = true := by simp; omega
      have hw : IntKind.i64.wrap (((64 * k : Nat) : Int) + 64) = ((64 * (k + 1) : Nat) : Int) := by rw [wrap64 (by omega) (by omega)]; omega
      obtain ⟨o1, o2⟩ := dgS_ok p k
      have hb := ac_ShaBlock (dgS p k) (blk64 p k) o1 o2 (blk64_len (by omega))
      have hn : dgS p (k + 1) = blockS' (blk64 p k) (dgS p k) := rfl
      have hx : List.take (64 * (k + 1) - 64 * k) (List.drop (64 * k) p) = blk64 p k := by unfold blk64; congr 1; omega
      clear o1 o2 hs hp
      repeat' first | refine SW.step good fun K hK => ?_ | refine X2 good fun K hK => ?_ | refine X3 good fun K hK => ?_ | refine SW.seqK fun J hJ => ?_ | refine SW.last good fun K hK => ?_ | (refine hK _ ?_; clear hK K) | (refine hJ _ _ (Wk.refl _) ?_; clear hJ J) | clear hK K | clear hJ J | refine SW.skip ?_ | refine SW.ret ?_ | refine SW.retT ?_ | refine SW.retB ?_ | refine SW.exit ?_ | refine SW.exitT ?_ | refine SW.exitB ?_ | refine XN ?_ | refine SW.block ?_ | refine SW.normB ?_ | refine SW.normT ?_ | refine XT ?_ | refine XF ?_ | refine XC (fun h => ?_) (fun h => ?_) | refine X0 ?_ | refine Xv ?_ | refine X1 (hb) ?_ | simp only [go_sem, optI, Option.getD_some, Option.getD_none, Int.reduceToNat, reduceIte, Nat.reduceEqDiff, Nat.reduceAdd, Nat.reduceMul, Nat.reduceSub, Nat.reduceLT, Nat.reduceLeDiff, reduceCtorEq, *] | refine Xs _ (fun h => ?_) (fun h => ?_) | with_reducible refine And.intro ?_ ?_
      all_goals first | omega | (simp; omega) | skip
      all_goals refine ⟨k + 1, by omega, by omega, ?_⟩
      all_goals (refine Wk.to _ _ [(.s 9 0, .s 24 0)] ?_ (by simp [ren]) ?_ (by simp [ren]) <;> simp only [go_sem, optI, Option.getD_some, Option.getD_none, Int.reduceToNat, reduceIte, Nat.reduceEqDiff, Nat.reduceAdd, Nat.reduceMul, Nat.reduceSub, Nat.reduceLT, Nat.reduceLeDiff, reduceCtorEq, Option.some.injEq, or_true, true_or] <;> (repeat' with_reducible apply And.intro) <;> (try rfl))
      all_goals first | (rw [hn]; done) | skip
    · have hk : k = nb := by omega
      subst hk
      have e1 : decide (((64 * k : Nat) : Int) < ((64 * k : Nat) : Int)) = false := by simp
      have hD := (dgS_ok p k).1
      clear hs hp
      generalize dgS p k = D at *
      repeat' first | refine SW.step good fun K hK => ?_ | refine X2 good fun K hK => ?_ | refine X3 good fun K hK => ?_ | refine SW.seqK fun J hJ => ?_ | refine SW.last good fun K hK => ?_ | (refine hK _ ?_; clear hK K) | (refine hJ _ _ (Wk.refl _) ?_; clear hJ J) | clear hK K | clear hJ J | refine SW.skip ?_ | refine SW.ret ?_ | refine SW.retT ?_ | refine SW.retB ?_ | refine SW.exit ?_ | refine SW.exitT ?_ | refine SW.exitB ?_ | refine XN ?_ | refine SW.block ?_ | refine SW.normB ?_ | refine SW.normT ?_ | refine XT ?_ | refine XF ?_ | refine XC (fun h => ?_) (fun h => ?_) | simp only [go_sem, optI, Option.getD_some, Option.getD_none, Int.reduceToNat, reduceIte, Nat.reduceEqDiff, Nat.reduceAdd, Nat.reduceMul, Nat.reduceSub, Nat.reduceLT, Nat.reduceLeDiff, reduceCtorEq, *] | refine Xs _ (fun h => ?_) (fun h => ?_) | with_reducible refine And.intro ?_ ?_
      all_goals first | omega | skip
      refine SW.loopTo (α := Nat) (fun k => ⟨sl [(6, .own (.s 25 0)), (26, .own (.s 9 0)), (27, vI 8), (28, vI k)], hl [(.s 9 0, .row false 3 1 (D.map nC)), (.s 25 0, .row false 5 1 (bytesC ((D.take k).flatMap byt)))]⟩) (fun k => 8 - k) 0 (fun k => k ≤ 8) ?_ (by simp) ?_
      · (refine Xto _ _ ?_ ?_ <;> simp only [go_sem, optI, Option.getD_some, Option.getD_none, Int.reduceToNat, reduceIte, Nat.reduceEqDiff, Nat.reduceAdd, Nat.reduceMul, Nat.reduceSub, Nat.reduceLT, Nat.reduceLeDiff, reduceCtorEq, Option.some.injEq, or_true, true_or] <;> (repeat' with_reducible apply And.intro) <;> (try rfl))
        all_goals first | (simp [bytesC]; done) | (rw [hD]; done) | skip
      · intro j j2
        clear e1 h2
        by_cases hj : j < 8
        · have e1 : decide ((j : Int) < 8) = true := by simp; omega
          have hw : IntKind.i64.wrap ((j : Int) + 1) = ((j + 1 : Nat) : Int) := wrap64 (by omega) (by omega)
          have e := nC_get (l := D) (j := j) (by omega)
          have hf := fm_take D (k := j) (by omega)
          have hfl := fm_len (D.take j)
          rw [List.length_take] at hfl
          have hlm : (D.map nC).length = 8 := by rw [List.length_map]; exact hD
          have hw8 := wrap8m
          have hbc := byt_c (D.getD j 0)
          generalize D.getD j 0 = n at *
          obtain ⟨s1, s2, s3⟩ := shr_i .i64 (.inl rfl) n
          clear hnb hp2
          repeat' first | refine SW.step good fun K hK => ?_ | refine X2 good fun K hK => ?_ | refine X3 good fun K hK => ?_ | refine SW.seqK fun J hJ => ?_ | refine SW.last good fun K hK => ?_ | (refine hK _ ?_; clear hK K) | (refine hJ _ _ (Wk.refl _) ?_; clear hJ J) | clear hK K | clear hJ J | refine SW.skip ?_ | refine SW.ret ?_ | refine SW.retT ?_ | refine SW.retB ?_ | refine SW.exit ?_ | refine SW.exitT ?_ | refine SW.exitB ?_ | refine XN ?_ | refine SW.block ?_ | refine SW.normB ?_ | refine SW.normT ?_ | refine XT ?_ | refine XF ?_ | refine XC (fun h => ?_) (fun h => ?_) | simp only [go_sem, optI, Option.getD_some, Option.getD_none, Int.reduceToNat, reduceIte, Nat.reduceEqDiff, Nat.reduceAdd, Nat.reduceMul, Nat.reduceSub, Nat.reduceLT, Nat.reduceLeDiff, reduceCtorEq, *] | refine Xs _ (fun h => ?_) (fun h => ?_) | with_reducible refine And.intro ?_ ?_
          clear s1 s2 s3 hw8
          all_goals first | omega | (simp; done) | (simp; omega) | skip
          all_goals refine ⟨j + 1, by omega, by omega, ?_⟩
          all_goals (refine Xto _ _ ?_ ?_ <;> simp only [go_sem, optI, Option.getD_some, Option.getD_none, Int.reduceToNat, reduceIte, Nat.reduceEqDiff, Nat.reduceAdd, Nat.reduceMul, Nat.reduceSub, Nat.reduceLT, Nat.reduceLeDiff, reduceCtorEq, Option.some.injEq, or_true, true_or] <;> (repeat' with_reducible apply And.intro) <;> (try rfl))
          all_goals first | (rw [hf, bytesC_app, hbc]; done) | skip
          all_goals trace_state
        · have hj : j = 8 := by omega
          subst hj
          have e1 : decide (((8 : Nat) : Int) < 8) = false := rfl
          have ht8 : D.take 8 = D := List.take_of_length_le (by omega)
          repeat' first | refine SW.step good fun K hK => ?_ | refine X2 good fun K hK => ?_ | refine X3 good fun K hK => ?_ | refine SW.seqK fun J hJ => ?_ | refine SW.last good fun K hK => ?_ | (refine hK _ ?_; clear hK K) | (refine hJ _ _ (Wk.refl _) ?_; clear hJ J) | clear hK K | clear hJ J | refine SW.skip ?_ | refine SW.ret ?_ | refine SW.retT ?_ | refine SW.retB ?_ | refine SW.exit ?_ | refine SW.exitT ?_ | refine SW.exitB ?_ | refine XN ?_ | refine SW.block ?_ | refine SW.normB ?_ | refine SW.normT ?_ | refine XT ?_ | refine XF ?_ | refine XC (fun h => ?_) (fun h => ?_) | simp only [go_sem, optI, Option.getD_some, Option.getD_none, Int.reduceToNat, reduceIte, Nat.reduceEqDiff, Nat.reduceAdd, Nat.reduceMul, Nat.reduceSub, Nat.reduceLT, Nat.reduceLeDiff, reduceCtorEq, *] | refine Xs _ (fun h => ?_) (fun h => ?_) | with_reducible refine And.intro ?_ ?_
          all_goals (refine Xrs ?_; rfl)
end Go.Proofs.YtbgeagbgfioaaaaGreat.AB
