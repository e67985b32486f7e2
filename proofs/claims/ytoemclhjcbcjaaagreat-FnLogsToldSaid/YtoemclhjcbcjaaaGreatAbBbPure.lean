/- Signatures, keys, proofs that are backed: what both functions compute, and bounds. -/
import Derived.Test.YtoemclhjcbcjaaaGreatAbHeDigest
import Derived.Test.YtoemclhjcbcjaaaGreatAbFcText
namespace Go.Proofs.YtoemclhjcbcjaaaGreat.AB
open Go
set_option maxRecDepth 100000
set_option linter.unusedSimpArgs false
set_option linter.unusedVariables false
/-- the bytes of the first numbers, and room -/
def ob (D : List Int) (k : Nat) : List (List C) := bytesC ((D.take k).flatMap byt) ++ List.replicate (32 - 4 * k) [.v (.int .u8 0)]
theorem ob_len {D : List Int} {k : Nat} (hD : D.length = 8) (h : k ≤ 8) : (ob D k).length = 32 := by
  unfold ob
  rw [List.length_append, fm_len, List.length_take, List.length_replicate]; omega
theorem set4 (X : List (List C)) (k : Nat) (Y : List (List C)) (z a b c d : List C) (h : X.length = 4 * k) :
    ((((X ++ (z :: z :: z :: z :: Y)).set (4 * k) a).set (4 * k + 1) b).set (4 * k + 2) c).set (4 * k + 3) d = X ++ (a :: b :: c :: d :: Y) := by
  rw [List.set_append_right _ _ (by omega), List.set_append_right _ _ (by omega), List.set_append_right _ _ (by omega), List.set_append_right _ _ (by omega), h]
  rw [show 4 * k - 4 * k = 0 by omega, show 4 * k + 1 - 4 * k = 1 by omega, show 4 * k + 2 - 4 * k = 2 by omega, show 4 * k + 3 - 4 * k = 3 by omega]
  rfl
theorem ob_next {D : List Int} {k : Nat} (hD : D.length = 8) (h : k < 8) (n : Int) (hn : D.getD k 0 = n) :
    ((((ob D k).set (4 * k) [.v (.int .u8 (n / 16777216 % 256))]).set (4 * k + 1) [.v (.int .u8 (n / 65536 % 256))]).set (4 * k + 2) [.v (.int .u8 (n / 256 % 256))]).set (4 * k + 3) [.v (.int .u8 (n % 256))] = ob D (k + 1) := by
  unfold ob
  rw [show 32 - 4 * k = (32 - 4 * (k + 1)) + 4 by omega, List.replicate_succ, List.replicate_succ, List.replicate_succ, List.replicate_succ, set4 _ _ _ _ _ _ _ _ (by rw [fm_len, List.length_take]; omega),
    fm_take D (by omega), hn, bytesC_app, byt_c, List.append_assoc]
  rfl
theorem ob_all {D : List Int} (hD : D.length = 8) : ob D 8 = bytesC (D.flatMap byt) := by
  unfold ob
  rw [List.take_of_length_le (by omega)]; simp
theorem len_one {X : List (List C)} {i : Nat} {a : C} (h : ∀ r, r ∈ X → r.length = 1) (hi : i < X.length) : layC (X.getD i []) 0 [a] = [a] := by
  have h1 := h _ (List.getElem_mem hi)
  rw [List.getD_eq_getElem?_getD, List.getElem?_eq_getElem hi]
  simp only [Option.getD_some]
  obtain ⟨y, hy⟩ := List.length_eq_one_iff.1 h1
  rw [hy]; rfl
theorem onL_vU (d : Nat) : ∀ l : List Int, AV.onL (toS d) (l.map vU) = l.map vU
  | [] => rfl
  | x :: l => by rw [List.map_cons, AV.onL, onL_vU d l]; rfl
theorem onL_vL (h : Hp) : ∀ l : List Int, AV.onL (lend h) (l.map vU) = l.map vU
  | [] => rfl
  | x :: l => by rw [List.map_cons, AV.onL, onL_vL h l]; rfl
theorem onL_vK (i : Id) : ∀ l : List Int, AV.onL (killV i) (l.map vU) = l.map vU
  | [] => rfl
  | x :: l => by rw [List.map_cons, AV.onL, onL_vK i l]; rfl
def Ones (X : List (List C)) : Prop := ∀ r, r ∈ X → r.length = 1
theorem Ones.drop {X : List (List C)} (h : Ones X) (i : Nat) : List.drop 1 (X.getD i []) = [] := by
  rw [List.getD_eq_getElem?_getD]
  by_cases hi : i < X.length
  · rw [List.getElem?_eq_getElem hi]
    exact List.drop_eq_nil_of_le (Nat.le_of_eq (h _ (List.getElem_mem hi)))
  · rw [List.getElem?_eq_none (by omega)]; rfl
theorem Ones.set {X : List (List C)} (h : Ones X) (i : Nat) (a : C) : Ones (X.set i [a]) := by
  intro r hr
  rcases List.mem_or_eq_of_mem_set hr with hr | rfl
  · exact h r hr
  · rfl
theorem ob_ones (D : List Int) (k : Nat) : Ones (ob D k) := by
  intro r hr
  unfold ob bytesC at hr
  rcases List.mem_append.1 hr with hr | hr
  · obtain ⟨_, _, rfl⟩ := List.mem_map.1 hr; rfl
  · rw [(List.mem_replicate.1 hr).2]; rfl
set_option maxHeartbeats 4000000 in
theorem ac_Digest' (t : List UInt8) (ht : t.length ≤ 1048576) : AC Tryz.prog 43 [vS t] (vS (digest t)) [] := by
  have hp := ac_PadText' t ht
  have hpl := padT_len t
  have hs := first_is
  have hks := keys_are
  unfold digest
  generalize padT t = p at *
  have hp2 : p.length ≤ 2097152 := by omega
  obtain ⟨nb, hnb⟩ : ∃ nb, p.length = 64 * nb := ⟨_, hpl⟩
  rw [show p.length / 64 = nb by omega]
  clear hpl ht
  have hkl : (kW.map vU).length = 64 := rfl
  have hk64 : List.take 64 (kW.map vU) = kW.map vU := List.take_of_length_le (by rw [hkl]; omega)
  have hi8 : List.take 8 (iW.map vU) = iW.map vU := rfl
  have hil : (iW.map vU).length = 8 := rfl
  have hD0 : dgS p 0 = iW := rfl
  have hblk := ac_Block'
  have hF0 : ∀ W : Wn, W.leL ((dgS p 0).map vU) (iW.map vU) := fun W => leU iW
  refine XA good (fn := Tryz.f43) rfl ?_
  simp only [entry, List.getD_cons_zero, List.getD_cons_succ]
  repeat' first | refine SW.step good fun K hK => ?_ | refine X2 good fun K hK => ?_ | refine X3 good fun K hK => ?_ | refine SW.seqK fun J hJ => ?_ | refine SW.last good fun K hK => ?_ | (refine hK _ ?_; clear hK K) | (refine hJ _ _ (Wk.refl _) ?_; clear hJ J) | clear hK K | clear hJ J | refine SW.skip ?_ | refine SW.ret ?_ | refine SW.retT ?_ | refine SW.retB ?_ | refine SW.exit ?_ | refine SW.exitT ?_ | refine SW.exitB ?_ | refine XN ?_ | refine SW.block ?_ | refine SW.normB ?_ | refine SW.normT ?_ | refine XT ?_ | refine XF ?_ | refine XC (fun h => ?_) (fun h => ?_) | refine X0 ?_ | refine Xv ?_ | refine X1 (hs) ?_ | refine X1 (hks) ?_ | refine X1 (hp) ?_ | simp only [go_sem, optI, Option.getD_some, Option.getD_none, Int.reduceToNat, reduceIte, Nat.reduceEqDiff, Nat.reduceAdd, Nat.reduceMul, Nat.reduceSub, Nat.reduceLT, Nat.reduceLeDiff, reduceCtorEq, *] | refine Xs _ (fun h => ?_) (fun h => ?_) | with_reducible refine And.intro ?_ ?_
  all_goals first | omega | skip
  all_goals try simp only [onL_vU, hil, hkl, List.drop_succ_cons, List.drop_zero, List.append_nil]
  all_goals generalize kW = K at *
  all_goals generalize iW = I0 at *
  all_goals first | omega | skip
  refine SW.loopTo (α := Nat) (fun k => ⟨sl [(3, .ptr (.s 3 0) 0), (4, .ptr (.s 4 0) 0), (5, vS p), (6, vI ((64 * k : Nat) : Int))], hl [(.s 3 0, .box ((dgS p k).map vU)), (.s 4 0, .box (K.map vU))]⟩) (fun k => nb - k) 0 (fun k => k ≤ nb) ?_ (by simp) ?_
  · (refine Xto _ _ ?_ ?_ <;> simp only [go_sem, optI, Option.getD_some, Option.getD_none, Int.reduceToNat, reduceIte, Nat.reduceEqDiff, Nat.reduceAdd, Nat.reduceMul, Nat.reduceSub, Nat.reduceLT, Nat.reduceLeDiff, reduceCtorEq, Option.some.injEq, or_true, true_or] <;> (repeat' with_reducible apply And.intro) <;> (try rfl))
    all_goals first | (with_reducible exact leU _) | (with_reducible exact hF0 _) | skip
    all_goals trace_state
  · intro k h2
    clear hs hks hp hF0 hD0
    by_cases hk : k < nb
    · have e1 : decide (((64 * k : Nat) : Int) < ((64 * nb : Nat) : Int)) = true := by simp; omega
      have hw : IntKind.i64.wrap (((64 * k : Nat) : Int) + 64) = ((64 * (k + 1) : Nat) : Int) := by rw [wrap64 (by omega) (by omega)]; omega
      have o1 := (dgS_ok p k).1
      have o2 := (dgS_ok p (k + 1)).1
      have hn : dgS p (k + 1) = blockS' (blk64 p k) (dgS p k) := rfl
      obtain ⟨c0, c1, c2, c3, c4, c5, c6, c7, hc⟩ := eight o1
      obtain ⟨d0, d1, d2, d3, d4, d5, d6, d7, hd⟩ := eight o2
      have hb := hblk c0 c1 c2 c3 c4 c5 c6 c7 (blk64 p k) (blk64_len (by omega))
      rw [← hc, ← hn, hd] at hb
      simp only [List.map_cons, List.map_nil] at hb
      have hx : List.take (64 * (k + 1) - 64 * k) (List.drop (64 * k) p) = blk64 p k := by unfold blk64; congr 1; omega
      rw [hc]
      clear o1 o2 hn hc hblk
      have hon := onL_vL
      repeat' first | refine SW.step good fun K hK => ?_ | refine X2 good fun K hK => ?_ | refine X3 good fun K hK => ?_ | refine SW.seqK fun J hJ => ?_ | refine SW.last good fun K hK => ?_ | (refine hK _ ?_; clear hK K) | (refine hJ _ _ (Wk.refl _) ?_; clear hJ J) | clear hK K | clear hJ J | refine SW.skip ?_ | refine SW.ret ?_ | refine SW.retT ?_ | refine SW.retB ?_ | refine SW.exit ?_ | refine SW.exitT ?_ | refine SW.exitB ?_ | refine XN ?_ | refine SW.block ?_ | refine SW.normB ?_ | refine SW.normT ?_ | refine XT ?_ | refine XF ?_ | refine XC (fun h => ?_) (fun h => ?_) | refine X0 ?_ | refine Xv ?_ | refine X1 (hb) ?_ | simp only [go_sem, optI, Option.getD_some, Option.getD_none, Int.reduceToNat, reduceIte, Nat.reduceEqDiff, Nat.reduceAdd, Nat.reduceMul, Nat.reduceSub, Nat.reduceLT, Nat.reduceLeDiff, reduceCtorEq, *] | refine Xs _ (fun h => ?_) (fun h => ?_) | with_reducible refine And.intro ?_ ?_
      all_goals first | omega | (simp; done) | (simp; omega) | skip
      all_goals refine ⟨k + 1, by omega, by omega, ?_⟩
      all_goals (refine Xto _ _ ?_ ?_ <;> simp only [go_sem, optI, Option.getD_some, Option.getD_none, Int.reduceToNat, reduceIte, Nat.reduceEqDiff, Nat.reduceAdd, Nat.reduceMul, Nat.reduceSub, Nat.reduceLT, Nat.reduceLeDiff, reduceCtorEq, Option.some.injEq, or_true, true_or] <;> (repeat' with_reducible apply And.intro) <;> (try rfl))
      all_goals first | (with_reducible exact leU _) | (rw [hd]; exact leU [_, _, _, _, _, _, _, _]) | skip
      all_goals trace_state
    · have hk : k = nb := by omega
      subst hk
      have e1 : decide (((64 * k : Nat) : Int) < ((64 * k : Nat) : Int)) = false := by simp
      have hD := (dgS_ok p k).1
      clear hblk
      generalize dgS p k = D at *
      have hDl : (D.map vU).length = 8 := by rw [List.length_map]; exact hD
      repeat' first | refine SW.step good fun K hK => ?_ | refine X2 good fun K hK => ?_ | refine X3 good fun K hK => ?_ | refine SW.seqK fun J hJ => ?_ | refine SW.last good fun K hK => ?_ | (refine hK _ ?_; clear hK K) | (refine hJ _ _ (Wk.refl _) ?_; clear hJ J) | clear hK K | clear hJ J | refine SW.skip ?_ | refine SW.ret ?_ | refine SW.retT ?_ | refine SW.retB ?_ | refine SW.exit ?_ | refine SW.exitT ?_ | refine SW.exitB ?_ | refine XN ?_ | refine SW.block ?_ | refine SW.normB ?_ | refine SW.normT ?_ | refine XT ?_ | refine XF ?_ | refine XC (fun h => ?_) (fun h => ?_) | simp only [go_sem, optI, Option.getD_some, Option.getD_none, Int.reduceToNat, reduceIte, Nat.reduceEqDiff, Nat.reduceAdd, Nat.reduceMul, Nat.reduceSub, Nat.reduceLT, Nat.reduceLeDiff, reduceCtorEq, *] | refine Xs _ (fun h => ?_) (fun h => ?_) | with_reducible refine And.intro ?_ ?_
      all_goals first | omega | (show List.all [Value.int .u8 0] zok = true; rfl) | skip
      refine SW.loopTo (α := Nat) (fun k => ⟨sl [(3, .ptr (.s 3 0) 0), (7, .own (.s 27 0)), (8, vI k)], hl [(.s 3 0, .box (D.map vU)), (.s 27 0, .row false 5 1 (ob D k))]⟩) (fun k => 8 - k) 0 (fun k => k ≤ 8) ?_ (by simp) ?_
      · (refine Xto _ _ ?_ ?_ <;> simp only [go_sem, optI, Option.getD_some, Option.getD_none, Int.reduceToNat, reduceIte, Nat.reduceEqDiff, Nat.reduceAdd, Nat.reduceMul, Nat.reduceSub, Nat.reduceLT, Nat.reduceLeDiff, reduceCtorEq, Option.some.injEq, or_true, true_or] <;> (repeat' with_reducible apply And.intro) <;> (try rfl))
        all_goals first | (with_reducible exact leU _) | rfl | skip
        all_goals trace_state
      · intro j j2
        clear e1 h2
        by_cases hj : j < 8
        · have e1 : decide ((j : Int) < 8) = true := by simp; omega
          have hw : IntKind.i64.wrap ((j : Int) + 1) = ((j + 1 : Nat) : Int) := wrap64 (by omega) (by omega)
          have m0 : IntKind.i64.wrap (4 * (j : Int)) = ((4 * j : Nat) : Int) := by rw [wrap64 (by omega) (by omega)]; simp
          have m1 : IntKind.i64.wrap (((4 * j : Nat) : Int) + 1) = ((4 * j + 1 : Nat) : Int) := wrap64 (by omega) (by omega)
          have m2 : IntKind.i64.wrap (((4 * j : Nat) : Int) + 2) = ((4 * j + 2 : Nat) : Int) := wrap64 (by omega) (by omega)
          have m3 : IntKind.i64.wrap (((4 * j : Nat) : Int) + 3) = ((4 * j + 3 : Nat) : Int) := wrap64 (by omega) (by omega)
          have o1 : ∀ n : Nat, n * 1 = n := Nat.mul_one
          have e := map_get (l := D) (j := j) (by omega)
          have ol := ob_len hD j2
          have hset := ob_next hD hj _ rfl
          have hw8 := wrap8m
          have hon2 := onL_vK
          have p0 := fun i => (ob_ones D j).drop i
          have p1 := fun i a (i1 : Nat) => ((ob_ones D j).set i a).drop i1
          have p2 := fun i a i1 a1 (i2 : Nat) => (((ob_ones D j).set i a).set i1 a1).drop i2
          have p3 := fun i a i1 a1 i2 a2 (i3 : Nat) => ((((ob_ones D j).set i a).set i1 a1).set i2 a2).drop i3
          have hls : ∀ (X : List (List C)) i a, (X.set i a).length = X.length := fun _ _ _ => List.length_set
          generalize D.getD j 0 = n at *
          obtain ⟨s1, s2, s3⟩ := shr_i .u32 (.inr rfl) n
          clear hnb hp2
          repeat' first | refine SW.step good fun K hK => ?_ | refine X2 good fun K hK => ?_ | refine X3 good fun K hK => ?_ | refine SW.seqK fun J hJ => ?_ | refine SW.last good fun K hK => ?_ | (refine hK _ ?_; clear hK K) | (refine hJ _ _ (Wk.refl _) ?_; clear hJ J) | clear hK K | clear hJ J | refine SW.skip ?_ | refine SW.ret ?_ | refine SW.retT ?_ | refine SW.retB ?_ | refine SW.exit ?_ | refine SW.exitT ?_ | refine SW.exitB ?_ | refine XN ?_ | refine SW.block ?_ | refine SW.normB ?_ | refine SW.normT ?_ | refine XT ?_ | refine XF ?_ | refine XC (fun h => ?_) (fun h => ?_) | simp only [go_sem, optI, Option.getD_some, Option.getD_none, Int.reduceToNat, reduceIte, Nat.reduceEqDiff, Nat.reduceAdd, Nat.reduceMul, Nat.reduceSub, Nat.reduceLT, Nat.reduceLeDiff, reduceCtorEq, *] | refine Xs _ (fun h => ?_) (fun h => ?_) | with_reducible refine And.intro ?_ ?_
          clear s1 s2 s3 hw8 p0 p1 p2 p3
          all_goals first | omega | (simp; done) | (simp; omega) | skip
          all_goals refine ⟨j + 1, by omega, by omega, ?_⟩
          all_goals (refine Xto _ _ ?_ ?_ <;> simp only [go_sem, optI, Option.getD_some, Option.getD_none, Int.reduceToNat, reduceIte, Nat.reduceEqDiff, Nat.reduceAdd, Nat.reduceMul, Nat.reduceSub, Nat.reduceLT, Nat.reduceLeDiff, reduceCtorEq, Option.some.injEq, or_true, true_or] <;> (repeat' with_reducible apply And.intro) <;> (try rfl))
          all_goals first | (with_reducible exact leU _) | (rw [onL_vK, onL_vK, onL_vK, onL_vK]; exact leU _) | exact hset | skip
          all_goals trace_state
        · have hj : j = 8 := by omega
          subst hj
          have e1 : decide (((8 : Nat) : Int) < 8) = false := rfl
          have hob := ob_all hD
          repeat' first | refine SW.step good fun K hK => ?_ | refine X2 good fun K hK => ?_ | refine X3 good fun K hK => ?_ | refine SW.seqK fun J hJ => ?_ | refine SW.last good fun K hK => ?_ | (refine hK _ ?_; clear hK K) | (refine hJ _ _ (Wk.refl _) ?_; clear hJ J) | clear hK K | clear hJ J | refine SW.skip ?_ | refine SW.ret ?_ | refine SW.retT ?_ | refine SW.retB ?_ | refine SW.exit ?_ | refine SW.exitT ?_ | refine SW.exitB ?_ | refine XN ?_ | refine SW.block ?_ | refine SW.normB ?_ | refine SW.normT ?_ | refine XT ?_ | refine XF ?_ | refine XC (fun h => ?_) (fun h => ?_) | simp only [go_sem, optI, Option.getD_some, Option.getD_none, Int.reduceToNat, reduceIte, Nat.reduceEqDiff, Nat.reduceAdd, Nat.reduceMul, Nat.reduceSub, Nat.reduceLT, Nat.reduceLeDiff, reduceCtorEq, *] | refine Xs _ (fun h => ?_) (fun h => ?_) | with_reducible refine And.intro ?_ ?_
          all_goals first | (refine Xrs ?_; rfl) | skip
          all_goals trace_state
end Go.Proofs.YtoemclhjcbcjaaaGreat.AB
namespace Go.Proofs.YtoemclhjcbcjaaaGreat.AB
open Go
set_option maxRecDepth 100000
set_option linter.unusedSimpArgs false
set_option linter.unusedVariables false
theorem dig_len (t : List UInt8) : (digest t).length = 32 := by
  unfold digest
  have h1 := fm_len (dgS (padT t) ((padT t).length / 64))
  rw [bytesC, List.length_map] at h1
  rw [h1, (dgS_ok _ _).1]
def cutD (t : List UInt8) : List UInt8 := (digest t).take 8
theorem cut_len (t : List UInt8) : (cutD t).length = 8 := by unfold cutD; rw [List.length_take, dig_len]; rfl
theorem ac_CutDigest' (t : List UInt8) (ht : t.length ≤ 1048576) : AC Tryz.prog 109 [vS t, vI 8] (vS (cutD t)) [] := by
  have hd := ac_Digest' t ht
  have hl := dig_len t
  unfold cutD
  generalize digest t = D at *
  refine XA good (fn := Tryz.f109) rfl ?_
  simp only [entry, List.getD_cons_zero, List.getD_cons_succ]
  repeat' first | refine SW.step good fun K hK => ?_ | refine X2 good fun K hK => ?_ | refine X3 good fun K hK => ?_ | refine SW.seqK fun J hJ => ?_ | refine SW.last good fun K hK => ?_ | (refine hK _ ?_; clear hK K) | (refine hJ _ _ (Wk.refl _) ?_; clear hJ J) | clear hK K | clear hJ J | refine SW.skip ?_ | refine SW.ret ?_ | refine SW.retT ?_ | refine SW.retB ?_ | refine SW.exit ?_ | refine SW.exitT ?_ | refine SW.exitB ?_ | refine XN ?_ | refine SW.block ?_ | refine SW.normB ?_ | refine SW.normT ?_ | refine XT ?_ | refine XF ?_ | refine XC (fun h => ?_) (fun h => ?_) | refine X0 ?_ | refine Xv ?_ | refine X1 (hd) ?_ | refine X1 (ac_in' _ _ _) ?_ | simp only [go_sem, optI, Option.getD_some, Option.getD_none, Int.reduceToNat, reduceIte, Nat.reduceEqDiff, Nat.reduceAdd, Nat.reduceMul, Nat.reduceSub, Nat.reduceLT, Nat.reduceLeDiff, reduceCtorEq, *] | refine Xs _ (fun h => ?_) (fun h => ?_) | with_reducible refine And.intro ?_ ?_
  all_goals first | (intro r hr; simp at hr; subst hr; rfl) | (simp [bytesC]; omega) | (simp; done) | omega | rfl | skip
  all_goals first | (refine Xrs ?_; first | rfl | (simp; done)) | (simp [hl]; done) | omega | skip
theorem ac_l04Cut (t : List UInt8) (ht : t.length ≤ 1048576) : AC Tryz.prog 107 [vS t] (vS (cutD t)) [] := by
  have hd := ac_CutDigest' t ht
  generalize cutD t = D at *
  refine XA good (fn := Tryz.f107) rfl ?_
  simp only [entry, List.getD_cons_zero, List.getD_cons_succ]
  repeat' first | refine SW.step good fun K hK => ?_ | refine X2 good fun K hK => ?_ | refine X3 good fun K hK => ?_ | refine SW.seqK fun J hJ => ?_ | refine SW.last good fun K hK => ?_ | (refine hK _ ?_; clear hK K) | (refine hJ _ _ (Wk.refl _) ?_; clear hJ J) | clear hK K | clear hJ J | refine SW.skip ?_ | refine SW.ret ?_ | refine SW.retT ?_ | refine SW.retB ?_ | refine SW.exit ?_ | refine SW.exitT ?_ | refine SW.exitB ?_ | refine XN ?_ | refine SW.block ?_ | refine SW.normB ?_ | refine SW.normT ?_ | refine XT ?_ | refine XF ?_ | refine XC (fun h => ?_) (fun h => ?_) | refine X0 ?_ | refine Xv ?_ | refine X1 (hd) ?_ | simp only [go_sem, optI, Option.getD_some, Option.getD_none, Int.reduceToNat, reduceIte, Nat.reduceEqDiff, Nat.reduceAdd, Nat.reduceMul, Nat.reduceSub, Nat.reduceLT, Nat.reduceLeDiff, reduceCtorEq, *] | refine Xs _ (fun h => ?_) (fun h => ?_) | with_reducible refine And.intro ?_ ?_
  all_goals (refine Xrs ?_; rfl)
/-- a chain -/
def chT (t : List UInt8) : Nat → List UInt8
  | 0 => t
  | n + 1 => cutD (99 :: chT t n)
theorem chT_len {t : List UInt8} {m : Nat} (h : t.length ≤ m) (h8 : 8 ≤ m) : ∀ n, (chT t n).length ≤ m
  | 0 => h
  | n + 1 => by rw [chT, cut_len]; exact h8
theorem ac_ChainOf' (t : List UInt8) (ht : t.length ≤ 1048575) (n : Nat) (hn : n ≤ 3) : AC Tryz.prog 103 [vS t, vI n] (vS (chT t n)) [] := by
  have hcl : ∀ k, (chT t k).length ≤ 1048575 := chT_len ht (by decide)
  refine XA good (fn := Tryz.f103) rfl ?_
  simp only [entry, List.getD_cons_zero, List.getD_cons_succ]
  repeat' first | refine SW.step good fun K hK => ?_ | refine X2 good fun K hK => ?_ | refine X3 good fun K hK => ?_ | refine SW.seqK fun J hJ => ?_ | refine SW.last good fun K hK => ?_ | (refine hK _ ?_; clear hK K) | (refine hJ _ _ (Wk.refl _) ?_; clear hJ J) | clear hK K | clear hJ J | refine SW.skip ?_ | refine SW.ret ?_ | refine SW.retT ?_ | refine SW.retB ?_ | refine SW.exit ?_ | refine SW.exitT ?_ | refine SW.exitB ?_ | refine XN ?_ | refine SW.block ?_ | refine SW.normB ?_ | refine SW.normT ?_ | refine XT ?_ | refine XF ?_ | refine XC (fun h => ?_) (fun h => ?_) | simp only [go_sem, optI, Option.getD_some, Option.getD_none, Int.reduceToNat, reduceIte, Nat.reduceEqDiff, Nat.reduceAdd, Nat.reduceMul, Nat.reduceSub, Nat.reduceLT, Nat.reduceLeDiff, reduceCtorEq, *] | refine Xs _ (fun h => ?_) (fun h => ?_) | with_reducible refine And.intro ?_ ?_
  refine SW.loopTo (α := Nat) (fun k => ⟨sl [(0, vS (chT t k)), (1, vI n), (5, vI k)], hl []⟩) (fun k => n - k) 0 (fun k => k ≤ n) ?_ (by simp) ?_
  · (refine Xto _ _ ?_ ?_ <;> simp only [go_sem, optI, Option.getD_some, Option.getD_none, Int.reduceToNat, reduceIte, Nat.reduceEqDiff, Nat.reduceAdd, Nat.reduceMul, Nat.reduceSub, Nat.reduceLT, Nat.reduceLeDiff, reduceCtorEq, Option.some.injEq, or_true, true_or] <;> (repeat' with_reducible apply And.intro) <;> (try rfl))
    all_goals first | (simp [chT]; done) | skip
  · intro k h2
    by_cases hk : k < n
    · have e1 : decide ((k : Int) < n) = true := by simp; omega
      have e2 : decide ((k : Int) < 3) = true := by simp; omega
      have hw : IntKind.i64.wrap ((k : Int) + 1) = ((k + 1 : Nat) : Int) := wrap64 (by omega) (by omega)
      have hs := ac_l04Cut (99 :: chT t k) (by have := hcl k; simp only [List.length_cons]; omega)
      have hm := hcl k
      have ht' : chT t (k + 1) = cutD (99 :: chT t k) := rfl
      generalize chT t k = M at *
      repeat' first | refine SW.step good fun K hK => ?_ | refine X2 good fun K hK => ?_ | refine X3 good fun K hK => ?_ | refine SW.seqK fun J hJ => ?_ | refine SW.last good fun K hK => ?_ | (refine hK _ ?_; clear hK K) | (refine hJ _ _ (Wk.refl _) ?_; clear hJ J) | clear hK K | clear hJ J | refine SW.skip ?_ | refine SW.ret ?_ | refine SW.retT ?_ | refine SW.retB ?_ | refine SW.exit ?_ | refine SW.exitT ?_ | refine SW.exitB ?_ | refine XN ?_ | refine SW.block ?_ | refine SW.normB ?_ | refine SW.normT ?_ | refine XT ?_ | refine XF ?_ | refine XC (fun h => ?_) (fun h => ?_) | refine X0 ?_ | refine Xv ?_ | refine X1 (hs) ?_ | simp only [go_sem, optI, Option.getD_some, Option.getD_none, Int.reduceToNat, reduceIte, Nat.reduceEqDiff, Nat.reduceAdd, Nat.reduceMul, Nat.reduceSub, Nat.reduceLT, Nat.reduceLeDiff, reduceCtorEq, *] | refine Xs _ (fun h => ?_) (fun h => ?_) | with_reducible refine And.intro ?_ ?_
      all_goals first | (intro r hr; simp at hr; subst hr; rfl) | (simp [bytesC]; omega) | (simp; done) | omega | rfl | skip
      all_goals refine ⟨k + 1, by omega, by omega, ?_⟩
      all_goals (refine Xto _ _ ?_ ?_ <;> simp only [go_sem, optI, Option.getD_some, Option.getD_none, Int.reduceToNat, reduceIte, Nat.reduceEqDiff, Nat.reduceAdd, Nat.reduceMul, Nat.reduceSub, Nat.reduceLT, Nat.reduceLeDiff, reduceCtorEq, Option.some.injEq, or_true, true_or] <;> (repeat' with_reducible apply And.intro) <;> (try rfl))
      all_goals first | (rw [ht']; done) | skip
    · have hk : k = n := by omega
      subst hk
      have e1 : decide ((k : Int) < k) = false := by simp
      generalize chT t k = M at *
      repeat' first | refine SW.step good fun K hK => ?_ | refine X2 good fun K hK => ?_ | refine X3 good fun K hK => ?_ | refine SW.seqK fun J hJ => ?_ | refine SW.last good fun K hK => ?_ | (refine hK _ ?_; clear hK K) | (refine hJ _ _ (Wk.refl _) ?_; clear hJ J) | clear hK K | clear hJ J | refine SW.skip ?_ | refine SW.ret ?_ | refine SW.retT ?_ | refine SW.retB ?_ | refine SW.exit ?_ | refine SW.exitT ?_ | refine SW.exitB ?_ | refine XN ?_ | refine SW.block ?_ | refine SW.normB ?_ | refine SW.normT ?_ | refine XT ?_ | refine XF ?_ | refine XC (fun h => ?_) (fun h => ?_) | simp only [go_sem, optI, Option.getD_some, Option.getD_none, Int.reduceToNat, reduceIte, Nat.reduceEqDiff, Nat.reduceAdd, Nat.reduceMul, Nat.reduceSub, Nat.reduceLT, Nat.reduceLeDiff, reduceCtorEq, *] | refine Xs _ (fun h => ?_) (fun h => ?_) | with_reducible refine And.intro ?_ ?_
      all_goals (refine Xrs ?_; rfl)
end Go.Proofs.YtoemclhjcbcjaaaGreat.AB
namespace Go.Proofs.YtoemclhjcbcjaaaGreat.AB
open Go
set_option maxRecDepth 100000
set_option linter.unusedSimpArgs false
set_option linter.unusedVariables false
def showCred (c : Cred) : List UInt8 :=
  if credOk c then
    (showRole c.of ++ [32, 60, 45, 32]) ++ (if c.kind = 1 then letr 65 c.who else if c.kind = 2 then showRole c.a else if c.kind = 3 then (showRole c.a ++ [46]) ++ letr 114 c.b.name else (showRole c.a ++ [32, 38, 32]) ++ showRole c.b)
  else []
attribute [go_sem] encRole encCred
end Go.Proofs.YtoemclhjcbcjaaaGreat.AB
namespace Go.Proofs.YtoemclhjcbcjaaaGreat.AB
open Go
set_option maxRecDepth 100000
set_option linter.unusedSimpArgs false
set_option linter.unusedVariables false
structure Event where
  kind : Int
  place : Int
  num : Int
  cred : Cred
  text : ByteArray
def evC (e : Event) : List C := [cI e.kind, cI e.place, cI e.num, cI e.cred.kind, cI e.cred.of.who, cI e.cred.of.name, cI e.cred.who, cI e.cred.a.who, cI e.cred.a.name, cI e.cred.b.who, cI e.cred.b.name, cI e.cred.till, cI e.cred.nonce, .v (.string e.text)]
def encEv (e : Event) : AV := .agg [vI e.kind, vI e.place, vI e.num, vI e.cred.kind, vI e.cred.of.who, vI e.cred.of.name, vI e.cred.who, vI e.cred.a.who, vI e.cred.a.name, vI e.cred.b.who, vI e.cred.b.name, vI e.cred.till, vI e.cred.nonce, .c false (.v (.string e.text))]
def evL (L : List Event) : AV := .c true (.sl (L.map evC))
attribute [go_sem] encEv evC
/-- how long texts are together -/
def textsLen (L : List Event) : Nat := (L.map fun e => (sb e.text).length).sum
def szOf (need : Nat) (left : Int) : Int := if left < need then -1 else left - need
theorem textsLen_take (L : List Event) {k : Nat} (h : k < L.length) : textsLen (L.take (k + 1)) = textsLen (L.take k) + (sb L[k].text).length := by
  unfold textsLen
  rw [List.take_add_one, List.getElem?_eq_getElem h, List.map_append, List.sum_append]; simp
theorem textsLen_le (L : List Event) (k : Nat) : textsLen (L.take k) ≤ textsLen L := by
  have h := congrArg textsLen (List.take_append_drop k L)
  unfold textsLen at h ⊢
  rw [List.map_append, List.sum_append] at h; omega
/-- a slice filled up to the k-th -/
def fill {α : Type} (f : α → List C) (z : List C) (L : List α) (k : Nat) : List (List C) := (L.take k).map f ++ List.replicate (L.length - k) z
section
variable {α : Type} {f : α → List C} {z : List C} {L : List α} {k : Nat}
theorem fill_len (h : k ≤ L.length) : (fill f z L k).length = L.length := by simp [fill]; omega
theorem fill_zero : List.replicate L.length z = fill f z L 0 := by simp [fill]
theorem fill_all : fill f z L L.length = L.map f := by simp [fill]
theorem fill_get (h : k < L.length) : (fill f z L k).getD k [] = z := by
  have h1 : ((L.take k).map f).length = k := by simp; omega
  rw [List.getD_eq_getElem?_getD, fill, List.getElem?_append_right (by omega), h1, Nat.sub_self, List.getElem?_replicate, if_pos (by omega)]; rfl
theorem fill_set (h : k < L.length) : (fill f z L k).set k (f L[k]) = fill f z L (k + 1) := by
  have h1 : ((L.take k).map f).length = k := by simp; omega
  have h2 : L.take (k + 1) = L.take k ++ [L[k]] := by rw [List.take_add_one, List.getElem?_eq_getElem h]; rfl
  unfold fill
  rw [List.set_append_right _ _ (by omega), h1, Nat.sub_self, h2, List.map_append, show L.length - k = (L.length - (k + 1)) + 1 by omega, List.replicate_succ, List.set_cons_zero, List.append_assoc]
  rfl
end
def zEv : List C := [cI 0, cI 0, cI 0, cI 0, cI 0, cI 0, cI 0, cI 0, cI 0, cI 0, cI 0, cI 0, cI 0, .v (.string ⟨#[]⟩)]
attribute [go_sem] layC
end Go.Proofs.YtoemclhjcbcjaaaGreat.AB
namespace Go.Proofs.YtoemclhjcbcjaaaGreat.AB
open Go
set_option maxRecDepth 100000
set_option linter.unusedSimpArgs false
set_option linter.unusedVariables false
structure Item where
  text : ByteArray
  gone : Bool
structure Shelf where
  key : Int
  items : List Item
structure Peer where
  id : Int
  here : Bool
  ahead : Int
  behind : List Int
  fingers : List Int
  shelves : List Shelf
abbrev intC (n : Int) : List C := [cI n]
def itemC (x : Item) : List C := [.v (.string x.text), cB x.gone]
def shelfC (s : Shelf) : List C := [cI s.key, .sl (s.items.map itemC)]
def peerC (p : Peer) : List C := [cI p.id, cB p.here, cI p.ahead, .sl (p.behind.map intC), .sl (p.fingers.map intC), .sl (p.shelves.map shelfC)]
def encItem (x : Item) : AV := .agg [.c false (.v (.string x.text)), vB x.gone]
def encShelf (b : Bool) (s : Shelf) : AV := .agg [vI s.key, .c b (.sl (s.items.map itemC))]
def encPeer (b : Bool) (p : Peer) : AV := .agg [vI p.id, vB p.here, vI p.ahead, .c b (.sl (p.behind.map intC)), .c b (.sl (p.fingers.map intC)), .c b (.sl (p.shelves.map shelfC))]
def encRing (b : Bool) (ps : List Peer) : AV := .agg [.c b (.sl (ps.map peerC))]
attribute [go_sem] itemC shelfC peerC intC encItem encShelf encPeer encRing
def zItem : List C := [.v (.string ⟨#[]⟩), cB false]
def zShelf : List C := [cI 0, .sl []]
theorem gone0 {h : Hp} {j : Id} : (⟨idsTo [], h, hrOf []⟩ : Wn).gone j := by
  intro i hi
  cases i <;> simp [hrOf] at hi
def Peer.small (p : Peer) : Prop := p.behind.length ≤ 1048576 ∧ p.fingers.length ≤ 1048576 ∧ p.shelves.length ≤ 1048576 ∧ ∀ s, s ∈ p.shelves → s.items.length ≤ 1048576
def zPeer : List C := [cI 0, cB false, cI 0, .sl [], .sl [], .sl []]
end Go.Proofs.YtoemclhjcbcjaaaGreat.AB
namespace Go.Proofs.YtoemclhjcbcjaaaGreat.AB
open Go
set_option maxRecDepth 100000
set_option linter.unusedSimpArgs false
set_option linter.unusedVariables false
def sumOf {α : Type} (f : α → Nat) (L : List α) : Nat := (L.map f).sum
theorem sumOf_take {α : Type} (f : α → Nat) (L : List α) {k : Nat} (h : k < L.length) : sumOf f (L.take (k + 1)) = sumOf f (L.take k) + f L[k] := by
  unfold sumOf
  rw [List.take_add_one, List.getElem?_eq_getElem h, List.map_append, List.sum_append]; simp
theorem sumOf_le {α : Type} (f : α → Nat) (L : List α) (k : Nat) : sumOf f (L.take k) ≤ sumOf f L := by
  have h := congrArg (sumOf f) (List.take_append_drop k L)
  unfold sumOf at h ⊢
  rw [List.map_append, List.sum_append] at h; omega
def itemSz (x : Item) : Nat := (sb x.text).length
def itemsSz (L : List Item) : Nat := L.length + sumOf itemSz L
def shelfSz (s : Shelf) : Nat := itemsSz s.items
def shelvesSz (L : List Shelf) : Nat := L.length + sumOf shelfSz L
def peerSz (p : Peer) : Nat := p.behind.length + p.fingers.length + shelvesSz p.shelves
def peersSz (L : List Peer) : Nat := L.length + sumOf peerSz L
def Shelf.ok (s : Shelf) : Prop := s.items.length ≤ 9223372036854775807 ∧ ∀ e, e ∈ s.items → itemSz e ≤ 9223372036854775807
theorem szOf_n {n : Nat} {l : Int} (h : l < n) : szOf n l = -1 := by unfold szOf; rw [if_pos h]
theorem szOf_p {n : Nat} {l : Int} (h : ¬ l < n) : szOf n l = l - n := by unfold szOf; rw [if_neg h]
def Peer.ok (p : Peer) : Prop := p.behind.length ≤ 9223372036854775807 ∧ p.fingers.length ≤ 9223372036854775807 ∧ p.shelves.length ≤ 9223372036854775807 ∧ ∀ s, s ∈ p.shelves → s.ok
end Go.Proofs.YtoemclhjcbcjaaaGreat.AB
namespace Go.Proofs.YtoemclhjcbcjaaaGreat.AB
open Go
set_option maxRecDepth 100000
set_option linter.unusedSimpArgs false
set_option linter.unusedVariables false
end Go.Proofs.YtoemclhjcbcjaaaGreat.AB
namespace Go.Proofs.YtoemclhjcbcjaaaGreat.AB
open Go
set_option maxRecDepth 100000
set_option linter.unusedSimpArgs false
set_option linter.unusedVariables false
structure Step where
  cred : Cred
  of : Role
  who : Int
  src : List Int
def stepC (s : Step) : List C := [cI s.cred.kind, cI s.cred.of.who, cI s.cred.of.name, cI s.cred.who, cI s.cred.a.who, cI s.cred.a.name, cI s.cred.b.who, cI s.cred.b.name, cI s.cred.till, cI s.cred.nonce, cI s.of.who, cI s.of.name, cI s.who, .sl (s.src.map intC)]
def encStep (b : Bool) (s : Step) : AV := .agg [vI s.cred.kind, vI s.cred.of.who, vI s.cred.of.name, vI s.cred.who, vI s.cred.a.who, vI s.cred.a.name, vI s.cred.b.who, vI s.cred.b.name, vI s.cred.till, vI s.cred.nonce, vI s.of.who, vI s.of.name, vI s.who, .c b (.sl (s.src.map intC))]
structure Answer where
  granted : Bool
  steps : List Step
  looked : Int
  failed : Bool
  full : Bool
def encAnswer (b : Bool) (a : Answer) : AV := .agg [vB a.granted, .c b (.sl (a.steps.map stepC)), vI a.looked, vB a.failed, vB a.full]
attribute [go_sem] stepC encStep encAnswer
def stepSz (s : Step) : Nat := s.src.length
def stepsSz (L : List Step) : Nat := L.length + sumOf stepSz L
def zStep : List C := [cI 0, cI 0, cI 0, cI 0, cI 0, cI 0, cI 0, cI 0, cI 0, cI 0, cI 0, cI 0, cI 0, .sl []]
def encFact (r : Role) (n : Int) : AV := .agg [vI r.who, vI r.name, vI n]
attribute [go_sem] encFact
end Go.Proofs.YtoemclhjcbcjaaaGreat.AB
namespace Go.Proofs.YtoemclhjcbcjaaaGreat.AB
open Go
set_option maxRecDepth 100000
set_option linter.unusedSimpArgs false
set_option linter.unusedVariables false
/-- two bits of a byte -/
def qd (b : UInt8) (s : Nat) : Nat := b.toNat / 2 ^ s % 4
def q8 (d : List UInt8) : List Nat := [qd (d.getD 0 0) 6, qd (d.getD 0 0) 4, qd (d.getD 0 0) 2, qd (d.getD 0 0) 0, qd (d.getD 1 0) 6, qd (d.getD 1 0) 4, qd (d.getD 1 0) 2, qd (d.getD 1 0) 0]
def sumN : List Nat → Nat
  | [] => 0
  | x :: r => x + sumN r
def missQ (d : List UInt8) : Nat := 24 - sumN (q8 d)
def quadsD (d : List UInt8) : List Nat := q8 d ++ [missQ d / 16 % 4, missQ d / 4 % 4, missQ d % 4]
def quads (t : List UInt8) : List Nat := quadsD (digest t)
theorem qd_le (b : UInt8) (s : Nat) : qd b s ≤ 3 := by unfold qd; omega
theorem q8_len (d : List UInt8) : (q8 d).length = 8 := rfl
theorem q8_le (d : List UInt8) : ∀ x, x ∈ q8 d → x ≤ 3 := by
  intro x hx
  simp only [q8, List.mem_cons, List.not_mem_nil, or_false] at hx
  rcases hx with rfl | rfl | rfl | rfl | rfl | rfl | rfl | rfl <;> exact qd_le _ _
theorem sumN_take_le : ∀ (L : List Nat) (k : Nat), (∀ x, x ∈ L → x ≤ 3) → sumN (L.take k) ≤ 3 * k
  | L, 0, _ => by simp [sumN]
  | [], k + 1, _ => by simp [sumN]
  | x :: L, k + 1, h => by
    have h1 := sumN_take_le L k (fun y hy => h y (List.mem_cons_of_mem _ hy))
    have h2 := h x (by simp)
    simp only [List.take_succ_cons, sumN]; omega
theorem sumN_take : ∀ {L : List Nat} {k : Nat} (h : k < L.length), sumN (L.take (k + 1)) = sumN (L.take k) + L[k]
  | x :: L, 0, _ => by simp [sumN]
  | x :: L, k + 1, h => by
    have := sumN_take (L := L) (k := k) (by simpa using h)
    simp only [List.take_succ_cons, sumN, this, List.getElem_cons_succ]; omega
theorem sum8_le (d : List UInt8) : sumN (q8 d) ≤ 24 := by
  have := sumN_take_le (q8 d) 8 (q8_le d)
  rw [List.take_of_length_le (by rw [q8_len]; omega)] at this; exact this
theorem quads_len (t : List UInt8) : (quads t).length = 11 := rfl
theorem quads_le (t : List UInt8) : ∀ x, x ∈ quads t → x ≤ 3 := by
  intro x hx
  unfold quads quadsD at hx
  rcases List.mem_append.1 hx with h | h
  · exact q8_le _ x h
  · simp only [List.mem_cons, List.not_mem_nil, or_false] at h
    rcases h with rfl | rfl | rfl <;> omega
theorem and3F : ∀ x : Fin 256, andK .i64 ((x.val : Nat) : Int) 3 = ((x.val % 4 : Nat) : Int) := by decide +kernel
theorem and3 (x : Nat) (h : x < 256) : andK .i64 (x : Int) 3 = ((x % 4 : Nat) : Int) := and3F ⟨x, h⟩
theorem shr_n (x s : Nat) (h : s ≤ 64) : shrK .i64 (x : Int) (s : Int) = ((x / 2 ^ s : Nat) : Int) := by
  have e : min (s : Int).toNat IntKind.i64.bits = s := by simp only [Int.toNat_natCast]; exact Nat.min_eq_left h
  unfold shrK
  rw [e, Int.fdiv_eq_ediv_of_nonneg _ (by exact Int.le_of_lt (Int.pow_pos (by decide)))]
  simp
theorem shr_and (x s : Nat) (h : s ≤ 64) (hx : x < 256) : andK .i64 (shrK .i64 (x : Int) (s : Int)) 3 = ((x / 2 ^ s % 4 : Nat) : Int) := by
  rw [shr_n x s h]
  exact and3 _ (Nat.lt_of_le_of_lt (Nat.div_le_self _ _) hx)
theorem shr_qd (b : UInt8) (s : Nat) (h : s ≤ 64) : andK .i64 (shrK .i64 (b.toNat : Int) (s : Int)) 3 = ((qd b s : Nat) : Int) := shr_and _ _ h (by have := b.toNat_lt; omega)
/-- a secret -/
def secr (seed leaf i : Nat) : List UInt8 := cutD (115 :: (varI seed ++ varI leaf ++ varI i))
/-- the ends of a leaf's chains, one behind the other -/
def ends (seed leaf : Nat) (k : Nat) : List UInt8 := (List.range k).flatMap fun i => chT (secr seed leaf i) 3
def leafK (seed leaf : Nat) : List UInt8 := cutD (108 :: ends seed leaf 11)
def row4 (seed : Nat) : List (List UInt8) := (List.range 4).map (leafK seed)
def pairK (a b : List UInt8) : List UInt8 := cutD (110 :: (a ++ b))
def row2 (seed : Nat) : List (List UInt8) := [pairK (leafK seed 0) (leafK seed 1), pairK (leafK seed 2) (leafK seed 3)]
def keyOf (seed : Nat) : List UInt8 := pairK (pairK (leafK seed 0) (leafK seed 1)) (pairK (leafK seed 2) (leafK seed 3))
theorem chT8 {t : List UInt8} (h : t.length = 8) : ∀ n, (chT t n).length = 8
  | 0 => h
  | n + 1 => by rw [chT, cut_len]
theorem ends_succ (seed leaf k : Nat) : ends seed leaf (k + 1) = ends seed leaf k ++ chT (secr seed leaf k) 3 := by
  unfold ends; rw [List.range_succ, List.flatMap_append]; simp
theorem ends_len (seed leaf : Nat) : ∀ k, (ends seed leaf k).length = 8 * k
  | 0 => by simp [ends]
  | k + 1 => by rw [ends_succ, List.length_append, ends_len seed leaf k, chT8 (show (secr seed leaf k).length = 8 from cut_len _)]; omega
structure Sign where
  leaf : Int
  ends : List (List UInt8)
  way : List (List UInt8)
structure Vouched where
  cred : Cred
  sign : Sign
def len8 (L : List (List UInt8)) : Bool := L.all fun s => decide (s.length = 8)
def signForm (s : Sign) : Bool := decide (0 ≤ s.leaf ∧ s.leaf ≤ 3) && (decide (s.ends.length = 11) && (decide (s.way.length = 2) && (len8 s.ends && len8 s.way)))
/-- what chains end in -/
def outs (q : List Nat) (E : List (List UInt8)) : List UInt8 := (List.zipWith (fun q e => chT e (3 - q)) q E).flatten
/-- the way up -/
def wayUp : List (List UInt8) → Int → List UInt8 → List UInt8
  | [], _, t => t
  | w :: r, at', t => wayUp r (at' / 2) (if at' % 2 = 0 then pairK t w else pairK w t)
theorem outs_nil (E : List (List UInt8)) : outs [] E = [] := by simp [outs]
theorem outs_take {q : List Nat} {E : List (List UInt8)} {k : Nat} (h : k < q.length) (h' : k < E.length) : outs (q.take (k + 1)) (E.take (k + 1)) = outs (q.take k) (E.take k) ++ chT E[k] (3 - q[k]) := by
  unfold outs
  rw [← List.take_zipWith, ← List.take_zipWith, List.take_add_one, List.getElem?_eq_getElem (by rw [List.length_zipWith]; omega), List.flatten_append]
  simp
theorem chT_le {t : List UInt8} (h : t.length = 8) (n : Nat) : (chT t n).length ≤ 8 := Nat.le_of_eq (chT8 h n)
theorem outs_len : ∀ (q : List Nat) (E : List (List UInt8)), (∀ e, e ∈ E → e.length = 8) → (outs q E).length ≤ 8 * E.length
  | [], _, _ => by simp [outs]
  | _ :: _, [], _ => by simp [outs]
  | a :: q, e :: E, h => by
    have h1 := outs_len q E (fun x hx => h x (List.mem_cons_of_mem _ hx))
    have h2 := chT_le (h e (by simp)) (3 - a)
    unfold outs at *
    simp only [List.zipWith_cons_cons, List.flatten_cons, List.length_append, List.length_cons]; omega
theorem len8_mem {L : List (List UInt8)} (h : len8 L = true) : ∀ e, e ∈ L → e.length = 8 := fun e he => by simpa using List.all_eq_true.1 h e he
theorem wayUp_len : ∀ (L : List (List UInt8)) (a : Int) (t : List UInt8), t.length = 8 → (wayUp L a t).length = 8
  | [], _, _, h => h
  | w :: r, a, t, _ => by
    rw [wayUp]
    apply wayUp_len
    split <;> exact cut_len _
def signedBy (key text : List UInt8) (s : Sign) : Bool := signForm s && decide (wayUp s.way s.leaf (cutD (108 :: outs (quads text) s.ends)) = key)
def seedOf (who : Int) : Nat := 7 * (who % 256).toNat + 1000
def verified (v : Vouched) (now : Int) : Bool := credOk v.cred && (decide (now ≤ v.cred.till) && signedBy (keyOf (seedOf v.cred.of.who)) (credText v.cred) v.sign)
end Go.Proofs.YtoemclhjcbcjaaaGreat.AB
