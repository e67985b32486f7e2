/- The digest of a text: the reference's function. -/
import Derived.Test.YtbgeagbgfioaaaaGreatAbHeDigest
namespace Go.Proofs.YtbgeagbgfioaaaaGreat.AB
open Go
set_option maxRecDepth 100000
set_option linter.unusedSimpArgs false
set_option linter.unusedVariables false
/-- the bytes of the first numbers, and room -/
def ob (D : List Int) (k : Nat) : List (List C) := bytesC ((D.take k).flatMap byt) ++ List.replicate (32 - 4 * k) [.v (.int .u8 0)]
theorem ob_len {D : List Int} {k : Nat} (hD : D.length = 8) (h : k ≤ 8) : (ob D k).length = 32 := by
  unfold ob
  rw [List.length_append, fm_len, List.length_take, List.length_replicate]; omega
theorem set4 (X : List (List C)) (k : Nat) (Y : List (List C)) (z a b c d : List C) (h : X.length = 4 * k) :
    ((((X ++ (z :: z :: z :: z :: Y)).set (4 * k) a).set (4 * k + 1) b).set (4 * k + 2) c).set (4 * k + 3) d = X ++ (a :: b :: c :: d :: Y) := by
  rw [List.set_append_right _ _ (by omega), List.set_append_right _ _ (by omega), List.set_append_right _ _ (by omega), List.set_append_right _ _ (by omega), h]
  rw [show 4 * k - 4 * k = 0 by omega, show 4 * k + 1 - 4 * k = 1 by omega, show 4 * k + 2 - 4 * k = 2 by omega, show 4 * k + 3 - 4 * k = 3 by omega]
  rfl
theorem ob_next {D : List Int} {k : Nat} (hD : D.length = 8) (h : k < 8) (n : Int) (hn : D.getD k 0 = n) :
    ((((ob D k).set (4 * k) [.v (.int .u8 (n / 16777216 % 256))]).set (4 * k + 1) [.v (.int .u8 (n / 65536 % 256))]).set (4 * k + 2) [.v (.int .u8 (n / 256 % 256))]).set (4 * k + 3) [.v (.int .u8 (n % 256))] = ob D (k + 1) := by
  unfold ob
  rw [show 32 - 4 * k = (32 - 4 * (k + 1)) + 4 by omega, List.replicate_succ, List.replicate_succ, List.replicate_succ, List.replicate_succ, set4 _ _ _ _ _ _ _ _ (by rw [fm_len, List.length_take]; omega),
    fm_take D (by omega), hn, bytesC_app, byt_c, List.append_assoc]
  rfl
theorem ob_all {D : List Int} (hD : D.length = 8) : ob D 8 = bytesC (D.flatMap byt) := by
  unfold ob
  rw [List.take_of_length_le (by omega)]; simp
theorem len_one {X : List (List C)} {i : Nat} {a : C} (h : ∀ r, r ∈ X → r.length = 1) (hi : i < X.length) : layC (X.getD i []) 0 [a] = [a] := by
  have h1 := h _ (List.getElem_mem hi)
  rw [List.getD_eq_getElem?_getD, List.getElem?_eq_getElem hi]
  simp only [Option.getD_some]
  obtain ⟨y, hy⟩ := List.length_eq_one_iff.1 h1
  rw [hy]; rfl
theorem onL_vU (d : Nat) : ∀ l : List Int, AV.onL (toS d) (l.map vU) = l.map vU
  | [] => rfl
  | x :: l => by rw [List.map_cons, AV.onL, onL_vU d l]; rfl
theorem onL_vL (h : Hp) : ∀ l : List Int, AV.onL (lend h) (l.map vU) = l.map vU
  | [] => rfl
  | x :: l => by rw [List.map_cons, AV.onL, onL_vL h l]; rfl
theorem onL_vK (i : Id) : ∀ l : List Int, AV.onL (killV i) (l.map vU) = l.map vU
  | [] => rfl
  | x :: l => by rw [List.map_cons, AV.onL, onL_vK i l]; rfl
def Ones (X : List (List C)) : Prop := ∀ r, r ∈ X → r.length = 1
theorem Ones.drop {X : List (List C)} (h : Ones X) (i : Nat) : List.drop 1 (X.getD i []) = [] := by
  rw [List.getD_eq_getElem?_getD]
  by_cases hi : i < X.length
  · rw [List.getElem?_eq_getElem hi]
    exact List.drop_eq_nil_of_le (Nat.le_of_eq (h _ (List.getElem_mem hi)))
  · rw [List.getElem?_eq_none (by omega)]; rfl
theorem Ones.set {X : List (List C)} (h : Ones X) (i : Nat) (a : C) : Ones (X.set i [a]) := by
  intro r hr
  rcases List.mem_or_eq_of_mem_set hr with hr | rfl
  · exact h r hr
  · rfl
theorem ob_ones (D : List Int) (k : Nat) : Ones (ob D k) := by
  intro r hr
  unfold ob bytesC at hr
  rcases List.mem_append.1 hr with hr | hr
  · obtain ⟨_, _, rfl⟩ := List.mem_map.1 hr; rfl
  · rw [(List.mem_replicate.1 hr).2]; rfl
set_option maxHeartbeats 4000000 in
theorem ac_Digest' (t : List UInt8) (ht : t.length ≤ 1048576) : AC Tryz.prog 82 [vS t] (vS (digest t)) [] := by
  have hp := ac_PadText' t ht
  have hpl := padT_len t
  have hs := first_is
  have hks := keys_are
  unfold digest
  generalize padT t = p at *
  have hp2 : p.length ≤ 2097152 := by omega
  obtain ⟨nb, hnb⟩ : ∃ nb, p.length = 64 * nb := ⟨_, hpl⟩
  rw [show p.length / 64 = nb by omega]
  clear hpl ht
  have hkl : (kW.map vU).length = 64 := rfl
  have hk64 : List.take 64 (kW.map vU) = kW.map vU := List.take_of_length_le (by rw [hkl]; omega)
  have hi8 : List.take 8 (iW.map vU) = iW.map vU := rfl
  have hil : (iW.map vU).length = 8 := rfl
  have hD0 : dgS p 0 = iW := rfl
  have hblk := ac_Block'
  have hF0 : ∀ W : Wn, W.leL ((dgS p 0).map vU) (iW.map vU) := fun W => leU iW
  refine XA good (fn := Tryz.f82) rfl ?_
  simp only [entry, List.getD_cons_zero, List.getD_cons_succ]
  repeat' first | refine SW.step good fun K hK => ?_ | refine X2 good fun K hK => ?_ | refine X3 good fun K hK => ?_ | refine SW.seqK fun J hJ => ?_ | refine SW.last good fun K hK => ?_ | (refine hK _ ?_; clear hK K) | (refine hJ _ _ (Wk.refl _) ?_; clear hJ J) | clear hK K | clear hJ J | refine SW.skip ?_ | refine SW.ret ?_ | refine SW.retT ?_ | refine SW.retB ?_ | refine SW.exit ?_ | refine SW.exitT ?_ | refine SW.exitB ?_ | refine XN ?_ | refine SW.block ?_ | refine SW.normB ?_ | refine SW.normT ?_ | refine XT ?_ | refine XF ?_ | refine XC (fun h => ?_) (fun h => ?_) | refine X0 ?_ | refine Xv ?_ | refine X1 (hs) ?_ | refine X1 (hks) ?_ | refine X1 (hp) ?_ | simp only [go_sem, optI, Option.getD_some, Option.getD_none, Int.reduceToNat, reduceIte, Nat.reduceEqDiff, Nat.reduceAdd, Nat.reduceMul, Nat.reduceSub, Nat.reduceLT, Nat.reduceLeDiff, reduceCtorEq, *] | refine Xs _ (fun h => ?_) (fun h => ?_) | with_reducible refine And.intro ?_ ?_
  all_goals first | omega | skip
  all_goals try simp only [onL_vU, hil, hkl, List.drop_succ_cons, List.drop_zero, List.append_nil]
  all_goals generalize kW = K at *
  all_goals generalize iW = I0 at *
  all_goals first | omega | skip
  refine SW.loopTo (α := Nat) (fun k => ⟨sl [(3, .ptr (.s 3 0) 0), (4, .ptr (.s 4 0) 0), (5, vS p), (6, vI ((64 * k : Nat) : Int))], hl [(.s 3 0, .box ((dgS p k).map vU)), (.s 4 0, .box (K.map vU))]⟩) (fun k => nb - k) 0 (fun k => k ≤ nb) ?_ (by simp) ?_
  · (refine Xto _ _ ?_ ?_ <;> simp only [go_sem, optI, Option.getD_some, Option.getD_none, Int.reduceToNat, reduceIte, Nat.reduceEqDiff, Nat.reduceAdd, Nat.reduceMul, Nat.reduceSub, Nat.reduceLT, Nat.reduceLeDiff, reduceCtorEq, Option.some.injEq, or_true, true_or] <;> (repeat' with_reducible apply And.intro) <;> (try rfl))
    all_goals first | (with_reducible exact leU _) | (with_reducible exact hF0 _) | skip
    all_goals trace_state
  · intro k h2
    clear hs hks hp hF0 hD0
    by_cases hk : k < nb
    · have e1 : decide (((64 * k : Nat) : Int) < ((64 * nb : Nat) : Int)) = true := by simp; omega
      have hw : IntKind.i64.wrap (((64 * k : Nat) : Int) + 64) = ((64 * (k + 1) : Nat) : Int) := by rw [wrap64 (by omega) (by omega)]; omega
      have o1 := (dgS_ok p k).1
      have o2 := (dgS_ok p (k + 1)).1
      have hn : dgS p (k + 1) = blockS' (blk64 p k) (dgS p k) := rfl
      obtain ⟨c0, c1, c2, c3, c4, c5, c6, c7, hc⟩ := eight o1
      obtain ⟨d0, d1, d2, d3, d4, d5, d6, d7, hd⟩ := eight o2
      have hb := hblk c0 c1 c2 c3 c4 c5 c6 c7 (blk64 p k) (blk64_len (by omega))
      rw [← hc, ← hn, hd] at hb
      simp only [List.map_cons, List.map_nil] at hb
      have hx : List.take (64 * (k + 1) - 64 * k) (List.drop (64 * k) p) = blk64 p k := by unfold blk64; congr 1; omega
      rw [hc]
      clear o1 o2 hn hc hblk
      have hon := onL_vL
      repeat' first | refine SW.step good fun K hK => ?_ | refine X2 good fun K hK => ?_ | refine X3 good fun K hK => ?_ | refine SW.seqK fun J hJ => ?_ | refine SW.last good fun K hK => ?_ | (refine hK _ ?_; clear hK K) | (refine hJ _ _ (Wk.refl _) ?_; clear hJ J) | clear hK K | clear hJ J | refine SW.skip ?_ | refine SW.ret ?_ | refine SW.retT ?_ | refine SW.retB ?_ | refine SW.exit ?_ | refine SW.exitT ?_ | refine SW.exitB ?_ | refine XN ?_ | refine SW.block ?_ | refine SW.normB ?_ | refine SW.normT ?_ | refine XT ?_ | refine XF ?_ | refine XC (fun h => ?_) (fun h => ?_) | refine X0 ?_ | refine Xv ?_ | refine X1 (hb) ?_ | simp only [go_sem, optI, Option.getD_some, Option.getD_none, Int.reduceToNat, reduceIte, Nat.reduceEqDiff, Nat.reduceAdd, Nat.reduceMul, Nat.reduceSub, Nat.reduceLT, Nat.reduceLeDiff, reduceCtorEq, *] | refine Xs _ (fun h => ?_) (fun h => ?_) | with_reducible refine And.intro ?_ ?_
      all_goals first | omega | (simp; done) | (simp; omega) | skip
      all_goals refine ⟨k + 1, by omega, by omega, ?_⟩
      all_goals (refine Xto _ _ ?_ ?_ <;> simp only [go_sem, optI, Option.getD_some, Option.getD_none, Int.reduceToNat, reduceIte, Nat.reduceEqDiff, Nat.reduceAdd, Nat.reduceMul, Nat.reduceSub, Nat.reduceLT, Nat.reduceLeDiff, reduceCtorEq, Option.some.injEq, or_true, true_or] <;> (repeat' with_reducible apply And.intro) <;> (try rfl))
      all_goals first | (with_reducible exact leU _) | (rw [hd]; exact leU [_, _, _, _, _, _, _, _]) | skip
      all_goals trace_state
    · have hk : k = nb := by omega
      subst hk
      have e1 : decide (((64 * k : Nat) : Int) < ((64 * k : Nat) : Int)) = false := by simp
      have hD := (dgS_ok p k).1
      clear hblk
      generalize dgS p k = D at *
      have hDl : (D.map vU).length = 8 := by rw [List.length_map]; exact hD
      repeat' first | refine SW.step good fun K hK => ?_ | refine X2 good fun K hK => ?_ | refine X3 good fun K hK => ?_ | refine SW.seqK fun J hJ => ?_ | refine SW.last good fun K hK => ?_ | (refine hK _ ?_; clear hK K) | (refine hJ _ _ (Wk.refl _) ?_; clear hJ J) | clear hK K | clear hJ J | refine SW.skip ?_ | refine SW.ret ?_ | refine SW.retT ?_ | refine SW.retB ?_ | refine SW.exit ?_ | refine SW.exitT ?_ | refine SW.exitB ?_ | refine XN ?_ | refine SW.block ?_ | refine SW.normB ?_ | refine SW.normT ?_ | refine XT ?_ | refine XF ?_ | refine XC (fun h => ?_) (fun h => ?_) | simp only [go_sem, optI, Option.getD_some, Option.getD_none, Int.reduceToNat, reduceIte, Nat.reduceEqDiff, Nat.reduceAdd, Nat.reduceMul, Nat.reduceSub, Nat.reduceLT, Nat.reduceLeDiff, reduceCtorEq, *] | refine Xs _ (fun h => ?_) (fun h => ?_) | with_reducible refine And.intro ?_ ?_
      all_goals first | omega | (show List.all [Value.int .u8 0] zok = true; rfl) | skip
      refine SW.loopTo (α := Nat) (fun k => ⟨sl [(3, .ptr (.s 3 0) 0), (7, .own (.s 27 0)), (8, vI k)], hl [(.s 3 0, .box (D.map vU)), (.s 27 0, .row false 5 1 (ob D k))]⟩) (fun k => 8 - k) 0 (fun k => k ≤ 8) ?_ (by simp) ?_
      · (refine Xto _ _ ?_ ?_ <;> simp only [go_sem, optI, Option.getD_some, Option.getD_none, Int.reduceToNat, reduceIte, Nat.reduceEqDiff, Nat.reduceAdd, Nat.reduceMul, Nat.reduceSub, Nat.reduceLT, Nat.reduceLeDiff, reduceCtorEq, Option.some.injEq, or_true, true_or] <;> (repeat' with_reducible apply And.intro) <;> (try rfl))
        all_goals first | (with_reducible exact leU _) | rfl | skip
        all_goals trace_state
      · intro j j2
        clear e1 h2
        by_cases hj : j < 8
        · have e1 : decide ((j : Int) < 8) = true := by simp; omega
          have hw : IntKind.i64.wrap ((j : Int) + 1) = ((j + 1 : Nat) : Int) := wrap64 (by omega) (by omega)
          have m0 : IntKind.i64.wrap (4 * (j : Int)) = ((4 * j : Nat) : Int) := by rw [wrap64 (by omega) (by omega)]; simp
          have m1 : IntKind.i64.wrap (((4 * j : Nat) : Int) + 1) = ((4 * j + 1 : Nat) : Int) := wrap64 (by omega) (by omega)
          have m2 : IntKind.i64.wrap (((4 * j : Nat) : Int) + 2) = ((4 * j + 2 : Nat) : Int) := wrap64 (by omega) (by omega)
          have m3 : IntKind.i64.wrap (((4 * j : Nat) : Int) + 3) = ((4 * j + 3 : Nat) : Int) := wrap64 (by omega) (by omega)
          have o1 : ∀ n : Nat, n * 1 = n := Nat.mul_one
          have e := map_get (l := D) (j := j) (by omega)
          have ol := ob_len hD j2
          have hset := ob_next hD hj _ rfl
          have hw8 := wrap8m
          have hon2 := onL_vK
          have p0 := fun i => (ob_ones D j).drop i
          have p1 := fun i a (i1 : Nat) => ((ob_ones D j).set i a).drop i1
          have p2 := fun i a i1 a1 (i2 : Nat) => (((ob_ones D j).set i a).set i1 a1).drop i2
          have p3 := fun i a i1 a1 i2 a2 (i3 : Nat) => ((((ob_ones D j).set i a).set i1 a1).set i2 a2).drop i3
          have hls : ∀ (X : List (List C)) i a, (X.set i a).length = X.length := fun _ _ _ => List.length_set
          generalize D.getD j 0 = n at *
          obtain ⟨s1, s2, s3⟩ := shr_i .u32 (.inr rfl) n
          clear hnb hp2
          repeat' first | refine SW.step good fun K hK => ?_ | refine X2 good fun K hK => ?_ | refine X3 good fun K hK => ?_ | refine SW.seqK fun J hJ => ?_ | refine SW.last good fun K hK => ?_ | (refine hK _ ?_; clear hK K) | (refine hJ _ _ (Wk.refl _) ?_; clear hJ J) | clear hK K | clear hJ J | refine SW.skip ?_ | refine SW.ret ?_ | refine SW.retT ?_ | refine SW.retB ?_ | refine SW.exit ?_ | refine SW.exitT ?_ | refine SW.exitB ?_ | refine XN ?_ | refine SW.block ?_ | refine SW.normB ?_ | refine SW.normT ?_ | refine XT ?_ | refine XF ?_ | refine XC (fun h => ?_) (fun h => ?_) | simp only [go_sem, optI, Option.getD_some, Option.getD_none, Int.reduceToNat, reduceIte, Nat.reduceEqDiff, Nat.reduceAdd, Nat.reduceMul, Nat.reduceSub, Nat.reduceLT, Nat.reduceLeDiff, reduceCtorEq, *] | refine Xs _ (fun h => ?_) (fun h => ?_) | with_reducible refine And.intro ?_ ?_
          clear s1 s2 s3 hw8 p0 p1 p2 p3
          all_goals first | omega | (simp; done) | (simp; omega) | skip
          all_goals refine ⟨j + 1, by omega, by omega, ?_⟩
          all_goals (refine Xto _ _ ?_ ?_ <;> simp only [go_sem, optI, Option.getD_some, Option.getD_none, Int.reduceToNat, reduceIte, Nat.reduceEqDiff, Nat.reduceAdd, Nat.reduceMul, Nat.reduceSub, Nat.reduceLT, Nat.reduceLeDiff, reduceCtorEq, Option.some.injEq, or_true, true_or] <;> (repeat' with_reducible apply And.intro) <;> (try rfl))
          all_goals first | (with_reducible exact leU _) | (rw [onL_vK, onL_vK, onL_vK, onL_vK]; exact leU _) | exact hset | skip
          all_goals trace_state
        · have hj : j = 8 := by omega
          subst hj
          have e1 : decide (((8 : Nat) : Int) < 8) = false := rfl
          have hob := ob_all hD
          repeat' first | refine SW.step good fun K hK => ?_ | refine X2 good fun K hK => ?_ | refine X3 good fun K hK => ?_ | refine SW.seqK fun J hJ => ?_ | refine SW.last good fun K hK => ?_ | (refine hK _ ?_; clear hK K) | (refine hJ _ _ (Wk.refl _) ?_; clear hJ J) | clear hK K | clear hJ J | refine SW.skip ?_ | refine SW.ret ?_ | refine SW.retT ?_ | refine SW.retB ?_ | refine SW.exit ?_ | refine SW.exitT ?_ | refine SW.exitB ?_ | refine XN ?_ | refine SW.block ?_ | refine SW.normB ?_ | refine SW.normT ?_ | refine XT ?_ | refine XF ?_ | refine XC (fun h => ?_) (fun h => ?_) | simp only [go_sem, optI, Option.getD_some, Option.getD_none, Int.reduceToNat, reduceIte, Nat.reduceEqDiff, Nat.reduceAdd, Nat.reduceMul, Nat.reduceSub, Nat.reduceLT, Nat.reduceLeDiff, reduceCtorEq, *] | refine Xs _ (fun h => ?_) (fun h => ?_) | with_reducible refine And.intro ?_ ?_
          all_goals first | (refine Xrs ?_; rfl) | skip
          all_goals trace_state
end Go.Proofs.YtbgeagbgfioaaaaGreat.AB
