/- The state behind a block: the reference's function. -/
import Derived.Test.YtoemclhjcbcjaaaGreatAbHaSha
namespace Go.Proofs.YtoemclhjcbcjaaaGreat.AB
open Go
set_option maxRecDepth 100000
set_option linter.unusedSimpArgs false
set_option linter.unusedVariables false
/-- an array of words, the first of which are there -/
def arrI (b : List UInt8) (k : Nat) : List Int := schW b k ++ List.replicate (64 - k) 0
theorem arrI_len {b : List UInt8} {k : Nat} (h : k ≤ 64) : ((arrI b k).map vU).length = 64 := by simp [arrI, schW_len]; omega
theorem arrI_zero (b : List UInt8) : arrI b 0 = List.replicate 64 0 := rfl
theorem put_at {l : List Int} {k : Nat} {x : Int} : List.take (k * 1) (l.map vU) ++ [vU x] ++ List.drop (k * 1 + 1) (l.map vU) = (l.take k ++ [x] ++ l.drop (k + 1)).map vU := by simp
theorem arrI_set {b : List UInt8} {k : Nat} (h : k < 64) {x : Int} (hs : schW b (k + 1) = schW b k ++ [x]) : List.take (k * 1) ((arrI b k).map vU) ++ [vU x] ++ List.drop (k * 1 + 1) ((arrI b k).map vU) = (arrI b (k + 1)).map vU := by
  rw [put_at]
  congr 1
  unfold arrI
  rw [hs, List.take_append_of_le_length (by rw [schW_len]; omega), List.take_of_length_le (by rw [schW_len]; omega), List.drop_append, List.drop_eq_nil_of_le (by rw [schW_len]; omega), schW_len, List.nil_append, List.drop_replicate, show 64 - k - (k + 1 - k) = 64 - (k + 1) by omega]
theorem arrI_get {b : List UInt8} {k j : Nat} (h : j < k) : (List.drop j ((arrI b k).map vU)).getD 0 .dead = vU ((schW b k).getD j 0) := by
  unfold arrI
  rw [List.getD_eq_getElem?_getD, List.getElem?_drop, Nat.add_zero, List.getElem?_map, List.getElem?_append_left (by rw [schW_len]; omega), List.getD_eq_getElem?_getD, List.getElem?_eq_getElem (by rw [schW_len]; omega)]
  rfl
theorem map_get {l : List Int} {j : Nat} (h : j < l.length) : (List.drop j (l.map vU)).getD 0 .dead = vU (l.getD j 0) := by
  rw [List.getD_eq_getElem?_getD, List.getElem?_drop, Nat.add_zero, List.getElem?_map, List.getD_eq_getElem?_getD, List.getElem?_eq_getElem h]
  rfl
def bs1 (e : Int) : Int := xorK .u32 (xorK .u32 (tn e 6) (tn e 11)) (tn e 25)
def bs0 (a : Int) : Int := xorK .u32 (xorK .u32 (tn a 2) (tn a 13)) (tn a 22)
def chU (e f g : Int) : Int := xorK .u32 (andK .u32 e f) (andK .u32 (xorK .u32 e 4294967295) g)
def mjU (a b c : Int) : Int := xorK .u32 (xorK .u32 (andK .u32 a b) (andK .u32 a c)) (andK .u32 b c)
/-- one round -/
def rnd (s : List Int) (k w : Int) : List Int := match s with
  | [a, b, c, d, e, f, g, h] => [ad (ad (ad (ad (ad h (bs1 e)) (chU e f g)) k) w) (ad (bs0 a) (mjU a b c)), a, b, c, ad d (ad (ad (ad (ad h (bs1 e)) (chU e f g)) k) w), e, f, g]
  | _ => s
/-- the first rounds -/
def rs (b : List UInt8) (s : List Int) : Nat → List Int
  | 0 => s
  | n + 1 => rnd (rs b s n) (kW.getD n 0) ((schW b 64).getD n 0)
theorem eight {s : List Int} (h : s.length = 8) : ∃ a b c d e f g i, s = [a, b, c, d, e, f, g, i] := by
  match s, h with
  | [a, b, c, d, e, f, g, i], _ => exact ⟨a, b, c, d, e, f, g, i, rfl⟩
theorem rnd_len {s : List Int} (h : s.length = 8) (k w : Int) : (rnd s k w).length = 8 := by
  obtain ⟨a, b, c, d, e, f, g, i, rfl⟩ := eight h; rfl
theorem rs_len {s : List Int} (h : s.length = 8) (b : List UInt8) (n : Nat) : (rs b s n).length = 8 := by
  induction n with
  | zero => exact h
  | succ n ih => exact rnd_len ih _ _
/-- the state behind a block -/
def blockS' (b : List UInt8) (s : List Int) : List Int := List.zipWith ad s (rs b s 64)
/-- two lists, added so far -/
def hx (A C : List Int) (k : Nat) : List Int := List.zipWith ad (A.take k) (C.take k) ++ A.drop k
theorem hx_len {A C : List Int} {k : Nat} (ha : A.length = 8) (hc : C.length = 8) (h : k ≤ 8) : (hx A C k).length = 8 := by
  unfold hx
  simp only [List.length_append, List.length_zipWith, List.length_take, List.length_drop, ha, hc]; omega
theorem hx_z {A C : List Int} {k : Nat} (ha : A.length = 8) (hc : C.length = 8) (h : k ≤ 8) : (List.zipWith ad (A.take k) (C.take k)).length = k := by
  simp only [List.length_zipWith, List.length_take, ha, hc]; omega
theorem hx_get {A C : List Int} {k : Nat} (ha : A.length = 8) (hc : C.length = 8) (h : k < 8) : (hx A C k).getD k 0 = A.getD k 0 := by
  unfold hx
  rw [List.getD_eq_getElem?_getD, List.getElem?_append_right (by rw [hx_z ha hc (by omega)]; omega), hx_z ha hc (by omega), Nat.sub_self, List.getElem?_drop, Nat.add_zero, List.getD_eq_getElem?_getD]
theorem hx_set {A C : List Int} {k : Nat} (ha : A.length = 8) (hc : C.length = 8) (h : k < 8) : (hx A C k).take k ++ [ad (A.getD k 0) (C.getD k 0)] ++ (hx A C k).drop (k + 1) = hx A C (k + 1) := by
  unfold hx
  have hz := hx_z ha hc (show k ≤ 8 by omega)
  rw [List.take_append_of_le_length (by omega), List.take_of_length_le (by omega), List.drop_append, List.drop_eq_nil_of_le (by omega), hz, List.nil_append, List.drop_drop, show k + (k + 1 - k) = k + 1 by omega,
    List.take_add_one, List.take_add_one, List.getElem?_eq_getElem (by omega), List.getElem?_eq_getElem (by omega), List.getD_eq_getElem?_getD, List.getD_eq_getElem?_getD, List.getElem?_eq_getElem (by omega), List.getElem?_eq_getElem (by omega)]
  simp only [Option.toList_some, Option.getD_some]
  rw [List.zipWith_append (by simp [ha, hc])]
  rfl
theorem hx_all {A C : List Int} (ha : A.length = 8) (hc : C.length = 8) : hx A C 8 = List.zipWith ad A C := by
  unfold hx
  rw [List.take_of_length_le (by omega), List.take_of_length_le (by omega), List.drop_eq_nil_of_le (by omega), List.append_nil]
theorem t7 (x : Int) : AC Tryz.prog 79 [vU x, .c false (.v (.int .u64 7))] (vU (tn x 7)) [] := ac_l03Turn x 7 (by omega) (by omega)
theorem t18 (x : Int) : AC Tryz.prog 79 [vU x, .c false (.v (.int .u64 18))] (vU (tn x 18)) [] := ac_l03Turn x 18 (by omega) (by omega)
theorem t17 (x : Int) : AC Tryz.prog 79 [vU x, .c false (.v (.int .u64 17))] (vU (tn x 17)) [] := ac_l03Turn x 17 (by omega) (by omega)
theorem t19 (x : Int) : AC Tryz.prog 79 [vU x, .c false (.v (.int .u64 19))] (vU (tn x 19)) [] := ac_l03Turn x 19 (by omega) (by omega)
theorem t6 (x : Int) : AC Tryz.prog 79 [vU x, .c false (.v (.int .u64 6))] (vU (tn x 6)) [] := ac_l03Turn x 6 (by omega) (by omega)
theorem t11 (x : Int) : AC Tryz.prog 79 [vU x, .c false (.v (.int .u64 11))] (vU (tn x 11)) [] := ac_l03Turn x 11 (by omega) (by omega)
theorem t25 (x : Int) : AC Tryz.prog 79 [vU x, .c false (.v (.int .u64 25))] (vU (tn x 25)) [] := ac_l03Turn x 25 (by omega) (by omega)
theorem t2 (x : Int) : AC Tryz.prog 79 [vU x, .c false (.v (.int .u64 2))] (vU (tn x 2)) [] := ac_l03Turn x 2 (by omega) (by omega)
theorem t13 (x : Int) : AC Tryz.prog 79 [vU x, .c false (.v (.int .u64 13))] (vU (tn x 13)) [] := ac_l03Turn x 13 (by omega) (by omega)
theorem t22 (x : Int) : AC Tryz.prog 79 [vU x, .c false (.v (.int .u64 22))] (vU (tn x 22)) [] := ac_l03Turn x 22 (by omega) (by omega)
set_option maxHeartbeats 2000000 in
theorem ac_Block' (a0 a1 a2 a3 a4 a5 a6 a7 : Int) (b : List UInt8) (hb : b.length = 64) : AC Tryz.prog 65 [.agg [vU a0, vU a1, vU a2, vU a3, vU a4, vU a5, vU a6, vU a7], vS b, .agg (kW.map vU)] (.agg ((blockS' b [a0, a1, a2, a3, a4, a5, a6, a7]).map vU)) [] := by
  have hwb := wrap32b b
  have hkl : (kW.map vU).length = 64 := rfl
  have hkg : ∀ j, j < 64 → (List.drop j (kW.map vU)).getD 0 .dead = vU (kW.getD j 0) := fun j hj => map_get (by rw [List.length_map] at hkl; omega)
  have hFl : ∀ k, k ≤ 64 → ((arrI b k).map vU).length = 64 := fun k h => arrI_len h
  have hFs1 : ∀ k, k < 16 → List.take (k * 1) ((arrI b k).map vU) ++ [vU (word b k)] ++ List.drop (k * 1 + 1) ((arrI b k).map vU) = (arrI b (k + 1)).map vU := fun k h => arrI_set (by omega) (by rw [schW, if_pos h])
  have hFs2 : ∀ k, 16 ≤ k → k < 64 → List.take (k * 1) ((arrI b k).map vU) ++ [vU (nextW (schW b k) k)] ++ List.drop (k * 1 + 1) ((arrI b k).map vU) = (arrI b (k + 1)).map vU := fun k h h' => arrI_set h' (by rw [schW, if_neg (by omega)])
  have hFg : ∀ k j, j < k → (List.drop j ((arrI b k).map vU)).getD 0 .dead = vU ((schW b k).getD j 0) := fun k j h => arrI_get h
  have hF0 : ∀ W : Wn, W.leL ((arrI b 0).map vU) [vU 0, vU 0, vU 0, vU 0, vU 0, vU 0, vU 0, vU 0, vU 0, vU 0, vU 0, vU 0, vU 0, vU 0, vU 0, vU 0, vU 0, vU 0, vU 0, vU 0, vU 0, vU 0, vU 0, vU 0, vU 0, vU 0, vU 0, vU 0, vU 0, vU 0, vU 0, vU 0, vU 0, vU 0, vU 0, vU 0, vU 0, vU 0, vU 0, vU 0, vU 0, vU 0, vU 0, vU 0, vU 0, vU 0, vU 0, vU 0, vU 0, vU 0, vU 0, vU 0, vU 0, vU 0, vU 0, vU 0, vU 0, vU 0, vU 0, vU 0, vU 0, vU 0, vU 0, vU 0] := fun W => leU (List.replicate 64 0)
  unfold blockS'
  generalize hS : rs b [a0, a1, a2, a3, a4, a5, a6, a7] = R
  have hR0 : R 0 = [a0, a1, a2, a3, a4, a5, a6, a7] := by rw [← hS]; rfl
  have hRs : ∀ n m, m = n + 1 → R m = rnd (R n) (kW.getD n 0) ((schW b 64).getD n 0) := fun n m hm => by subst hm; rw [← hS]; rfl
  have hRl : ∀ n, (R n).length = 8 := fun n => by rw [← hS]; exact rs_len rfl b n
  clear hS
  generalize arrI b = F at *
  generalize schW b = sW at *
  generalize kW = K at *
  refine XA good (fn := Tryz.f65) rfl ?_
  simp only [entry, List.getD_cons_zero, List.getD_cons_succ]
  repeat' first | refine SW.step good fun K hK => ?_ | refine X2 good fun K hK => ?_ | refine X3 good fun K hK => ?_ | refine SW.seqK fun J hJ => ?_ | refine SW.last good fun K hK => ?_ | (refine hK _ ?_; clear hK K) | (refine hJ _ _ (Wk.refl _) ?_; clear hJ J) | clear hK K | clear hJ J | refine SW.skip ?_ | refine SW.ret ?_ | refine SW.retT ?_ | refine SW.retB ?_ | refine SW.exit ?_ | refine SW.exitT ?_ | refine SW.exitB ?_ | refine XN ?_ | refine SW.block ?_ | refine SW.normB ?_ | refine SW.normT ?_ | refine XT ?_ | refine XF ?_ | refine XC (fun h => ?_) (fun h => ?_) | simp only [go_sem, optI, Option.getD_some, Option.getD_none, Int.reduceToNat, reduceIte, Nat.reduceEqDiff, Nat.reduceAdd, Nat.reduceMul, Nat.reduceSub, Nat.reduceLT, Nat.reduceLeDiff, reduceCtorEq, *] | refine Xs _ (fun h => ?_) (fun h => ?_) | with_reducible refine And.intro ?_ ?_
  refine SW.loopTo (α := Nat) (fun k => ⟨sl [(1, vS b), (3, .ptr (.s 3 0) 0), (5, .ptr (.s 5 0) 0), (6, .ptr (.s 6 0) 0), (7, .ptr (.s 7 0) 0), (8, vI k)], hl [(.s 3 0, .box [vU a0, vU a1, vU a2, vU a3, vU a4, vU a5, vU a6, vU a7]), (.s 5 0, .box (K.map vU)), (.s 6 0, .box [vU 0, vU 0, vU 0, vU 0, vU 0, vU 0, vU 0, vU 0]), (.s 7 0, .box ((F k).map vU))]⟩) (fun k => 16 - k) 0 (fun k => k ≤ 16) ?_ (by simp) ?_
  · (refine Xto _ _ ?_ ?_ <;> simp only [go_sem, optI, Option.getD_some, Option.getD_none, Int.reduceToNat, reduceIte, Nat.reduceEqDiff, Nat.reduceAdd, Nat.reduceMul, Nat.reduceSub, Nat.reduceLT, Nat.reduceLeDiff, reduceCtorEq, Option.some.injEq, or_true, true_or] <;> (repeat' with_reducible apply And.intro) <;> (try rfl))
    all_goals first | (with_reducible exact leU _) | (with_reducible exact hF0 _) | skip
  · intro k h2
    have hal := hFl k (by omega)
    by_cases hk : k < 16
    · have e1 : decide ((k : Int) < 16) = true := by simp; omega
      have hw : IntKind.i64.wrap ((k : Int) + 1) = ((k + 1 : Nat) : Int) := wrap64 (by omega) (by omega)
      have m0 : IntKind.i64.wrap (4 * (k : Int)) = ((4 * k : Nat) : Int) := by rw [wrap64 (by omega) (by omega)]; simp
      have m1 : IntKind.i64.wrap (((4 * k : Nat) : Int) + 1) = ((4 * k + 1 : Nat) : Int) := wrap64 (by omega) (by omega)
      have m2 : IntKind.i64.wrap (((4 * k : Nat) : Int) + 2) = ((4 * k + 2 : Nat) : Int) := wrap64 (by omega) (by omega)
      have m3 : IntKind.i64.wrap (((4 * k : Nat) : Int) + 3) = ((4 * k + 3 : Nat) : Int) := wrap64 (by omega) (by omega)
      have hset := hFs1 k hk
      unfold word at hset
      clear hR0 hRs hRl hkg hkl hFs1 hFs2 hFg hF0 hFl
      repeat' first | refine SW.step good fun K hK => ?_ | refine X2 good fun K hK => ?_ | refine X3 good fun K hK => ?_ | refine SW.seqK fun J hJ => ?_ | refine SW.last good fun K hK => ?_ | (refine hK _ ?_; clear hK K) | (refine hJ _ _ (Wk.refl _) ?_; clear hJ J) | clear hK K | clear hJ J | refine SW.skip ?_ | refine SW.ret ?_ | refine SW.retT ?_ | refine SW.retB ?_ | refine SW.exit ?_ | refine SW.exitT ?_ | refine SW.exitB ?_ | refine XN ?_ | refine SW.block ?_ | refine SW.normB ?_ | refine SW.normT ?_ | refine XT ?_ | refine XF ?_ | refine XC (fun h => ?_) (fun h => ?_) | simp only [go_sem, optI, Option.getD_some, Option.getD_none, Int.reduceToNat, reduceIte, Nat.reduceEqDiff, Nat.reduceAdd, Nat.reduceMul, Nat.reduceSub, Nat.reduceLT, Nat.reduceLeDiff, reduceCtorEq, *] | refine Xs _ (fun h => ?_) (fun h => ?_) | with_reducible refine And.intro ?_ ?_
      all_goals first | omega | (simp only [sb_mk]; omega) | (intro r hr; simp at hr; subst hr; rfl) | (simp [bytesC]; omega) | (simp; done) | omega | rfl | skip
      all_goals refine ⟨k + 1, by omega, by omega, ?_⟩
      all_goals (refine Xto _ _ ?_ ?_ <;> simp only [go_sem, optI, Option.getD_some, Option.getD_none, Int.reduceToNat, reduceIte, Nat.reduceEqDiff, Nat.reduceAdd, Nat.reduceMul, Nat.reduceSub, Nat.reduceLT, Nat.reduceLeDiff, reduceCtorEq, Option.some.injEq, or_true, true_or] <;> (repeat' with_reducible apply And.intro) <;> (try rfl))
      all_goals first | (with_reducible exact leU _) | (rw [hset]; with_reducible exact leU _) | skip
    · have hk : k = 16 := by omega
      subst hk
      have e1 : decide (((16 : Nat) : Int) < 16) = false := rfl
      repeat' first | refine SW.step good fun K hK => ?_ | refine X2 good fun K hK => ?_ | refine X3 good fun K hK => ?_ | refine SW.seqK fun J hJ => ?_ | refine SW.last good fun K hK => ?_ | (refine hK _ ?_; clear hK K) | (refine hJ _ _ (Wk.refl _) ?_; clear hJ J) | clear hK K | clear hJ J | refine SW.skip ?_ | refine SW.ret ?_ | refine SW.retT ?_ | refine SW.retB ?_ | refine SW.exit ?_ | refine SW.exitT ?_ | refine SW.exitB ?_ | refine XN ?_ | refine SW.block ?_ | refine SW.normB ?_ | refine SW.normT ?_ | refine XT ?_ | refine XF ?_ | refine XC (fun h => ?_) (fun h => ?_) | simp only [go_sem, optI, Option.getD_some, Option.getD_none, Int.reduceToNat, reduceIte, Nat.reduceEqDiff, Nat.reduceAdd, Nat.reduceMul, Nat.reduceSub, Nat.reduceLT, Nat.reduceLeDiff, reduceCtorEq, *] | refine Xs _ (fun h => ?_) (fun h => ?_) | with_reducible refine And.intro ?_ ?_
      refine SW.loopTo (α := Nat) (fun k => ⟨sl [(3, .ptr (.s 3 0) 0), (5, .ptr (.s 5 0) 0), (6, .ptr (.s 6 0) 0), (7, .ptr (.s 7 0) 0), (9, vI k)], hl [(.s 3 0, .box [vU a0, vU a1, vU a2, vU a3, vU a4, vU a5, vU a6, vU a7]), (.s 5 0, .box (K.map vU)), (.s 6 0, .box [vU 0, vU 0, vU 0, vU 0, vU 0, vU 0, vU 0, vU 0]), (.s 7 0, .box ((F k).map vU))]⟩) (fun k => 64 - k) 16 (fun k => 16 ≤ k ∧ k ≤ 64) ?_ (by simp) ?_
      · (refine Xto _ _ ?_ ?_ <;> simp only [go_sem, optI, Option.getD_some, Option.getD_none, Int.reduceToNat, reduceIte, Nat.reduceEqDiff, Nat.reduceAdd, Nat.reduceMul, Nat.reduceSub, Nat.reduceLT, Nat.reduceLeDiff, reduceCtorEq, Option.some.injEq, or_true, true_or] <;> (repeat' with_reducible apply And.intro) <;> (try rfl))
        all_goals first | (with_reducible exact leU _) | skip
      · rintro k ⟨h3, h4⟩
        clear e1 h2
        have hal := hFl k (by omega)
        by_cases hk : k < 64
        · have e1 : decide ((k : Int) < 64) = true := by simp; omega
          have hw : IntKind.i64.wrap ((k : Int) + 1) = ((k + 1 : Nat) : Int) := wrap64 (by omega) (by omega)
          have m1 : IntKind.i64.wrap ((k : Int) - 15) = ((k - 15 : Nat) : Int) := by rw [wrap64 (by omega) (by omega)]; omega
          have m2 : IntKind.i64.wrap ((k : Int) - 2) = ((k - 2 : Nat) : Int) := by rw [wrap64 (by omega) (by omega)]; omega
          have m3 : IntKind.i64.wrap ((k : Int) - 16) = ((k - 16 : Nat) : Int) := by rw [wrap64 (by omega) (by omega)]; omega
          have m4 : IntKind.i64.wrap ((k : Int) - 7) = ((k - 7 : Nat) : Int) := by rw [wrap64 (by omega) (by omega)]; omega
          have o1 : ∀ n : Nat, n * 1 = n := Nat.mul_one
          have g1 := hFg k (k - 15) (by omega)
          have g2 := hFg k (k - 2) (by omega)
          have g3 := hFg k (k - 16) (by omega)
          have g4 := hFg k (k - 7) (by omega)
          have hset := hFs2 k h3 hk
          rw [Nat.mul_one] at hset
          unfold nextW ad sg0 sg1 at hset
          clear hR0 hRs hRl hkg hkl hFs1 hFs2 hFg hF0 hFl
          repeat' first | refine SW.step good fun K hK => ?_ | refine X2 good fun K hK => ?_ | refine X3 good fun K hK => ?_ | refine SW.seqK fun J hJ => ?_ | refine SW.last good fun K hK => ?_ | (refine hK _ ?_; clear hK K) | (refine hJ _ _ (Wk.refl _) ?_; clear hJ J) | clear hK K | clear hJ J | refine SW.skip ?_ | refine SW.ret ?_ | refine SW.retT ?_ | refine SW.retB ?_ | refine SW.exit ?_ | refine SW.exitT ?_ | refine SW.exitB ?_ | refine XN ?_ | refine SW.block ?_ | refine SW.normB ?_ | refine SW.normT ?_ | refine XT ?_ | refine XF ?_ | refine XC (fun h => ?_) (fun h => ?_) | refine X0 ?_ | refine Xv ?_ | refine X1 (t7 _) ?_ | refine X1 (t18 _) ?_ | refine X1 (t17 _) ?_ | refine X1 (t19 _) ?_ | simp only [go_sem, optI, Option.getD_some, Option.getD_none, Int.reduceToNat, reduceIte, Nat.reduceEqDiff, Nat.reduceAdd, Nat.reduceMul, Nat.reduceSub, Nat.reduceLT, Nat.reduceLeDiff, reduceCtorEq, *] | refine Xs _ (fun h => ?_) (fun h => ?_) | with_reducible refine And.intro ?_ ?_
          clear g1 g2 g3 g4 m1 m2 m3 m4 hset
          all_goals first | omega | (simp only [List.length_drop]; omega) | (intro r hr; simp at hr; subst hr; rfl) | (simp [bytesC]; omega) | (simp; done) | omega | rfl | skip
          all_goals refine ⟨k + 1, ⟨by omega, by omega⟩, by omega, ?_⟩
          all_goals (refine Xto _ _ ?_ ?_ <;> simp only [go_sem, optI, Option.getD_some, Option.getD_none, Int.reduceToNat, reduceIte, Nat.reduceEqDiff, Nat.reduceAdd, Nat.reduceMul, Nat.reduceSub, Nat.reduceLT, Nat.reduceLeDiff, reduceCtorEq, Option.some.injEq, or_true, true_or] <;> (repeat' with_reducible apply And.intro) <;> (try rfl))
          all_goals first | (with_reducible exact leU _) | (rw [hset]; with_reducible exact leU _) | skip
        · have hk : k = 64 := by omega
          subst hk
          have e1 : decide (((64 : Nat) : Int) < 64) = false := rfl
          clear hFs1 hFs2 hF0
          repeat' first | refine SW.step good fun K hK => ?_ | refine X2 good fun K hK => ?_ | refine X3 good fun K hK => ?_ | refine SW.seqK fun J hJ => ?_ | refine SW.last good fun K hK => ?_ | (refine hK _ ?_; clear hK K) | (refine hJ _ _ (Wk.refl _) ?_; clear hJ J) | clear hK K | clear hJ J | refine SW.skip ?_ | refine SW.ret ?_ | refine SW.retT ?_ | refine SW.retB ?_ | refine SW.exit ?_ | refine SW.exitT ?_ | refine SW.exitB ?_ | refine XN ?_ | refine SW.block ?_ | refine SW.normB ?_ | refine SW.normT ?_ | refine XT ?_ | refine XF ?_ | refine XC (fun h => ?_) (fun h => ?_) | simp only [go_sem, optI, Option.getD_some, Option.getD_none, Int.reduceToNat, reduceIte, Nat.reduceEqDiff, Nat.reduceAdd, Nat.reduceMul, Nat.reduceSub, Nat.reduceLT, Nat.reduceLeDiff, reduceCtorEq, *] | refine Xs _ (fun h => ?_) (fun h => ?_) | with_reducible refine And.intro ?_ ?_
          refine SW.loopTo (α := Nat) (fun k => ⟨sl [(3, .ptr (.s 3 0) 0), (5, .ptr (.s 5 0) 0), (6, .ptr (.s 6 0) 0), (7, .ptr (.s 7 0) 0), (12, .ptr (.s 12 0) 0), (13, vI k)], hl [(.s 3 0, .box [vU a0, vU a1, vU a2, vU a3, vU a4, vU a5, vU a6, vU a7]), (.s 5 0, .box (K.map vU)), (.s 6 0, .box [vU 0, vU 0, vU 0, vU 0, vU 0, vU 0, vU 0, vU 0]), (.s 7 0, .box ((F 64).map vU)), (.s 12 0, .box ((R k).map vU))]⟩) (fun k => 64 - k) 0 (fun k => k ≤ 64) ?_ (by simp) ?_
          · (refine Xto _ _ ?_ ?_ <;> simp only [go_sem, optI, Option.getD_some, Option.getD_none, Int.reduceToNat, reduceIte, Nat.reduceEqDiff, Nat.reduceAdd, Nat.reduceMul, Nat.reduceSub, Nat.reduceLT, Nat.reduceLeDiff, reduceCtorEq, Option.some.injEq, or_true, true_or] <;> (repeat' with_reducible apply And.intro) <;> (try rfl))
            all_goals first | (with_reducible exact leU _) | (rw [hR0]; exact leU [a0, a1, a2, a3, a4, a5, a6, a7]) | skip
          · intro k h2
            clear e1 h3 h4 hR0
            by_cases hk : k < 64
            · have e1 : decide ((k : Int) < 64) = true := by simp; omega
              have hw : IntKind.i64.wrap ((k : Int) + 1) = ((k + 1 : Nat) : Int) := wrap64 (by omega) (by omega)
              have o1 : ∀ n : Nat, n * 1 = n := Nat.mul_one
              have q1 := hkg k hk
              have q2 := hFg 64 k hk
              have q3 := hFl 64 (by omega)
              have hset := hRs k (k + 1) rfl
              have h8 := hRl k
              clear hkg hFg hFl hRs hRl
              generalize hR' : R (k + 1) = R' at *
              generalize R k = r at *
              obtain ⟨c0, c1, c2, c3, c4, c5, c6, c7, rfl⟩ := eight h8
              unfold rnd at hset
              simp only [ad, bs0, bs1, chU, mjU] at hset
              clear h8
              repeat' first | refine SW.step good fun K hK => ?_ | refine X2 good fun K hK => ?_ | refine X3 good fun K hK => ?_ | refine SW.seqK fun J hJ => ?_ | refine SW.last good fun K hK => ?_ | (refine hK _ ?_; clear hK K) | (refine hJ _ _ (Wk.refl _) ?_; clear hJ J) | clear hK K | clear hJ J | refine SW.skip ?_ | refine SW.ret ?_ | refine SW.retT ?_ | refine SW.retB ?_ | refine SW.exit ?_ | refine SW.exitT ?_ | refine SW.exitB ?_ | refine XN ?_ | refine SW.block ?_ | refine SW.normB ?_ | refine SW.normT ?_ | refine XT ?_ | refine XF ?_ | refine XC (fun h => ?_) (fun h => ?_) | refine X0 ?_ | refine Xv ?_ | refine X1 (t6 _) ?_ | refine X1 (t11 _) ?_ | refine X1 (t25 _) ?_ | refine X1 (t2 _) ?_ | refine X1 (t13 _) ?_ | refine X1 (t22 _) ?_ | simp only [go_sem, optI, Option.getD_some, Option.getD_none, Int.reduceToNat, reduceIte, Nat.reduceEqDiff, Nat.reduceAdd, Nat.reduceMul, Nat.reduceSub, Nat.reduceLT, Nat.reduceLeDiff, reduceCtorEq, *] | refine Xs _ (fun h => ?_) (fun h => ?_) | with_reducible refine And.intro ?_ ?_
              clear q1 q2
              all_goals first | omega | (simp only [List.length_drop]; omega) | (simp; done) | skip
              all_goals refine ⟨k + 1, by omega, by omega, ?_⟩
              all_goals (refine Xto _ _ ?_ ?_ <;> simp only [go_sem, optI, Option.getD_some, Option.getD_none, Int.reduceToNat, reduceIte, Nat.reduceEqDiff, Nat.reduceAdd, Nat.reduceMul, Nat.reduceSub, Nat.reduceLT, Nat.reduceLeDiff, reduceCtorEq, Option.some.injEq, or_true, true_or] <;> (repeat' with_reducible apply And.intro) <;> (try rfl))
              all_goals first | (with_reducible exact leU _) | (rw [hR', hset]; simp only [List.map_cons, List.map_nil]; exact leU [_, _, _, _, _, _, _, _]) | skip
            · have hk : k = 64 := by omega
              subst hk
              have e1 : decide (((64 : Nat) : Int) < 64) = false := rfl
              clear hRs hkg hFg hFl hkl
              have h8 := hRl 64
              clear hRl
              generalize R 64 = r at *
              have fl : ∀ k, k ≤ 8 → ((hx [a0, a1, a2, a3, a4, a5, a6, a7] r k).map vU).length = 8 := fun k h => by rw [List.length_map]; exact hx_len rfl h8 h
              have fg : ∀ k, k < 8 → (List.drop k ((hx [a0, a1, a2, a3, a4, a5, a6, a7] r k).map vU)).getD 0 .dead = vU ([a0, a1, a2, a3, a4, a5, a6, a7].getD k 0) := fun k h => by rw [map_get (by rw [hx_len rfl h8 (by omega)]; omega), hx_get rfl h8 h]
              have fr : ∀ k, k < 8 → (List.drop k (r.map vU)).getD 0 .dead = vU (r.getD k 0) := fun k h => map_get (by omega)
              have fs : ∀ k, k < 8 → List.take k ((hx [a0, a1, a2, a3, a4, a5, a6, a7] r k).map vU) ++ [vU (ad ([a0, a1, a2, a3, a4, a5, a6, a7].getD k 0) (r.getD k 0))] ++ List.drop (k + 1) ((hx [a0, a1, a2, a3, a4, a5, a6, a7] r k).map vU) = (hx [a0, a1, a2, a3, a4, a5, a6, a7] r (k + 1)).map vU := fun k h => by
                have := put_at (l := hx [a0, a1, a2, a3, a4, a5, a6, a7] r k) (k := k) (x := ad ([a0, a1, a2, a3, a4, a5, a6, a7].getD k 0) (r.getD k 0))
                rw [Nat.mul_one] at this
                rw [this, hx_set rfl h8 h]
              have f0 : ∀ W : Wn, W.leL ((hx [a0, a1, a2, a3, a4, a5, a6, a7] r 0).map vU) [vU a0, vU a1, vU a2, vU a3, vU a4, vU a5, vU a6, vU a7] := fun W => leU [a0, a1, a2, a3, a4, a5, a6, a7]
              have f8 : List.zipWith ad [a0, a1, a2, a3, a4, a5, a6, a7] r = hx [a0, a1, a2, a3, a4, a5, a6, a7] r 8 := (hx_all rfl h8).symm
              have hrl : (r.map vU).length = 8 := by rw [List.length_map]; exact h8
              clear h8
              generalize hx [a0, a1, a2, a3, a4, a5, a6, a7] r = H at *
              repeat' first | refine SW.step good fun K hK => ?_ | refine X2 good fun K hK => ?_ | refine X3 good fun K hK => ?_ | refine SW.seqK fun J hJ => ?_ | refine SW.last good fun K hK => ?_ | (refine hK _ ?_; clear hK K) | (refine hJ _ _ (Wk.refl _) ?_; clear hJ J) | clear hK K | clear hJ J | refine SW.skip ?_ | refine SW.ret ?_ | refine SW.retT ?_ | refine SW.retB ?_ | refine SW.exit ?_ | refine SW.exitT ?_ | refine SW.exitB ?_ | refine XN ?_ | refine SW.block ?_ | refine SW.normB ?_ | refine SW.normT ?_ | refine XT ?_ | refine XF ?_ | refine XC (fun h => ?_) (fun h => ?_) | simp only [go_sem, optI, Option.getD_some, Option.getD_none, Int.reduceToNat, reduceIte, Nat.reduceEqDiff, Nat.reduceAdd, Nat.reduceMul, Nat.reduceSub, Nat.reduceLT, Nat.reduceLeDiff, reduceCtorEq, *] | refine Xs _ (fun h => ?_) (fun h => ?_) | with_reducible refine And.intro ?_ ?_
              refine SW.loopTo (α := Nat) (fun k => ⟨sl [(3, .ptr (.s 3 0) 0), (6, .ptr (.s 6 0) 0), (12, .ptr (.s 12 0) 0), (20, vI k)], hl [(.s 3 0, .box ((H k).map vU)), (.s 6 0, .box [vU 0, vU 0, vU 0, vU 0, vU 0, vU 0, vU 0, vU 0]), (.s 12 0, .box (r.map vU))]⟩) (fun k => 8 - k) 0 (fun k => k ≤ 8) ?_ (by simp) ?_
              · (refine Xto _ _ ?_ ?_ <;> simp only [go_sem, optI, Option.getD_some, Option.getD_none, Int.reduceToNat, reduceIte, Nat.reduceEqDiff, Nat.reduceAdd, Nat.reduceMul, Nat.reduceSub, Nat.reduceLT, Nat.reduceLeDiff, reduceCtorEq, Option.some.injEq, or_true, true_or] <;> (repeat' with_reducible apply And.intro) <;> (try rfl))
                all_goals first | (with_reducible exact leU _) | (with_reducible exact f0 _) | skip
              · intro k h2
                clear e1 f0
                by_cases hk : k < 8
                · have e1 : decide ((k : Int) < 8) = true := by simp; omega
                  have hw : IntKind.i64.wrap ((k : Int) + 1) = ((k + 1 : Nat) : Int) := wrap64 (by omega) (by omega)
                  have o1 : ∀ n : Nat, n * 1 = n := Nat.mul_one
                  have q1 := fl k (by omega)
                  have q2 := fg k hk
                  have q3 := fr k hk
                  have q4 := fs k hk
                  unfold ad at q4
                  clear fl fg fr fs
                  generalize [a0, a1, a2, a3, a4, a5, a6, a7].getD k 0 = u at *
                  generalize r.getD k 0 = v at *
                  repeat' first | refine SW.step good fun K hK => ?_ | refine X2 good fun K hK => ?_ | refine X3 good fun K hK => ?_ | refine SW.seqK fun J hJ => ?_ | refine SW.last good fun K hK => ?_ | (refine hK _ ?_; clear hK K) | (refine hJ _ _ (Wk.refl _) ?_; clear hJ J) | clear hK K | clear hJ J | refine SW.skip ?_ | refine SW.ret ?_ | refine SW.retT ?_ | refine SW.retB ?_ | refine SW.exit ?_ | refine SW.exitT ?_ | refine SW.exitB ?_ | refine XN ?_ | refine SW.block ?_ | refine SW.normB ?_ | refine SW.normT ?_ | refine XT ?_ | refine XF ?_ | refine XC (fun h => ?_) (fun h => ?_) | simp only [go_sem, optI, Option.getD_some, Option.getD_none, Int.reduceToNat, reduceIte, Nat.reduceEqDiff, Nat.reduceAdd, Nat.reduceMul, Nat.reduceSub, Nat.reduceLT, Nat.reduceLeDiff, reduceCtorEq, *] | refine Xs _ (fun h => ?_) (fun h => ?_) | with_reducible refine And.intro ?_ ?_
                  clear q2 q3
                  all_goals first | omega | (simp only [List.length_drop]; omega) | (simp; done) | skip
                  all_goals refine ⟨k + 1, by omega, by omega, ?_⟩
                  all_goals (refine Xto _ _ ?_ ?_ <;> simp only [go_sem, optI, Option.getD_some, Option.getD_none, Int.reduceToNat, reduceIte, Nat.reduceEqDiff, Nat.reduceAdd, Nat.reduceMul, Nat.reduceSub, Nat.reduceLT, Nat.reduceLeDiff, reduceCtorEq, Option.some.injEq, or_true, true_or] <;> (repeat' with_reducible apply And.intro) <;> (try rfl))
                  all_goals first | (with_reducible exact leU _) | (rw [q4]; exact leU _) | skip
                · have hk : k = 8 := by omega
                  subst hk
                  have e1 : decide (((8 : Nat) : Int) < 8) = false := rfl
                  have q1 := fl 8 (by omega)
                  clear fl fg fr fs
                  generalize H 8 = z at *
                  obtain ⟨d0, d1, d2, d3, d4, d5, d6, d7, rfl⟩ := eight (s := z) (by simpa using q1)
                  clear q1
                  repeat' first | refine SW.step good fun K hK => ?_ | refine X2 good fun K hK => ?_ | refine X3 good fun K hK => ?_ | refine SW.seqK fun J hJ => ?_ | refine SW.last good fun K hK => ?_ | (refine hK _ ?_; clear hK K) | (refine hJ _ _ (Wk.refl _) ?_; clear hJ J) | clear hK K | clear hJ J | refine SW.skip ?_ | refine SW.ret ?_ | refine SW.retT ?_ | refine SW.retB ?_ | refine SW.exit ?_ | refine SW.exitT ?_ | refine SW.exitB ?_ | refine XN ?_ | refine SW.block ?_ | refine SW.normB ?_ | refine SW.normT ?_ | refine XT ?_ | refine XF ?_ | refine XC (fun h => ?_) (fun h => ?_) | simp only [go_sem, optI, Option.getD_some, Option.getD_none, Int.reduceToNat, reduceIte, Nat.reduceEqDiff, Nat.reduceAdd, Nat.reduceMul, Nat.reduceSub, Nat.reduceLT, Nat.reduceLeDiff, reduceCtorEq, *] | refine Xs _ (fun h => ?_) (fun h => ?_) | with_reducible refine And.intro ?_ ?_
                  all_goals first | omega | (simp; done) | (refine ret_plain (by simp only [T165, Ty.isAgg, go_sem, optI, Option.getD_some, Option.getD_none, Int.reduceToNat, reduceIte, Nat.reduceEqDiff, Nat.reduceAdd, Nat.reduceMul, Nat.reduceSub, Nat.reduceLT, Nat.reduceLeDiff, reduceCtorEq] <;> rfl) (by simp) ?_; simp only [resOf, Wn.le, List.take_succ_cons, List.take_zero]; exact leU [_, _, _, _, _, _, _, _]) | skip
end Go.Proofs.YtoemclhjcbcjaaaGreat.AB
