/- Which keys lie in a ring: both functions, and the law. -/
import Derived.Test.YtbpfciidbgkekaaAbHlPure
import Derived.Test.YtbpfciidbgkekaaAbHiInts
import Derived.Test.YtbpfciidbgkekaaAbGeItems
import Derived.Test.YtbpfciidbgkekaaAbGvLoad
namespace Go.Proofs.Ytbpfciidbgkekaa.AB
open Go
set_option maxRecDepth 100000
set_option linter.unusedSimpArgs false
set_option linter.unusedVariables false
def keysS (S : List Shelf) : List Int := (S.filter fun s => inB s.key 0 255).map (·.key)
def partP (p : Peer) (j : Nat) : List Int := if p.here then keysS (p.shelves.take j) else []
def keysP (p : Peer) : List Int := if p.here then keysS p.shelves else []
def keysI (L : List Peer) : List Int := L.flatMap keysP
theorem partP_all (p : Peer) : partP p p.shelves.length = keysP p := by unfold partP keysP; rw [List.take_length]
theorem partP_zero (p : Peer) : partP p 0 = [] := by unfold partP keysS; split <;> simp
theorem keysS_len (S : List Shelf) : (keysS S).length ≤ S.length := by unfold keysS; rw [List.length_map]; exact List.length_filter_le _ _
theorem partP_len (p : Peer) (j : Nat) (h : j ≤ p.shelves.length) : (partP p j).length ≤ p.shelves.length := by
  unfold partP; split
  · have := keysS_len (p.shelves.take j); rw [List.length_take] at this; omega
  · simp
theorem partP_succ (p : Peer) {j : Nat} (h : j < p.shelves.length) : partP p (j + 1) = partP p j ++ (if p.here && inB p.shelves[j].key 0 255 then [p.shelves[j].key] else []) := by
  unfold partP keysS
  cases hh : p.here
  · simp
  · simp only [if_true, Bool.true_and]
    rw [List.take_add_one, List.getElem?_eq_getElem h, List.filter_append, List.map_append]
    congr 1
    cases hi : inB p.shelves[j].key 0 255 <;> simp [hi]
theorem keysI_take {L : List Peer} {k : Nat} (h : k < L.length) : keysI (L.take (k + 1)) = keysI (L.take k) ++ keysP L[k] := by
  unfold keysI
  rw [List.take_add_one, List.getElem?_eq_getElem h, List.flatMap_append]
  simp
def shelfN (p : Peer) : Nat := p.shelves.length
theorem keysI_len : ∀ (L : List Peer), (keysI L).length ≤ sumOf shelfN L
  | [] => by simp [keysI, sumOf]
  | p :: L => by
    have h1 := keysI_len L
    have h2 := partP_len p p.shelves.length (Nat.le_refl _)
    rw [partP_all] at h2
    unfold keysI sumOf at *
    simp only [List.flatMap_cons, List.length_append, List.map_cons, List.sum_cons]
    have : shelfN p = p.shelves.length := rfl
    omega
theorem shelfN_le (L : List Peer) : sumOf shelfN L ≤ peersSz L := by
  have h := sumOf_mono (f := shelfN) (g := peerSz) L (fun p _ => by unfold shelfN peerSz shelvesSz; omega)
  unfold peersSz; omega
theorem keysI_in (L : List Peer) : ∀ x, x ∈ keysI L → 0 ≤ x ∧ x ≤ 255 := by
  intro x hx
  unfold keysI at hx
  obtain ⟨p, _, hx⟩ := List.mem_flatMap.1 hx
  unfold keysP at hx
  split at hx
  · unfold keysS at hx
    obtain ⟨s, hs, rfl⟩ := List.mem_map.1 hx
    have := (List.mem_filter.1 hs).2
    simpa [inB] using this
  · simp at hx
/-- the cells of somebody's own copy -/
abbrev peerB (p : Peer) : List AV := [vI p.id, vB p.here, vI p.ahead, .c true (.sl (p.behind.map intC)), .c true (.sl (p.fingers.map intC)), .c true (.sl (p.shelves.map shelfC))]
set_option maxHeartbeats 2000000 in
theorem ac_KeysIn (L : List Peer) (h : peersSz L ≤ 1048576) : AC Try.prog 76 [encRing true L] (.own (.r 0)) [.row false 3 1 ((tabI (keysI L)).map intC)] := by
  have hs := peers_small h
  have hL := hs.1
  have hkl := keysI_len L
  have hsl := shelfN_le L
  unfold encRing
  refine XA good (fn := Try.f76) rfl ?_
  simp only [entry, List.getD_cons_zero, List.getD_cons_succ]
  repeat' first | refine SW.step good fun K hK => ?_ | refine X2 good fun K hK => ?_ | refine X3 good fun K hK => ?_ | refine SW.seqK fun J hJ => ?_ | refine SW.last good fun K hK => ?_ | (refine hK _ ?_; clear hK K) | (refine hJ _ _ (Wk.refl _) ?_; clear hJ J) | clear hK K | clear hJ J | refine SW.skip ?_ | refine SW.ret ?_ | refine SW.retT ?_ | refine SW.retB ?_ | refine SW.exit ?_ | refine SW.exitT ?_ | refine SW.exitB ?_ | refine XN ?_ | refine SW.block ?_ | refine SW.normB ?_ | refine SW.normT ?_ | refine XT ?_ | refine XF ?_ | refine XC (fun h => ?_) (fun h => ?_) | simp only [go_sem, optI, Option.getD_some, Option.getD_none, Int.reduceToNat, reduceIte, Nat.reduceEqDiff, Nat.reduceAdd, Nat.reduceMul, Nat.reduceSub, Nat.reduceLT, Nat.reduceLeDiff, reduceCtorEq, *] | refine Xs _ (fun h => ?_) (fun h => ?_) | with_reducible refine And.intro ?_ ?_
  refine SW.loopTo (α := Nat) (fun k => ⟨sl [(3, .own (.s 8 0)), (10, .c true (.sl (L.map peerC))), (11, vI L.length), (12, vI k)], hl [(.s 8 0, .row false 3 1 ((keysI (L.take k)).map intC))]⟩) (fun k => L.length - k) 0 (fun k => k ≤ L.length) ?_ (by simp) ?_
  · (refine Xto _ _ ?_ ?_ <;> simp only [go_sem, optI, Option.getD_some, Option.getD_none, Int.reduceToNat, reduceIte, Nat.reduceEqDiff, Nat.reduceAdd, Nat.reduceMul, Nat.reduceSub, Nat.reduceLT, Nat.reduceLeDiff, reduceCtorEq, Option.some.injEq, or_true, true_or] <;> (repeat' with_reducible apply And.intro) <;> (try rfl))
  · intro k h2
    by_cases hk : k < L.length
    · have e := getD_map L peerC [] hk
      have e1 : decide ((k : Int) < L.length) = true := by simp; omega
      have hw : IntKind.i64.wrap ((k : Int) + 1) = ((k + 1 : Nat) : Int) := wrap64 (by omega) (by omega)
      have hkt := keysI_take hk
      have hb := keysI_len (L.take (k + 1))
      have hb2 := sumOf_le shelfN L (k + 1)
      rw [sumOf_take shelfN L hk] at hb hb2
      have hb3 := keysI_len (L.take k)
      have hps := (hs.2 _ (List.getElem_mem hk)).2.2.1
      have hsn : shelfN L[k] = L[k].shelves.length := rfl
      generalize L[k] = p at *
      generalize keysI (L.take k) = A at *
      repeat' first | refine SW.step good fun K hK => ?_ | refine X2 good fun K hK => ?_ | refine X3 good fun K hK => ?_ | refine SW.seqK fun J hJ => ?_ | refine SW.last good fun K hK => ?_ | (refine hK _ ?_; clear hK K) | (refine hJ _ _ (Wk.refl _) ?_; clear hJ J) | clear hK K | clear hJ J | refine SW.skip ?_ | refine SW.ret ?_ | refine SW.retT ?_ | refine SW.retB ?_ | refine SW.exit ?_ | refine SW.exitT ?_ | refine SW.exitB ?_ | refine XN ?_ | refine SW.block ?_ | refine SW.normB ?_ | refine SW.normT ?_ | refine XT ?_ | refine XF ?_ | refine XC (fun h => ?_) (fun h => ?_) | simp only [go_sem, optI, Option.getD_some, Option.getD_none, Int.reduceToNat, reduceIte, Nat.reduceEqDiff, Nat.reduceAdd, Nat.reduceMul, Nat.reduceSub, Nat.reduceLT, Nat.reduceLeDiff, reduceCtorEq, *] | refine Xs _ (fun h => ?_) (fun h => ?_) | with_reducible refine And.intro ?_ ?_
      all_goals first | (intro r hr; simp at hr; subst hr; rfl) | (simp [bytesC]; omega) | (simp; done) | omega | rfl | skip
      refine SW.loopTo (α := Nat) (fun j => ⟨sl [(3, .own (.s 8 0)), (5, .ptr (.s 5 0) 0), (10, .c true (.sl (L.map peerC))), (11, vI L.length), (12, vI k), (17, .c true (.sl (p.shelves.map shelfC))), (18, vI p.shelves.length), (19, vI j)], hl [(.s 5 0, .box (peerB p)), (.s 8 0, .row false 3 1 ((A ++ partP p j).map intC))]⟩) (fun j => p.shelves.length - j) 0 (fun j => j ≤ p.shelves.length) ?_ (by simp) ?_
      · (refine Xto _ _ ?_ ?_ <;> simp only [go_sem, optI, Option.getD_some, Option.getD_none, Int.reduceToNat, reduceIte, Nat.reduceEqDiff, Nat.reduceAdd, Nat.reduceMul, Nat.reduceSub, Nat.reduceLT, Nat.reduceLeDiff, reduceCtorEq, Option.some.injEq, or_true, true_or] <;> (repeat' with_reducible apply And.intro) <;> (try rfl))
        all_goals first | (rw [partP_zero, List.append_nil]; done) | skip
      · intro j h3
        by_cases hj : j < p.shelves.length
        · have e2 := getD_map p.shelves shelfC [] hj
          have e3 : decide ((j : Int) < p.shelves.length) = true := by simp; omega
          have hw2 : IntKind.i64.wrap ((j : Int) + 1) = ((j + 1 : Nat) : Int) := wrap64 (by omega) (by omega)
          have hpt := partP_succ p hj
          have hpl := partP_len p j h3
          have hn2 : (A ++ partP p j).length ≤ 1048576 := by rw [List.length_append]; omega
          have hpi := ac_isPlace p.shelves[j].key
          generalize p.shelves[j] = s at *
          clear hb hb2 hb3 hkl hsl hkt e e1 hw
          cases hh : p.here with
          | false =>
            rw [hh] at hpt
            simp only [Bool.false_and, Bool.false_eq_true, if_false, List.append_nil] at hpt
            repeat' first | refine SW.step good fun K hK => ?_ | refine X2 good fun K hK => ?_ | refine X3 good fun K hK => ?_ | refine SW.seqK fun J hJ => ?_ | refine SW.last good fun K hK => ?_ | (refine hK _ ?_; clear hK K) | (refine hJ _ _ (Wk.refl _) ?_; clear hJ J) | clear hK K | clear hJ J | refine SW.skip ?_ | refine SW.ret ?_ | refine SW.retT ?_ | refine SW.retB ?_ | refine SW.exit ?_ | refine SW.exitT ?_ | refine SW.exitB ?_ | refine XN ?_ | refine SW.block ?_ | refine SW.normB ?_ | refine SW.normT ?_ | refine XT ?_ | refine XF ?_ | refine XC (fun h => ?_) (fun h => ?_) | simp only [go_sem, optI, Option.getD_some, Option.getD_none, Int.reduceToNat, reduceIte, Nat.reduceEqDiff, Nat.reduceAdd, Nat.reduceMul, Nat.reduceSub, Nat.reduceLT, Nat.reduceLeDiff, reduceCtorEq, *] | refine Xs _ (fun h => ?_) (fun h => ?_) | with_reducible refine And.intro ?_ ?_
            all_goals first | (intro r hr; simp at hr; subst hr; rfl) | (simp [bytesC]; omega) | (simp; done) | omega | rfl | skip
            all_goals refine ⟨j + 1, by omega, by omega, ?_⟩
            all_goals (refine Xto _ _ ?_ ?_ <;> simp only [go_sem, optI, Option.getD_some, Option.getD_none, Int.reduceToNat, reduceIte, Nat.reduceEqDiff, Nat.reduceAdd, Nat.reduceMul, Nat.reduceSub, Nat.reduceLT, Nat.reduceLeDiff, reduceCtorEq, Option.some.injEq, or_true, true_or] <;> (repeat' with_reducible apply And.intro) <;> (try rfl))
            all_goals first | (rw [hpt]; done) | skip
          | true =>
            rw [hh] at hpt
            simp only [Bool.true_and] at hpt
            cases hi : inB s.key 0 255 with
            | false =>
              rw [hi] at hpt hpi
              simp only [Bool.false_eq_true, if_false, List.append_nil] at hpt
              repeat' first | refine SW.step good fun K hK => ?_ | refine X2 good fun K hK => ?_ | refine X3 good fun K hK => ?_ | refine SW.seqK fun J hJ => ?_ | refine SW.last good fun K hK => ?_ | (refine hK _ ?_; clear hK K) | (refine hJ _ _ (Wk.refl _) ?_; clear hJ J) | clear hK K | clear hJ J | refine SW.skip ?_ | refine SW.ret ?_ | refine SW.retT ?_ | refine SW.retB ?_ | refine SW.exit ?_ | refine SW.exitT ?_ | refine SW.exitB ?_ | refine XN ?_ | refine SW.block ?_ | refine SW.normB ?_ | refine SW.normT ?_ | refine XT ?_ | refine XF ?_ | refine XC (fun h => ?_) (fun h => ?_) | refine X0 ?_ | refine Xv ?_ | refine X1 (hpi) ?_ | simp only [go_sem, optI, Option.getD_some, Option.getD_none, Int.reduceToNat, reduceIte, Nat.reduceEqDiff, Nat.reduceAdd, Nat.reduceMul, Nat.reduceSub, Nat.reduceLT, Nat.reduceLeDiff, reduceCtorEq, *] | refine Xs _ (fun h => ?_) (fun h => ?_) | with_reducible refine And.intro ?_ ?_
              all_goals first | (intro r hr; simp at hr; subst hr; rfl) | (simp [bytesC]; omega) | (simp; done) | omega | rfl | skip
              all_goals refine ⟨j + 1, by omega, by omega, ?_⟩
              all_goals (refine Xto _ _ ?_ ?_ <;> simp only [go_sem, optI, Option.getD_some, Option.getD_none, Int.reduceToNat, reduceIte, Nat.reduceEqDiff, Nat.reduceAdd, Nat.reduceMul, Nat.reduceSub, Nat.reduceLT, Nat.reduceLeDiff, reduceCtorEq, Option.some.injEq, or_true, true_or] <;> (repeat' with_reducible apply And.intro) <;> (try rfl))
              all_goals first | (rw [hpt]; done) | skip
            | true =>
              rw [hi] at hpt hpi
              simp only [if_true] at hpt
              repeat' first | refine SW.step good fun K hK => ?_ | refine X2 good fun K hK => ?_ | refine X3 good fun K hK => ?_ | refine SW.seqK fun J hJ => ?_ | refine SW.last good fun K hK => ?_ | (refine hK _ ?_; clear hK K) | (refine hJ _ _ (Wk.refl _) ?_; clear hJ J) | clear hK K | clear hJ J | refine SW.skip ?_ | refine SW.ret ?_ | refine SW.retT ?_ | refine SW.retB ?_ | refine SW.exit ?_ | refine SW.exitT ?_ | refine SW.exitB ?_ | refine XN ?_ | refine SW.block ?_ | refine SW.normB ?_ | refine SW.normT ?_ | refine XT ?_ | refine XF ?_ | refine XC (fun h => ?_) (fun h => ?_) | refine X0 ?_ | refine Xv ?_ | refine X1 (hpi) ?_ | simp only [go_sem, optI, Option.getD_some, Option.getD_none, Int.reduceToNat, reduceIte, Nat.reduceEqDiff, Nat.reduceAdd, Nat.reduceMul, Nat.reduceSub, Nat.reduceLT, Nat.reduceLeDiff, reduceCtorEq, *] | refine Xs _ (fun h => ?_) (fun h => ?_) | with_reducible refine And.intro ?_ ?_
              all_goals first | (intro r hr; simp at hr; subst hr; rfl) | (simp [bytesC]; omega) | (simp; done) | omega | rfl | skip
              all_goals refine ⟨j + 1, by omega, by omega, ?_⟩
              all_goals (refine Xto _ _ ?_ ?_ <;> simp only [go_sem, optI, Option.getD_some, Option.getD_none, Int.reduceToNat, reduceIte, Nat.reduceEqDiff, Nat.reduceAdd, Nat.reduceMul, Nat.reduceSub, Nat.reduceLT, Nat.reduceLeDiff, reduceCtorEq, Option.some.injEq, or_true, true_or] <;> (repeat' with_reducible apply And.intro) <;> (try rfl))
              all_goals first | (rw [hpt, ← List.append_assoc]; simp; done) | skip
        · have hj : j = p.shelves.length := by omega
          subst hj
          have e3 : decide ((p.shelves.length : Int) < p.shelves.length) = false := by simp
          rw [partP_all]
          repeat' first | refine SW.step good fun K hK => ?_ | refine X2 good fun K hK => ?_ | refine X3 good fun K hK => ?_ | refine SW.seqK fun J hJ => ?_ | refine SW.last good fun K hK => ?_ | (refine hK _ ?_; clear hK K) | (refine hJ _ _ (Wk.refl _) ?_; clear hJ J) | clear hK K | clear hJ J | refine SW.skip ?_ | refine SW.ret ?_ | refine SW.retT ?_ | refine SW.retB ?_ | refine SW.exit ?_ | refine SW.exitT ?_ | refine SW.exitB ?_ | refine XN ?_ | refine SW.block ?_ | refine SW.normB ?_ | refine SW.normT ?_ | refine XT ?_ | refine XF ?_ | refine XC (fun h => ?_) (fun h => ?_) | simp only [go_sem, optI, Option.getD_some, Option.getD_none, Int.reduceToNat, reduceIte, Nat.reduceEqDiff, Nat.reduceAdd, Nat.reduceMul, Nat.reduceSub, Nat.reduceLT, Nat.reduceLeDiff, reduceCtorEq, *] | refine Xs _ (fun h => ?_) (fun h => ?_) | with_reducible refine And.intro ?_ ?_
          all_goals first | (intro r hr; simp at hr; subst hr; rfl) | (simp [bytesC]; omega) | (simp; done) | omega | rfl | skip
          all_goals refine ⟨k + 1, by omega, by omega, ?_⟩
          all_goals (refine Xto _ _ ?_ ?_ <;> simp only [go_sem, optI, Option.getD_some, Option.getD_none, Int.reduceToNat, reduceIte, Nat.reduceEqDiff, Nat.reduceAdd, Nat.reduceMul, Nat.reduceSub, Nat.reduceLT, Nat.reduceLeDiff, reduceCtorEq, Option.some.injEq, or_true, true_or] <;> (repeat' with_reducible apply And.intro) <;> (try rfl))
          all_goals first | (rw [hkt]; done) | skip
    · have hk : k = L.length := by omega
      subst hk
      have e1 : decide ((L.length : Int) < L.length) = false := by simp
      rw [List.take_length]
      have m1 := mc_Sort (keysI L) (by omega)
      have m2 := mc_Compact (sortI (keysI L)) (by rw [sortI_len]; omega)
      rw [tab_is (keysI_in L)] at m2
      repeat' first | refine SW.step good fun K hK => ?_ | refine X2 good fun K hK => ?_ | refine X3 good fun K hK => ?_ | refine SW.seqK fun J hJ => ?_ | refine SW.last good fun K hK => ?_ | (refine hK _ ?_; clear hK K) | (refine hJ _ _ (Wk.refl _) ?_; clear hJ J) | clear hK K | clear hJ J | refine SW.skip ?_ | refine SW.ret ?_ | refine SW.retT ?_ | refine SW.retB ?_ | refine SW.exit ?_ | refine SW.exitT ?_ | refine SW.exitB ?_ | refine XN ?_ | refine SW.block ?_ | refine SW.normB ?_ | refine SW.normT ?_ | refine XT ?_ | refine XF ?_ | refine XC (fun h => ?_) (fun h => ?_) | (refine Xm (.s 8 0) ?_; first | refine Xd (m1) ?_ | refine Xa (m1) ?_ | refine Xb (m1) ?_) | (refine Xm (.s 8 0) ?_; first | refine Xd (m2) ?_ | refine Xa (m2) ?_ | refine Xb (m2) ?_) | simp only [go_sem, optI, Option.getD_some, Option.getD_none, Int.reduceToNat, reduceIte, Nat.reduceEqDiff, Nat.reduceAdd, Nat.reduceMul, Nat.reduceSub, Nat.reduceLT, Nat.reduceLeDiff, reduceCtorEq, *] | refine Xs _ (fun h => ?_) (fun h => ?_) | with_reducible refine And.intro ?_ ?_
      all_goals refine Xro (i := .s 40 0) ?_ ?_
      all_goals simp [Wn.leO, resOf, Wn.le, Wn.leL, Wn.cw, C.scal, scal, outW, idsTo, hrOf]
/-- the table, so far -/
def tabRow (K : List Int) : List (List C) := (List.range 256).map fun i => [cB (inTab K i)]
theorem tabRow_len (K : List Int) : (tabRow K).length = 256 := by simp [tabRow]
theorem tabRow_get {K : List Int} {i : Nat} (h : i < 256) : (tabRow K).getD i [] = [cB (inTab K i)] := by
  unfold tabRow
  rw [List.getD_eq_getElem?_getD, List.getElem?_map, List.getElem?_range h]; rfl
theorem tabRow_nil : tabRow [] = List.replicate 256 [cB false] := by
  unfold tabRow inTab
  apply List.ext_getElem?
  intro i
  rw [List.getElem?_map, List.getElem?_replicate]
  by_cases hi : i < 256
  · rw [List.getElem?_range hi, if_pos hi]; rfl
  · rw [List.getElem?_eq_none (by simp; omega), if_neg hi]; rfl
theorem tabRow_set {K : List Int} {x : Int} (h0 : 0 ≤ x) (h1 : x ≤ 255) : (tabRow K).set x.toNat [cB true] = tabRow (K ++ [x]) := by
  apply List.ext_getElem?
  intro i
  unfold tabRow
  rw [List.getElem?_set]
  by_cases hi : i < 256
  · simp only [List.length_map, List.length_range, List.getElem?_map, List.getElem?_range hi, Option.map_some]
    by_cases he : x.toNat = i
    · rw [if_pos he, if_pos (by omega)]
      have : inTab (K ++ [x]) i = true := by unfold inTab; rw [show ((i : Nat) : Int) = x by omega]; simp
      rw [this]
    · rw [if_neg he]
      have : inTab (K ++ [x]) i = inTab K i := by
        unfold inTab
        rw [Bool.eq_iff_iff]
        simp only [List.contains_iff_mem, List.mem_append, List.mem_singleton]
        constructor
        · rintro (h | h)
          · exact h
          · omega
        · exact .inl
      rw [this]
  · rw [if_neg (by omega), List.getElem?_eq_none (by simp; omega), List.getElem?_eq_none (by simp; omega)]
def tabUp (K : List Int) (i : Nat) : List Int := ((List.range i).filter (inTab K)).map fun (i : Nat) => (i : Int)
theorem tabUp_len (K : List Int) (i : Nat) : (tabUp K i).length ≤ i := by unfold tabUp; rw [List.length_map]; exact Nat.le_trans (List.length_filter_le _ _) (by simp)
theorem tabUp_succ (K : List Int) (i : Nat) : tabUp K (i + 1) = tabUp K i ++ (if inTab K i then [(i : Int)] else []) := by
  unfold tabUp
  rw [List.range_succ, List.filter_append, List.map_append]
  congr 1
  cases h : inTab K i <;> simp [h]
set_option maxHeartbeats 2000000 in
theorem ac_KeysIn' (L : List Peer) (h : peersSz L ≤ 1048576) : AC Try.prog 75 [encRing true L] (.own (.r 0)) [.row false 3 1 ((tabI (keysI L)).map intC)] := by
  have hs := peers_small h
  have hL := hs.1
  unfold encRing
  refine XA good (fn := Try.f75) rfl ?_
  simp only [entry, List.getD_cons_zero, List.getD_cons_succ]
  repeat' first | refine SW.step good fun K hK => ?_ | refine X2 good fun K hK => ?_ | refine X3 good fun K hK => ?_ | refine SW.seqK fun J hJ => ?_ | refine SW.last good fun K hK => ?_ | (refine hK _ ?_; clear hK K) | (refine hJ _ _ (Wk.refl _) ?_; clear hJ J) | clear hK K | clear hJ J | refine SW.skip ?_ | refine SW.ret ?_ | refine SW.retT ?_ | refine SW.retB ?_ | refine SW.exit ?_ | refine SW.exitT ?_ | refine SW.exitB ?_ | refine XN ?_ | refine SW.block ?_ | refine SW.normB ?_ | refine SW.normT ?_ | refine XT ?_ | refine XF ?_ | refine XC (fun h => ?_) (fun h => ?_) | simp only [go_sem, optI, Option.getD_some, Option.getD_none, Int.reduceToNat, reduceIte, Nat.reduceEqDiff, Nat.reduceAdd, Nat.reduceMul, Nat.reduceSub, Nat.reduceLT, Nat.reduceLeDiff, reduceCtorEq, *] | refine Xs _ (fun h => ?_) (fun h => ?_) | with_reducible refine And.intro ?_ ?_
  all_goals first | (intro r hr; simp at hr; subst hr; rfl) | (simp [bytesC]; omega) | (simp; done) | omega | rfl | skip
  refine SW.loopTo (α := Nat) (fun k => ⟨sl [(1, .ptr (.s 1 0) 0), (3, .own (.s 8 0)), (4, vI k)], hl [(.s 1 0, .box [.c true (.sl (L.map peerC))]), (.s 8 0, .row false 4 1 (tabRow (keysI (L.take k))))]⟩) (fun k => L.length - k) 0 (fun k => k ≤ L.length) ?_ (by simp) ?_
  · (refine Xto _ _ ?_ ?_ <;> simp only [go_sem, optI, Option.getD_some, Option.getD_none, Int.reduceToNat, reduceIte, Nat.reduceEqDiff, Nat.reduceAdd, Nat.reduceMul, Nat.reduceSub, Nat.reduceLT, Nat.reduceLeDiff, reduceCtorEq, Option.some.injEq, or_true, true_or] <;> (repeat' with_reducible apply And.intro) <;> (try rfl))
    all_goals first | (exact tabRow_nil) | (exact tabRow_nil.symm) | (rw [show keysI (L.take 0) = [] from rfl, tabRow_nil]; done) | skip
  · intro k h2
    by_cases hk : k < L.length
    · have e := getD_map L peerC [] hk
      have e1 : decide ((k : Int) < L.length) = true := by simp; omega
      have hw : IntKind.i64.wrap ((k : Int) + 1) = ((k + 1 : Nat) : Int) := wrap64 (by omega) (by omega)
      have hkt := keysI_take hk
      have hps := (hs.2 _ (List.getElem_mem hk)).2.2.1
      generalize L[k] = p at *
      generalize keysI (L.take k) = A at *
      repeat' first | refine SW.step good fun K hK => ?_ | refine X2 good fun K hK => ?_ | refine X3 good fun K hK => ?_ | refine SW.seqK fun J hJ => ?_ | refine SW.last good fun K hK => ?_ | (refine hK _ ?_; clear hK K) | (refine hJ _ _ (Wk.refl _) ?_; clear hJ J) | clear hK K | clear hJ J | refine SW.skip ?_ | refine SW.ret ?_ | refine SW.retT ?_ | refine SW.retB ?_ | refine SW.exit ?_ | refine SW.exitT ?_ | refine SW.exitB ?_ | refine XN ?_ | refine SW.block ?_ | refine SW.normB ?_ | refine SW.normT ?_ | refine XT ?_ | refine XF ?_ | refine XC (fun h => ?_) (fun h => ?_) | simp only [go_sem, optI, Option.getD_some, Option.getD_none, Int.reduceToNat, reduceIte, Nat.reduceEqDiff, Nat.reduceAdd, Nat.reduceMul, Nat.reduceSub, Nat.reduceLT, Nat.reduceLeDiff, reduceCtorEq, *] | refine Xs _ (fun h => ?_) (fun h => ?_) | with_reducible refine And.intro ?_ ?_
      all_goals first | (intro r hr; simp at hr; subst hr; rfl) | (simp [bytesC]; omega) | (simp; done) | omega | rfl | skip
      refine SW.loopTo (α := Nat) (fun j => ⟨sl [(1, .ptr (.s 1 0) 0), (3, .own (.s 8 0)), (4, vI k), (5, vI j)], hl [(.s 1 0, .box [.c true (.sl (L.map peerC))]), (.s 8 0, .row false 4 1 (tabRow (A ++ partP p j)))]⟩) (fun j => p.shelves.length - j) 0 (fun j => j ≤ p.shelves.length) ?_ (by simp) ?_
      · (refine Xto _ _ ?_ ?_ <;> simp only [go_sem, optI, Option.getD_some, Option.getD_none, Int.reduceToNat, reduceIte, Nat.reduceEqDiff, Nat.reduceAdd, Nat.reduceMul, Nat.reduceSub, Nat.reduceLT, Nat.reduceLeDiff, reduceCtorEq, Option.some.injEq, or_true, true_or] <;> (repeat' with_reducible apply And.intro) <;> (try rfl))
        all_goals first | (rw [partP_zero, List.append_nil]; done) | skip
      · intro j h3
        have hkn : decide ((k : Int) < L.length) = true := e1
        by_cases hj : j < p.shelves.length
        · have e2 := getD_map p.shelves shelfC [] hj
          have e3 : decide ((j : Int) < p.shelves.length) = true := by simp; omega
          have hw2 : IntKind.i64.wrap ((j : Int) + 1) = ((j + 1 : Nat) : Int) := wrap64 (by omega) (by omega)
          have hpt := partP_succ p hj
          have hpi := ac_in' p.shelves[j].key 0 255
          have hki : decide (0 ≤ p.shelves[j].key ∧ p.shelves[j].key ≤ 255) = inB p.shelves[j].key 0 255 := rfl
          rw [hki] at hpi
          generalize p.shelves[j] = s at *
          clear hki
          cases hh : p.here with
          | false =>
            have hz : A ++ partP p j = A ++ keysP p := by unfold partP keysP; rw [hh]; rfl
            rw [hz, ← hkt]
            clear hpt hpi hkt hz
            repeat' first | refine SW.step good fun K hK => ?_ | refine X2 good fun K hK => ?_ | refine X3 good fun K hK => ?_ | refine SW.seqK fun J hJ => ?_ | refine SW.last good fun K hK => ?_ | (refine hK _ ?_; clear hK K) | (refine hJ _ _ (Wk.refl _) ?_; clear hJ J) | clear hK K | clear hJ J | refine SW.skip ?_ | refine SW.ret ?_ | refine SW.retT ?_ | refine SW.retB ?_ | refine SW.exit ?_ | refine SW.exitT ?_ | refine SW.exitB ?_ | refine XN ?_ | refine SW.block ?_ | refine SW.normB ?_ | refine SW.normT ?_ | refine XT ?_ | refine XF ?_ | refine XC (fun h => ?_) (fun h => ?_) | simp only [go_sem, optI, Option.getD_some, Option.getD_none, Int.reduceToNat, reduceIte, Nat.reduceEqDiff, Nat.reduceAdd, Nat.reduceMul, Nat.reduceSub, Nat.reduceLT, Nat.reduceLeDiff, reduceCtorEq, *] | refine Xs _ (fun h => ?_) (fun h => ?_) | with_reducible refine And.intro ?_ ?_
            all_goals first | (intro r hr; simp at hr; subst hr; rfl) | (simp [bytesC]; omega) | (simp; done) | omega | rfl | skip
            all_goals refine ⟨k + 1, by omega, by omega, ?_⟩
            all_goals (refine Xto _ _ ?_ ?_ <;> simp only [go_sem, optI, Option.getD_some, Option.getD_none, Int.reduceToNat, reduceIte, Nat.reduceEqDiff, Nat.reduceAdd, Nat.reduceMul, Nat.reduceSub, Nat.reduceLT, Nat.reduceLeDiff, reduceCtorEq, Option.some.injEq, or_true, true_or] <;> (repeat' with_reducible apply And.intro) <;> (try rfl))
          | true =>
            rw [hh] at hpt
            simp only [Bool.true_and] at hpt
            clear hkt hw
            cases hi : inB s.key 0 255 with
            | false =>
              rw [hi] at hpt hpi
              simp only [Bool.false_eq_true, if_false, List.append_nil] at hpt
              repeat' first | refine SW.step good fun K hK => ?_ | refine X2 good fun K hK => ?_ | refine X3 good fun K hK => ?_ | refine SW.seqK fun J hJ => ?_ | refine SW.last good fun K hK => ?_ | (refine hK _ ?_; clear hK K) | (refine hJ _ _ (Wk.refl _) ?_; clear hJ J) | clear hK K | clear hJ J | refine SW.skip ?_ | refine SW.ret ?_ | refine SW.retT ?_ | refine SW.retB ?_ | refine SW.exit ?_ | refine SW.exitT ?_ | refine SW.exitB ?_ | refine XN ?_ | refine SW.block ?_ | refine SW.normB ?_ | refine SW.normT ?_ | refine XT ?_ | refine XF ?_ | refine XC (fun h => ?_) (fun h => ?_) | refine X0 ?_ | refine Xv ?_ | refine X1 (hpi) ?_ | simp only [go_sem, optI, Option.getD_some, Option.getD_none, Int.reduceToNat, reduceIte, Nat.reduceEqDiff, Nat.reduceAdd, Nat.reduceMul, Nat.reduceSub, Nat.reduceLT, Nat.reduceLeDiff, reduceCtorEq, *] | refine Xs _ (fun h => ?_) (fun h => ?_) | with_reducible refine And.intro ?_ ?_
              all_goals first | (intro r hr; simp at hr; subst hr; rfl) | (simp [bytesC]; omega) | (simp; done) | omega | rfl | skip
              all_goals refine ⟨j + 1, by omega, by omega, ?_⟩
              all_goals (refine Xto _ _ ?_ ?_ <;> simp only [go_sem, optI, Option.getD_some, Option.getD_none, Int.reduceToNat, reduceIte, Nat.reduceEqDiff, Nat.reduceAdd, Nat.reduceMul, Nat.reduceSub, Nat.reduceLT, Nat.reduceLeDiff, reduceCtorEq, Option.some.injEq, or_true, true_or] <;> (repeat' with_reducible apply And.intro) <;> (try rfl))
              all_goals first | (rw [hpt]; done) | skip
            | true =>
              have hb : 0 ≤ s.key ∧ s.key ≤ 255 := by simpa [inB] using hi
              have hts := tabRow_set (K := A ++ partP p j) hb.1 hb.2
              have htl := tabRow_len (A ++ partP p j)
              have htg := tabRow_get (K := A ++ partP p j) (i := s.key.toNat) (by omega)
              have hfin : (tabRow (A ++ partP p j)).set s.key.toNat [cB true] = tabRow (A ++ partP p (j + 1)) := by rw [hts]; rw [hi] at hpt; simp only [if_true] at hpt; rw [hpt, List.append_assoc]
              rw [hi] at hpi
              clear hts hpt
              repeat' first | refine SW.step good fun K hK => ?_ | refine X2 good fun K hK => ?_ | refine X3 good fun K hK => ?_ | refine SW.seqK fun J hJ => ?_ | refine SW.last good fun K hK => ?_ | (refine hK _ ?_; clear hK K) | (refine hJ _ _ (Wk.refl _) ?_; clear hJ J) | clear hK K | clear hJ J | refine SW.skip ?_ | refine SW.ret ?_ | refine SW.retT ?_ | refine SW.retB ?_ | refine SW.exit ?_ | refine SW.exitT ?_ | refine SW.exitB ?_ | refine XN ?_ | refine SW.block ?_ | refine SW.normB ?_ | refine SW.normT ?_ | refine XT ?_ | refine XF ?_ | refine XC (fun h => ?_) (fun h => ?_) | refine X0 ?_ | refine Xv ?_ | refine X1 (hpi) ?_ | simp only [go_sem, optI, Option.getD_some, Option.getD_none, Int.reduceToNat, reduceIte, Nat.reduceEqDiff, Nat.reduceAdd, Nat.reduceMul, Nat.reduceSub, Nat.reduceLT, Nat.reduceLeDiff, reduceCtorEq, *] | refine Xs _ (fun h => ?_) (fun h => ?_) | with_reducible refine And.intro ?_ ?_
              all_goals first | (intro r hr; simp at hr; subst hr; rfl) | (simp [bytesC]; omega) | (simp; done) | omega | rfl | skip
              all_goals refine ⟨j + 1, by omega, by omega, ?_⟩
              all_goals (refine Xto _ _ ?_ ?_ <;> simp only [go_sem, optI, Option.getD_some, Option.getD_none, Int.reduceToNat, reduceIte, Nat.reduceEqDiff, Nat.reduceAdd, Nat.reduceMul, Nat.reduceSub, Nat.reduceLT, Nat.reduceLeDiff, reduceCtorEq, Option.some.injEq, or_true, true_or] <;> (repeat' with_reducible apply And.intro) <;> (try rfl))
              all_goals first | (rw [← hfin]; simp [layC]; done) | skip
        · have hj : j = p.shelves.length := by omega
          subst hj
          have e3 : decide ((p.shelves.length : Int) < p.shelves.length) = false := by simp
          rw [partP_all]
          repeat' first | refine SW.step good fun K hK => ?_ | refine X2 good fun K hK => ?_ | refine X3 good fun K hK => ?_ | refine SW.seqK fun J hJ => ?_ | refine SW.last good fun K hK => ?_ | (refine hK _ ?_; clear hK K) | (refine hJ _ _ (Wk.refl _) ?_; clear hJ J) | clear hK K | clear hJ J | refine SW.skip ?_ | refine SW.ret ?_ | refine SW.retT ?_ | refine SW.retB ?_ | refine SW.exit ?_ | refine SW.exitT ?_ | refine SW.exitB ?_ | refine XN ?_ | refine SW.block ?_ | refine SW.normB ?_ | refine SW.normT ?_ | refine XT ?_ | refine XF ?_ | refine XC (fun h => ?_) (fun h => ?_) | simp only [go_sem, optI, Option.getD_some, Option.getD_none, Int.reduceToNat, reduceIte, Nat.reduceEqDiff, Nat.reduceAdd, Nat.reduceMul, Nat.reduceSub, Nat.reduceLT, Nat.reduceLeDiff, reduceCtorEq, *] | refine Xs _ (fun h => ?_) (fun h => ?_) | with_reducible refine And.intro ?_ ?_
          all_goals first | (intro r hr; simp at hr; subst hr; rfl) | (simp [bytesC]; omega) | (simp; done) | omega | rfl | skip
          all_goals refine ⟨k + 1, by omega, by omega, ?_⟩
          all_goals (refine Xto _ _ ?_ ?_ <;> simp only [go_sem, optI, Option.getD_some, Option.getD_none, Int.reduceToNat, reduceIte, Nat.reduceEqDiff, Nat.reduceAdd, Nat.reduceMul, Nat.reduceSub, Nat.reduceLT, Nat.reduceLeDiff, reduceCtorEq, Option.some.injEq, or_true, true_or] <;> (repeat' with_reducible apply And.intro) <;> (try rfl))
          all_goals first | (rw [hkt]; done) | skip
    · have hk : k = L.length := by omega
      subst hk
      have e1 : decide ((L.length : Int) < L.length) = false := by simp
      rw [List.take_length]
      have htl := tabRow_len (keysI L)
      generalize keysI L = K at *
      repeat' first | refine SW.step good fun K hK => ?_ | refine X2 good fun K hK => ?_ | refine X3 good fun K hK => ?_ | refine SW.seqK fun J hJ => ?_ | refine SW.last good fun K hK => ?_ | (refine hK _ ?_; clear hK K) | (refine hJ _ _ (Wk.refl _) ?_; clear hJ J) | clear hK K | clear hJ J | refine SW.skip ?_ | refine SW.ret ?_ | refine SW.retT ?_ | refine SW.retB ?_ | refine SW.exit ?_ | refine SW.exitT ?_ | refine SW.exitB ?_ | refine XN ?_ | refine SW.block ?_ | refine SW.normB ?_ | refine SW.normT ?_ | refine XT ?_ | refine XF ?_ | refine XC (fun h => ?_) (fun h => ?_) | simp only [go_sem, optI, Option.getD_some, Option.getD_none, Int.reduceToNat, reduceIte, Nat.reduceEqDiff, Nat.reduceAdd, Nat.reduceMul, Nat.reduceSub, Nat.reduceLT, Nat.reduceLeDiff, reduceCtorEq, *] | refine Xs _ (fun h => ?_) (fun h => ?_) | with_reducible refine And.intro ?_ ?_
      all_goals first | (intro r hr; simp at hr; subst hr; rfl) | (simp [bytesC]; omega) | (simp; done) | omega | rfl | skip
      refine SW.loopTo (α := Nat) (fun i => ⟨sl [(3, .own (.s 8 0)), (6, .own (.s 58 0)), (7, vI i)], hl [(.s 8 0, .row false 4 1 (tabRow K)), (.s 58 0, .row false 3 1 ((tabUp K i).map intC))]⟩) (fun i => 256 - i) 0 (fun i => i ≤ 256) ?_ (by simp) ?_
      · (refine Xto _ _ ?_ ?_ <;> simp only [go_sem, optI, Option.getD_some, Option.getD_none, Int.reduceToNat, reduceIte, Nat.reduceEqDiff, Nat.reduceAdd, Nat.reduceMul, Nat.reduceSub, Nat.reduceLT, Nat.reduceLeDiff, reduceCtorEq, Option.some.injEq, or_true, true_or] <;> (repeat' with_reducible apply And.intro) <;> (try rfl))
        all_goals first | rfl | skip
      · intro i h3
        have hul := tabUp_len K i
        have hul2 : ((tabUp K i).map intC).length ≤ 256 := by rw [List.length_map]; omega
        by_cases hi : i < 256
        · have e2 := tabRow_get (K := K) hi
          have e3 : decide ((i : Int) < ((256 : Nat) : Int)) = true := by simp; omega
          have e4 : decide ((i : Int) < 256) = true := by simp; omega
          have hw2 : IntKind.i64.wrap ((i : Int) + 1) = ((i + 1 : Nat) : Int) := wrap64 (by omega) (by omega)
          have hus := tabUp_succ K i
          cases ht : inTab K i with
          | true =>
            rw [ht] at hus e2
            simp only [if_true] at hus
            repeat' first | refine SW.step good fun K hK => ?_ | refine X2 good fun K hK => ?_ | refine X3 good fun K hK => ?_ | refine SW.seqK fun J hJ => ?_ | refine SW.last good fun K hK => ?_ | (refine hK _ ?_; clear hK K) | (refine hJ _ _ (Wk.refl _) ?_; clear hJ J) | clear hK K | clear hJ J | refine SW.skip ?_ | refine SW.ret ?_ | refine SW.retT ?_ | refine SW.retB ?_ | refine SW.exit ?_ | refine SW.exitT ?_ | refine SW.exitB ?_ | refine XN ?_ | refine SW.block ?_ | refine SW.normB ?_ | refine SW.normT ?_ | refine XT ?_ | refine XF ?_ | refine XC (fun h => ?_) (fun h => ?_) | simp only [go_sem, optI, Option.getD_some, Option.getD_none, Int.reduceToNat, reduceIte, Nat.reduceEqDiff, Nat.reduceAdd, Nat.reduceMul, Nat.reduceSub, Nat.reduceLT, Nat.reduceLeDiff, reduceCtorEq, *] | refine Xs _ (fun h => ?_) (fun h => ?_) | with_reducible refine And.intro ?_ ?_
            all_goals first | (intro r hr; simp at hr; subst hr; rfl) | (simp [bytesC]; omega) | (simp; done) | omega | rfl | skip
            all_goals refine ⟨i + 1, by omega, by omega, ?_⟩
            all_goals (refine Xto _ _ ?_ ?_ <;> simp only [go_sem, optI, Option.getD_some, Option.getD_none, Int.reduceToNat, reduceIte, Nat.reduceEqDiff, Nat.reduceAdd, Nat.reduceMul, Nat.reduceSub, Nat.reduceLT, Nat.reduceLeDiff, reduceCtorEq, Option.some.injEq, or_true, true_or] <;> (repeat' with_reducible apply And.intro) <;> (try rfl))
            all_goals first | (rw [hus, List.map_append]; rfl) | skip
          | false =>
            rw [ht] at hus e2
            simp only [Bool.false_eq_true, if_false, List.append_nil] at hus
            repeat' first | refine SW.step good fun K hK => ?_ | refine X2 good fun K hK => ?_ | refine X3 good fun K hK => ?_ | refine SW.seqK fun J hJ => ?_ | refine SW.last good fun K hK => ?_ | (refine hK _ ?_; clear hK K) | (refine hJ _ _ (Wk.refl _) ?_; clear hJ J) | clear hK K | clear hJ J | refine SW.skip ?_ | refine SW.ret ?_ | refine SW.retT ?_ | refine SW.retB ?_ | refine SW.exit ?_ | refine SW.exitT ?_ | refine SW.exitB ?_ | refine XN ?_ | refine SW.block ?_ | refine SW.normB ?_ | refine SW.normT ?_ | refine XT ?_ | refine XF ?_ | refine XC (fun h => ?_) (fun h => ?_) | simp only [go_sem, optI, Option.getD_some, Option.getD_none, Int.reduceToNat, reduceIte, Nat.reduceEqDiff, Nat.reduceAdd, Nat.reduceMul, Nat.reduceSub, Nat.reduceLT, Nat.reduceLeDiff, reduceCtorEq, *] | refine Xs _ (fun h => ?_) (fun h => ?_) | with_reducible refine And.intro ?_ ?_
            all_goals first | (intro r hr; simp at hr; subst hr; rfl) | (simp [bytesC]; omega) | (simp; done) | omega | rfl | skip
            all_goals refine ⟨i + 1, by omega, by omega, ?_⟩
            all_goals (refine Xto _ _ ?_ ?_ <;> simp only [go_sem, optI, Option.getD_some, Option.getD_none, Int.reduceToNat, reduceIte, Nat.reduceEqDiff, Nat.reduceAdd, Nat.reduceMul, Nat.reduceSub, Nat.reduceLT, Nat.reduceLeDiff, reduceCtorEq, Option.some.injEq, or_true, true_or] <;> (repeat' with_reducible apply And.intro) <;> (try rfl))
            all_goals first | (rw [hus]; done) | skip
        · have hi : i = 256 := by omega
          subst hi
          have e3 : decide (((256 : Nat) : Int) < ((256 : Nat) : Int)) = false := by simp
          have e4 : decide (((256 : Nat) : Int) < 256) = false := by simp
          repeat' first | refine SW.step good fun K hK => ?_ | refine X2 good fun K hK => ?_ | refine X3 good fun K hK => ?_ | refine SW.seqK fun J hJ => ?_ | refine SW.last good fun K hK => ?_ | (refine hK _ ?_; clear hK K) | (refine hJ _ _ (Wk.refl _) ?_; clear hJ J) | clear hK K | clear hJ J | refine SW.skip ?_ | refine SW.ret ?_ | refine SW.retT ?_ | refine SW.retB ?_ | refine SW.exit ?_ | refine SW.exitT ?_ | refine SW.exitB ?_ | refine XN ?_ | refine SW.block ?_ | refine SW.normB ?_ | refine SW.normT ?_ | refine XT ?_ | refine XF ?_ | refine XC (fun h => ?_) (fun h => ?_) | simp only [go_sem, optI, Option.getD_some, Option.getD_none, Int.reduceToNat, reduceIte, Nat.reduceEqDiff, Nat.reduceAdd, Nat.reduceMul, Nat.reduceSub, Nat.reduceLT, Nat.reduceLeDiff, reduceCtorEq, *] | refine Xs _ (fun h => ?_) (fun h => ?_) | with_reducible refine And.intro ?_ ?_
          all_goals first | (intro r hr; simp at hr; subst hr; rfl) | (simp [bytesC]; omega) | (simp; done) | omega | rfl | skip
          all_goals refine Xro (i := .s 58 0) ?_ ?_
          all_goals simp [Wn.leO, resOf, Wn.le, Wn.leL, Wn.cw, C.scal, scal, outW, idsTo, hrOf, tabI, tabUp]
theorem tabI_len (K : List Int) : (tabI K).length ≤ 256 := tabUp_len K 256
set_option maxHeartbeats 2000000 in
theorem ac_lawKeysIn (L : List Peer) (hL : L.length ≤ 9223372036854775807) (hT : ∀ p, p ∈ L → p.ok) :
    AC Try.prog 18 [encRing false L] (vB true) [] := by
  have hs1 := ac_szRing L 1048576 (by omega) (by omega) hL hT
  by_cases h1 : (1048576 : Int) < (peersSz L : Nat)
  · rw [szOf_n h1] at hs1
    refine XA good (fn := Try.f18) rfl ?_
    simp only [entry, List.getD_cons_zero, List.getD_cons_succ]
    repeat' first | refine SW.step good fun K hK => ?_ | refine X2 good fun K hK => ?_ | refine X3 good fun K hK => ?_ | refine SW.seqK fun J hJ => ?_ | refine SW.last good fun K hK => ?_ | (refine hK _ ?_; clear hK K) | (refine hJ _ _ (Wk.refl _) ?_; clear hJ J) | clear hK K | clear hJ J | refine SW.skip ?_ | refine SW.ret ?_ | refine SW.retT ?_ | refine SW.retB ?_ | refine SW.exit ?_ | refine SW.exitT ?_ | refine SW.exitB ?_ | refine XN ?_ | refine SW.block ?_ | refine SW.normB ?_ | refine SW.normT ?_ | refine XT ?_ | refine XF ?_ | refine XC (fun h => ?_) (fun h => ?_) | refine X0 ?_ | refine Xv ?_ | refine X1 (hs1) ?_ | simp only [go_sem, optI, Option.getD_some, Option.getD_none, Int.reduceToNat, reduceIte, Nat.reduceEqDiff, Nat.reduceAdd, Nat.reduceMul, Nat.reduceSub, Nat.reduceLT, Nat.reduceLeDiff, reduceCtorEq, *] | refine Xs _ (fun h => ?_) (fun h => ?_) | with_reducible refine And.intro ?_ ?_
    all_goals refine Xrb ?_
    all_goals rfl
  · rw [szOf_p h1] at hs1
    have e1 : decide ((1048576 : Int) - (peersSz L : Nat) < 0) = false := by simp only [decide_eq_false_iff_not]; omega
    have h2 : peersSz L ≤ 1048576 := by omega
    have hs := peers_small h2
    have hmk := mkPeers_le L
    have hn : (tabI (keysI L)).length ≤ 1048576 := by have := tabI_len (keysI L); omega
    have hr := mcg_Ring L 1 hs.1 hs.2 (by omega)
    have hm := mc_IntS (tabI (keysI L)) 1 hn (by omega)
    have hh := ac_heldIntS (tabI (keysI L)).length 1 hn (by omega)
    have he := ac_eqIntS (tabI (keysI L)) hn
    have a1 := ac_KeysIn' L h2
    have a2 := ac_KeysIn L h2
    generalize tabI (keysI L) = R at *
    have e2 : decide (((1 + sumOf mkPeer L : Nat) : Int) < 0) = false := by simp; omega
    have e3 : decide (((1 + R.length : Nat) : Int) < 0) = false := by simp; omega
    refine XA good (fn := Try.f18) rfl ?_
    simp only [entry, List.getD_cons_zero, List.getD_cons_succ]
    repeat' first | refine SW.step good fun K hK => ?_ | refine X2 good fun K hK => ?_ | refine X3 good fun K hK => ?_ | refine SW.seqK fun J hJ => ?_ | refine SW.last good fun K hK => ?_ | (refine hK _ ?_; clear hK K) | (refine hJ _ _ (Wk.refl _) ?_; clear hJ J) | clear hK K | clear hJ J | refine SW.skip ?_ | refine SW.ret ?_ | refine SW.retT ?_ | refine SW.retB ?_ | refine SW.exit ?_ | refine SW.exitT ?_ | refine SW.exitB ?_ | refine XN ?_ | refine SW.block ?_ | refine SW.normB ?_ | refine SW.normT ?_ | refine XT ?_ | refine XF ?_ | refine XC (fun h => ?_) (fun h => ?_) | refine Xr (ac_toRing L hs.1 hs.2) ?_ | refine X0 ?_ | refine Xv ?_ | refine X1 (hs1) ?_ | refine X1 (a1) ?_ | refine X1 (a2) ?_ | refine X1 (he) ?_ | refine X1 (ac_eqRing L hs.1 hs.2) ?_ | refine X1 (hh) ?_ | (refine Xm (.s 20 0) ?_; first | refine Xd (hr) ?_ | refine Xa (hr) ?_ | refine Xb (hr) ?_) | (refine Xm (.s 22 0) ?_; first | refine Xd (hm) ?_ | refine Xa (hm) ?_ | refine Xb (hm) ?_) | simp only [go_sem, optI, Option.getD_some, Option.getD_none, Int.reduceToNat, reduceIte, Nat.reduceEqDiff, Nat.reduceAdd, Nat.reduceMul, Nat.reduceSub, Nat.reduceLT, Nat.reduceLeDiff, reduceCtorEq, *] | refine Xs _ (fun h => ?_) (fun h => ?_) | with_reducible refine And.intro ?_ ?_
    all_goals first | omega | (simp; omega) | skip
    all_goals first | (refine Xrb ?_; rfl) | skip
end Go.Proofs.Ytbpfciidbgkekaa.AB
