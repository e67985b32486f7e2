/- How much each carries, and the most: both functions, and the law. -/
import Derived.Test.YtbpfciidbgkekaaAbGmHere
import Derived.Test.YtbpfciidbgkekaaAbGuHere
namespace Go.Proofs.Ytbpfciidbgkekaa.AB
open Go
set_option maxRecDepth 100000
set_option linter.unusedSimpArgs false
set_option linter.unusedVariables false
theorem mc_Sort (M : List Int) (hM : M.length ≤ 1048576) : MC Try.prog 133 [.own (.a 0)] [.row false 3 1 (M.map intC)] (.tup []) [some (.row false 3 1 ((sortI M).map intC))] [] :=
  calls_Sort _ M hM Try.func133 (by decide +kernel) (by kernel_rfl) (fun blk cap w h1 h2 => Try.slices_Sort_int blk 0 cap M w h1 h2 (by omega)) (fun w => Try.slices_Sort_int_none none 0 w)
theorem ac_HereI (L : List Peer) (hL : L.length ≤ 1048576) : AC Try.prog 137 [encRing true L] (.own (.r 0)) [.row false 3 1 ((hereS L).map intC)] := ac_HereOf mc_Sort L hL
theorem hereS_mem {L : List Peer} {n : Int} (h : n ∈ hereS L) : ∃ p, p ∈ L ∧ hereB n p = true := by
  have h1 := (sortI_perm _).mem_iff.1 h
  unfold hereI at h1
  obtain ⟨p, hp, rfl⟩ := List.mem_map.1 h1
  rw [List.mem_filter] at hp
  exact ⟨p, hp.1, by simp [hereB, hp.2]⟩
theorem here_at {L : List Peer} {n : Int} (h : n ∈ hereS L) : ∃ i, ∃ hi : i < L.length, idx (hereB n) L 0 = (i : Int) ∧ L.find? (hereB n) = some L[i] ∧ hereB n L[i] = true := by
  rcases idx_spec (hereB n) L 0 with ⟨_, h2⟩ | ⟨i, hi, h1, h2, h3⟩
  · obtain ⟨p, hp, hb⟩ := hereS_mem h
    have := List.find?_eq_none.1 h2 p hp
    exact absurd hb this
  · exact ⟨i, hi, by simpa using h1, h2, h3⟩
/-- what the first with this Id that is there carries -/
def loadAt (L : List Peer) (n : Int) : Int := match L.find? (hereB n) with
  | some p => (peerItems p : Nat)
  | none => 0
def loadsOf (L : List Peer) : List Int := (hereS L).map (loadAt L)
set_option maxHeartbeats 2000000 in
theorem ac_LoadOf (L : List Peer) (h : peersSz L ≤ 1048576) : AC Try.prog 78 [encRing true L] (.own (.r 0)) [.row false 3 1 ((loadsOf L).map intC)] := by
  have hs := peers_small h
  have hr := ringItems_le L
  have hh := ac_HereI L hs.1
  have hlen := hereS_len L
  unfold encRing at *
  refine XA good (fn := Try.f78) rfl ?_
  simp only [entry, List.getD_cons_zero, List.getD_cons_succ]
  repeat' first | refine SW.step good fun K hK => ?_ | refine X2 good fun K hK => ?_ | refine X3 good fun K hK => ?_ | refine SW.seqK fun J hJ => ?_ | refine SW.last good fun K hK => ?_ | (refine hK _ ?_; clear hK K) | (refine hJ _ _ (Wk.refl _) ?_; clear hJ J) | clear hK K | clear hJ J | refine SW.skip ?_ | refine SW.ret ?_ | refine SW.retT ?_ | refine SW.retB ?_ | refine SW.exit ?_ | refine SW.exitT ?_ | refine SW.exitB ?_ | refine XN ?_ | refine SW.block ?_ | refine SW.normB ?_ | refine SW.normT ?_ | refine XT ?_ | refine XF ?_ | refine XC (fun h => ?_) (fun h => ?_) | refine X0 ?_ | refine Xv ?_ | refine X1 (hh) ?_ | simp only [go_sem, optI, Option.getD_some, Option.getD_none, Int.reduceToNat, reduceIte, Nat.reduceEqDiff, Nat.reduceAdd, Nat.reduceMul, Nat.reduceSub, Nat.reduceLT, Nat.reduceLeDiff, reduceCtorEq, *] | refine Xs _ (fun h => ?_) (fun h => ?_) | with_reducible refine And.intro ?_ ?_
  refine SW.loopTo (α := Nat) (fun k => ⟨sl [(1, .ptr (.s 1 0) 0), (3, .own (.s 6 0)), (8, .own (.s 8 0)), (9, vI (hereS L).length), (10, vI k)], hl [(.s 1 0, .box [.c true (.sl (L.map peerC))]), (.s 6 0, .row false 3 1 ((((hereS L).take k).map (loadAt L)).map intC)), (.s 8 0, .row false 3 1 ((hereS L).map intC))]⟩) (fun k => (hereS L).length - k) 0 (fun k => k ≤ (hereS L).length) ?_ (by simp) ?_
  · (refine Xto _ _ ?_ ?_ <;> simp only [go_sem, optI, Option.getD_some, Option.getD_none, Int.reduceToNat, reduceIte, Nat.reduceEqDiff, Nat.reduceAdd, Nat.reduceMul, Nat.reduceSub, Nat.reduceLT, Nat.reduceLeDiff, reduceCtorEq, Option.some.injEq, or_true, true_or] <;> (repeat' with_reducible apply And.intro) <;> (try rfl))
  · intro k h2
    by_cases hk : k < (hereS L).length
    · have e := getD_map (hereS L) intC [] hk
      have e1 : decide ((k : Int) < (hereS L).length) = true := by simp; omega
      have hw : IntKind.i64.wrap ((k : Int) + 1) = ((k + 1 : Nat) : Int) := wrap64 (by omega) (by omega)
      obtain ⟨i, hi, i1, i2, _⟩ := here_at (List.getElem_mem hk)
      have hp := ac_peerHere L (hereS L)[k] hs.1
      rw [i1] at hp
      unfold encRing at hp
      have e2 := getD_map L peerC [] hi
      have hps := hs.2 _ (List.getElem_mem hi)
      have hle : sumOf itemsOf L[i].shelves ≤ sumOf peerItems L := sumOf_mem (f := peerItems) (List.getElem_mem hi)
      have hld := ac_load L[i] hps.2.2.1 (by omega)
      have hv : loadAt L (hereS L)[k] = ((sumOf itemsOf L[i].shelves : Nat) : Int) := by unfold loadAt; rw [i2]; rfl
      have ht : ((hereS L).take (k + 1)).map (loadAt L) = ((hereS L).take k).map (loadAt L) ++ [((sumOf itemsOf L[i].shelves : Nat) : Int)] := by
        rw [List.take_add_one, List.getElem?_eq_getElem hk, List.map_append, ← hv]; rfl
      have hn : ((((hereS L).take k).map (loadAt L)).map intC).length = k := by simp; omega
      clear i1 i2 hv hle
      repeat' first | refine SW.step good fun K hK => ?_ | refine X2 good fun K hK => ?_ | refine X3 good fun K hK => ?_ | refine SW.seqK fun J hJ => ?_ | refine SW.last good fun K hK => ?_ | (refine hK _ ?_; clear hK K) | (refine hJ _ _ (Wk.refl _) ?_; clear hJ J) | clear hK K | clear hJ J | refine SW.skip ?_ | refine SW.ret ?_ | refine SW.retT ?_ | refine SW.retB ?_ | refine SW.exit ?_ | refine SW.exitT ?_ | refine SW.exitB ?_ | refine XN ?_ | refine SW.block ?_ | refine SW.normB ?_ | refine SW.normT ?_ | refine XT ?_ | refine XF ?_ | refine XC (fun h => ?_) (fun h => ?_) | refine X0 ?_ | refine Xv ?_ | refine X1 (hp) ?_ | refine X1 (hld) ?_ | simp only [go_sem, optI, Option.getD_some, Option.getD_none, Int.reduceToNat, reduceIte, Nat.reduceEqDiff, Nat.reduceAdd, Nat.reduceMul, Nat.reduceSub, Nat.reduceLT, Nat.reduceLeDiff, reduceCtorEq, *] | refine Xs _ (fun h => ?_) (fun h => ?_) | with_reducible refine And.intro ?_ ?_
      all_goals first | (intro r hr; simp at hr; subst hr; rfl) | (simp [bytesC]; omega) | (simp; done) | omega | rfl | skip
      all_goals refine ⟨k + 1, by omega, by omega, ?_⟩
      all_goals (refine Xto _ _ ?_ ?_ <;> simp only [go_sem, optI, Option.getD_some, Option.getD_none, Int.reduceToNat, reduceIte, Nat.reduceEqDiff, Nat.reduceAdd, Nat.reduceMul, Nat.reduceSub, Nat.reduceLT, Nat.reduceLeDiff, reduceCtorEq, Option.some.injEq, or_true, true_or] <;> (repeat' with_reducible apply And.intro) <;> (try rfl))
      all_goals first | (rw [ht, List.map_append]; rfl) | skip
    · have hk : k = (hereS L).length := by omega
      subst hk
      have e1 : decide (((hereS L).length : Int) < (hereS L).length) = false := by simp
      rw [List.take_length]
      repeat' first | refine SW.step good fun K hK => ?_ | refine X2 good fun K hK => ?_ | refine X3 good fun K hK => ?_ | refine SW.seqK fun J hJ => ?_ | refine SW.last good fun K hK => ?_ | (refine hK _ ?_; clear hK K) | (refine hJ _ _ (Wk.refl _) ?_; clear hJ J) | clear hK K | clear hJ J | refine SW.skip ?_ | refine SW.ret ?_ | refine SW.retT ?_ | refine SW.retB ?_ | refine SW.exit ?_ | refine SW.exitT ?_ | refine SW.exitB ?_ | refine XN ?_ | refine SW.block ?_ | refine SW.normB ?_ | refine SW.normT ?_ | refine XT ?_ | refine XF ?_ | refine XC (fun h => ?_) (fun h => ?_) | simp only [go_sem, optI, Option.getD_some, Option.getD_none, Int.reduceToNat, reduceIte, Nat.reduceEqDiff, Nat.reduceAdd, Nat.reduceMul, Nat.reduceSub, Nat.reduceLT, Nat.reduceLeDiff, reduceCtorEq, *] | refine Xs _ (fun h => ?_) (fun h => ?_) | with_reducible refine And.intro ?_ ?_
      all_goals refine Xro (i := .s 6 0) ?_ ?_
      all_goals simp [Wn.leO, resOf, Wn.le, Wn.leL, Wn.cw, C.scal, scal, outW, idsTo, hrOf, loadsOf]
set_option maxHeartbeats 2000000 in
theorem ac_LoadOf' (L : List Peer) (h : peersSz L ≤ 1048576) : AC Try.prog 77 [encRing true L] (.own (.r 0)) [.row false 3 1 ((loadsOf L).map intC)] := by
  have hs := peers_small h
  have hr := ringItems_le L
  have hh := ac_HereOf' L hs.1
  have hlen := hereS_len L
  unfold encRing at *
  refine XA good (fn := Try.f77) rfl ?_
  simp only [entry, List.getD_cons_zero, List.getD_cons_succ]
  repeat' first | refine SW.step good fun K hK => ?_ | refine X2 good fun K hK => ?_ | refine X3 good fun K hK => ?_ | refine SW.seqK fun J hJ => ?_ | refine SW.last good fun K hK => ?_ | (refine hK _ ?_; clear hK K) | (refine hJ _ _ (Wk.refl _) ?_; clear hJ J) | clear hK K | clear hJ J | refine SW.skip ?_ | refine SW.ret ?_ | refine SW.retT ?_ | refine SW.retB ?_ | refine SW.exit ?_ | refine SW.exitT ?_ | refine SW.exitB ?_ | refine XN ?_ | refine SW.block ?_ | refine SW.normB ?_ | refine SW.normT ?_ | refine XT ?_ | refine XF ?_ | refine XC (fun h => ?_) (fun h => ?_) | refine X0 ?_ | refine Xv ?_ | refine X1 (hh) ?_ | simp only [go_sem, optI, Option.getD_some, Option.getD_none, Int.reduceToNat, reduceIte, Nat.reduceEqDiff, Nat.reduceAdd, Nat.reduceMul, Nat.reduceSub, Nat.reduceLT, Nat.reduceLeDiff, reduceCtorEq, *] | refine Xs _ (fun h => ?_) (fun h => ?_) | with_reducible refine And.intro ?_ ?_
  refine SW.loopTo (α := Nat) (fun k => ⟨sl [(1, .ptr (.s 1 0) 0), (3, .own (.s 6 0)), (4, .own (.s 8 0)), (5, vI k)], hl [(.s 1 0, .box [.c true (.sl (L.map peerC))]), (.s 6 0, .row false 3 1 ((((hereS L).take k).map (loadAt L)).map intC)), (.s 8 0, .row false 3 1 ((hereS L).map intC))]⟩) (fun k => (hereS L).length - k) 0 (fun k => k ≤ (hereS L).length) ?_ (by simp) ?_
  · (refine Xto _ _ ?_ ?_ <;> simp only [go_sem, optI, Option.getD_some, Option.getD_none, Int.reduceToNat, reduceIte, Nat.reduceEqDiff, Nat.reduceAdd, Nat.reduceMul, Nat.reduceSub, Nat.reduceLT, Nat.reduceLeDiff, reduceCtorEq, Option.some.injEq, or_true, true_or] <;> (repeat' with_reducible apply And.intro) <;> (try rfl))
  · intro k h2
    by_cases hk : k < (hereS L).length
    · have e := getD_map (hereS L) intC [] hk
      have e1 : decide ((k : Int) < (hereS L).length) = true := by simp; omega
      have hw : IntKind.i64.wrap ((k : Int) + 1) = ((k + 1 : Nat) : Int) := wrap64 (by omega) (by omega)
      obtain ⟨i, hi, i1, i2, _⟩ := here_at (List.getElem_mem hk)
      have hp := ac_PeerAt L (hereS L)[k] hs.1
      rw [i1] at hp
      unfold encRing at hp
      have e2 := getD_map L peerC [] hi
      have hps := hs.2 _ (List.getElem_mem hi)
      have hle : sumOf itemsOf L[i].shelves ≤ sumOf peerItems L := sumOf_mem (f := peerItems) (List.getElem_mem hi)
      have hld := ac_l23Items L[i] hps.2.2.1 (by omega)
      have hv : loadAt L (hereS L)[k] = ((sumOf itemsOf L[i].shelves : Nat) : Int) := by unfold loadAt; rw [i2]; rfl
      have ht : ((hereS L).take (k + 1)).map (loadAt L) = ((hereS L).take k).map (loadAt L) ++ [((sumOf itemsOf L[i].shelves : Nat) : Int)] := by
        rw [List.take_add_one, List.getElem?_eq_getElem hk, List.map_append, ← hv]; rfl
      have hn : ((((hereS L).take k).map (loadAt L)).map intC).length = k := by simp; omega
      clear i1 i2 hv hle
      repeat' first | refine SW.step good fun K hK => ?_ | refine X2 good fun K hK => ?_ | refine X3 good fun K hK => ?_ | refine SW.seqK fun J hJ => ?_ | refine SW.last good fun K hK => ?_ | (refine hK _ ?_; clear hK K) | (refine hJ _ _ (Wk.refl _) ?_; clear hJ J) | clear hK K | clear hJ J | refine SW.skip ?_ | refine SW.ret ?_ | refine SW.retT ?_ | refine SW.retB ?_ | refine SW.exit ?_ | refine SW.exitT ?_ | refine SW.exitB ?_ | refine XN ?_ | refine SW.block ?_ | refine SW.normB ?_ | refine SW.normT ?_ | refine XT ?_ | refine XF ?_ | refine XC (fun h => ?_) (fun h => ?_) | refine X0 ?_ | refine Xv ?_ | refine X1 (hp) ?_ | refine X1 (hld) ?_ | simp only [go_sem, optI, Option.getD_some, Option.getD_none, Int.reduceToNat, reduceIte, Nat.reduceEqDiff, Nat.reduceAdd, Nat.reduceMul, Nat.reduceSub, Nat.reduceLT, Nat.reduceLeDiff, reduceCtorEq, *] | refine Xs _ (fun h => ?_) (fun h => ?_) | with_reducible refine And.intro ?_ ?_
      all_goals first | (intro r hr; simp at hr; subst hr; rfl) | (simp [bytesC]; omega) | (simp; done) | omega | rfl | skip
      all_goals refine ⟨k + 1, by omega, by omega, ?_⟩
      all_goals (refine Xto _ _ ?_ ?_ <;> simp only [go_sem, optI, Option.getD_some, Option.getD_none, Int.reduceToNat, reduceIte, Nat.reduceEqDiff, Nat.reduceAdd, Nat.reduceMul, Nat.reduceSub, Nat.reduceLT, Nat.reduceLeDiff, reduceCtorEq, Option.some.injEq, or_true, true_or] <;> (repeat' with_reducible apply And.intro) <;> (try rfl))
      all_goals first | (rw [ht, List.map_append]; rfl) | skip
    · have hk : k = (hereS L).length := by omega
      subst hk
      have e1 : decide (((hereS L).length : Int) < (hereS L).length) = false := by simp
      rw [List.take_length]
      repeat' first | refine SW.step good fun K hK => ?_ | refine X2 good fun K hK => ?_ | refine X3 good fun K hK => ?_ | refine SW.seqK fun J hJ => ?_ | refine SW.last good fun K hK => ?_ | (refine hK _ ?_; clear hK K) | (refine hJ _ _ (Wk.refl _) ?_; clear hJ J) | clear hK K | clear hJ J | refine SW.skip ?_ | refine SW.ret ?_ | refine SW.retT ?_ | refine SW.retB ?_ | refine SW.exit ?_ | refine SW.exitT ?_ | refine SW.exitB ?_ | refine XN ?_ | refine SW.block ?_ | refine SW.normB ?_ | refine SW.normT ?_ | refine XT ?_ | refine XF ?_ | refine XC (fun h => ?_) (fun h => ?_) | simp only [go_sem, optI, Option.getD_some, Option.getD_none, Int.reduceToNat, reduceIte, Nat.reduceEqDiff, Nat.reduceAdd, Nat.reduceMul, Nat.reduceSub, Nat.reduceLT, Nat.reduceLeDiff, reduceCtorEq, *] | refine Xs _ (fun h => ?_) (fun h => ?_) | with_reducible refine And.intro ?_ ?_
      all_goals refine Xro (i := .s 6 0) ?_ ?_
      all_goals simp [Wn.leO, resOf, Wn.le, Wn.leL, Wn.cw, C.scal, scal, outW, idsTo, hrOf, loadsOf]
theorem loadAt_le (L : List Peer) (n : Int) : 0 ≤ loadAt L n ∧ loadAt L n ≤ (sumOf peerItems L : Nat) := by
  unfold loadAt
  split
  · rename_i p hp
    have := sumOf_mem (f := peerItems) (List.mem_of_find?_eq_some hp)
    omega
  · omega
def mostOf (l : List Int) : Int := l.foldl max 0
theorem mostOf_take (l : List Int) {k : Nat} (h : k < l.length) : mostOf (l.take (k + 1)) = max (mostOf (l.take k)) l[k] := by
  unfold mostOf; rw [List.take_add_one, List.getElem?_eq_getElem h, List.foldl_append]; rfl
theorem loadsOf_len (L : List Peer) : (loadsOf L).length = (hereS L).length := by simp [loadsOf]
set_option maxHeartbeats 2000000 in
theorem ac_MostLoad (L : List Peer) (h : peersSz L ≤ 1048576) : AC Try.prog 74 [encRing true L] (vI (mostOf (loadsOf L))) [] := by
  have hh := ac_LoadOf L h
  have hlen := hereS_len L
  have hs := (peers_small h).1
  rw [← loadsOf_len] at hlen
  clear h
  generalize loadsOf L = l at *
  refine XA good (fn := Try.f74) rfl ?_
  simp only [entry, List.getD_cons_zero, List.getD_cons_succ]
  repeat' first | refine SW.step good fun K hK => ?_ | refine X2 good fun K hK => ?_ | refine X3 good fun K hK => ?_ | refine SW.seqK fun J hJ => ?_ | refine SW.last good fun K hK => ?_ | (refine hK _ ?_; clear hK K) | (refine hJ _ _ (Wk.refl _) ?_; clear hJ J) | clear hK K | clear hJ J | refine SW.skip ?_ | refine SW.ret ?_ | refine SW.retT ?_ | refine SW.retB ?_ | refine SW.exit ?_ | refine SW.exitT ?_ | refine SW.exitB ?_ | refine XN ?_ | refine SW.block ?_ | refine SW.normB ?_ | refine SW.normT ?_ | refine XT ?_ | refine XF ?_ | refine XC (fun h => ?_) (fun h => ?_) | refine X0 ?_ | refine Xv ?_ | refine X1 (hh) ?_ | simp only [go_sem, optI, Option.getD_some, Option.getD_none, Int.reduceToNat, reduceIte, Nat.reduceEqDiff, Nat.reduceAdd, Nat.reduceMul, Nat.reduceSub, Nat.reduceLT, Nat.reduceLeDiff, reduceCtorEq, *] | refine Xs _ (fun h => ?_) (fun h => ?_) | with_reducible refine And.intro ?_ ?_
  refine SW.loopTo (α := Nat) (fun k => ⟨sl [(3, vI (mostOf (l.take k))), (7, .own (.s 7 0)), (8, vI l.length), (9, vI k)], hl [(.s 7 0, .row false 3 1 (l.map intC))]⟩) (fun k => l.length - k) 0 (fun k => k ≤ l.length) ?_ (by simp) ?_
  · (refine Xto _ _ ?_ ?_ <;> simp only [go_sem, optI, Option.getD_some, Option.getD_none, Int.reduceToNat, reduceIte, Nat.reduceEqDiff, Nat.reduceAdd, Nat.reduceMul, Nat.reduceSub, Nat.reduceLT, Nat.reduceLeDiff, reduceCtorEq, Option.some.injEq, or_true, true_or] <;> (repeat' with_reducible apply And.intro) <;> (try rfl))
  · intro k h2
    by_cases hk : k < l.length
    · have e := getD_map l intC [] hk
      have e1 : decide ((k : Int) < l.length) = true := by simp; omega
      have hw : IntKind.i64.wrap ((k : Int) + 1) = ((k + 1 : Nat) : Int) := wrap64 (by omega) (by omega)
      have ht : mostOf (l.take (k + 1)) = if mostOf (l.take k) < l[k] then l[k] else mostOf (l.take k) := by rw [mostOf_take l hk]; split <;> omega
      repeat' first | refine SW.step good fun K hK => ?_ | refine X2 good fun K hK => ?_ | refine X3 good fun K hK => ?_ | refine SW.seqK fun J hJ => ?_ | refine SW.last good fun K hK => ?_ | (refine hK _ ?_; clear hK K) | (refine hJ _ _ (Wk.refl _) ?_; clear hJ J) | clear hK K | clear hJ J | refine SW.skip ?_ | refine SW.ret ?_ | refine SW.retT ?_ | refine SW.retB ?_ | refine SW.exit ?_ | refine SW.exitT ?_ | refine SW.exitB ?_ | refine XN ?_ | refine SW.block ?_ | refine SW.normB ?_ | refine SW.normT ?_ | refine XT ?_ | refine XF ?_ | refine XC (fun h => ?_) (fun h => ?_) | simp only [go_sem, optI, Option.getD_some, Option.getD_none, Int.reduceToNat, reduceIte, Nat.reduceEqDiff, Nat.reduceAdd, Nat.reduceMul, Nat.reduceSub, Nat.reduceLT, Nat.reduceLeDiff, reduceCtorEq, *] | refine Xs _ (fun h => ?_) (fun h => ?_) | with_reducible refine And.intro ?_ ?_
      all_goals first | (intro r hr; simp at hr; subst hr; rfl) | (simp [bytesC]; omega) | (simp; done) | omega | rfl | skip
      all_goals refine ⟨k + 1, by omega, by omega, ?_⟩
      all_goals (refine Xto _ _ ?_ ?_ <;> simp only [go_sem, optI, Option.getD_some, Option.getD_none, Int.reduceToNat, reduceIte, Nat.reduceEqDiff, Nat.reduceAdd, Nat.reduceMul, Nat.reduceSub, Nat.reduceLT, Nat.reduceLeDiff, reduceCtorEq, Option.some.injEq, or_true, true_or] <;> (repeat' with_reducible apply And.intro) <;> (try rfl))
      all_goals first | (rw [ht]; done) | skip
    · have hk : k = l.length := by omega
      subst hk
      have e1 : decide ((l.length : Int) < l.length) = false := by simp
      repeat' first | refine SW.step good fun K hK => ?_ | refine X2 good fun K hK => ?_ | refine X3 good fun K hK => ?_ | refine SW.seqK fun J hJ => ?_ | refine SW.last good fun K hK => ?_ | (refine hK _ ?_; clear hK K) | (refine hJ _ _ (Wk.refl _) ?_; clear hJ J) | clear hK K | clear hJ J | refine SW.skip ?_ | refine SW.ret ?_ | refine SW.retT ?_ | refine SW.retB ?_ | refine SW.exit ?_ | refine SW.exitT ?_ | refine SW.exitB ?_ | refine XN ?_ | refine SW.block ?_ | refine SW.normB ?_ | refine SW.normT ?_ | refine XT ?_ | refine XF ?_ | refine XC (fun h => ?_) (fun h => ?_) | simp only [go_sem, optI, Option.getD_some, Option.getD_none, Int.reduceToNat, reduceIte, Nat.reduceEqDiff, Nat.reduceAdd, Nat.reduceMul, Nat.reduceSub, Nat.reduceLT, Nat.reduceLeDiff, reduceCtorEq, *] | refine Xs _ (fun h => ?_) (fun h => ?_) | with_reducible refine And.intro ?_ ?_
      all_goals refine Xri ?_
      all_goals rw [List.take_length]
set_option maxHeartbeats 2000000 in
theorem ac_MostLoad' (L : List Peer) (h : peersSz L ≤ 1048576) : AC Try.prog 73 [encRing true L] (vI (mostOf (loadsOf L))) [] := by
  have hh := ac_LoadOf' L h
  have hlen := hereS_len L
  have hs := (peers_small h).1
  rw [← loadsOf_len] at hlen
  clear h
  generalize loadsOf L = l at *
  refine XA good (fn := Try.f73) rfl ?_
  simp only [entry, List.getD_cons_zero, List.getD_cons_succ]
  repeat' first | refine SW.step good fun K hK => ?_ | refine X2 good fun K hK => ?_ | refine X3 good fun K hK => ?_ | refine SW.seqK fun J hJ => ?_ | refine SW.last good fun K hK => ?_ | (refine hK _ ?_; clear hK K) | (refine hJ _ _ (Wk.refl _) ?_; clear hJ J) | clear hK K | clear hJ J | refine SW.skip ?_ | refine SW.ret ?_ | refine SW.retT ?_ | refine SW.retB ?_ | refine SW.exit ?_ | refine SW.exitT ?_ | refine SW.exitB ?_ | refine XN ?_ | refine SW.block ?_ | refine SW.normB ?_ | refine SW.normT ?_ | refine XT ?_ | refine XF ?_ | refine XC (fun h => ?_) (fun h => ?_) | refine X0 ?_ | refine Xv ?_ | refine X1 (hh) ?_ | simp only [go_sem, optI, Option.getD_some, Option.getD_none, Int.reduceToNat, reduceIte, Nat.reduceEqDiff, Nat.reduceAdd, Nat.reduceMul, Nat.reduceSub, Nat.reduceLT, Nat.reduceLeDiff, reduceCtorEq, *] | refine Xs _ (fun h => ?_) (fun h => ?_) | with_reducible refine And.intro ?_ ?_
  refine SW.loopTo (α := Nat) (fun k => ⟨sl [(3, vI (mostOf (l.take k))), (4, .own (.s 7 0)), (5, vI k)], hl [(.s 7 0, .row false 3 1 (l.map intC))]⟩) (fun k => l.length - k) 0 (fun k => k ≤ l.length) ?_ (by simp) ?_
  · (refine Xto _ _ ?_ ?_ <;> simp only [go_sem, optI, Option.getD_some, Option.getD_none, Int.reduceToNat, reduceIte, Nat.reduceEqDiff, Nat.reduceAdd, Nat.reduceMul, Nat.reduceSub, Nat.reduceLT, Nat.reduceLeDiff, reduceCtorEq, Option.some.injEq, or_true, true_or] <;> (repeat' with_reducible apply And.intro) <;> (try rfl))
  · intro k h2
    by_cases hk : k < l.length
    · have e := getD_map l intC [] hk
      have e1 : decide ((k : Int) < l.length) = true := by simp; omega
      have hw : IntKind.i64.wrap ((k : Int) + 1) = ((k + 1 : Nat) : Int) := wrap64 (by omega) (by omega)
      have ht := mostOf_take l hk
      cases hc : decide (mostOf (l.take k) < l[k]) with
      | true =>
        have hm : mostOf (l.take (k + 1)) = l[k] := by rw [ht]; simp at hc; omega
        repeat' first | refine SW.step good fun K hK => ?_ | refine X2 good fun K hK => ?_ | refine X3 good fun K hK => ?_ | refine SW.seqK fun J hJ => ?_ | refine SW.last good fun K hK => ?_ | (refine hK _ ?_; clear hK K) | (refine hJ _ _ (Wk.refl _) ?_; clear hJ J) | clear hK K | clear hJ J | refine SW.skip ?_ | refine SW.ret ?_ | refine SW.retT ?_ | refine SW.retB ?_ | refine SW.exit ?_ | refine SW.exitT ?_ | refine SW.exitB ?_ | refine XN ?_ | refine SW.block ?_ | refine SW.normB ?_ | refine SW.normT ?_ | refine XT ?_ | refine XF ?_ | refine XC (fun h => ?_) (fun h => ?_) | simp only [go_sem, optI, Option.getD_some, Option.getD_none, Int.reduceToNat, reduceIte, Nat.reduceEqDiff, Nat.reduceAdd, Nat.reduceMul, Nat.reduceSub, Nat.reduceLT, Nat.reduceLeDiff, reduceCtorEq, *] | refine Xs _ (fun h => ?_) (fun h => ?_) | with_reducible refine And.intro ?_ ?_
        all_goals first | (intro r hr; simp at hr; subst hr; rfl) | (simp [bytesC]; omega) | (simp; done) | omega | rfl | skip
        all_goals refine ⟨k + 1, by omega, by omega, ?_⟩
        all_goals (refine Xto _ _ ?_ ?_ <;> simp only [go_sem, optI, Option.getD_some, Option.getD_none, Int.reduceToNat, reduceIte, Nat.reduceEqDiff, Nat.reduceAdd, Nat.reduceMul, Nat.reduceSub, Nat.reduceLT, Nat.reduceLeDiff, reduceCtorEq, Option.some.injEq, or_true, true_or] <;> (repeat' with_reducible apply And.intro) <;> (try rfl))
        all_goals first | (rw [hm]; done) | skip
      | false =>
        have hm : mostOf (l.take (k + 1)) = mostOf (l.take k) := by rw [ht]; simp at hc; omega
        repeat' first | refine SW.step good fun K hK => ?_ | refine X2 good fun K hK => ?_ | refine X3 good fun K hK => ?_ | refine SW.seqK fun J hJ => ?_ | refine SW.last good fun K hK => ?_ | (refine hK _ ?_; clear hK K) | (refine hJ _ _ (Wk.refl _) ?_; clear hJ J) | clear hK K | clear hJ J | refine SW.skip ?_ | refine SW.ret ?_ | refine SW.retT ?_ | refine SW.retB ?_ | refine SW.exit ?_ | refine SW.exitT ?_ | refine SW.exitB ?_ | refine XN ?_ | refine SW.block ?_ | refine SW.normB ?_ | refine SW.normT ?_ | refine XT ?_ | refine XF ?_ | refine XC (fun h => ?_) (fun h => ?_) | simp only [go_sem, optI, Option.getD_some, Option.getD_none, Int.reduceToNat, reduceIte, Nat.reduceEqDiff, Nat.reduceAdd, Nat.reduceMul, Nat.reduceSub, Nat.reduceLT, Nat.reduceLeDiff, reduceCtorEq, *] | refine Xs _ (fun h => ?_) (fun h => ?_) | with_reducible refine And.intro ?_ ?_
        all_goals first | (intro r hr; simp at hr; subst hr; rfl) | (simp [bytesC]; omega) | (simp; done) | omega | rfl | skip
        all_goals refine ⟨k + 1, by omega, by omega, ?_⟩
        all_goals (refine Xto _ _ ?_ ?_ <;> simp only [go_sem, optI, Option.getD_some, Option.getD_none, Int.reduceToNat, reduceIte, Nat.reduceEqDiff, Nat.reduceAdd, Nat.reduceMul, Nat.reduceSub, Nat.reduceLT, Nat.reduceLeDiff, reduceCtorEq, Option.some.injEq, or_true, true_or] <;> (repeat' with_reducible apply And.intro) <;> (try rfl))
        all_goals first | (rw [hm]; done) | skip
    · have hk : k = l.length := by omega
      subst hk
      have e1 : decide ((l.length : Int) < l.length) = false := by simp
      repeat' first | refine SW.step good fun K hK => ?_ | refine X2 good fun K hK => ?_ | refine X3 good fun K hK => ?_ | refine SW.seqK fun J hJ => ?_ | refine SW.last good fun K hK => ?_ | (refine hK _ ?_; clear hK K) | (refine hJ _ _ (Wk.refl _) ?_; clear hJ J) | clear hK K | clear hJ J | refine SW.skip ?_ | refine SW.ret ?_ | refine SW.retT ?_ | refine SW.retB ?_ | refine SW.exit ?_ | refine SW.exitT ?_ | refine SW.exitB ?_ | refine XN ?_ | refine SW.block ?_ | refine SW.normB ?_ | refine SW.normT ?_ | refine XT ?_ | refine XF ?_ | refine XC (fun h => ?_) (fun h => ?_) | simp only [go_sem, optI, Option.getD_some, Option.getD_none, Int.reduceToNat, reduceIte, Nat.reduceEqDiff, Nat.reduceAdd, Nat.reduceMul, Nat.reduceSub, Nat.reduceLT, Nat.reduceLeDiff, reduceCtorEq, *] | refine Xs _ (fun h => ?_) (fun h => ?_) | with_reducible refine And.intro ?_ ?_
      all_goals refine Xri ?_
      all_goals rw [List.take_length]
set_option maxHeartbeats 1000000 in
theorem ac_lawMostLoad (L : List Peer) (hL : L.length ≤ 9223372036854775807) (hT : ∀ p, p ∈ L → p.ok) :
    AC Try.prog 17 [encRing false L] (vB true) [] := by
  have hs1 := ac_szRing L 1048576 (by omega) (by omega) hL hT
  by_cases h1 : (1048576 : Int) < (peersSz L : Nat)
  · rw [szOf_n h1] at hs1
    refine XA good (fn := Try.f17) rfl ?_
    simp only [entry, List.getD_cons_zero, List.getD_cons_succ]
    repeat' first | refine SW.step good fun K hK => ?_ | refine X2 good fun K hK => ?_ | refine X3 good fun K hK => ?_ | refine SW.seqK fun J hJ => ?_ | refine SW.last good fun K hK => ?_ | (refine hK _ ?_; clear hK K) | (refine hJ _ _ (Wk.refl _) ?_; clear hJ J) | clear hK K | clear hJ J | refine SW.skip ?_ | refine SW.ret ?_ | refine SW.retT ?_ | refine SW.retB ?_ | refine SW.exit ?_ | refine SW.exitT ?_ | refine SW.exitB ?_ | refine XN ?_ | refine SW.block ?_ | refine SW.normB ?_ | refine SW.normT ?_ | refine XT ?_ | refine XF ?_ | refine XC (fun h => ?_) (fun h => ?_) | refine X0 ?_ | refine Xv ?_ | refine X1 (hs1) ?_ | simp only [go_sem, optI, Option.getD_some, Option.getD_none, Int.reduceToNat, reduceIte, Nat.reduceEqDiff, Nat.reduceAdd, Nat.reduceMul, Nat.reduceSub, Nat.reduceLT, Nat.reduceLeDiff, reduceCtorEq, *] | refine Xs _ (fun h => ?_) (fun h => ?_) | with_reducible refine And.intro ?_ ?_
    all_goals refine Xrb ?_
    all_goals rfl
  · rw [szOf_p h1] at hs1
    have e1 : decide ((1048576 : Int) - (peersSz L : Nat) < 0) = false := by simp only [decide_eq_false_iff_not]; omega
    have h2 : peersSz L ≤ 1048576 := by omega
    have hs := peers_small h2
    refine XA good (fn := Try.f17) rfl ?_
    simp only [entry, List.getD_cons_zero, List.getD_cons_succ]
    repeat' first | refine SW.step good fun K hK => ?_ | refine X2 good fun K hK => ?_ | refine X3 good fun K hK => ?_ | refine SW.seqK fun J hJ => ?_ | refine SW.last good fun K hK => ?_ | (refine hK _ ?_; clear hK K) | (refine hJ _ _ (Wk.refl _) ?_; clear hJ J) | clear hK K | clear hJ J | refine SW.skip ?_ | refine SW.ret ?_ | refine SW.retT ?_ | refine SW.retB ?_ | refine SW.exit ?_ | refine SW.exitT ?_ | refine SW.exitB ?_ | refine XN ?_ | refine SW.block ?_ | refine SW.normB ?_ | refine SW.normT ?_ | refine XT ?_ | refine XF ?_ | refine XC (fun h => ?_) (fun h => ?_) | refine X0 ?_ | refine Xv ?_ | refine X1 (hs1) ?_ | refine X1 (ac_toRing L hs.1 hs.2) ?_ | refine X1 (ac_MostLoad' L h2) ?_ | refine X1 (ac_MostLoad L h2) ?_ | refine X1 (ac_eqRing L hs.1 hs.2) ?_ | simp only [go_sem, optI, Option.getD_some, Option.getD_none, Int.reduceToNat, reduceIte, Nat.reduceEqDiff, Nat.reduceAdd, Nat.reduceMul, Nat.reduceSub, Nat.reduceLT, Nat.reduceLeDiff, reduceCtorEq, *] | refine Xs _ (fun h => ?_) (fun h => ?_) | with_reducible refine And.intro ?_ ?_
    all_goals first | omega | (simp; omega) | skip
    all_goals first | (refine Xrb ?_; rfl) | skip
    all_goals trace_state
end Go.Proofs.Ytbpfciidbgkekaa.AB
