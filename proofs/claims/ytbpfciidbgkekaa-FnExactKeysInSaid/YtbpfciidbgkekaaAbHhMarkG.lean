/- Marks written into a region: they end, and how many there are. -/
import Derived.Test.YtbpfciidbgkekaaAbGrMark
import Derived.Test.YtbpfciidbgkekaaAbFqRing
namespace Go.Proofs.Ytbpfciidbgkekaa.AB
open Go
set_option maxRecDepth 100000
set_option linter.unusedSimpArgs false
set_option linter.unusedVariables false
theorem ret_reg {T : Tab} {st : St} {rv : List ResultVar} {b b' : Int} {p : Prop} (e : b = b') (h : resL T st rv = some (p, [vI b']) := by simp only [Ty.isAgg, go_sem, optI, Option.getD_some, Option.getD_none, Int.reduceToNat, reduceIte, Nat.reduceEqDiff, Nat.reduceAdd, Nat.reduceMul, Nat.reduceSub, Nat.reduceLT, Nat.reduceLeDiff, reduceCtorEq] <;> rfl) (hp : p := by simp) (ho : st.h (.a 0) = some .reg := by simp only [go_sem, optI, Option.getD_some, Option.getD_none, Int.reduceToNat, reduceIte, Nat.reduceEqDiff, Nat.reduceAdd, Nat.reduceMul, Nat.reduceSub, Nat.reduceLT, Nat.reduceLeDiff, reduceCtorEq] <;> rfl) : retM T rv (vI b) [some .reg] [] .ret st :=
  Xrm (o' := .reg) rfl (le_v (by rw [e]) rfl) h hp ho
theorem wNat {n : Nat} (h : n ≤ 1000000000) : IntKind.i64.wrap ((n : Int) + 1) = ((n + 1 : Nat) : Int) := by rw [wrap64 (by omega) (by omega)]; rfl
set_option maxHeartbeats 1000000 in
theorem mcg_IntS (L : List Int) (k : Nat) (hL : L.length ≤ 1048576) (hk : k ≤ 100000000) : MC Try.prog 51 [.rg (.a 0) (.sl (L.map intC)), vI k] [.reg] (vI ((k + L.length : Nat) : Int)) [some .reg] [] := by
  refine XM good (fn := Try.f51) rfl ?_
  try simp only [List.getD_cons_zero, List.getD_cons_succ]
  repeat' first | refine SW.step good fun K hK => ?_ | refine X2 good fun K hK => ?_ | refine X3 good fun K hK => ?_ | refine SW.seqK fun J hJ => ?_ | refine SW.last good fun K hK => ?_ | (refine hK _ ?_; clear hK K) | (refine hJ _ _ (Wk.refl _) ?_; clear hJ J) | clear hK K | clear hJ J | refine SW.skip ?_ | refine SW.ret ?_ | refine SW.retT ?_ | refine SW.retB ?_ | refine SW.exit ?_ | refine SW.exitT ?_ | refine SW.exitB ?_ | refine XN ?_ | refine SW.block ?_ | refine SW.normB ?_ | refine SW.normT ?_ | refine XT ?_ | refine XF ?_ | refine XC (fun h => ?_) (fun h => ?_) | simp only [go_sem, optI, Option.getD_some, Option.getD_none, Int.reduceToNat, reduceIte, Nat.reduceEqDiff, Nat.reduceAdd, Nat.reduceMul, Nat.reduceSub, Nat.reduceLT, Nat.reduceLeDiff, reduceCtorEq, *] | refine Xs _ (fun h => ?_) (fun h => ?_) | with_reducible refine And.intro ?_ ?_
  refine SW.loopTo (α := Nat) (fun j => ⟨sl [(0, .rg (.a 0) (.sl (L.map intC))), (1, vI ((k + j : Nat) : Int)), (5, vI j)], hl [(.a 0, .reg)]⟩) (fun j => L.length - j) 0 (fun j => j ≤ L.length) ?_ (by simp) ?_
  · (refine Xto _ _ ?_ ?_ <;> simp only [go_sem, optI, Option.getD_some, Option.getD_none, Int.reduceToNat, reduceIte, Nat.reduceEqDiff, Nat.reduceAdd, Nat.reduceMul, Nat.reduceSub, Nat.reduceLT, Nat.reduceLeDiff, reduceCtorEq, Option.some.injEq, or_true, true_or] <;> (repeat' with_reducible apply And.intro) <;> (try rfl))
  · intro j h2
    by_cases hj : j < L.length
    · have e := getD_map L intC [] hj
      have e1 : decide ((j : Int) < L.length) = true := by simp; omega
      have w1 : IntKind.i64.wrap (((k + j : Nat) : Int) + 1) = ((k + (j + 1) : Nat) : Int) := wNat (by omega)
      have w2 : IntKind.i64.wrap ((j : Int) + 1) = ((j + 1 : Nat) : Int) := wNat (by omega)
      repeat' first | refine SW.step good fun K hK => ?_ | refine X2 good fun K hK => ?_ | refine X3 good fun K hK => ?_ | refine SW.seqK fun J hJ => ?_ | refine SW.last good fun K hK => ?_ | (refine hK _ ?_; clear hK K) | (refine hJ _ _ (Wk.refl _) ?_; clear hJ J) | clear hK K | clear hJ J | refine SW.skip ?_ | refine SW.ret ?_ | refine SW.retT ?_ | refine SW.retB ?_ | refine SW.exit ?_ | refine SW.exitT ?_ | refine SW.exitB ?_ | refine XN ?_ | refine SW.block ?_ | refine SW.normB ?_ | refine SW.normT ?_ | refine XT ?_ | refine XF ?_ | refine XC (fun h => ?_) (fun h => ?_) | simp only [go_sem, optI, Option.getD_some, Option.getD_none, Int.reduceToNat, reduceIte, Nat.reduceEqDiff, Nat.reduceAdd, Nat.reduceMul, Nat.reduceSub, Nat.reduceLT, Nat.reduceLeDiff, reduceCtorEq, *] | refine Xs _ (fun h => ?_) (fun h => ?_) | with_reducible refine And.intro ?_ ?_
      all_goals first | (intro r hr; simp at hr; subst hr; rfl) | (simp [bytesC]; omega) | (simp; done) | omega | rfl | skip
      all_goals refine ⟨j + 1, by omega, by omega, ?_⟩
      all_goals (refine Xto _ _ ?_ ?_ <;> simp only [go_sem, optI, Option.getD_some, Option.getD_none, Int.reduceToNat, reduceIte, Nat.reduceEqDiff, Nat.reduceAdd, Nat.reduceMul, Nat.reduceSub, Nat.reduceLT, Nat.reduceLeDiff, reduceCtorEq, Option.some.injEq, or_true, true_or] <;> (repeat' with_reducible apply And.intro) <;> (try rfl))
    · have hj : j = L.length := by omega
      subst hj
      have e1 : decide ((L.length : Int) < L.length) = false := by simp
      repeat' first | refine SW.step good fun K hK => ?_ | refine X2 good fun K hK => ?_ | refine X3 good fun K hK => ?_ | refine SW.seqK fun J hJ => ?_ | refine SW.last good fun K hK => ?_ | (refine hK _ ?_; clear hK K) | (refine hJ _ _ (Wk.refl _) ?_; clear hJ J) | clear hK K | clear hJ J | refine SW.skip ?_ | refine SW.ret ?_ | refine SW.retT ?_ | refine SW.retB ?_ | refine SW.exit ?_ | refine SW.exitT ?_ | refine SW.exitB ?_ | refine XN ?_ | refine SW.block ?_ | refine SW.normB ?_ | refine SW.normT ?_ | refine XT ?_ | refine XF ?_ | refine XC (fun h => ?_) (fun h => ?_) | simp only [go_sem, optI, Option.getD_some, Option.getD_none, Int.reduceToNat, reduceIte, Nat.reduceEqDiff, Nat.reduceAdd, Nat.reduceMul, Nat.reduceSub, Nat.reduceLT, Nat.reduceLeDiff, reduceCtorEq, *] | refine Xs _ (fun h => ?_) (fun h => ?_) | with_reducible refine And.intro ?_ ?_
      all_goals exact ret_reg rfl
set_option maxHeartbeats 1000000 in
theorem mcg_ItemS (L : List Item) (k : Nat) (hL : L.length ≤ 1048576) (hk : k ≤ 100000000) : MC Try.prog 167 [.rg (.a 0) (.sl (L.map itemC)), vI k] [.reg] (vI ((k + 2 * L.length : Nat) : Int)) [some .reg] [] := by
  refine XM good (fn := Try.f167) rfl ?_
  try simp only [List.getD_cons_zero, List.getD_cons_succ]
  repeat' first | refine SW.step good fun K hK => ?_ | refine X2 good fun K hK => ?_ | refine X3 good fun K hK => ?_ | refine SW.seqK fun J hJ => ?_ | refine SW.last good fun K hK => ?_ | (refine hK _ ?_; clear hK K) | (refine hJ _ _ (Wk.refl _) ?_; clear hJ J) | clear hK K | clear hJ J | refine SW.skip ?_ | refine SW.ret ?_ | refine SW.retT ?_ | refine SW.retB ?_ | refine SW.exit ?_ | refine SW.exitT ?_ | refine SW.exitB ?_ | refine XN ?_ | refine SW.block ?_ | refine SW.normB ?_ | refine SW.normT ?_ | refine XT ?_ | refine XF ?_ | refine XC (fun h => ?_) (fun h => ?_) | simp only [go_sem, optI, Option.getD_some, Option.getD_none, Int.reduceToNat, reduceIte, Nat.reduceEqDiff, Nat.reduceAdd, Nat.reduceMul, Nat.reduceSub, Nat.reduceLT, Nat.reduceLeDiff, reduceCtorEq, *] | refine Xs _ (fun h => ?_) (fun h => ?_) | with_reducible refine And.intro ?_ ?_
  refine SW.loopTo (α := Nat) (fun j => ⟨sl [(0, .rg (.a 0) (.sl (L.map itemC))), (1, vI ((k + 2 * j : Nat) : Int)), (5, vI j)], hl [(.a 0, .reg)]⟩) (fun j => L.length - j) 0 (fun j => j ≤ L.length) ?_ (by simp) ?_
  · (refine Xto _ _ ?_ ?_ <;> simp only [go_sem, optI, Option.getD_some, Option.getD_none, Int.reduceToNat, reduceIte, Nat.reduceEqDiff, Nat.reduceAdd, Nat.reduceMul, Nat.reduceSub, Nat.reduceLT, Nat.reduceLeDiff, reduceCtorEq, Option.some.injEq, or_true, true_or] <;> (repeat' with_reducible apply And.intro) <;> (try rfl))
  · intro j h2
    by_cases hj : j < L.length
    · have e := getD_map L itemC [] hj
      have e1 : decide ((j : Int) < L.length) = true := by simp; omega
      have w1 : IntKind.i64.wrap (((k + 2 * j : Nat) : Int) + 1) = ((k + 2 * j + 1 : Nat) : Int) := wNat (by omega)
      have w3 : IntKind.i64.wrap (((k + 2 * j + 1 : Nat) : Int) + 1) = ((k + 2 * (j + 1) : Nat) : Int) := wNat (by omega)
      have w2 : IntKind.i64.wrap ((j : Int) + 1) = ((j + 1 : Nat) : Int) := wNat (by omega)
      have hm := ac_markText (k + 2 * j) (by omega)
      repeat' first | refine SW.step good fun K hK => ?_ | refine X2 good fun K hK => ?_ | refine X3 good fun K hK => ?_ | refine SW.seqK fun J hJ => ?_ | refine SW.last good fun K hK => ?_ | (refine hK _ ?_; clear hK K) | (refine hJ _ _ (Wk.refl _) ?_; clear hJ J) | clear hK K | clear hJ J | refine SW.skip ?_ | refine SW.ret ?_ | refine SW.retT ?_ | refine SW.retB ?_ | refine SW.exit ?_ | refine SW.exitT ?_ | refine SW.exitB ?_ | refine XN ?_ | refine SW.block ?_ | refine SW.normB ?_ | refine SW.normT ?_ | refine XT ?_ | refine XF ?_ | refine XC (fun h => ?_) (fun h => ?_) | refine X0 ?_ | refine Xv ?_ | refine X1 (hm) ?_ | simp only [go_sem, optI, Option.getD_some, Option.getD_none, Int.reduceToNat, reduceIte, Nat.reduceEqDiff, Nat.reduceAdd, Nat.reduceMul, Nat.reduceSub, Nat.reduceLT, Nat.reduceLeDiff, reduceCtorEq, *] | refine Xs _ (fun h => ?_) (fun h => ?_) | with_reducible refine And.intro ?_ ?_
      all_goals first | (intro r hr; simp at hr; subst hr; rfl) | (simp [bytesC]; omega) | (simp; done) | omega | rfl | skip
      all_goals refine ⟨j + 1, by omega, by omega, ?_⟩
      all_goals (refine Xto _ _ ?_ ?_ <;> simp only [go_sem, optI, Option.getD_some, Option.getD_none, Int.reduceToNat, reduceIte, Nat.reduceEqDiff, Nat.reduceAdd, Nat.reduceMul, Nat.reduceSub, Nat.reduceLT, Nat.reduceLeDiff, reduceCtorEq, Option.some.injEq, or_true, true_or] <;> (repeat' with_reducible apply And.intro) <;> (try rfl))
    · have hj : j = L.length := by omega
      subst hj
      have e1 : decide ((L.length : Int) < L.length) = false := by simp
      repeat' first | refine SW.step good fun K hK => ?_ | refine X2 good fun K hK => ?_ | refine X3 good fun K hK => ?_ | refine SW.seqK fun J hJ => ?_ | refine SW.last good fun K hK => ?_ | (refine hK _ ?_; clear hK K) | (refine hJ _ _ (Wk.refl _) ?_; clear hJ J) | clear hK K | clear hJ J | refine SW.skip ?_ | refine SW.ret ?_ | refine SW.retT ?_ | refine SW.retB ?_ | refine SW.exit ?_ | refine SW.exitT ?_ | refine SW.exitB ?_ | refine XN ?_ | refine SW.block ?_ | refine SW.normB ?_ | refine SW.normT ?_ | refine XT ?_ | refine XF ?_ | refine XC (fun h => ?_) (fun h => ?_) | simp only [go_sem, optI, Option.getD_some, Option.getD_none, Int.reduceToNat, reduceIte, Nat.reduceEqDiff, Nat.reduceAdd, Nat.reduceMul, Nat.reduceSub, Nat.reduceLT, Nat.reduceLeDiff, reduceCtorEq, *] | refine Xs _ (fun h => ?_) (fun h => ?_) | with_reducible refine And.intro ?_ ?_
      all_goals exact ret_reg rfl
def mkShelf (s : Shelf) : Nat := 1 + 2 * s.items.length
def mkPeer (p : Peer) : Nat := 3 + p.behind.length + p.fingers.length + sumOf mkShelf p.shelves
set_option maxHeartbeats 1000000 in
theorem mcg_ShelfS (L : List Shelf) (k : Nat) (hL : L.length ≤ 1048576) (hL2 : ∀ s, s ∈ L → s.items.length ≤ 1048576) (hk : k + sumOf mkShelf L ≤ 100000000) : MC Try.prog 122 [.rg (.a 0) (.sl (L.map shelfC)), vI k] [.reg] (vI ((k + sumOf mkShelf L : Nat) : Int)) [some .reg] [] := by
  refine XM good (fn := Try.f122) rfl ?_
  try simp only [List.getD_cons_zero, List.getD_cons_succ]
  repeat' first | refine SW.step good fun K hK => ?_ | refine X2 good fun K hK => ?_ | refine X3 good fun K hK => ?_ | refine SW.seqK fun J hJ => ?_ | refine SW.last good fun K hK => ?_ | (refine hK _ ?_; clear hK K) | (refine hJ _ _ (Wk.refl _) ?_; clear hJ J) | clear hK K | clear hJ J | refine SW.skip ?_ | refine SW.ret ?_ | refine SW.retT ?_ | refine SW.retB ?_ | refine SW.exit ?_ | refine SW.exitT ?_ | refine SW.exitB ?_ | refine XN ?_ | refine SW.block ?_ | refine SW.normB ?_ | refine SW.normT ?_ | refine XT ?_ | refine XF ?_ | refine XC (fun h => ?_) (fun h => ?_) | simp only [go_sem, optI, Option.getD_some, Option.getD_none, Int.reduceToNat, reduceIte, Nat.reduceEqDiff, Nat.reduceAdd, Nat.reduceMul, Nat.reduceSub, Nat.reduceLT, Nat.reduceLeDiff, reduceCtorEq, *] | refine Xs _ (fun h => ?_) (fun h => ?_) | with_reducible refine And.intro ?_ ?_
  refine SW.loopTo (α := Nat) (fun j => ⟨sl [(0, .rg (.a 0) (.sl (L.map shelfC))), (1, vI ((k + sumOf mkShelf (L.take j) : Nat) : Int)), (5, vI j)], hl [(.a 0, .reg)]⟩) (fun j => L.length - j) 0 (fun j => j ≤ L.length) ?_ (by simp) ?_
  · (refine Xto _ _ ?_ ?_ <;> simp only [go_sem, optI, Option.getD_some, Option.getD_none, Int.reduceToNat, reduceIte, Nat.reduceEqDiff, Nat.reduceAdd, Nat.reduceMul, Nat.reduceSub, Nat.reduceLT, Nat.reduceLeDiff, reduceCtorEq, Option.some.injEq, or_true, true_or] <;> (repeat' with_reducible apply And.intro) <;> (try rfl))
  · intro j h2
    have hle := sumOf_le mkShelf L j
    by_cases hj : j < L.length
    · have e := getD_map L shelfC [] hj
      have e1 : decide ((j : Int) < L.length) = true := by simp; omega
      have ht := sumOf_take mkShelf L hj
      have hle1 := sumOf_le mkShelf L (j + 1)
      have w1 : IntKind.i64.wrap (((k + sumOf mkShelf (L.take j) : Nat) : Int) + 1) = ((k + sumOf mkShelf (L.take j) + 1 : Nat) : Int) := wNat (by omega)
      have w2 : IntKind.i64.wrap ((j : Int) + 1) = ((j + 1 : Nat) : Int) := wNat (by omega)
      have hp : 1 ≤ mkShelf L[j] := by unfold mkShelf; omega
      have hm := mcg_ItemS L[j].items (k + sumOf mkShelf (L.take j) + 1) (hL2 _ (List.getElem_mem hj)) (by omega)
      have hx : k + sumOf mkShelf (L.take j) + 1 + 2 * L[j].items.length = k + sumOf mkShelf (L.take (j + 1)) := by rw [ht]; unfold mkShelf; omega
      rw [hx] at hm
      clear hx ht
      repeat' first | refine SW.step good fun K hK => ?_ | refine X2 good fun K hK => ?_ | refine X3 good fun K hK => ?_ | refine SW.seqK fun J hJ => ?_ | refine SW.last good fun K hK => ?_ | (refine hK _ ?_; clear hK K) | (refine hJ _ _ (Wk.refl _) ?_; clear hJ J) | clear hK K | clear hJ J | refine SW.skip ?_ | refine SW.ret ?_ | refine SW.retT ?_ | refine SW.retB ?_ | refine SW.exit ?_ | refine SW.exitT ?_ | refine SW.exitB ?_ | refine XN ?_ | refine SW.block ?_ | refine SW.normB ?_ | refine SW.normT ?_ | refine XT ?_ | refine XF ?_ | refine XC (fun h => ?_) (fun h => ?_) | (refine Xm (.a 0) ?_; first | refine Xd (hm) ?_ | refine Xa (hm) ?_ | refine Xb (hm) ?_) | simp only [go_sem, optI, Option.getD_some, Option.getD_none, Int.reduceToNat, reduceIte, Nat.reduceEqDiff, Nat.reduceAdd, Nat.reduceMul, Nat.reduceSub, Nat.reduceLT, Nat.reduceLeDiff, reduceCtorEq, *] | refine Xs _ (fun h => ?_) (fun h => ?_) | with_reducible refine And.intro ?_ ?_
      all_goals first | (intro r hr; simp at hr; subst hr; rfl) | (simp [bytesC]; omega) | (simp; done) | omega | rfl | skip
      all_goals refine ⟨j + 1, by omega, by omega, ?_⟩
      all_goals (refine Xto _ _ ?_ ?_ <;> simp only [go_sem, optI, Option.getD_some, Option.getD_none, Int.reduceToNat, reduceIte, Nat.reduceEqDiff, Nat.reduceAdd, Nat.reduceMul, Nat.reduceSub, Nat.reduceLT, Nat.reduceLeDiff, reduceCtorEq, Option.some.injEq, or_true, true_or] <;> (repeat' with_reducible apply And.intro) <;> (try rfl))
    · have hj : j = L.length := by omega
      subst hj
      have e1 : decide ((L.length : Int) < L.length) = false := by simp
      rw [List.take_length]
      repeat' first | refine SW.step good fun K hK => ?_ | refine X2 good fun K hK => ?_ | refine X3 good fun K hK => ?_ | refine SW.seqK fun J hJ => ?_ | refine SW.last good fun K hK => ?_ | (refine hK _ ?_; clear hK K) | (refine hJ _ _ (Wk.refl _) ?_; clear hJ J) | clear hK K | clear hJ J | refine SW.skip ?_ | refine SW.ret ?_ | refine SW.retT ?_ | refine SW.retB ?_ | refine SW.exit ?_ | refine SW.exitT ?_ | refine SW.exitB ?_ | refine XN ?_ | refine SW.block ?_ | refine SW.normB ?_ | refine SW.normT ?_ | refine XT ?_ | refine XF ?_ | refine XC (fun h => ?_) (fun h => ?_) | simp only [go_sem, optI, Option.getD_some, Option.getD_none, Int.reduceToNat, reduceIte, Nat.reduceEqDiff, Nat.reduceAdd, Nat.reduceMul, Nat.reduceSub, Nat.reduceLT, Nat.reduceLeDiff, reduceCtorEq, *] | refine Xs _ (fun h => ?_) (fun h => ?_) | with_reducible refine And.intro ?_ ?_
      all_goals exact ret_reg rfl
set_option maxHeartbeats 2000000 in
theorem mcg_PeerS (L : List Peer) (k : Nat) (hL : L.length ≤ 1048576) (hL2 : ∀ p, p ∈ L → p.behind.length ≤ 1048576 ∧ p.fingers.length ≤ 1048576 ∧ p.shelves.length ≤ 1048576 ∧ ∀ s, s ∈ p.shelves → s.items.length ≤ 1048576) (hk : k + sumOf mkPeer L ≤ 100000000) : MC Try.prog 109 [.rg (.a 0) (.sl (L.map peerC)), vI k] [.reg] (vI ((k + sumOf mkPeer L : Nat) : Int)) [some .reg] [] := by
  refine XM good (fn := Try.f109) rfl ?_
  try simp only [List.getD_cons_zero, List.getD_cons_succ]
  repeat' first | refine SW.step good fun K hK => ?_ | refine X2 good fun K hK => ?_ | refine X3 good fun K hK => ?_ | refine SW.seqK fun J hJ => ?_ | refine SW.last good fun K hK => ?_ | (refine hK _ ?_; clear hK K) | (refine hJ _ _ (Wk.refl _) ?_; clear hJ J) | clear hK K | clear hJ J | refine SW.skip ?_ | refine SW.ret ?_ | refine SW.retT ?_ | refine SW.retB ?_ | refine SW.exit ?_ | refine SW.exitT ?_ | refine SW.exitB ?_ | refine XN ?_ | refine SW.block ?_ | refine SW.normB ?_ | refine SW.normT ?_ | refine XT ?_ | refine XF ?_ | refine XC (fun h => ?_) (fun h => ?_) | simp only [go_sem, optI, Option.getD_some, Option.getD_none, Int.reduceToNat, reduceIte, Nat.reduceEqDiff, Nat.reduceAdd, Nat.reduceMul, Nat.reduceSub, Nat.reduceLT, Nat.reduceLeDiff, reduceCtorEq, *] | refine Xs _ (fun h => ?_) (fun h => ?_) | with_reducible refine And.intro ?_ ?_
  refine SW.loopTo (α := Nat) (fun j => ⟨sl [(0, .rg (.a 0) (.sl (L.map peerC))), (1, vI ((k + sumOf mkPeer (L.take j) : Nat) : Int)), (5, vI j)], hl [(.a 0, .reg)]⟩) (fun j => L.length - j) 0 (fun j => j ≤ L.length) ?_ (by simp) ?_
  · (refine Xto _ _ ?_ ?_ <;> simp only [go_sem, optI, Option.getD_some, Option.getD_none, Int.reduceToNat, reduceIte, Nat.reduceEqDiff, Nat.reduceAdd, Nat.reduceMul, Nat.reduceSub, Nat.reduceLT, Nat.reduceLeDiff, reduceCtorEq, Option.some.injEq, or_true, true_or] <;> (repeat' with_reducible apply And.intro) <;> (try rfl))
  · intro j h2
    have hle := sumOf_le mkPeer L j
    by_cases hj : j < L.length
    · have e := getD_map L peerC [] hj
      have e1 : decide ((j : Int) < L.length) = true := by simp; omega
      have ht := sumOf_take mkPeer L hj
      have hle1 := sumOf_le mkPeer L (j + 1)
      obtain ⟨b1, b2, b3, b4⟩ := hL2 _ (List.getElem_mem hj)
      have hx : k + sumOf mkPeer (L.take (j + 1)) = k + sumOf mkPeer (L.take j) + 3 + L[j].behind.length + L[j].fingers.length + sumOf mkShelf L[j].shelves := by rw [ht]; unfold mkPeer; omega
      generalize hn : k + sumOf mkPeer (L.take j) = n at *
      have w1 : IntKind.i64.wrap ((n : Int) + 1) = ((n + 1 : Nat) : Int) := wNat (by omega)
      have w3 : IntKind.i64.wrap (((n + 1 : Nat) : Int) + 1) = ((n + 2 : Nat) : Int) := wNat (by omega)
      have w4 : IntKind.i64.wrap (((n + 2 : Nat) : Int) + 1) = ((n + 3 : Nat) : Int) := wNat (by omega)
      have w2 : IntKind.i64.wrap ((j : Int) + 1) = ((j + 1 : Nat) : Int) := wNat (by omega)
      have m1 := mcg_IntS L[j].behind (n + 3) b1 (by omega)
      have m2 := mcg_IntS L[j].fingers (n + 3 + L[j].behind.length) b2 (by omega)
      have m3 := mcg_ShelfS L[j].shelves (n + 3 + L[j].behind.length + L[j].fingers.length) b3 b4 (by omega)
      rw [← hx] at m3
      clear hx ht hn hle hle1
      repeat' first | refine SW.step good fun K hK => ?_ | refine X2 good fun K hK => ?_ | refine X3 good fun K hK => ?_ | refine SW.seqK fun J hJ => ?_ | refine SW.last good fun K hK => ?_ | (refine hK _ ?_; clear hK K) | (refine hJ _ _ (Wk.refl _) ?_; clear hJ J) | clear hK K | clear hJ J | refine SW.skip ?_ | refine SW.ret ?_ | refine SW.retT ?_ | refine SW.retB ?_ | refine SW.exit ?_ | refine SW.exitT ?_ | refine SW.exitB ?_ | refine XN ?_ | refine SW.block ?_ | refine SW.normB ?_ | refine SW.normT ?_ | refine XT ?_ | refine XF ?_ | refine XC (fun h => ?_) (fun h => ?_) | (refine Xm (.a 0) ?_; first | refine Xd (m1) ?_ | refine Xa (m1) ?_ | refine Xb (m1) ?_) | (refine Xm (.a 0) ?_; first | refine Xd (m2) ?_ | refine Xa (m2) ?_ | refine Xb (m2) ?_) | (refine Xm (.a 0) ?_; first | refine Xd (m3) ?_ | refine Xa (m3) ?_ | refine Xb (m3) ?_) | simp only [go_sem, optI, Option.getD_some, Option.getD_none, Int.reduceToNat, reduceIte, Nat.reduceEqDiff, Nat.reduceAdd, Nat.reduceMul, Nat.reduceSub, Nat.reduceLT, Nat.reduceLeDiff, reduceCtorEq, *] | refine Xs _ (fun h => ?_) (fun h => ?_) | with_reducible refine And.intro ?_ ?_
      all_goals first | (intro r hr; simp at hr; subst hr; rfl) | (simp [bytesC]; omega) | (simp; done) | omega | rfl | skip
      all_goals refine ⟨j + 1, by omega, by omega, ?_⟩
      all_goals (refine Xto _ _ ?_ ?_ <;> simp only [go_sem, optI, Option.getD_some, Option.getD_none, Int.reduceToNat, reduceIte, Nat.reduceEqDiff, Nat.reduceAdd, Nat.reduceMul, Nat.reduceSub, Nat.reduceLT, Nat.reduceLeDiff, reduceCtorEq, Option.some.injEq, or_true, true_or] <;> (repeat' with_reducible apply And.intro) <;> (try rfl))
    · have hj : j = L.length := by omega
      subst hj
      have e1 : decide ((L.length : Int) < L.length) = false := by simp
      rw [List.take_length]
      repeat' first | refine SW.step good fun K hK => ?_ | refine X2 good fun K hK => ?_ | refine X3 good fun K hK => ?_ | refine SW.seqK fun J hJ => ?_ | refine SW.last good fun K hK => ?_ | (refine hK _ ?_; clear hK K) | (refine hJ _ _ (Wk.refl _) ?_; clear hJ J) | clear hK K | clear hJ J | refine SW.skip ?_ | refine SW.ret ?_ | refine SW.retT ?_ | refine SW.retB ?_ | refine SW.exit ?_ | refine SW.exitT ?_ | refine SW.exitB ?_ | refine XN ?_ | refine SW.block ?_ | refine SW.normB ?_ | refine SW.normT ?_ | refine XT ?_ | refine XF ?_ | refine XC (fun h => ?_) (fun h => ?_) | simp only [go_sem, optI, Option.getD_some, Option.getD_none, Int.reduceToNat, reduceIte, Nat.reduceEqDiff, Nat.reduceAdd, Nat.reduceMul, Nat.reduceSub, Nat.reduceLT, Nat.reduceLeDiff, reduceCtorEq, *] | refine Xs _ (fun h => ?_) (fun h => ?_) | with_reducible refine And.intro ?_ ?_
      all_goals exact ret_reg rfl
theorem mcg_Ring (L : List Peer) (k : Nat) (hL : L.length ≤ 1048576) (hL2 : ∀ p, p ∈ L → p.behind.length ≤ 1048576 ∧ p.fingers.length ≤ 1048576 ∧ p.shelves.length ≤ 1048576 ∧ ∀ s, s ∈ p.shelves → s.items.length ≤ 1048576) (hk : k + sumOf mkPeer L ≤ 100000000) : MC Try.prog 50 [.agg [.rg (.a 0) (.sl (L.map peerC))], vI k] [.reg] (vI ((k + sumOf mkPeer L : Nat) : Int)) [some .reg] [] := by
  have hm := mcg_PeerS L k hL hL2 hk
  refine XM good (fn := Try.f50) rfl ?_
  try simp only [List.getD_cons_zero, List.getD_cons_succ]
  repeat' first | refine SW.step good fun K hK => ?_ | refine X2 good fun K hK => ?_ | refine X3 good fun K hK => ?_ | refine SW.seqK fun J hJ => ?_ | refine SW.last good fun K hK => ?_ | (refine hK _ ?_; clear hK K) | (refine hJ _ _ (Wk.refl _) ?_; clear hJ J) | clear hK K | clear hJ J | refine SW.skip ?_ | refine SW.ret ?_ | refine SW.retT ?_ | refine SW.retB ?_ | refine SW.exit ?_ | refine SW.exitT ?_ | refine SW.exitB ?_ | refine XN ?_ | refine SW.block ?_ | refine SW.normB ?_ | refine SW.normT ?_ | refine XT ?_ | refine XF ?_ | refine XC (fun h => ?_) (fun h => ?_) | (refine Xm (.a 0) ?_; first | refine Xd (hm) ?_ | refine Xa (hm) ?_ | refine Xb (hm) ?_) | simp only [go_sem, optI, Option.getD_some, Option.getD_none, Int.reduceToNat, reduceIte, Nat.reduceEqDiff, Nat.reduceAdd, Nat.reduceMul, Nat.reduceSub, Nat.reduceLT, Nat.reduceLeDiff, reduceCtorEq, *] | refine Xs _ (fun h => ?_) (fun h => ?_) | with_reducible refine And.intro ?_ ?_
  all_goals first | (intro r hr; simp at hr; subst hr; rfl) | (simp [bytesC]; omega) | (simp; done) | omega | rfl | skip
  all_goals exact ret_reg rfl
theorem sumOf_lin {α : Type} {f g : α → Nat} (a b : Nat) : ∀ (L : List α), (∀ x, x ∈ L → f x ≤ a + b * g x) → sumOf f L ≤ a * L.length + b * sumOf g L
  | [], _ => by simp [sumOf]
  | x :: L, h => by
    have h1 := h x (by simp)
    have h2 := sumOf_lin a b L (fun y hy => h y (List.mem_cons_of_mem _ hy))
    simp only [sumOf, List.map_cons, List.sum_cons, List.length_cons, Nat.mul_add] at h2 ⊢; omega
theorem mkPeers_le (L : List Peer) : sumOf mkPeer L ≤ 3 * peersSz L := by
  have h1 : ∀ s : Shelf, mkShelf s ≤ 1 + 2 * shelfSz s := fun s => by unfold mkShelf shelfSz itemsSz; omega
  have h2 : ∀ p : Peer, mkPeer p ≤ 3 + 2 * peerSz p := fun p => by
    have := sumOf_lin 1 2 p.shelves (fun s _ => h1 s)
    unfold mkPeer peerSz shelvesSz; omega
  have := sumOf_lin 3 2 L (fun p _ => h2 p)
  unfold peersSz; omega
end Go.Proofs.Ytbpfciidbgkekaa.AB
