/- Rings: measured. Sizes: a list's is its length and its elements' sizes. -/
import Derived.Test.YtbgeagbgfioaaaaGreatAbFgRing
namespace Go.Proofs.YtbgeagbgfioaaaaGreat.AB
open Go
set_option maxRecDepth 100000
set_option linter.unusedSimpArgs false
set_option linter.unusedVariables false
def sumOf {α : Type} (f : α → Nat) (L : List α) : Nat := (L.map f).sum
theorem sumOf_take {α : Type} (f : α → Nat) (L : List α) {k : Nat} (h : k < L.length) : sumOf f (L.take (k + 1)) = sumOf f (L.take k) + f L[k] := by
  unfold sumOf
  rw [List.take_add_one, List.getElem?_eq_getElem h, List.map_append, List.sum_append]; simp
theorem sumOf_le {α : Type} (f : α → Nat) (L : List α) (k : Nat) : sumOf f (L.take k) ≤ sumOf f L := by
  have h := congrArg (sumOf f) (List.take_append_drop k L)
  unfold sumOf at h ⊢
  rw [List.map_append, List.sum_append] at h; omega
def itemSz (x : Item) : Nat := (sb x.text).length
def itemsSz (L : List Item) : Nat := L.length + sumOf itemSz L
def shelfSz (s : Shelf) : Nat := itemsSz s.items
def shelvesSz (L : List Shelf) : Nat := L.length + sumOf shelfSz L
def peerSz (p : Peer) : Nat := p.behind.length + p.fingers.length + shelvesSz p.shelves
def peersSz (L : List Peer) : Nat := L.length + sumOf peerSz L
def Shelf.ok (s : Shelf) : Prop := s.items.length ≤ 9223372036854775807 ∧ ∀ e, e ∈ s.items → itemSz e ≤ 9223372036854775807
theorem ac_szIntS (L : List Int) (left : Int) (h0 : 0 ≤ left) (h1 : left ≤ 1048576) (hL : L.length ≤ 9223372036854775807) : AC Tryz.prog 29 [.c true (.sl (L.map intC)), vI left] (vI (szOf L.length left)) [] := by
  refine XA good (fn := Tryz.f29) rfl ?_
  simp only [entry, List.getD_cons_zero, List.getD_cons_succ]
  repeat' first | refine SW.step good fun K hK => ?_ | refine X2 good fun K hK => ?_ | refine X3 good fun K hK => ?_ | refine SW.seqK fun J hJ => ?_ | refine SW.last good fun K hK => ?_ | (refine hK _ ?_; clear hK K) | (refine hJ _ _ (Wk.refl _) ?_; clear hJ J) | clear hK K | clear hJ J | refine SW.skip ?_ | refine SW.ret ?_ | refine SW.retT ?_ | refine SW.retB ?_ | refine SW.exit ?_ | refine SW.exitT ?_ | refine SW.exitB ?_ | refine XN ?_ | refine SW.block ?_ | refine SW.normB ?_ | refine SW.normT ?_ | refine XT ?_ | refine XF ?_ | refine XC (fun h => ?_) (fun h => ?_) | simp only [go_sem, optI, Option.getD_some, Option.getD_none, Int.reduceToNat, reduceIte, Nat.reduceEqDiff, Nat.reduceAdd, Nat.reduceMul, Nat.reduceSub, Nat.reduceLT, Nat.reduceLeDiff, reduceCtorEq, *] | refine Xs _ (fun h => ?_) (fun h => ?_) | with_reducible refine And.intro ?_ ?_
  all_goals (rw [wrap64 (by omega) (by omega)] at h; simp only [decide_eq_true_eq, decide_eq_false_iff_not] at h)
  all_goals refine Xri ?_
  · unfold szOf; rw [if_pos (by omega)]
  · unfold szOf; rw [if_neg (by omega), wrap64 (by omega) (by omega)]
theorem szOf_n {n : Nat} {l : Int} (h : l < n) : szOf n l = -1 := by unfold szOf; rw [if_pos h]
theorem szOf_p {n : Nat} {l : Int} (h : ¬ l < n) : szOf n l = l - n := by unfold szOf; rw [if_neg h]
def Peer.ok (p : Peer) : Prop := p.behind.length ≤ 9223372036854775807 ∧ p.fingers.length ≤ 9223372036854775807 ∧ p.shelves.length ≤ 9223372036854775807 ∧ ∀ s, s ∈ p.shelves → s.ok
end Go.Proofs.YtbgeagbgfioaaaaGreat.AB
