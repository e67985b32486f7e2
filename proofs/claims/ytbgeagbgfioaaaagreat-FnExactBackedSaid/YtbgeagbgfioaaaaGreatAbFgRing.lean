/- Rings: copied, measured, compared. -/
import Derived.Test.YtbgeagbgfioaaaaGreatAbFeEv
namespace Go.Proofs.YtbgeagbgfioaaaaGreat.AB
open Go
set_option maxRecDepth 100000
set_option linter.unusedSimpArgs false
set_option linter.unusedVariables false
structure Item where
  text : ByteArray
  gone : Bool
structure Shelf where
  key : Int
  items : List Item
structure Peer where
  id : Int
  here : Bool
  ahead : Int
  behind : List Int
  fingers : List Int
  shelves : List Shelf
abbrev intC (n : Int) : List C := [cI n]
def itemC (x : Item) : List C := [.v (.string x.text), cB x.gone]
def shelfC (s : Shelf) : List C := [cI s.key, .sl (s.items.map itemC)]
def peerC (p : Peer) : List C := [cI p.id, cB p.here, cI p.ahead, .sl (p.behind.map intC), .sl (p.fingers.map intC), .sl (p.shelves.map shelfC)]
def encItem (x : Item) : AV := .agg [.c false (.v (.string x.text)), vB x.gone]
def encShelf (b : Bool) (s : Shelf) : AV := .agg [vI s.key, .c b (.sl (s.items.map itemC))]
def encPeer (b : Bool) (p : Peer) : AV := .agg [vI p.id, vB p.here, vI p.ahead, .c b (.sl (p.behind.map intC)), .c b (.sl (p.fingers.map intC)), .c b (.sl (p.shelves.map shelfC))]
def encRing (b : Bool) (ps : List Peer) : AV := .agg [.c b (.sl (ps.map peerC))]
attribute [go_sem] itemC shelfC peerC intC encItem encShelf encPeer encRing
def zItem : List C := [.v (.string ⟨#[]⟩), cB false]
def zShelf : List C := [cI 0, .sl []]
theorem gone0 {h : Hp} {j : Id} : (⟨idsTo [], h, hrOf []⟩ : Wn).gone j := by
  intro i hi
  cases i <;> simp [hrOf] at hi
theorem ac_toIntS (L : List Int) (hL : L.length ≤ 1048576) : AC Tryz.prog 40 [.c true (.sl (L.map intC))] (.own (.r 0)) [.row false 3 1 (L.map intC)] := by
  refine XA good (fn := Tryz.f40) rfl ?_
  simp only [entry, List.getD_cons_zero, List.getD_cons_succ]
  repeat' first | refine SW.step good fun K hK => ?_ | refine X2 good fun K hK => ?_ | refine X3 good fun K hK => ?_ | refine SW.seqK fun J hJ => ?_ | refine SW.last good fun K hK => ?_ | (refine hK _ ?_; clear hK K) | (refine hJ _ _ (Wk.refl _) ?_; clear hJ J) | clear hK K | clear hJ J | refine SW.skip ?_ | refine SW.ret ?_ | refine SW.retT ?_ | refine SW.retB ?_ | refine SW.exit ?_ | refine SW.exitT ?_ | refine SW.exitB ?_ | refine XN ?_ | refine SW.block ?_ | refine SW.normB ?_ | refine SW.normT ?_ | refine XT ?_ | refine XF ?_ | refine XC (fun h => ?_) (fun h => ?_) | simp only [go_sem, optI, Option.getD_some, Option.getD_none, Int.reduceToNat, reduceIte, Nat.reduceEqDiff, Nat.reduceAdd, Nat.reduceMul, Nat.reduceSub, Nat.reduceLT, Nat.reduceLeDiff, reduceCtorEq, *] | refine Xs _ (fun h => ?_) (fun h => ?_) | with_reducible refine And.intro ?_ ?_
  all_goals first | (intro r hr; simp at hr; subst hr; rfl) | (simp [bytesC]; omega) | (simp; done) | omega | rfl | skip
  refine SW.loopTo (α := Nat) (fun k => ⟨sl [(0, .c true (.sl (L.map intC))), (3, .own (.s 7 0)), (4, vI k)], hl [(.s 7 0, .row false 3 1 (fill intC [cI 0] L k))]⟩) (fun k => L.length - k) 0 (fun k => k ≤ L.length) ?_ (by simp) ?_
  · (refine Xto _ _ ?_ ?_ <;> simp only [go_sem, optI, Option.getD_some, Option.getD_none, Int.reduceToNat, reduceIte, Nat.reduceEqDiff, Nat.reduceAdd, Nat.reduceMul, Nat.reduceSub, Nat.reduceLT, Nat.reduceLeDiff, reduceCtorEq, Option.some.injEq, or_true, true_or] <;> (repeat' with_reducible apply And.intro) <;> (try rfl))
    all_goals exact fill_zero
  · intro k h2
    by_cases hk : k < L.length
    · have e := getD_map L intC [] hk
      have e1 : decide ((k : Int) < L.length) = true := by simp; omega
      have e2 : (fill intC [cI 0] L k).getD k [] = [cI 0] := fill_get hk
      have e3 := fill_len (f := intC) (z := [cI 0]) h2
      repeat' first | refine SW.step good fun K hK => ?_ | refine X2 good fun K hK => ?_ | refine X3 good fun K hK => ?_ | refine SW.seqK fun J hJ => ?_ | refine SW.last good fun K hK => ?_ | (refine hK _ ?_; clear hK K) | (refine hJ _ _ (Wk.refl _) ?_; clear hJ J) | clear hK K | clear hJ J | refine SW.skip ?_ | refine SW.ret ?_ | refine SW.retT ?_ | refine SW.retB ?_ | refine SW.exit ?_ | refine SW.exitT ?_ | refine SW.exitB ?_ | refine XN ?_ | refine SW.block ?_ | refine SW.normB ?_ | refine SW.normT ?_ | refine XT ?_ | refine XF ?_ | refine XC (fun h => ?_) (fun h => ?_) | simp only [go_sem, optI, Option.getD_some, Option.getD_none, Int.reduceToNat, reduceIte, Nat.reduceEqDiff, Nat.reduceAdd, Nat.reduceMul, Nat.reduceSub, Nat.reduceLT, Nat.reduceLeDiff, reduceCtorEq, *] | refine Xs _ (fun h => ?_) (fun h => ?_) | with_reducible refine And.intro ?_ ?_
      all_goals first | omega | skip
      refine ⟨k + 1, by omega, by omega, ?_⟩
      (refine Xto _ _ ?_ ?_ <;> simp only [go_sem, optI, Option.getD_some, Option.getD_none, Int.reduceToNat, reduceIte, Nat.reduceEqDiff, Nat.reduceAdd, Nat.reduceMul, Nat.reduceSub, Nat.reduceLT, Nat.reduceLeDiff, reduceCtorEq, Option.some.injEq, or_true, true_or] <;> (repeat' with_reducible apply And.intro) <;> (try rfl))
      · exact fill_set (f := intC) hk
      · rw [wrap64 (by omega) (by omega)]; simp
    · have hk : k = L.length := by omega
      subst hk
      have e1 : decide ((L.length : Int) < L.length) = false := by simp
      repeat' first | refine SW.step good fun K hK => ?_ | refine X2 good fun K hK => ?_ | refine X3 good fun K hK => ?_ | refine SW.seqK fun J hJ => ?_ | refine SW.last good fun K hK => ?_ | (refine hK _ ?_; clear hK K) | (refine hJ _ _ (Wk.refl _) ?_; clear hJ J) | clear hK K | clear hJ J | refine SW.skip ?_ | refine SW.ret ?_ | refine SW.retT ?_ | refine SW.retB ?_ | refine SW.exit ?_ | refine SW.exitT ?_ | refine SW.exitB ?_ | refine XN ?_ | refine SW.block ?_ | refine SW.normB ?_ | refine SW.normT ?_ | refine XT ?_ | refine XF ?_ | refine XC (fun h => ?_) (fun h => ?_) | simp only [go_sem, optI, Option.getD_some, Option.getD_none, Int.reduceToNat, reduceIte, Nat.reduceEqDiff, Nat.reduceAdd, Nat.reduceMul, Nat.reduceSub, Nat.reduceLT, Nat.reduceLeDiff, reduceCtorEq, *] | refine Xs _ (fun h => ?_) (fun h => ?_) | with_reducible refine And.intro ?_ ?_
      refine Xro (i := .s 7 0) ?_ ?_
      · simp only [Wn.leO]; rw [fill_all]
      · simp [Wn.le, outW, idsTo, hrOf, resOf]
def Peer.small (p : Peer) : Prop := p.behind.length ≤ 1048576 ∧ p.fingers.length ≤ 1048576 ∧ p.shelves.length ≤ 1048576 ∧ ∀ s, s ∈ p.shelves → s.items.length ≤ 1048576
def zPeer : List C := [cI 0, cB false, cI 0, .sl [], .sl [], .sl []]
end Go.Proofs.YtbgeagbgfioaaaaGreat.AB
