/- Events: copied, measured, compared. -/
import Derived.Test.YtbgeagbgfioaaaaGreatAbFdShow
namespace Go.Proofs.YtbgeagbgfioaaaaGreat.AB
open Go
set_option maxRecDepth 100000
set_option linter.unusedSimpArgs false
set_option linter.unusedVariables false
structure Event where
  kind : Int
  place : Int
  num : Int
  cred : Cred
  text : ByteArray
def evC (e : Event) : List C := [cI e.kind, cI e.place, cI e.num, cI e.cred.kind, cI e.cred.of.who, cI e.cred.of.name, cI e.cred.who, cI e.cred.a.who, cI e.cred.a.name, cI e.cred.b.who, cI e.cred.b.name, cI e.cred.till, cI e.cred.nonce, .v (.string e.text)]
def encEv (e : Event) : AV := .agg [vI e.kind, vI e.place, vI e.num, vI e.cred.kind, vI e.cred.of.who, vI e.cred.of.name, vI e.cred.who, vI e.cred.a.who, vI e.cred.a.name, vI e.cred.b.who, vI e.cred.b.name, vI e.cred.till, vI e.cred.nonce, .c false (.v (.string e.text))]
def evL (L : List Event) : AV := .c true (.sl (L.map evC))
attribute [go_sem] encEv evC
/-- how long texts are together -/
def textsLen (L : List Event) : Nat := (L.map fun e => (sb e.text).length).sum
def szOf (need : Nat) (left : Int) : Int := if left < need then -1 else left - need
theorem textsLen_take (L : List Event) {k : Nat} (h : k < L.length) : textsLen (L.take (k + 1)) = textsLen (L.take k) + (sb L[k].text).length := by
  unfold textsLen
  rw [List.take_add_one, List.getElem?_eq_getElem h, List.map_append, List.sum_append]; simp
theorem textsLen_le (L : List Event) (k : Nat) : textsLen (L.take k) ≤ textsLen L := by
  have h := congrArg textsLen (List.take_append_drop k L)
  unfold textsLen at h ⊢
  rw [List.map_append, List.sum_append] at h; omega
/-- a slice filled up to the k-th -/
def fill {α : Type} (f : α → List C) (z : List C) (L : List α) (k : Nat) : List (List C) := (L.take k).map f ++ List.replicate (L.length - k) z
section
variable {α : Type} {f : α → List C} {z : List C} {L : List α} {k : Nat}
theorem fill_len (h : k ≤ L.length) : (fill f z L k).length = L.length := by simp [fill]; omega
theorem fill_zero : List.replicate L.length z = fill f z L 0 := by simp [fill]
theorem fill_all : fill f z L L.length = L.map f := by simp [fill]
theorem fill_get (h : k < L.length) : (fill f z L k).getD k [] = z := by
  have h1 : ((L.take k).map f).length = k := by simp; omega
  rw [List.getD_eq_getElem?_getD, fill, List.getElem?_append_right (by omega), h1, Nat.sub_self, List.getElem?_replicate, if_pos (by omega)]; rfl
theorem fill_set (h : k < L.length) : (fill f z L k).set k (f L[k]) = fill f z L (k + 1) := by
  have h1 : ((L.take k).map f).length = k := by simp; omega
  have h2 : L.take (k + 1) = L.take k ++ [L[k]] := by rw [List.take_add_one, List.getElem?_eq_getElem h]; rfl
  unfold fill
  rw [List.set_append_right _ _ (by omega), h1, Nat.sub_self, h2, List.map_append, show L.length - k = (L.length - (k + 1)) + 1 by omega, List.replicate_succ, List.set_cons_zero, List.append_assoc]
  rfl
end
def zEv : List C := [cI 0, cI 0, cI 0, cI 0, cI 0, cI 0, cI 0, cI 0, cI 0, cI 0, cI 0, cI 0, cI 0, .v (.string ⟨#[]⟩)]
attribute [go_sem] layC
theorem ac_eqRole (r : Role) : AC Tryz.prog 78 [encRole r, encRole r] (vB true) [] := by
  refine XA good (fn := Tryz.f78) rfl ?_
  simp only [entry, List.getD_cons_zero, List.getD_cons_succ]
  repeat' first | refine SW.step good fun K hK => ?_ | refine X2 good fun K hK => ?_ | refine X3 good fun K hK => ?_ | refine SW.seqK fun J hJ => ?_ | refine SW.last good fun K hK => ?_ | (refine hK _ ?_; clear hK K) | (refine hJ _ _ (Wk.refl _) ?_; clear hJ J) | clear hK K | clear hJ J | refine SW.skip ?_ | refine SW.ret ?_ | refine SW.retT ?_ | refine SW.retB ?_ | refine SW.exit ?_ | refine SW.exitT ?_ | refine SW.exitB ?_ | refine XN ?_ | refine SW.block ?_ | refine SW.normB ?_ | refine SW.normT ?_ | refine XT ?_ | refine XF ?_ | refine XC (fun h => ?_) (fun h => ?_) | simp only [go_sem, optI, Option.getD_some, Option.getD_none, Int.reduceToNat, reduceIte, Nat.reduceEqDiff, Nat.reduceAdd, Nat.reduceMul, Nat.reduceSub, Nat.reduceLT, Nat.reduceLeDiff, reduceCtorEq, *] | refine Xs _ (fun h => ?_) (fun h => ?_) | with_reducible refine And.intro ?_ ?_
  all_goals refine Xrb ?_
  all_goals simp_all
theorem ac_eqCred (c : Cred) : AC Tryz.prog 52 [encCred c, encCred c] (vB true) [] := by
  refine XA good (fn := Tryz.f52) rfl ?_
  simp only [entry, List.getD_cons_zero, List.getD_cons_succ]
  repeat' first | refine SW.step good fun K hK => ?_ | refine X2 good fun K hK => ?_ | refine X3 good fun K hK => ?_ | refine SW.seqK fun J hJ => ?_ | refine SW.last good fun K hK => ?_ | (refine hK _ ?_; clear hK K) | (refine hJ _ _ (Wk.refl _) ?_; clear hJ J) | clear hK K | clear hJ J | refine SW.skip ?_ | refine SW.ret ?_ | refine SW.retT ?_ | refine SW.retB ?_ | refine SW.exit ?_ | refine SW.exitT ?_ | refine SW.exitB ?_ | refine XN ?_ | refine SW.block ?_ | refine SW.normB ?_ | refine SW.normT ?_ | refine XT ?_ | refine XF ?_ | refine XC (fun h => ?_) (fun h => ?_) | refine X0 ?_ | refine Xv ?_ | refine X1 (ac_eqRole ⟨_, _⟩) ?_ | simp only [go_sem, optI, Option.getD_some, Option.getD_none, Int.reduceToNat, reduceIte, Nat.reduceEqDiff, Nat.reduceAdd, Nat.reduceMul, Nat.reduceSub, Nat.reduceLT, Nat.reduceLeDiff, reduceCtorEq, *] | refine Xs _ (fun h => ?_) (fun h => ?_) | with_reducible refine And.intro ?_ ?_
  all_goals refine Xrb ?_
  all_goals simp_all
end Go.Proofs.YtbgeagbgfioaaaaGreat.AB
