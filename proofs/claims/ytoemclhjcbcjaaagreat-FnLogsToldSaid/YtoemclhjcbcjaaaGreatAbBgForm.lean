/- Signatures that have the form that they must have: both functions. -/
import Derived.Test.YtoemclhjcbcjaaaGreatAbBbPure
namespace Go.Proofs.YtoemclhjcbcjaaaGreat.AB
open Go
set_option maxRecDepth 100000
set_option linter.unusedSimpArgs false
set_option linter.unusedVariables false
theorem tm_rng (n : Int) : -256 < n.tmod 256 ∧ n.tmod 256 < 256 := by
  constructor
  · have := Int.lt_tmod_of_pos n (show (0 : Int) < 256 by decide); omega
  · exact Int.tmod_lt_of_pos n (by decide)
theorem tm_emod (n : Int) : (n.tmod 256 + 256).tmod 256 = n % 256 := by
  have h := tm_rng n
  rw [Int.tmod_eq_emod_of_nonneg (a := n.tmod 256 + 256) (by omega), Int.add_emod_right, Int.tmod_eq_emod]
  split <;> omega
theorem tm_neg (n : Int) (h : n.tmod 256 < 0) : n.tmod 256 + 256 = n % 256 := by
  have h1 := tm_emod n
  have hr := tm_rng n
  rw [Int.tmod_eq_emod_of_nonneg (by omega)] at h1; omega
theorem tm_pos (n : Int) (h : ¬ n.tmod 256 < 0) : n.tmod 256 = n % 256 := by
  have h1 := tm_emod n
  have hr := tm_rng n
  rw [Int.tmod_eq_emod_of_nonneg (by omega)] at h1; omega
theorem ac_l08Mod (n : Int) : AC Tryz.prog 106 [vI n] (vI (n % 256)) [] := by
  have h := tm_rng n
  have h3 : IntKind.i64.wrap (n.tmod 256 + 256) = n.tmod 256 + 256 := wrap64 (by omega) (by omega)
  clear h
  by_cases hm : n.tmod 256 < 0
  · have e1 : decide (n.tmod 256 < 0) = true := by simpa using hm
    have e2 := tm_neg n hm
    clear hm
    refine XA good (fn := Tryz.f106) rfl ?_
    simp only [entry, List.getD_cons_zero, List.getD_cons_succ]
    repeat' first | refine SW.step good fun K hK => ?_ | refine X2 good fun K hK => ?_ | refine X3 good fun K hK => ?_ | refine SW.seqK fun J hJ => ?_ | refine SW.last good fun K hK => ?_ | (refine hK _ ?_; clear hK K) | (refine hJ _ _ (Wk.refl _) ?_; clear hJ J) | clear hK K | clear hJ J | refine SW.skip ?_ | refine SW.ret ?_ | refine SW.retT ?_ | refine SW.retB ?_ | refine SW.exit ?_ | refine SW.exitT ?_ | refine SW.exitB ?_ | refine XN ?_ | refine SW.block ?_ | refine SW.normB ?_ | refine SW.normT ?_ | refine XT ?_ | refine XF ?_ | refine XC (fun h => ?_) (fun h => ?_) | simp only [go_sem, optI, Option.getD_some, Option.getD_none, Int.reduceToNat, reduceIte, Nat.reduceEqDiff, Nat.reduceAdd, Nat.reduceMul, Nat.reduceSub, Nat.reduceLT, Nat.reduceLeDiff, reduceCtorEq, *] | refine Xs _ (fun h => ?_) (fun h => ?_) | with_reducible refine And.intro ?_ ?_
    all_goals first | (intro r hr; simp at hr; subst hr; rfl) | (simp [bytesC]; omega) | (simp; done) | omega | rfl | skip
    all_goals refine Xri ?_
    all_goals first | rfl | exact e2.symm | simp_all
  · have e1 : decide (n.tmod 256 < 0) = false := by simpa using hm
    have e2 := tm_pos n hm
    clear hm
    refine XA good (fn := Tryz.f106) rfl ?_
    simp only [entry, List.getD_cons_zero, List.getD_cons_succ]
    repeat' first | refine SW.step good fun K hK => ?_ | refine X2 good fun K hK => ?_ | refine X3 good fun K hK => ?_ | refine SW.seqK fun J hJ => ?_ | refine SW.last good fun K hK => ?_ | (refine hK _ ?_; clear hK K) | (refine hJ _ _ (Wk.refl _) ?_; clear hJ J) | clear hK K | clear hJ J | refine SW.skip ?_ | refine SW.ret ?_ | refine SW.retT ?_ | refine SW.retB ?_ | refine SW.exit ?_ | refine SW.exitT ?_ | refine SW.exitB ?_ | refine XN ?_ | refine SW.block ?_ | refine SW.normB ?_ | refine SW.normT ?_ | refine XT ?_ | refine XF ?_ | refine XC (fun h => ?_) (fun h => ?_) | simp only [go_sem, optI, Option.getD_some, Option.getD_none, Int.reduceToNat, reduceIte, Nat.reduceEqDiff, Nat.reduceAdd, Nat.reduceMul, Nat.reduceSub, Nat.reduceLT, Nat.reduceLeDiff, reduceCtorEq, *] | refine Xs _ (fun h => ?_) (fun h => ?_) | with_reducible refine And.intro ?_ ?_
    all_goals first | (intro r hr; simp at hr; subst hr; rfl) | (simp [bytesC]; omega) | (simp; done) | omega | rfl | skip
    all_goals refine Xri ?_
    all_goals first | rfl | exact e2.symm | simp_all
theorem seedOf_cast (n : Int) : ((seedOf n : Nat) : Int) = 7 * (n % 256) + 1000 := by unfold seedOf; omega
theorem seedOf_le (n : Int) : seedOf n ≤ 1000000 := by unfold seedOf; omega
theorem ac_SeedOf' (n : Int) : AC Tryz.prog 98 [vI n] (vI (seedOf n : Nat)) [] := by
  have hp := ac_l08Mod n
  rw [seedOf_cast]
  have h0 : 0 ≤ n % 256 ∧ n % 256 < 256 := by omega
  generalize n % 256 = r at *
  have w1 : IntKind.i64.wrap (7 * r) = 7 * r := wrap64 (by omega) (by omega)
  have w2 : IntKind.i64.wrap (7 * r + 1000) = 7 * r + 1000 := wrap64 (by omega) (by omega)
  clear h0
  refine XA good (fn := Tryz.f98) rfl ?_
  simp only [entry, List.getD_cons_zero, List.getD_cons_succ]
  repeat' first | refine SW.step good fun K hK => ?_ | refine X2 good fun K hK => ?_ | refine X3 good fun K hK => ?_ | refine SW.seqK fun J hJ => ?_ | refine SW.last good fun K hK => ?_ | (refine hK _ ?_; clear hK K) | (refine hJ _ _ (Wk.refl _) ?_; clear hJ J) | clear hK K | clear hJ J | refine SW.skip ?_ | refine SW.ret ?_ | refine SW.retT ?_ | refine SW.retB ?_ | refine SW.exit ?_ | refine SW.exitT ?_ | refine SW.exitB ?_ | refine XN ?_ | refine SW.block ?_ | refine SW.normB ?_ | refine SW.normT ?_ | refine XT ?_ | refine XF ?_ | refine XC (fun h => ?_) (fun h => ?_) | refine X0 ?_ | refine Xv ?_ | refine X1 (hp) ?_ | simp only [go_sem, optI, Option.getD_some, Option.getD_none, Int.reduceToNat, reduceIte, Nat.reduceEqDiff, Nat.reduceAdd, Nat.reduceMul, Nat.reduceSub, Nat.reduceLT, Nat.reduceLeDiff, reduceCtorEq, *] | refine Xs _ (fun h => ?_) (fun h => ?_) | with_reducible refine And.intro ?_ ?_
  all_goals first | (intro r hr; simp at hr; subst hr; rfl) | (simp [bytesC]; omega) | (simp; done) | omega | rfl | skip
  all_goals refine Xri ?_
  all_goals simp_all
theorem inD {n : Nat} {hi : Int} (h : (n : Int) ≤ hi) : decide ((0 : Int) ≤ (n : Int) ∧ (n : Int) ≤ hi) = true := by simp; omega
theorem ac_l04Few (n : Nat) (h : n ≤ 1000000) : AC Tryz.prog 101 [vI n] (vB true) [] := by
  have a := ac_in' (n : Int) 0 1000000
  rw [inD (by omega)] at a
  refine XA good (fn := Tryz.f101) rfl ?_
  simp only [entry, List.getD_cons_zero, List.getD_cons_succ]
  repeat' first | refine SW.step good fun K hK => ?_ | refine X2 good fun K hK => ?_ | refine X3 good fun K hK => ?_ | refine SW.seqK fun J hJ => ?_ | refine SW.last good fun K hK => ?_ | (refine hK _ ?_; clear hK K) | (refine hJ _ _ (Wk.refl _) ?_; clear hJ J) | clear hK K | clear hJ J | refine SW.skip ?_ | refine SW.ret ?_ | refine SW.retT ?_ | refine SW.retB ?_ | refine SW.exit ?_ | refine SW.exitT ?_ | refine SW.exitB ?_ | refine XN ?_ | refine SW.block ?_ | refine SW.normB ?_ | refine SW.normT ?_ | refine XT ?_ | refine XF ?_ | refine XC (fun h => ?_) (fun h => ?_) | refine X0 ?_ | refine Xv ?_ | refine X1 (a) ?_ | simp only [go_sem, optI, Option.getD_some, Option.getD_none, Int.reduceToNat, reduceIte, Nat.reduceEqDiff, Nat.reduceAdd, Nat.reduceMul, Nat.reduceSub, Nat.reduceLT, Nat.reduceLeDiff, reduceCtorEq, *] | refine Xs _ (fun h => ?_) (fun h => ?_) | with_reducible refine And.intro ?_ ?_
  all_goals refine Xrb ?_
  all_goals rfl
theorem ac_SecretOf' (seed leaf i : Nat) (h0 : seed ≤ 1000000) (h1 : leaf ≤ 3) (h2 : i ≤ 10) : AC Tryz.prog 104 [vI seed, vI leaf, vI i] (vS (secr seed leaf i)) [] := by
  have a0 := ac_l04Few seed (by omega)
  have a1 := ac_l04Few leaf (by omega)
  have a2 := ac_l04Few i (by omega)
  have v0 := ac_var' (seed : Int) (by omega) (by omega)
  have v1 := ac_var' (leaf : Int) (by omega) (by omega)
  have v2 := ac_var' (i : Int) (by omega) (by omega)
  have l0 := varI_len (seed : Int)
  have l1 := varI_len (leaf : Int)
  have l2 := varI_len (i : Int)
  unfold secr
  generalize varI (seed : Int) = X at *
  generalize varI (leaf : Int) = Y at *
  generalize varI (i : Int) = Z at *
  have hs := ac_l04Cut (115 :: (X ++ Y ++ Z)) (by simp only [List.length_cons, List.length_append]; omega)
  generalize cutD (115 :: (X ++ Y ++ Z)) = R at *
  refine XA good (fn := Tryz.f104) rfl ?_
  simp only [entry, List.getD_cons_zero, List.getD_cons_succ]
  repeat' first | refine SW.step good fun K hK => ?_ | refine X2 good fun K hK => ?_ | refine X3 good fun K hK => ?_ | refine SW.seqK fun J hJ => ?_ | refine SW.last good fun K hK => ?_ | (refine hK _ ?_; clear hK K) | (refine hJ _ _ (Wk.refl _) ?_; clear hJ J) | clear hK K | clear hJ J | refine SW.skip ?_ | refine SW.ret ?_ | refine SW.retT ?_ | refine SW.retB ?_ | refine SW.exit ?_ | refine SW.exitT ?_ | refine SW.exitB ?_ | refine XN ?_ | refine SW.block ?_ | refine SW.normB ?_ | refine SW.normT ?_ | refine XT ?_ | refine XF ?_ | refine XC (fun h => ?_) (fun h => ?_) | refine X0 ?_ | refine Xv ?_ | refine X1 (a0) ?_ | refine X1 (a1) ?_ | refine X1 (a2) ?_ | refine X1 (v0) ?_ | refine X1 (v1) ?_ | refine X1 (v2) ?_ | refine X1 (hs) ?_ | simp only [go_sem, optI, Option.getD_some, Option.getD_none, Int.reduceToNat, reduceIte, Nat.reduceEqDiff, Nat.reduceAdd, Nat.reduceMul, Nat.reduceSub, Nat.reduceLT, Nat.reduceLeDiff, reduceCtorEq, *] | refine Xs _ (fun h => ?_) (fun h => ?_) | with_reducible refine And.intro ?_ ?_
  all_goals first | (intro r hr; simp at hr; subst hr; rfl) | (simp [bytesC]; omega) | (simp; done) | omega | rfl | skip
  all_goals (refine Xrs ?_; rfl)
end Go.Proofs.YtoemclhjcbcjaaaGreat.AB
namespace Go.Proofs.YtoemclhjcbcjaaaGreat.AB
open Go
set_option maxRecDepth 100000
set_option linter.unusedSimpArgs false
set_option linter.unusedVariables false
theorem ac_LeafKey' (seed leaf : Nat) (h0 : seed ≤ 1000000) (h1 : leaf ≤ 3) : AC Tryz.prog 108 [vI seed, vI leaf] (vS (leafK seed leaf)) [] := by
  refine XA good (fn := Tryz.f108) rfl ?_
  simp only [entry, List.getD_cons_zero, List.getD_cons_succ]
  repeat' first | refine SW.step good fun K hK => ?_ | refine X2 good fun K hK => ?_ | refine X3 good fun K hK => ?_ | refine SW.seqK fun J hJ => ?_ | refine SW.last good fun K hK => ?_ | (refine hK _ ?_; clear hK K) | (refine hJ _ _ (Wk.refl _) ?_; clear hJ J) | clear hK K | clear hJ J | refine SW.skip ?_ | refine SW.ret ?_ | refine SW.retT ?_ | refine SW.retB ?_ | refine SW.exit ?_ | refine SW.exitT ?_ | refine SW.exitB ?_ | refine XN ?_ | refine SW.block ?_ | refine SW.normB ?_ | refine SW.normT ?_ | refine XT ?_ | refine XF ?_ | refine XC (fun h => ?_) (fun h => ?_) | simp only [go_sem, optI, Option.getD_some, Option.getD_none, Int.reduceToNat, reduceIte, Nat.reduceEqDiff, Nat.reduceAdd, Nat.reduceMul, Nat.reduceSub, Nat.reduceLT, Nat.reduceLeDiff, reduceCtorEq, *] | refine Xs _ (fun h => ?_) (fun h => ?_) | with_reducible refine And.intro ?_ ?_
  refine SW.loopTo (α := Nat) (fun k => ⟨sl [(0, vI seed), (1, vI leaf), (5, vS (108 :: ends seed leaf k)), (6, vI k)], hl []⟩) (fun k => 11 - k) 0 (fun k => k ≤ 11) ?_ (by simp) ?_
  · (refine Xto _ _ ?_ ?_ <;> simp only [go_sem, optI, Option.getD_some, Option.getD_none, Int.reduceToNat, reduceIte, Nat.reduceEqDiff, Nat.reduceAdd, Nat.reduceMul, Nat.reduceSub, Nat.reduceLT, Nat.reduceLeDiff, reduceCtorEq, Option.some.injEq, or_true, true_or] <;> (repeat' with_reducible apply And.intro) <;> (try rfl))
    all_goals first | rfl | (simp [ends]; done) | skip
  · intro k h2
    have he := ends_len seed leaf k
    by_cases hk : k < 11
    · have e1 : decide ((k : Int) < 11) = true := by simp; omega
      have hw : IntKind.i64.wrap ((k : Int) + 1) = ((k + 1 : Nat) : Int) := wrap64 (by omega) (by omega)
      have hsl : (secr seed leaf k).length = 8 := cut_len _
      have a1 := ac_SecretOf' seed leaf k h0 h1 (by omega)
      have a2 := ac_ChainOf' (secr seed leaf k) (by omega) 3 (by omega)
      have hcl : (chT (secr seed leaf k) 3).length = 8 := chT8 hsl 3
      have hs := ends_succ seed leaf k
      generalize secr seed leaf k = X at *
      generalize chT X 3 = Y at *
      generalize ends seed leaf k = E at *
      have heb : E.length ≤ 80 := by omega
      clear he h2
      repeat' first | refine SW.step good fun K hK => ?_ | refine X2 good fun K hK => ?_ | refine X3 good fun K hK => ?_ | refine SW.seqK fun J hJ => ?_ | refine SW.last good fun K hK => ?_ | (refine hK _ ?_; clear hK K) | (refine hJ _ _ (Wk.refl _) ?_; clear hJ J) | clear hK K | clear hJ J | refine SW.skip ?_ | refine SW.ret ?_ | refine SW.retT ?_ | refine SW.retB ?_ | refine SW.exit ?_ | refine SW.exitT ?_ | refine SW.exitB ?_ | refine XN ?_ | refine SW.block ?_ | refine SW.normB ?_ | refine SW.normT ?_ | refine XT ?_ | refine XF ?_ | refine XC (fun h => ?_) (fun h => ?_) | refine X0 ?_ | refine Xv ?_ | refine X1 (a1) ?_ | refine X1 (a2) ?_ | simp only [go_sem, optI, Option.getD_some, Option.getD_none, Int.reduceToNat, reduceIte, Nat.reduceEqDiff, Nat.reduceAdd, Nat.reduceMul, Nat.reduceSub, Nat.reduceLT, Nat.reduceLeDiff, reduceCtorEq, *] | refine Xs _ (fun h => ?_) (fun h => ?_) | with_reducible refine And.intro ?_ ?_
      all_goals first | (intro r hr; simp at hr; subst hr; rfl) | (simp [bytesC]; omega) | (simp; done) | omega | rfl | skip
      all_goals refine ⟨k + 1, by omega, by omega, ?_⟩
      all_goals (refine Xto _ _ ?_ ?_ <;> simp only [go_sem, optI, Option.getD_some, Option.getD_none, Int.reduceToNat, reduceIte, Nat.reduceEqDiff, Nat.reduceAdd, Nat.reduceMul, Nat.reduceSub, Nat.reduceLT, Nat.reduceLeDiff, reduceCtorEq, Option.some.injEq, or_true, true_or] <;> (repeat' with_reducible apply And.intro) <;> (try rfl))
      all_goals first | (rw [hs]; done) | (rw [hs]; simp; done) | skip
    · have hk : k = 11 := by omega
      subst hk
      have e1 : decide (((11 : Nat) : Int) < 11) = false := by simp
      have hlk : leafK seed leaf = cutD (108 :: ends seed leaf 11) := rfl
      generalize ends seed leaf 11 = E at *
      have hs := ac_l04Cut (108 :: E) (by simp only [List.length_cons]; omega)
      generalize cutD (108 :: E) = R at *
      clear he h2
      repeat' first | refine SW.step good fun K hK => ?_ | refine X2 good fun K hK => ?_ | refine X3 good fun K hK => ?_ | refine SW.seqK fun J hJ => ?_ | refine SW.last good fun K hK => ?_ | (refine hK _ ?_; clear hK K) | (refine hJ _ _ (Wk.refl _) ?_; clear hJ J) | clear hK K | clear hJ J | refine SW.skip ?_ | refine SW.ret ?_ | refine SW.retT ?_ | refine SW.retB ?_ | refine SW.exit ?_ | refine SW.exitT ?_ | refine SW.exitB ?_ | refine XN ?_ | refine SW.block ?_ | refine SW.normB ?_ | refine SW.normT ?_ | refine XT ?_ | refine XF ?_ | refine XC (fun h => ?_) (fun h => ?_) | refine X0 ?_ | refine Xv ?_ | refine X1 (hs) ?_ | simp only [go_sem, optI, Option.getD_some, Option.getD_none, Int.reduceToNat, reduceIte, Nat.reduceEqDiff, Nat.reduceAdd, Nat.reduceMul, Nat.reduceSub, Nat.reduceLT, Nat.reduceLeDiff, reduceCtorEq, *] | refine Xs _ (fun h => ?_) (fun h => ?_) | with_reducible refine And.intro ?_ ?_
      all_goals first | (intro r hr; simp at hr; subst hr; rfl) | (simp [bytesC]; omega) | (simp; done) | omega | rfl | skip
      all_goals (refine Xrs ?_; first | exact hlk | rfl)
end Go.Proofs.YtoemclhjcbcjaaaGreat.AB
namespace Go.Proofs.YtoemclhjcbcjaaaGreat.AB
open Go
set_option maxRecDepth 100000
set_option linter.unusedSimpArgs false
set_option linter.unusedVariables false
def itemsOf (s : Shelf) : Nat := s.items.length
theorem sumOf_mono {α : Type} {f g : α → Nat} : ∀ (L : List α), (∀ x, x ∈ L → f x ≤ g x) → sumOf f L ≤ sumOf g L
  | [], _ => by simp [sumOf]
  | x :: L, h => by
    have h1 := h x (by simp)
    have h2 := sumOf_mono L (fun y hy => h y (List.mem_cons_of_mem _ hy))
    simp only [sumOf, List.map_cons, List.sum_cons] at h2 ⊢; omega
theorem sumOf_mem {α : Type} {f : α → Nat} : ∀ {L : List α} {x : α}, x ∈ L → f x ≤ sumOf f L
  | y :: L, x, h => by
    simp only [sumOf, List.map_cons, List.sum_cons]
    rcases List.mem_cons.1 h with rfl | h
    · omega
    · have := sumOf_mem (f := f) h; simp only [sumOf] at this; omega
def peerItems (p : Peer) : Nat := sumOf itemsOf p.shelves
theorem itemsOf_le (s : Shelf) : itemsOf s ≤ shelfSz s := by unfold itemsOf shelfSz itemsSz; omega
theorem peerItems_le (p : Peer) : peerItems p ≤ peerSz p := by
  unfold peerItems peerSz shelvesSz
  have := sumOf_mono (f := itemsOf) (g := shelfSz) p.shelves (fun s _ => itemsOf_le s)
  omega
theorem ringItems_le (L : List Peer) : sumOf peerItems L ≤ peersSz L := by
  unfold peersSz
  have := sumOf_mono (f := peerItems) (g := peerSz) L (fun s _ => peerItems_le s)
  omega
theorem Peer.small_of {p : Peer} (h : peerSz p ≤ 1048576) : p.small := by
  unfold peerSz shelvesSz at h
  refine ⟨by omega, by omega, by omega, fun s hs => ?_⟩
  have h1 := sumOf_mem (f := shelfSz) hs
  have h2 := itemsOf_le s
  unfold itemsOf at h2; omega
theorem peers_small {L : List Peer} (h : peersSz L ≤ 1048576) : L.length ≤ 1048576 ∧ ∀ p, p ∈ L → p.small := by
  unfold peersSz at h
  refine ⟨by omega, fun p hp => Peer.small_of ?_⟩
  have := sumOf_mem (f := peerSz) hp; omega
end Go.Proofs.YtoemclhjcbcjaaaGreat.AB
namespace Go.Proofs.YtoemclhjcbcjaaaGreat.AB
open Go
set_option maxRecDepth 100000
set_option linter.unusedSimpArgs false
set_option linter.unusedVariables false
def strC (s : List UInt8) : List C := [.v (.string ⟨s.toArray⟩)]
def vouC' (v : Vouched) : List C := [cI v.cred.kind, cI v.cred.of.who, cI v.cred.of.name, cI v.cred.who, cI v.cred.a.who, cI v.cred.a.name, cI v.cred.b.who, cI v.cred.b.name, cI v.cred.till, cI v.cred.nonce, cI v.sign.leaf, .sl (v.sign.ends.map strC), .sl (v.sign.way.map strC)]
def encSign (b : Bool) (s : Sign) : AV := .agg [vI s.leaf, .c b (.sl (s.ends.map strC)), .c b (.sl (s.way.map strC))]
def encVou (b : Bool) (v : Vouched) : AV := .agg [vI v.cred.kind, vI v.cred.of.who, vI v.cred.of.name, vI v.cred.who, vI v.cred.a.who, vI v.cred.a.name, vI v.cred.b.who, vI v.cred.b.name, vI v.cred.till, vI v.cred.nonce, vI v.sign.leaf, .c b (.sl (v.sign.ends.map strC)), .c b (.sl (v.sign.way.map strC))]
attribute [go_sem] strC vouC' encSign encVou credC
def strsSz (L : List (List UInt8)) : Nat := L.length + sumOf List.length L
def signSz (s : Sign) : Nat := strsSz s.ends + strsSz s.way
def vouSz (v : Vouched) : Nat := signSz v.sign
def vousSz (L : List Vouched) : Nat := L.length + sumOf vouSz L
def StrsOk (L : List (List UInt8)) : Prop := L.length ≤ 9223372036854775807 ∧ ∀ e, e ∈ L → e.length ≤ 9223372036854775807
def Sign.ok (s : Sign) : Prop := StrsOk s.ends ∧ StrsOk s.way
def Sign.small (s : Sign) : Prop := s.ends.length ≤ 1048576 ∧ s.way.length ≤ 1048576
def zStr : List C := [.v (.string ⟨#[]⟩)]
def zVou : List C := [cI 0, cI 0, cI 0, cI 0, cI 0, cI 0, cI 0, cI 0, cI 0, cI 0, cI 0, .sl [], .sl []]
theorem strs_small {L : List (List UInt8)} (h : strsSz L ≤ 1048576) : L.length ≤ 1048576 ∧ ∀ e, e ∈ L → e.length ≤ 1048576 := by
  unfold strsSz at h
  refine ⟨by omega, fun e he => ?_⟩
  have := sumOf_mem (f := List.length) he; omega
theorem vous_small {L : List Vouched} (h : vousSz L ≤ 1048576) : L.length ≤ 1048576 ∧ ∀ e, e ∈ L → e.sign.small := by
  unfold vousSz at h
  refine ⟨by omega, fun e he => ?_⟩
  have := sumOf_mem (f := vouSz) he
  have e2 : vouSz e = (e.sign.ends.length + sumOf List.length e.sign.ends) + (e.sign.way.length + sumOf List.length e.sign.way) := rfl
  exact ⟨by omega, by omega⟩
end Go.Proofs.YtoemclhjcbcjaaaGreat.AB
namespace Go.Proofs.YtoemclhjcbcjaaaGreat.AB
open Go
set_option maxRecDepth 100000
set_option linter.unusedSimpArgs false
set_option linter.unusedVariables false
def idx {α : Type} (g : α → Bool) : List α → Nat → Int
  | [], _ => -1
  | x :: r, k => if g x = true then (k : Int) else idx g r (k + 1)
theorem idx_any {α : Type} (g : α → Bool) : ∀ (L : List α) (k : Nat), L.any g = decide (idx g L k ≥ 0)
  | [], k => by simp [idx]
  | x :: r, k => by
    by_cases h : g x = true
    · simp [idx, h]
    · have h' : g x = false := by simpa using h
      rw [List.any_cons, h', Bool.false_or, idx_any g r (k + 1), idx, if_neg h]
end Go.Proofs.YtoemclhjcbcjaaaGreat.AB
namespace Go.Proofs.YtoemclhjcbcjaaaGreat.AB
open Go
set_option maxRecDepth 100000
set_option linter.unusedSimpArgs false
set_option linter.unusedVariables false
end Go.Proofs.YtoemclhjcbcjaaaGreat.AB
namespace Go.Proofs.YtoemclhjcbcjaaaGreat.AB
open Go
set_option maxRecDepth 100000
set_option linter.unusedSimpArgs false
set_option linter.unusedVariables false
def not8 (t : List UInt8) : Bool := !decide (t.length = 8)
theorem len8_any (L : List (List UInt8)) : len8 L = !L.any not8 := by
  unfold len8 not8
  rw [List.not_any_eq_all_not]; simp
def SmallS (L : List (List UInt8)) : Prop := L.length ≤ 1048576 ∧ ∀ e, e ∈ L → e.length ≤ 1048576
theorem ac_l04Steps : AC Tryz.prog 89 [] (vI 2) [] := by
  refine XA good (fn := Tryz.f89) rfl ?_
  simp only [entry, List.getD_cons_zero, List.getD_cons_succ]
  repeat' first | refine SW.step good fun K hK => ?_ | refine X2 good fun K hK => ?_ | refine X3 good fun K hK => ?_ | refine SW.seqK fun J hJ => ?_ | refine SW.last good fun K hK => ?_ | (refine hK _ ?_; clear hK K) | (refine hJ _ _ (Wk.refl _) ?_; clear hJ J) | clear hK K | clear hJ J | refine SW.skip ?_ | refine SW.ret ?_ | refine SW.retT ?_ | refine SW.retB ?_ | refine SW.exit ?_ | refine SW.exitT ?_ | refine SW.exitB ?_ | refine XN ?_ | refine SW.block ?_ | refine SW.normB ?_ | refine SW.normT ?_ | refine XT ?_ | refine XF ?_ | refine XC (fun h => ?_) (fun h => ?_) | simp only [go_sem, optI, Option.getD_some, Option.getD_none, Int.reduceToNat, reduceIte, Nat.reduceEqDiff, Nat.reduceAdd, Nat.reduceMul, Nat.reduceSub, Nat.reduceLT, Nat.reduceLeDiff, reduceCtorEq, *] | refine Xs _ (fun h => ?_) (fun h => ?_) | with_reducible refine And.intro ?_ ?_
  refine SW.loopTo (α := Nat × Nat) (fun a => ⟨sl [(1, vI a.1), (2, vI a.2)], hl []⟩) (fun a => a.2) (0, 4) (fun a => a = (0, 4) ∨ a = (1, 2) ∨ a = (2, 1)) ?_ (.inl rfl) ?_
  · (refine Xto _ _ ?_ ?_ <;> simp only [go_sem, optI, Option.getD_some, Option.getD_none, Int.reduceToNat, reduceIte, Nat.reduceEqDiff, Nat.reduceAdd, Nat.reduceMul, Nat.reduceSub, Nat.reduceLT, Nat.reduceLeDiff, reduceCtorEq, Option.some.injEq, or_true, true_or] <;> (repeat' with_reducible apply And.intro) <;> (try rfl))
  · rintro ⟨n, m⟩ h2
    simp only [Prod.mk.injEq] at h2
    have hw : IntKind.i64.wrap ((n : Int) + 1) = ((n + 1 : Nat) : Int) := wrap64 (by omega) (by omega)
    have d2 : (m : Int).tdiv 2 = ((m / 2 : Nat) : Int) := by rw [Int.tdiv_eq_ediv_of_nonneg (by omega)]; omega
    have w2 : IntKind.i64.wrap ((m / 2 : Nat) : Int) = ((m / 2 : Nat) : Int) := wrap64 (by omega) (by omega)
    by_cases hm : 1 < m
    · have d1 : decide ((1 : Int) < (m : Int)) = true := by simp; omega
      have hq : m / 2 < m := by omega
      have hz : (n + 1 = 0 ∧ m / 2 = 4) ∨ (n + 1 = 1 ∧ m / 2 = 2) ∨ (n + 1 = 2 ∧ m / 2 = 1) := by omega
      clear h2 hm
      generalize m / 2 = q at *
      repeat' first | refine SW.step good fun K hK => ?_ | refine X2 good fun K hK => ?_ | refine X3 good fun K hK => ?_ | refine SW.seqK fun J hJ => ?_ | refine SW.last good fun K hK => ?_ | (refine hK _ ?_; clear hK K) | (refine hJ _ _ (Wk.refl _) ?_; clear hJ J) | clear hK K | clear hJ J | refine SW.skip ?_ | refine SW.ret ?_ | refine SW.retT ?_ | refine SW.retB ?_ | refine SW.exit ?_ | refine SW.exitT ?_ | refine SW.exitB ?_ | refine XN ?_ | refine SW.block ?_ | refine SW.normB ?_ | refine SW.normT ?_ | refine XT ?_ | refine XF ?_ | refine XC (fun h => ?_) (fun h => ?_) | simp only [go_sem, optI, Option.getD_some, Option.getD_none, Int.reduceToNat, reduceIte, Nat.reduceEqDiff, Nat.reduceAdd, Nat.reduceMul, Nat.reduceSub, Nat.reduceLT, Nat.reduceLeDiff, reduceCtorEq, *] | refine Xs _ (fun h => ?_) (fun h => ?_) | with_reducible refine And.intro ?_ ?_
      all_goals first | (intro r hr; simp at hr; subst hr; rfl) | (simp [bytesC]; omega) | (simp; done) | omega | rfl | skip
      all_goals refine ⟨(n + 1, q), by simpa using hz, hq, ?_⟩
      all_goals (refine Xto _ _ ?_ ?_ <;> simp only [go_sem, optI, Option.getD_some, Option.getD_none, Int.reduceToNat, reduceIte, Nat.reduceEqDiff, Nat.reduceAdd, Nat.reduceMul, Nat.reduceSub, Nat.reduceLT, Nat.reduceLeDiff, reduceCtorEq, Option.some.injEq, or_true, true_or] <;> (repeat' with_reducible apply And.intro) <;> (try rfl))
    · have d1 : decide ((1 : Int) < (m : Int)) = false := by simp; omega
      have hn : n = 2 := by omega
      subst hn
      clear h2 hm
      repeat' first | refine SW.step good fun K hK => ?_ | refine X2 good fun K hK => ?_ | refine X3 good fun K hK => ?_ | refine SW.seqK fun J hJ => ?_ | refine SW.last good fun K hK => ?_ | (refine hK _ ?_; clear hK K) | (refine hJ _ _ (Wk.refl _) ?_; clear hJ J) | clear hK K | clear hJ J | refine SW.skip ?_ | refine SW.ret ?_ | refine SW.retT ?_ | refine SW.retB ?_ | refine SW.exit ?_ | refine SW.exitT ?_ | refine SW.exitB ?_ | refine XN ?_ | refine SW.block ?_ | refine SW.normB ?_ | refine SW.normT ?_ | refine XT ?_ | refine XF ?_ | refine XC (fun h => ?_) (fun h => ?_) | simp only [go_sem, optI, Option.getD_some, Option.getD_none, Int.reduceToNat, reduceIte, Nat.reduceEqDiff, Nat.reduceAdd, Nat.reduceMul, Nat.reduceSub, Nat.reduceLT, Nat.reduceLeDiff, reduceCtorEq, *] | refine Xs _ (fun h => ?_) (fun h => ?_) | with_reducible refine And.intro ?_ ?_
      all_goals first | (intro r hr; simp at hr; subst hr; rfl) | (simp [bytesC]; omega) | (simp; done) | omega | rfl | skip
      all_goals (refine Xri ?_; first | rfl | decide)
theorem len8_take {L : List (List UInt8)} {k : Nat} (h : k < L.length) (h1 : len8 (L.take k) = true) (h2 : L[k].length = 8) : len8 (L.take (k + 1)) = true := by
  unfold len8 at *
  rw [List.take_add_one, List.getElem?_eq_getElem h, List.all_append, h1]; simp [h2]
theorem len8_not {L : List (List UInt8)} {k : Nat} (h : k < L.length) (h2 : ¬ L[k].length = 8) : len8 L = false := by
  unfold len8
  rw [List.all_eq_false]; exact ⟨L[k], List.getElem_mem h, by simpa using h2⟩
theorem ac_l04Long (L : List (List UInt8)) (hL : SmallS L) : AC Tryz.prog 90 [.c true (.sl (L.map strC))] (vB (len8 L)) [] := by
  obtain ⟨hL1, hL2⟩ := hL
  refine XA good (fn := Tryz.f90) rfl ?_
  simp only [entry, List.getD_cons_zero, List.getD_cons_succ]
  repeat' first | refine SW.step good fun K hK => ?_ | refine X2 good fun K hK => ?_ | refine X3 good fun K hK => ?_ | refine SW.seqK fun J hJ => ?_ | refine SW.last good fun K hK => ?_ | (refine hK _ ?_; clear hK K) | (refine hJ _ _ (Wk.refl _) ?_; clear hJ J) | clear hK K | clear hJ J | refine SW.skip ?_ | refine SW.ret ?_ | refine SW.retT ?_ | refine SW.retB ?_ | refine SW.exit ?_ | refine SW.exitT ?_ | refine SW.exitB ?_ | refine XN ?_ | refine SW.block ?_ | refine SW.normB ?_ | refine SW.normT ?_ | refine XT ?_ | refine XF ?_ | refine XC (fun h => ?_) (fun h => ?_) | simp only [go_sem, optI, Option.getD_some, Option.getD_none, Int.reduceToNat, reduceIte, Nat.reduceEqDiff, Nat.reduceAdd, Nat.reduceMul, Nat.reduceSub, Nat.reduceLT, Nat.reduceLeDiff, reduceCtorEq, *] | refine Xs _ (fun h => ?_) (fun h => ?_) | with_reducible refine And.intro ?_ ?_
  refine SW.loopTo (α := Nat) (fun k => ⟨sl [(0, .c true (.sl (L.map strC))), (3, vI k)], hl []⟩) (fun k => L.length - k) 0 (fun k => k ≤ L.length ∧ len8 (L.take k) = true) ?_ ⟨by simp, by simp [len8]⟩ ?_
  · (refine Xto _ _ ?_ ?_ <;> simp only [go_sem, optI, Option.getD_some, Option.getD_none, Int.reduceToNat, reduceIte, Nat.reduceEqDiff, Nat.reduceAdd, Nat.reduceMul, Nat.reduceSub, Nat.reduceLT, Nat.reduceLeDiff, reduceCtorEq, Option.some.injEq, or_true, true_or] <;> (repeat' with_reducible apply And.intro) <;> (try rfl))
  · rintro k ⟨h2, h3⟩
    by_cases hk : k < L.length
    · have e := getD_map L strC [] hk
      have e1 : decide ((k : Int) < L.length) = true := by simp; omega
      have hw : IntKind.i64.wrap ((k : Int) + 1) = ((k + 1 : Nat) : Int) := wrap64 (by omega) (by omega)
      have hx := hL2 _ (List.getElem_mem hk)
      have t1 := len8_take hk h3
      have t2 := len8_not hk
      generalize L[k] = x at *
      clear h3 hL2
      by_cases h8 : x.length = 8
      · have e3 : decide ((x.length : Int) = 8) = true := by simp; omega
        have t3 := t1 h8
        clear t1 t2 h8
        repeat' first | refine SW.step good fun K hK => ?_ | refine X2 good fun K hK => ?_ | refine X3 good fun K hK => ?_ | refine SW.seqK fun J hJ => ?_ | refine SW.last good fun K hK => ?_ | (refine hK _ ?_; clear hK K) | (refine hJ _ _ (Wk.refl _) ?_; clear hJ J) | clear hK K | clear hJ J | refine SW.skip ?_ | refine SW.ret ?_ | refine SW.retT ?_ | refine SW.retB ?_ | refine SW.exit ?_ | refine SW.exitT ?_ | refine SW.exitB ?_ | refine XN ?_ | refine SW.block ?_ | refine SW.normB ?_ | refine SW.normT ?_ | refine XT ?_ | refine XF ?_ | refine XC (fun h => ?_) (fun h => ?_) | simp only [go_sem, optI, Option.getD_some, Option.getD_none, Int.reduceToNat, reduceIte, Nat.reduceEqDiff, Nat.reduceAdd, Nat.reduceMul, Nat.reduceSub, Nat.reduceLT, Nat.reduceLeDiff, reduceCtorEq, *] | refine Xs _ (fun h => ?_) (fun h => ?_) | with_reducible refine And.intro ?_ ?_
        all_goals first | (intro r hr; simp at hr; subst hr; rfl) | (simp [bytesC]; omega) | (simp; done) | omega | rfl | skip
        all_goals refine ⟨k + 1, ⟨by omega, t3⟩, by omega, ?_⟩
        all_goals (refine Xto _ _ ?_ ?_ <;> simp only [go_sem, optI, Option.getD_some, Option.getD_none, Int.reduceToNat, reduceIte, Nat.reduceEqDiff, Nat.reduceAdd, Nat.reduceMul, Nat.reduceSub, Nat.reduceLT, Nat.reduceLeDiff, reduceCtorEq, Option.some.injEq, or_true, true_or] <;> (repeat' with_reducible apply And.intro) <;> (try rfl))
      · have e3 : decide ((x.length : Int) = 8) = false := by simp; omega
        have t3 := t2 h8
        clear t1 t2 h8
        repeat' first | refine SW.step good fun K hK => ?_ | refine X2 good fun K hK => ?_ | refine X3 good fun K hK => ?_ | refine SW.seqK fun J hJ => ?_ | refine SW.last good fun K hK => ?_ | (refine hK _ ?_; clear hK K) | (refine hJ _ _ (Wk.refl _) ?_; clear hJ J) | clear hK K | clear hJ J | refine SW.skip ?_ | refine SW.ret ?_ | refine SW.retT ?_ | refine SW.retB ?_ | refine SW.exit ?_ | refine SW.exitT ?_ | refine SW.exitB ?_ | refine XN ?_ | refine SW.block ?_ | refine SW.normB ?_ | refine SW.normT ?_ | refine XT ?_ | refine XF ?_ | refine XC (fun h => ?_) (fun h => ?_) | simp only [go_sem, optI, Option.getD_some, Option.getD_none, Int.reduceToNat, reduceIte, Nat.reduceEqDiff, Nat.reduceAdd, Nat.reduceMul, Nat.reduceSub, Nat.reduceLT, Nat.reduceLeDiff, reduceCtorEq, *] | refine Xs _ (fun h => ?_) (fun h => ?_) | with_reducible refine And.intro ?_ ?_
        all_goals first | (intro r hr; simp at hr; subst hr; rfl) | (simp [bytesC]; omega) | (simp; done) | omega | rfl | skip
        all_goals (refine Xrb ?_; first | exact t3 | rfl)
    · have hk : k = L.length := by omega
      subst hk
      have e1 : decide ((L.length : Int) < L.length) = false := by simp
      rw [List.take_length] at h3
      repeat' first | refine SW.step good fun K hK => ?_ | refine X2 good fun K hK => ?_ | refine X3 good fun K hK => ?_ | refine SW.seqK fun J hJ => ?_ | refine SW.last good fun K hK => ?_ | (refine hK _ ?_; clear hK K) | (refine hJ _ _ (Wk.refl _) ?_; clear hJ J) | clear hK K | clear hJ J | refine SW.skip ?_ | refine SW.ret ?_ | refine SW.retT ?_ | refine SW.retB ?_ | refine SW.exit ?_ | refine SW.exitT ?_ | refine SW.exitB ?_ | refine XN ?_ | refine SW.block ?_ | refine SW.normB ?_ | refine SW.normT ?_ | refine XT ?_ | refine XF ?_ | refine XC (fun h => ?_) (fun h => ?_) | simp only [go_sem, optI, Option.getD_some, Option.getD_none, Int.reduceToNat, reduceIte, Nat.reduceEqDiff, Nat.reduceAdd, Nat.reduceMul, Nat.reduceSub, Nat.reduceLT, Nat.reduceLeDiff, reduceCtorEq, *] | refine Xs _ (fun h => ?_) (fun h => ?_) | with_reducible refine And.intro ?_ ?_
      all_goals (refine Xrb ?_; first | exact h3 | rfl)
theorem ac_l04Form (s : Sign) (b : Bool) (hE : SmallS s.ends) (hW : SmallS s.way) : AC Tryz.prog 81 [encSign true s] (vB (signForm s)) [] := by
  have c0 := ac_in' s.leaf 0 3
  have c1 := ac_l04Long s.ends hE
  have c2 := ac_l04Long s.way hW
  have c3 := ac_l04Steps
  have hp : signForm s = (decide (0 ≤ s.leaf ∧ s.leaf ≤ 3) && (decide ((s.ends.length : Int) = 11) && (decide ((s.way.length : Int) = 2) && (len8 s.ends && len8 s.way)))) := by
    unfold signForm
    rw [show decide (s.ends.length = 11) = decide ((s.ends.length : Int) = 11) by rw [decide_eq_decide]; omega, show decide (s.way.length = 2) = decide ((s.way.length : Int) = 2) by rw [decide_eq_decide]; omega]
  rw [hp]
  generalize decide (0 ≤ s.leaf ∧ s.leaf ≤ 3) = u at *
  generalize len8 s.ends = v at *
  generalize len8 s.way = w at *
  clear hp hE hW
  refine XA good (fn := Tryz.f81) rfl ?_
  simp only [entry, List.getD_cons_zero, List.getD_cons_succ]
  repeat' first | refine SW.step good fun K hK => ?_ | refine X2 good fun K hK => ?_ | refine X3 good fun K hK => ?_ | refine SW.seqK fun J hJ => ?_ | refine SW.last good fun K hK => ?_ | (refine hK _ ?_; clear hK K) | (refine hJ _ _ (Wk.refl _) ?_; clear hJ J) | clear hK K | clear hJ J | refine SW.skip ?_ | refine SW.ret ?_ | refine SW.retT ?_ | refine SW.retB ?_ | refine SW.exit ?_ | refine SW.exitT ?_ | refine SW.exitB ?_ | refine XN ?_ | refine SW.block ?_ | refine SW.normB ?_ | refine SW.normT ?_ | refine XT ?_ | refine XF ?_ | refine XC (fun h => ?_) (fun h => ?_) | refine X0 ?_ | refine Xv ?_ | refine X1 (c0) ?_ | refine X1 (c1) ?_ | refine X1 (c2) ?_ | refine X1 (c3) ?_ | simp only [go_sem, optI, Option.getD_some, Option.getD_none, Int.reduceToNat, reduceIte, Nat.reduceEqDiff, Nat.reduceAdd, Nat.reduceMul, Nat.reduceSub, Nat.reduceLT, Nat.reduceLeDiff, reduceCtorEq, *] | refine Xs _ (fun h => ?_) (fun h => ?_) | with_reducible refine And.intro ?_ ?_
  all_goals first | (intro r hr; simp at hr; subst hr; rfl) | (simp [bytesC]; omega) | (simp; done) | omega | rfl | skip
  all_goals refine Xrb ?_
  all_goals simp_all
end Go.Proofs.YtoemclhjcbcjaaaGreat.AB
