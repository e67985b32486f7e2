/- Rings shown: both functions, and the law. -/
import Derived.Test.YtbpfciidbgkekaaDoorAbGvLoad
import Derived.Test.YtbpfciidbgkekaaDoorAbDaDec
import Derived.Test.YtbpfciidbgkekaaDoorAbFsHas
namespace Go.Proofs.YtbpfciidbgkekaaDoor.AB
open Go
set_option maxRecDepth 100000
set_option linter.unusedSimpArgs false
set_option linter.unusedVariables false
def behL (B : List Int) : List UInt8 := B.flatMap fun x => 32 :: decI x
def lineP (p : Peer) : List UInt8 := decI p.id ++ [32, 45, 62] ++ behL p.behind ++ [32, 115, 104, 101, 108, 118, 101, 115, 32] ++ decN p.shelves.length ++ [10]
def lineR (L : List Peer) (n : Int) : List UInt8 := match L.find? (hereB n) with
  | some p => lineP p
  | none => []
def linesR (L : List Peer) (R : List Int) : List UInt8 := R.flatMap (lineR L)
def showRing (L : List Peer) : List UInt8 := linesR L (hereS L)
/-- the numbers of a peer that are shown are words of the machine -/
def Peer.num (p : Peer) : Prop := p.id ≤ 9223372036854775807 ∧ ∀ x, x ∈ p.behind → x ≤ 9223372036854775807
theorem decI_len {x : Int} (h : x ≤ 9223372036854775807) : (decI x).length ≤ 20 := decN_len (by omega)
theorem behL_len : ∀ (B : List Int), (∀ x, x ∈ B → x ≤ 9223372036854775807) → (behL B).length ≤ 21 * B.length
  | [], _ => by simp [behL]
  | x :: B, h => by
    have h1 := behL_len B (fun y hy => h y (List.mem_cons_of_mem _ hy))
    have h2 := decI_len (h x (by simp))
    unfold behL at *
    simp only [List.flatMap_cons, List.length_append, List.length_cons] at *; omega
theorem behL_take {B : List Int} {j : Nat} (h : j < B.length) : behL (B.take (j + 1)) = behL (B.take j) ++ 32 :: decI B[j] := by
  unfold behL
  rw [List.take_add_one, List.getElem?_eq_getElem h, List.flatMap_append]
  simp
theorem lineP_len {p : Peer} (h : p.small) (hn : p.num) : (lineP p).length ≤ 22020149 := by
  have h1 := decI_len hn.1
  have h2 := behL_len p.behind hn.2
  have h3 := h.1
  have h4 := decN_len (n := p.shelves.length) (by have := h.2.2.1; omega)
  unfold lineP
  simp only [List.length_append, List.length_cons, List.length_nil]; omega
theorem lineR_len {L : List Peer} (h : ∀ p, p ∈ L → p.small) (hn : ∀ p, p ∈ L → p.num) (n : Int) : (lineR L n).length ≤ 22020149 := by
  unfold lineR
  cases h1 : L.find? (hereB n) with
  | none => simp
  | some p => exact lineP_len (h p (List.mem_of_find?_eq_some h1)) (hn p (List.mem_of_find?_eq_some h1))
theorem linesR_len {L : List Peer} (h : ∀ p, p ∈ L → p.small) (hn : ∀ p, p ∈ L → p.num) : ∀ R, (linesR L R).length ≤ 22020149 * R.length
  | [] => by simp [linesR]
  | x :: R => by
    have h1 := linesR_len h hn R
    have h2 := lineR_len h hn x
    unfold linesR at *
    simp only [List.flatMap_cons, List.length_append, List.length_cons] at *; omega
theorem linesR_take {L : List Peer} {R : List Int} {k : Nat} {p : Peer} (h : k < R.length) (hp : L.find? (hereB R[k]) = some p) : linesR L (R.take (k + 1)) = linesR L (R.take k) ++ lineP p := by
  unfold linesR
  rw [List.take_add_one, List.getElem?_eq_getElem h, List.flatMap_append]
  simp [lineR, hp]
set_option maxHeartbeats 4000000 in
theorem ac_ShowRing (L : List Peer) (hL : L.length ≤ 1048576) (hL2 : ∀ p, p ∈ L → p.small) (hN : ∀ p, p ∈ L → p.num) : AC Tryd.prog 13 [encRing true L] (vS (showRing L)) [] := by
  have hh := ac_HereI L hL
  have hhl := hereS_len L
  have hp0 := fun n => ac_peerHere L n hL
  have hat := fun n (h : n ∈ hereS L) => here_at h
  have hlen := linesR_len hL2 hN
  unfold showRing
  generalize hereS L = R at *
  unfold encRing at *
  refine XA good (fn := Tryd.f13) rfl ?_
  simp only [entry, List.getD_cons_zero, List.getD_cons_succ]
  repeat' first | refine SW.step good fun K hK => ?_ | refine X2 good fun K hK => ?_ | refine X3 good fun K hK => ?_ | refine SW.seqK fun J hJ => ?_ | refine SW.last good fun K hK => ?_ | (refine hK _ ?_; clear hK K) | (refine hJ _ _ (Wk.refl _) ?_; clear hJ J) | clear hK K | clear hJ J | refine SW.skip ?_ | refine SW.ret ?_ | refine SW.retT ?_ | refine SW.retB ?_ | refine SW.exit ?_ | refine SW.exitT ?_ | refine SW.exitB ?_ | refine XN ?_ | refine SW.block ?_ | refine SW.normB ?_ | refine SW.normT ?_ | refine XT ?_ | refine XF ?_ | refine XC (fun h => ?_) (fun h => ?_) | refine X0 ?_ | refine Xv ?_ | refine X1 (hh) ?_ | simp only [go_sem, optI, Option.getD_some, Option.getD_none, Int.reduceToNat, reduceIte, Nat.reduceEqDiff, Nat.reduceAdd, Nat.reduceMul, Nat.reduceSub, Nat.reduceLT, Nat.reduceLeDiff, reduceCtorEq, *] | refine Xs _ (fun h => ?_) (fun h => ?_) | with_reducible refine And.intro ?_ ?_
  refine SW.loopTo (α := Nat) (fun k => ⟨sl [(1, .ptr (.s 1 0) 0), (3, vS (linesR L (R.take k))), (10, .own (.s 10 0)), (11, vI R.length), (12, vI k)], hl [(.s 1 0, .box [.c true (.sl (L.map peerC))]), (.s 10 0, .row false 3 1 (R.map intC))]⟩) (fun k => R.length - k) 0 (fun k => k ≤ R.length) ?_ (by simp) ?_
  · (refine Xto _ _ ?_ ?_ <;> simp only [go_sem, optI, Option.getD_some, Option.getD_none, Int.reduceToNat, reduceIte, Nat.reduceEqDiff, Nat.reduceAdd, Nat.reduceMul, Nat.reduceSub, Nat.reduceLT, Nat.reduceLeDiff, reduceCtorEq, Option.some.injEq, or_true, true_or] <;> (repeat' with_reducible apply And.intro) <;> (try rfl))
    all_goals first | (simp [linesR]; done) | skip
  · intro k h2
    have hln := hlen (R.take k)
    rw [List.length_take] at hln
    by_cases hk : k < R.length
    · have e := getD_map R intC [] hk
      have e1 : decide ((k : Int) < R.length) = true := by simp; omega
      have hw : IntKind.i64.wrap ((k : Int) + 1) = ((k + 1 : Nat) : Int) := wrap64 (by omega) (by omega)
      obtain ⟨i, hi, i1, i2, i3⟩ := hat _ (List.getElem_mem hk)
      have ht := linesR_take hk i2
      have hp := hp0 R[k]
      rw [i1] at hp
      have e2 := getD_map L peerC [] hi
      have hid : L[i].id = R[k] := by simp [hereB] at i3; exact i3.2
      have hsm := hL2 _ (List.getElem_mem hi)
      have hnm := hN _ (List.getElem_mem hi)
      have hs1 := hsm.1
      have hs3 := hsm.2.2.1
      have hx := hnm.2
      have hd1 := ac_Decimal L[i].id.toNat (by have := hnm.1; omega)
      have hd2 : (if (0 : Int) < R[k] then R[k] else 0) = ((L[i].id.toNat : Nat) : Int) := by rw [hid]; split <;> omega
      have hl1 := decI_len hnm.1
      have hd3 := ac_Decimal L[i].shelves.length (by omega)
      have hl3 := decN_len (n := L[i].shelves.length) (by omega)
      have hb := behL_len L[i].behind hx
      unfold lineP at ht
      have hdI : decN L[i].id.toNat = decI L[i].id := rfl
      rw [hdI] at hd1
      generalize linesR L (R.take k) = M at *
      clear i1 i2 i3 hat hp0 hlen hh hL2 hN hsm hnm
      generalize L[i] = p at *
      generalize R[k] = n at *
      subst hid
      generalize decI p.id = D at *
      generalize decN p.shelves.length = E at *
      repeat' first | refine SW.step good fun K hK => ?_ | refine X2 good fun K hK => ?_ | refine X3 good fun K hK => ?_ | refine SW.seqK fun J hJ => ?_ | refine SW.last good fun K hK => ?_ | (refine hK _ ?_; clear hK K) | (refine hJ _ _ (Wk.refl _) ?_; clear hJ J) | clear hK K | clear hJ J | refine SW.skip ?_ | refine SW.ret ?_ | refine SW.retT ?_ | refine SW.retB ?_ | refine SW.exit ?_ | refine SW.exitT ?_ | refine SW.exitB ?_ | refine XN ?_ | refine SW.block ?_ | refine SW.normB ?_ | refine SW.normT ?_ | refine XT ?_ | refine XF ?_ | refine XC (fun h => ?_) (fun h => ?_) | refine X0 ?_ | refine Xv ?_ | refine X1 (hp) ?_ | refine X1 (hd1) ?_ | simp only [go_sem, optI, Option.getD_some, Option.getD_none, Int.reduceToNat, reduceIte, Nat.reduceEqDiff, Nat.reduceAdd, Nat.reduceMul, Nat.reduceSub, Nat.reduceLT, Nat.reduceLeDiff, reduceCtorEq, *] | refine Xs _ (fun h => ?_) (fun h => ?_) | with_reducible refine And.intro ?_ ?_
      all_goals first | (intro r hr; simp at hr; subst hr; rfl) | (simp [bytesC]; omega) | (simp; done) | omega | rfl | skip
      refine SW.loopTo (α := Nat) (fun j => ⟨sl [(1, .ptr (.s 1 0) 0), (3, vS (M ++ (D ++ [32, 45, 62]) ++ behL (p.behind.take j))), (6, .ptr (.s 6 0) 0), (10, .own (.s 10 0)), (11, vI R.length), (12, vI k), (30, .c true (.sl (p.behind.map intC))), (31, vI p.behind.length), (32, vI j)], hl [(.s 1 0, .box [.c true (.sl (L.map peerC))]), (.s 6 0, .box [vI p.id, vB p.here, vI p.ahead, .c true (.sl (p.behind.map intC)), .c true (.sl (p.fingers.map intC)), .c true (.sl (p.shelves.map shelfC))]), (.s 10 0, .row false 3 1 (R.map intC))]⟩) (fun j => p.behind.length - j) 0 (fun j => j ≤ p.behind.length) ?_ (by simp) ?_
      · (refine Xto _ _ ?_ ?_ <;> simp only [go_sem, optI, Option.getD_some, Option.getD_none, Int.reduceToNat, reduceIte, Nat.reduceEqDiff, Nat.reduceAdd, Nat.reduceMul, Nat.reduceSub, Nat.reduceLT, Nat.reduceLeDiff, reduceCtorEq, Option.some.injEq, or_true, true_or] <;> (repeat' with_reducible apply And.intro) <;> (try rfl))
        all_goals first | (simp [behL]; done) | skip
      · intro j h3
        have hbj : (behL (p.behind.take j)).length ≤ 21 * j := by
          have := behL_len (p.behind.take j) (fun x hq => hx x (List.mem_of_mem_take hq))
          rw [List.length_take] at this; omega
        by_cases hj : j < p.behind.length
        · have f := getD_map p.behind intC [] hj
          have f1 : decide ((j : Int) < p.behind.length) = true := by simp; omega
          have hwj : IntKind.i64.wrap ((j : Int) + 1) = ((j + 1 : Nat) : Int) := wrap64 (by omega) (by omega)
          have hfg := ac_figures p.behind[j] (hx _ (List.getElem_mem hj))
          have hfl := decI_len (hx _ (List.getElem_mem hj))
          have htj := behL_take hj
          generalize decI p.behind[j] = F at *
          generalize behL (p.behind.take j) = Y at *
          clear hb hp hd1 hd3 ht
          repeat' first | refine SW.step good fun K hK => ?_ | refine X2 good fun K hK => ?_ | refine X3 good fun K hK => ?_ | refine SW.seqK fun J hJ => ?_ | refine SW.last good fun K hK => ?_ | (refine hK _ ?_; clear hK K) | (refine hJ _ _ (Wk.refl _) ?_; clear hJ J) | clear hK K | clear hJ J | refine SW.skip ?_ | refine SW.ret ?_ | refine SW.retT ?_ | refine SW.retB ?_ | refine SW.exit ?_ | refine SW.exitT ?_ | refine SW.exitB ?_ | refine XN ?_ | refine SW.block ?_ | refine SW.normB ?_ | refine SW.normT ?_ | refine XT ?_ | refine XF ?_ | refine XC (fun h => ?_) (fun h => ?_) | refine X0 ?_ | refine Xv ?_ | refine X1 (hfg) ?_ | simp only [go_sem, optI, Option.getD_some, Option.getD_none, Int.reduceToNat, reduceIte, Nat.reduceEqDiff, Nat.reduceAdd, Nat.reduceMul, Nat.reduceSub, Nat.reduceLT, Nat.reduceLeDiff, reduceCtorEq, *] | refine Xs _ (fun h => ?_) (fun h => ?_) | with_reducible refine And.intro ?_ ?_
          all_goals first | (intro r hr; simp at hr; subst hr; rfl) | (simp [bytesC]; omega) | (simp; done) | omega | rfl | (simp only [List.length_append, List.length_cons, List.length_nil]; omega) | skip
          all_goals refine ⟨j + 1, by omega, by omega, ?_⟩
          all_goals (refine Xto _ _ ?_ ?_ <;> simp only [go_sem, optI, Option.getD_some, Option.getD_none, Int.reduceToNat, reduceIte, Nat.reduceEqDiff, Nat.reduceAdd, Nat.reduceMul, Nat.reduceSub, Nat.reduceLT, Nat.reduceLeDiff, reduceCtorEq, Option.some.injEq, or_true, true_or] <;> (repeat' with_reducible apply And.intro) <;> (try rfl))
          all_goals first | (rw [htj]; simp; done) | skip
        · have hj' : j = p.behind.length := by omega
          subst hj'
          have f1 : decide ((p.behind.length : Int) < p.behind.length) = false := by simp
          rw [List.take_length] at hbj ⊢
          generalize behL p.behind = Y at *
          repeat' first | refine SW.step good fun K hK => ?_ | refine X2 good fun K hK => ?_ | refine X3 good fun K hK => ?_ | refine SW.seqK fun J hJ => ?_ | refine SW.last good fun K hK => ?_ | (refine hK _ ?_; clear hK K) | (refine hJ _ _ (Wk.refl _) ?_; clear hJ J) | clear hK K | clear hJ J | refine SW.skip ?_ | refine SW.ret ?_ | refine SW.retT ?_ | refine SW.retB ?_ | refine SW.exit ?_ | refine SW.exitT ?_ | refine SW.exitB ?_ | refine XN ?_ | refine SW.block ?_ | refine SW.normB ?_ | refine SW.normT ?_ | refine XT ?_ | refine XF ?_ | refine XC (fun h => ?_) (fun h => ?_) | refine X0 ?_ | refine Xv ?_ | refine X1 (hd3) ?_ | simp only [go_sem, optI, Option.getD_some, Option.getD_none, Int.reduceToNat, reduceIte, Nat.reduceEqDiff, Nat.reduceAdd, Nat.reduceMul, Nat.reduceSub, Nat.reduceLT, Nat.reduceLeDiff, reduceCtorEq, *] | refine Xs _ (fun h => ?_) (fun h => ?_) | with_reducible refine And.intro ?_ ?_
          all_goals first | (intro r hr; simp at hr; subst hr; rfl) | (simp [bytesC]; omega) | (simp; done) | omega | rfl | (simp only [List.length_append, List.length_cons, List.length_nil]; omega) | skip
          all_goals refine ⟨k + 1, by omega, by omega, ?_⟩
          all_goals (refine Xto _ _ ?_ ?_ <;> simp only [go_sem, optI, Option.getD_some, Option.getD_none, Int.reduceToNat, reduceIte, Nat.reduceEqDiff, Nat.reduceAdd, Nat.reduceMul, Nat.reduceSub, Nat.reduceLT, Nat.reduceLeDiff, reduceCtorEq, Option.some.injEq, or_true, true_or] <;> (repeat' with_reducible apply And.intro) <;> (try rfl))
          all_goals first | (rw [ht]; simp; done) | skip
    · have hk : k = R.length := by omega
      subst hk
      have e1 : decide ((R.length : Int) < R.length) = false := by simp
      rw [List.take_length]
      repeat' first | refine SW.step good fun K hK => ?_ | refine X2 good fun K hK => ?_ | refine X3 good fun K hK => ?_ | refine SW.seqK fun J hJ => ?_ | refine SW.last good fun K hK => ?_ | (refine hK _ ?_; clear hK K) | (refine hJ _ _ (Wk.refl _) ?_; clear hJ J) | clear hK K | clear hJ J | refine SW.skip ?_ | refine SW.ret ?_ | refine SW.retT ?_ | refine SW.retB ?_ | refine SW.exit ?_ | refine SW.exitT ?_ | refine SW.exitB ?_ | refine XN ?_ | refine SW.block ?_ | refine SW.normB ?_ | refine SW.normT ?_ | refine XT ?_ | refine XF ?_ | refine XC (fun h => ?_) (fun h => ?_) | simp only [go_sem, optI, Option.getD_some, Option.getD_none, Int.reduceToNat, reduceIte, Nat.reduceEqDiff, Nat.reduceAdd, Nat.reduceMul, Nat.reduceSub, Nat.reduceLT, Nat.reduceLeDiff, reduceCtorEq, *] | refine Xs _ (fun h => ?_) (fun h => ?_) | with_reducible refine And.intro ?_ ?_
      all_goals (refine Xrs ?_; rfl)
set_option maxHeartbeats 4000000 in
theorem ac_ShowRing' (L : List Peer) (hL : L.length ≤ 1048576) (hL2 : ∀ p, p ∈ L → p.small) (hN : ∀ p, p ∈ L → p.num) : AC Tryd.prog 11 [encRing true L] (vS (showRing L)) [] := by
  have hh := ac_HereOf' L hL
  have hhl := hereS_len L
  have hp0 := fun n => ac_PeerAt L n hL
  have hat := fun n (h : n ∈ hereS L) => here_at h
  have hlen := linesR_len hL2 hN
  unfold showRing
  generalize hereS L = R at *
  unfold encRing at *
  refine XA good (fn := Tryd.f11) rfl ?_
  simp only [entry, List.getD_cons_zero, List.getD_cons_succ]
  repeat' first | refine SW.step good fun K hK => ?_ | refine X2 good fun K hK => ?_ | refine X3 good fun K hK => ?_ | refine SW.seqK fun J hJ => ?_ | refine SW.last good fun K hK => ?_ | (refine hK _ ?_; clear hK K) | (refine hJ _ _ (Wk.refl _) ?_; clear hJ J) | clear hK K | clear hJ J | refine SW.skip ?_ | refine SW.ret ?_ | refine SW.retT ?_ | refine SW.retB ?_ | refine SW.exit ?_ | refine SW.exitT ?_ | refine SW.exitB ?_ | refine XN ?_ | refine SW.block ?_ | refine SW.normB ?_ | refine SW.normT ?_ | refine XT ?_ | refine XF ?_ | refine XC (fun h => ?_) (fun h => ?_) | refine X0 ?_ | refine Xv ?_ | refine X1 (hh) ?_ | simp only [go_sem, optI, Option.getD_some, Option.getD_none, Int.reduceToNat, reduceIte, Nat.reduceEqDiff, Nat.reduceAdd, Nat.reduceMul, Nat.reduceSub, Nat.reduceLT, Nat.reduceLeDiff, reduceCtorEq, *] | refine Xs _ (fun h => ?_) (fun h => ?_) | with_reducible refine And.intro ?_ ?_
  refine SW.loopTo (α := Nat) (fun k => ⟨sl [(1, .ptr (.s 1 0) 0), (3, vS (linesR L (R.take k))), (4, .own (.s 9 0)), (5, vI k)], hl [(.s 1 0, .box [.c true (.sl (L.map peerC))]), (.s 9 0, .row false 3 1 (R.map intC))]⟩) (fun k => R.length - k) 0 (fun k => k ≤ R.length) ?_ (by simp) ?_
  · (refine Xto _ _ ?_ ?_ <;> simp only [go_sem, optI, Option.getD_some, Option.getD_none, Int.reduceToNat, reduceIte, Nat.reduceEqDiff, Nat.reduceAdd, Nat.reduceMul, Nat.reduceSub, Nat.reduceLT, Nat.reduceLeDiff, reduceCtorEq, Option.some.injEq, or_true, true_or] <;> (repeat' with_reducible apply And.intro) <;> (try rfl))
    all_goals first | (simp [linesR]; done) | skip
  · intro k h2
    have hln := hlen (R.take k)
    rw [List.length_take] at hln
    by_cases hk : k < R.length
    · have e := getD_map R intC [] hk
      have e1 : decide ((k : Int) < R.length) = true := by simp; omega
      have hw : IntKind.i64.wrap ((k : Int) + 1) = ((k + 1 : Nat) : Int) := wrap64 (by omega) (by omega)
      obtain ⟨i, hi, i1, i2, i3⟩ := hat _ (List.getElem_mem hk)
      have ht := linesR_take hk i2
      have hp := hp0 R[k]
      rw [i1] at hp
      have e2 := getD_map L peerC [] hi
      have hid : L[i].id = R[k] := by simp [hereB] at i3; exact i3.2
      have hsm := hL2 _ (List.getElem_mem hi)
      have hnm := hN _ (List.getElem_mem hi)
      have hs1 := hsm.1
      have hs3 := hsm.2.2.1
      have hx := hnm.2
      have hd1 := ac_l27Num L[i].id hnm.1
      have hl1 := decI_len hnm.1
      have hd3 := ac_Decimal' L[i].shelves.length (by omega)
      have hl3 := decN_len (n := L[i].shelves.length) (by omega)
      have hb := behL_len L[i].behind hx
      unfold lineP at ht
      generalize linesR L (R.take k) = M at *
      clear i1 i2 i3 hat hp0 hlen hh hL2 hN hsm hnm
      generalize L[i] = p at *
      generalize R[k] = n at *
      subst hid
      generalize decI p.id = D at *
      generalize decN p.shelves.length = E at *
      repeat' first | refine SW.step good fun K hK => ?_ | refine X2 good fun K hK => ?_ | refine X3 good fun K hK => ?_ | refine SW.seqK fun J hJ => ?_ | refine SW.last good fun K hK => ?_ | (refine hK _ ?_; clear hK K) | (refine hJ _ _ (Wk.refl _) ?_; clear hJ J) | clear hK K | clear hJ J | refine SW.skip ?_ | refine SW.ret ?_ | refine SW.retT ?_ | refine SW.retB ?_ | refine SW.exit ?_ | refine SW.exitT ?_ | refine SW.exitB ?_ | refine XN ?_ | refine SW.block ?_ | refine SW.normB ?_ | refine SW.normT ?_ | refine XT ?_ | refine XF ?_ | refine XC (fun h => ?_) (fun h => ?_) | refine X0 ?_ | refine Xv ?_ | refine X1 (hp) ?_ | refine X1 (hd1) ?_ | simp only [go_sem, optI, Option.getD_some, Option.getD_none, Int.reduceToNat, reduceIte, Nat.reduceEqDiff, Nat.reduceAdd, Nat.reduceMul, Nat.reduceSub, Nat.reduceLT, Nat.reduceLeDiff, reduceCtorEq, *] | refine Xs _ (fun h => ?_) (fun h => ?_) | with_reducible refine And.intro ?_ ?_
      all_goals first | (intro r hr; simp at hr; subst hr; rfl) | (simp [bytesC]; omega) | (simp; done) | omega | rfl | skip
      refine SW.loopTo (α := Nat) (fun j => ⟨sl [(1, .ptr (.s 1 0) 0), (3, vS (M ++ (D ++ [32, 45, 62]) ++ behL (p.behind.take j))), (6, .ptr (.s 6 0) 0), (4, .own (.s 9 0)), (5, vI k), (7, vI j)], hl [(.s 1 0, .box [.c true (.sl (L.map peerC))]), (.s 6 0, .box [vI p.id, vB p.here, vI p.ahead, .c true (.sl (p.behind.map intC)), .c true (.sl (p.fingers.map intC)), .c true (.sl (p.shelves.map shelfC))]), (.s 9 0, .row false 3 1 (R.map intC))]⟩) (fun j => p.behind.length - j) 0 (fun j => j ≤ p.behind.length) ?_ (by simp) ?_
      · (refine Xto _ _ ?_ ?_ <;> simp only [go_sem, optI, Option.getD_some, Option.getD_none, Int.reduceToNat, reduceIte, Nat.reduceEqDiff, Nat.reduceAdd, Nat.reduceMul, Nat.reduceSub, Nat.reduceLT, Nat.reduceLeDiff, reduceCtorEq, Option.some.injEq, or_true, true_or] <;> (repeat' with_reducible apply And.intro) <;> (try rfl))
        all_goals first | (simp [behL]; done) | skip
      · intro j h3
        have hbj : (behL (p.behind.take j)).length ≤ 21 * j := by
          have := behL_len (p.behind.take j) (fun x hq => hx x (List.mem_of_mem_take hq))
          rw [List.length_take] at this; omega
        by_cases hj : j < p.behind.length
        · have f := getD_map p.behind intC [] hj
          have f1 : decide ((j : Int) < p.behind.length) = true := by simp; omega
          have hwj : IntKind.i64.wrap ((j : Int) + 1) = ((j + 1 : Nat) : Int) := wrap64 (by omega) (by omega)
          have hfg := ac_l27Num p.behind[j] (hx _ (List.getElem_mem hj))
          have hfl := decI_len (hx _ (List.getElem_mem hj))
          have htj := behL_take hj
          generalize decI p.behind[j] = F at *
          generalize behL (p.behind.take j) = Y at *
          clear hb hp hd1 hd3 ht
          repeat' first | refine SW.step good fun K hK => ?_ | refine X2 good fun K hK => ?_ | refine X3 good fun K hK => ?_ | refine SW.seqK fun J hJ => ?_ | refine SW.last good fun K hK => ?_ | (refine hK _ ?_; clear hK K) | (refine hJ _ _ (Wk.refl _) ?_; clear hJ J) | clear hK K | clear hJ J | refine SW.skip ?_ | refine SW.ret ?_ | refine SW.retT ?_ | refine SW.retB ?_ | refine SW.exit ?_ | refine SW.exitT ?_ | refine SW.exitB ?_ | refine XN ?_ | refine SW.block ?_ | refine SW.normB ?_ | refine SW.normT ?_ | refine XT ?_ | refine XF ?_ | refine XC (fun h => ?_) (fun h => ?_) | refine X0 ?_ | refine Xv ?_ | refine X1 (hfg) ?_ | simp only [go_sem, optI, Option.getD_some, Option.getD_none, Int.reduceToNat, reduceIte, Nat.reduceEqDiff, Nat.reduceAdd, Nat.reduceMul, Nat.reduceSub, Nat.reduceLT, Nat.reduceLeDiff, reduceCtorEq, *] | refine Xs _ (fun h => ?_) (fun h => ?_) | with_reducible refine And.intro ?_ ?_
          all_goals first | (intro r hr; simp at hr; subst hr; rfl) | (simp [bytesC]; omega) | (simp; done) | omega | rfl | (simp only [List.length_append, List.length_cons, List.length_nil]; omega) | skip
          all_goals refine ⟨j + 1, by omega, by omega, ?_⟩
          all_goals (refine Xto _ _ ?_ ?_ <;> simp only [go_sem, optI, Option.getD_some, Option.getD_none, Int.reduceToNat, reduceIte, Nat.reduceEqDiff, Nat.reduceAdd, Nat.reduceMul, Nat.reduceSub, Nat.reduceLT, Nat.reduceLeDiff, reduceCtorEq, Option.some.injEq, or_true, true_or] <;> (repeat' with_reducible apply And.intro) <;> (try rfl))
          all_goals first | (rw [htj]; simp; done) | skip
        · have hj' : j = p.behind.length := by omega
          subst hj'
          have f1 : decide ((p.behind.length : Int) < p.behind.length) = false := by simp
          rw [List.take_length] at hbj ⊢
          generalize behL p.behind = Y at *
          repeat' first | refine SW.step good fun K hK => ?_ | refine X2 good fun K hK => ?_ | refine X3 good fun K hK => ?_ | refine SW.seqK fun J hJ => ?_ | refine SW.last good fun K hK => ?_ | (refine hK _ ?_; clear hK K) | (refine hJ _ _ (Wk.refl _) ?_; clear hJ J) | clear hK K | clear hJ J | refine SW.skip ?_ | refine SW.ret ?_ | refine SW.retT ?_ | refine SW.retB ?_ | refine SW.exit ?_ | refine SW.exitT ?_ | refine SW.exitB ?_ | refine XN ?_ | refine SW.block ?_ | refine SW.normB ?_ | refine SW.normT ?_ | refine XT ?_ | refine XF ?_ | refine XC (fun h => ?_) (fun h => ?_) | refine X0 ?_ | refine Xv ?_ | refine X1 (hd3) ?_ | simp only [go_sem, optI, Option.getD_some, Option.getD_none, Int.reduceToNat, reduceIte, Nat.reduceEqDiff, Nat.reduceAdd, Nat.reduceMul, Nat.reduceSub, Nat.reduceLT, Nat.reduceLeDiff, reduceCtorEq, *] | refine Xs _ (fun h => ?_) (fun h => ?_) | with_reducible refine And.intro ?_ ?_
          all_goals first | (intro r hr; simp at hr; subst hr; rfl) | (simp [bytesC]; omega) | (simp; done) | omega | rfl | (simp only [List.length_append, List.length_cons, List.length_nil]; omega) | skip
          all_goals refine ⟨k + 1, by omega, by omega, ?_⟩
          all_goals (refine Xto _ _ ?_ ?_ <;> simp only [go_sem, optI, Option.getD_some, Option.getD_none, Int.reduceToNat, reduceIte, Nat.reduceEqDiff, Nat.reduceAdd, Nat.reduceMul, Nat.reduceSub, Nat.reduceLT, Nat.reduceLeDiff, reduceCtorEq, Option.some.injEq, or_true, true_or] <;> (repeat' with_reducible apply And.intro) <;> (try rfl))
          all_goals first | (rw [ht]; simp; done) | skip
    · have hk : k = R.length := by omega
      subst hk
      have e1 : decide ((R.length : Int) < R.length) = false := by simp
      rw [List.take_length]
      repeat' first | refine SW.step good fun K hK => ?_ | refine X2 good fun K hK => ?_ | refine X3 good fun K hK => ?_ | refine SW.seqK fun J hJ => ?_ | refine SW.last good fun K hK => ?_ | (refine hK _ ?_; clear hK K) | (refine hJ _ _ (Wk.refl _) ?_; clear hJ J) | clear hK K | clear hJ J | refine SW.skip ?_ | refine SW.ret ?_ | refine SW.retT ?_ | refine SW.retB ?_ | refine SW.exit ?_ | refine SW.exitT ?_ | refine SW.exitB ?_ | refine XN ?_ | refine SW.block ?_ | refine SW.normB ?_ | refine SW.normT ?_ | refine XT ?_ | refine XF ?_ | refine XC (fun h => ?_) (fun h => ?_) | simp only [go_sem, optI, Option.getD_some, Option.getD_none, Int.reduceToNat, reduceIte, Nat.reduceEqDiff, Nat.reduceAdd, Nat.reduceMul, Nat.reduceSub, Nat.reduceLT, Nat.reduceLeDiff, reduceCtorEq, *] | refine Xs _ (fun h => ?_) (fun h => ?_) | with_reducible refine And.intro ?_ ?_
      all_goals (refine Xrs ?_; rfl)
set_option maxHeartbeats 1000000 in
theorem ac_lawShowRing (L : List Peer) (hL : L.length ≤ 9223372036854775807) (hT : ∀ p, p ∈ L → p.ok) (hN : ∀ p, p ∈ L → p.num) :
    AC Tryd.prog 4 [encRing false L] (vB true) [] := by
  have hs1 := ac_szRing L 1048576 (by omega) (by omega) hL hT
  by_cases h1 : (1048576 : Int) < (peersSz L : Nat)
  · rw [szOf_n h1] at hs1
    refine XA good (fn := Tryd.f4) rfl ?_
    simp only [entry, List.getD_cons_zero, List.getD_cons_succ]
    repeat' first | refine SW.step good fun K hK => ?_ | refine X2 good fun K hK => ?_ | refine X3 good fun K hK => ?_ | refine SW.seqK fun J hJ => ?_ | refine SW.last good fun K hK => ?_ | (refine hK _ ?_; clear hK K) | (refine hJ _ _ (Wk.refl _) ?_; clear hJ J) | clear hK K | clear hJ J | refine SW.skip ?_ | refine SW.ret ?_ | refine SW.retT ?_ | refine SW.retB ?_ | refine SW.exit ?_ | refine SW.exitT ?_ | refine SW.exitB ?_ | refine XN ?_ | refine SW.block ?_ | refine SW.normB ?_ | refine SW.normT ?_ | refine XT ?_ | refine XF ?_ | refine XC (fun h => ?_) (fun h => ?_) | refine X0 ?_ | refine Xv ?_ | refine X1 (hs1) ?_ | simp only [go_sem, optI, Option.getD_some, Option.getD_none, Int.reduceToNat, reduceIte, Nat.reduceEqDiff, Nat.reduceAdd, Nat.reduceMul, Nat.reduceSub, Nat.reduceLT, Nat.reduceLeDiff, reduceCtorEq, *] | refine Xs _ (fun h => ?_) (fun h => ?_) | with_reducible refine And.intro ?_ ?_
    all_goals refine Xrb ?_
    all_goals rfl
  · rw [szOf_p h1] at hs1
    have e1 : decide ((1048576 : Int) - (peersSz L : Nat) < 0) = false := by simp only [decide_eq_false_iff_not]; omega
    have h2 : peersSz L ≤ 1048576 := by omega
    have hs := peers_small h2
    refine XA good (fn := Tryd.f4) rfl ?_
    simp only [entry, List.getD_cons_zero, List.getD_cons_succ]
    repeat' first | refine SW.step good fun K hK => ?_ | refine X2 good fun K hK => ?_ | refine X3 good fun K hK => ?_ | refine SW.seqK fun J hJ => ?_ | refine SW.last good fun K hK => ?_ | (refine hK _ ?_; clear hK K) | (refine hJ _ _ (Wk.refl _) ?_; clear hJ J) | clear hK K | clear hJ J | refine SW.skip ?_ | refine SW.ret ?_ | refine SW.retT ?_ | refine SW.retB ?_ | refine SW.exit ?_ | refine SW.exitT ?_ | refine SW.exitB ?_ | refine XN ?_ | refine SW.block ?_ | refine SW.normB ?_ | refine SW.normT ?_ | refine XT ?_ | refine XF ?_ | refine XC (fun h => ?_) (fun h => ?_) | refine X0 ?_ | refine Xv ?_ | refine X1 (hs1) ?_ | refine X1 (ac_toRing L hs.1 hs.2) ?_ | refine X1 (ac_ShowRing' L hs.1 hs.2 hN) ?_ | refine X1 (ac_ShowRing L hs.1 hs.2 hN) ?_ | refine X1 (ac_eqRing L hs.1 hs.2) ?_ | simp only [go_sem, optI, Option.getD_some, Option.getD_none, Int.reduceToNat, reduceIte, Nat.reduceEqDiff, Nat.reduceAdd, Nat.reduceMul, Nat.reduceSub, Nat.reduceLT, Nat.reduceLeDiff, reduceCtorEq, *] | refine Xs _ (fun h => ?_) (fun h => ?_) | with_reducible refine And.intro ?_ ?_
    all_goals first | omega | (simp; omega) | skip
    all_goals first | (refine Xrb ?_; rfl) | skip
theorem wfR {n : Int} (h : (Lit.int .i64 n).wf = true) : n ≤ 9223372036854775807 := by
  simp [Lit.wf] at h
  omega
theorem hasIntsR {q : Nat} : ∀ {xs : List (List C)}, (∀ r, r ∈ xs → HasT Tryd.prog (q + 1) 3 r) → ∃ L : List Int, xs = L.map intC ∧ ∀ n, n ∈ L → n ≤ 9223372036854775807
  | [], _ => ⟨[], rfl, by simp⟩
  | r :: xs, h => by
    have h1 := h r (by simp)
    simp only [HasT, Tryd.underlying3] at h1
    obtain ⟨n, rfl, hn⟩ := h1
    obtain ⟨L, rfl, hL⟩ := hasIntsR (xs := xs) (fun r hr => h r (List.mem_cons_of_mem _ hr))
    exact ⟨n :: L, rfl, by simpa using ⟨wfR hn, hL⟩⟩
theorem hasPeerN {q : Nat} {cs : List C} (h : HasT Tryd.prog (q + 6) 87 cs) : ∃ e : Peer, cs = peerC e ∧ e.ok ∧ e.num := by
  simp only [HasT, Tryd.underlying87, Tryd.underlying85, Tryd.underlying56, Tryd.underlying3, Tryd.underlying4, HasFs] at h
  obtain ⟨_, _, rfl, ⟨id, rfl, hid⟩, _, _, rfl, ⟨he, rfl⟩, _, _, rfl, ⟨ah, rfl, _⟩, _, _, rfl, ⟨xs, rfl, h1, h2⟩, _, _, rfl, ⟨ys, rfl, h3, h4⟩, _, _, rfl, ⟨zs, rfl, h5, h6⟩, rfl⟩ := h
  obtain ⟨L, rfl, hb⟩ := hasIntsR (q := 0) (by intro r hr; have := h2 r hr; simp only [HasT, Tryd.underlying3]; exact this)
  obtain ⟨M, rfl, _⟩ := hasIntsR (q := 0) (by intro r hr; have := h4 r hr; simp only [HasT, Tryd.underlying3]; exact this)
  obtain ⟨Z, rfl, hZ⟩ := hasShelves h6
  rw [List.length_map] at h1 h3 h5
  exact ⟨⟨id, he, ah, L, M, Z⟩, rfl, ⟨by simpa [maxLen] using h1, by simpa [maxLen] using h3, by simpa [maxLen] using h5, hZ⟩, wfR hid, hb⟩
theorem hasPeersN {q : Nat} : ∀ {xs : List (List C)}, (∀ r, r ∈ xs → HasT Tryd.prog (q + 6) 87 r) → ∃ L : List Peer, xs = L.map peerC ∧ (∀ e, e ∈ L → e.ok) ∧ ∀ e, e ∈ L → e.num
  | [], _ => ⟨[], rfl, by simp, by simp⟩
  | r :: xs, h => by
    obtain ⟨e, rfl, he, hn⟩ := hasPeerN (h r (by simp))
    obtain ⟨L, rfl, hL, hM⟩ := hasPeersN (xs := xs) (fun r hr => h r (List.mem_cons_of_mem _ hr))
    exact ⟨e :: L, rfl, by simpa using ⟨he, hL⟩, by simpa using ⟨hn, hM⟩⟩
theorem args_FnExactShowRing {xss : List (List C)} (hx : AllT Tryd.prog 9 [35] xss) : AC Tryd.prog 4 (argsAV Tryd.prog false [35] xss) (vB true) [] := by
  obtain ⟨cs, rfl, hcs⟩ := AllT_one hx
  have h := hcs
  simp only [HasT, Tryd.underlying35, Tryd.underlying33, HasFs] at h
  obtain ⟨_, _, rfl, ⟨xs, rfl, h1, h2⟩, rfl⟩ := h
  obtain ⟨L, rfl, hL, hM⟩ := hasPeersN (q := 1) h2
  rw [List.length_map] at h1
  have hagg : aggOf Tryd.prog 35 = true := by kernel_rfl
  simpa only [argsAV, argAV_agg hagg, List.map_cons, List.map_nil, List.append_nil, List.cons_append, List.nil_append, cvC, encRing] using ac_lawShowRing L (by simpa [maxLen] using h1) hL hM
end Go.Proofs.YtbpfciidbgkekaaDoor.AB
