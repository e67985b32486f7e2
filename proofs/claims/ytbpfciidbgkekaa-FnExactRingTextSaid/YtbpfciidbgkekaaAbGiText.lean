/- Peers as texts: the program's function. -/
import Derived.Test.YtbpfciidbgkekaaAbGgPeer
namespace Go.Proofs.Ytbpfciidbgkekaa.AB
open Go
set_option maxRecDepth 100000
set_option linter.unusedSimpArgs false
set_option linter.unusedVariables false
def bitI (b : Bool) : Int := if b then 1 else 0
def listT (more : Int) (L : List Int) : List UInt8 := L.flatMap fun n => varI (n + more)
theorem listT_take (m : Int) (L : List Int) {k : Nat} (h : k < L.length) : listT m (L.take (k + 1)) = listT m (L.take k) ++ varI (L[k] + m) := by
  unfold listT
  rw [List.take_add_one, List.getElem?_eq_getElem h, List.flatMap_append]; simp
theorem listT_len (m : Int) : ∀ (L : List Int), (listT m L).length ≤ 10 * L.length
  | [] => by simp [listT]
  | n :: L => by
    have := varI_len (n + m); have := listT_len m L
    simp only [listT, List.flatMap_cons, List.length_append, List.length_cons] at *; omega
theorem ac_bit (b : Bool) : AC Try.prog 117 [vB b] (vI (bitI b)) [] := by
  cases b
  all_goals (
    refine XA good (fn := Try.f117) rfl ?_
    simp only [entry, List.getD_cons_zero, List.getD_cons_succ]
    repeat' first | refine SW.step good fun K hK => ?_ | refine X2 good fun K hK => ?_ | refine X3 good fun K hK => ?_ | refine SW.seqK fun J hJ => ?_ | refine SW.last good fun K hK => ?_ | (refine hK _ ?_; clear hK K) | (refine hJ _ _ (Wk.refl _) ?_; clear hJ J) | clear hK K | clear hJ J | refine SW.skip ?_ | refine SW.ret ?_ | refine SW.retT ?_ | refine SW.retB ?_ | refine SW.exit ?_ | refine SW.exitT ?_ | refine SW.exitB ?_ | refine XN ?_ | refine SW.block ?_ | refine SW.normB ?_ | refine SW.normT ?_ | refine XT ?_ | refine XF ?_ | refine XC (fun h => ?_) (fun h => ?_) | simp only [go_sem, optI, Option.getD_some, Option.getD_none, Int.reduceToNat, reduceIte, Nat.reduceEqDiff, Nat.reduceAdd, Nat.reduceMul, Nat.reduceSub, Nat.reduceLT, Nat.reduceLeDiff, reduceCtorEq, *] | refine Xs _ (fun h => ?_) (fun h => ?_) | with_reducible refine And.intro ?_ ?_
    all_goals refine Xri ?_
    all_goals rfl)
theorem ac_flag (b : Bool) : AC Try.prog 113 [vB b] (vI (bitI b)) [] := by
  cases b
  all_goals (
    refine XA good (fn := Try.f113) rfl ?_
    simp only [entry, List.getD_cons_zero, List.getD_cons_succ]
    repeat' first | refine SW.step good fun K hK => ?_ | refine X2 good fun K hK => ?_ | refine X3 good fun K hK => ?_ | refine SW.seqK fun J hJ => ?_ | refine SW.last good fun K hK => ?_ | (refine hK _ ?_; clear hK K) | (refine hJ _ _ (Wk.refl _) ?_; clear hJ J) | clear hK K | clear hJ J | refine SW.skip ?_ | refine SW.ret ?_ | refine SW.retT ?_ | refine SW.retB ?_ | refine SW.exit ?_ | refine SW.exitT ?_ | refine SW.exitB ?_ | refine XN ?_ | refine SW.block ?_ | refine SW.normB ?_ | refine SW.normT ?_ | refine XT ?_ | refine XF ?_ | refine XC (fun h => ?_) (fun h => ?_) | simp only [go_sem, optI, Option.getD_some, Option.getD_none, Int.reduceToNat, reduceIte, Nat.reduceEqDiff, Nat.reduceAdd, Nat.reduceMul, Nat.reduceSub, Nat.reduceLT, Nat.reduceLeDiff, reduceCtorEq, *] | refine Xs _ (fun h => ?_) (fun h => ?_) | with_reducible refine And.intro ?_ ?_
    all_goals refine Xri ?_
    all_goals rfl)
set_option maxHeartbeats 1000000 in
theorem ac_listText (L : List Int) (m : Int) (hL : L.length ≤ 1048576) (hm : ∀ n, n ∈ L → 0 ≤ n + m ∧ n + m ≤ 1000) : AC Try.prog 118 [.c true (.sl (L.map intC)), vI m] (vS (varI L.length ++ listT m L)) [] := by
  have hv := ac_var (L.length : Int) (by omega) (by omega)
  have hvl := varI_len (L.length : Int)
  refine XA good (fn := Try.f118) rfl ?_
  simp only [entry, List.getD_cons_zero, List.getD_cons_succ]
  repeat' first | refine SW.step good fun K hK => ?_ | refine X2 good fun K hK => ?_ | refine X3 good fun K hK => ?_ | refine SW.seqK fun J hJ => ?_ | refine SW.last good fun K hK => ?_ | (refine hK _ ?_; clear hK K) | (refine hJ _ _ (Wk.refl _) ?_; clear hJ J) | clear hK K | clear hJ J | refine SW.skip ?_ | refine SW.ret ?_ | refine SW.retT ?_ | refine SW.retB ?_ | refine SW.exit ?_ | refine SW.exitT ?_ | refine SW.exitB ?_ | refine XN ?_ | refine SW.block ?_ | refine SW.normB ?_ | refine SW.normT ?_ | refine XT ?_ | refine XF ?_ | refine XC (fun h => ?_) (fun h => ?_) | refine X0 ?_ | refine Xv ?_ | refine X1 (hv) ?_ | simp only [go_sem, optI, Option.getD_some, Option.getD_none, Int.reduceToNat, reduceIte, Nat.reduceEqDiff, Nat.reduceAdd, Nat.reduceMul, Nat.reduceSub, Nat.reduceLT, Nat.reduceLeDiff, reduceCtorEq, *] | refine Xs _ (fun h => ?_) (fun h => ?_) | with_reducible refine And.intro ?_ ?_
  all_goals first | omega | (simp; omega) | skip
  refine SW.loopTo (α := Nat) (fun k => ⟨sl [(1, vI m), (5, vS (varI L.length ++ listT m (L.take k))), (11, .c true (.sl (L.map intC))), (12, vI L.length), (13, vI k)], hl []⟩) (fun k => L.length - k) 0 (fun k => k ≤ L.length) ?_ (by simp) ?_
  · (refine Xto _ _ ?_ ?_ <;> simp only [go_sem, optI, Option.getD_some, Option.getD_none, Int.reduceToNat, reduceIte, Nat.reduceEqDiff, Nat.reduceAdd, Nat.reduceMul, Nat.reduceSub, Nat.reduceLT, Nat.reduceLeDiff, reduceCtorEq, Option.some.injEq, or_true, true_or] <;> (repeat' with_reducible apply And.intro) <;> (try rfl))
    all_goals first | (simp [listT]; done) | skip
  · intro k h2
    by_cases hk : k < L.length
    · have e := getD_map L intC [] hk
      have e1 : decide ((k : Int) < L.length) = true := by simp; omega
      have hw : IntKind.i64.wrap ((k : Int) + 1) = ((k + 1 : Nat) : Int) := wrap64 (by omega) (by omega)
      obtain ⟨m1, m2⟩ := hm _ (List.getElem_mem hk)
      have hw2 : IntKind.i64.wrap (L[k] + m) = L[k] + m := wrap64 (by omega) (by omega)
      have hl1 := listT_len m (L.take k)
      rw [List.length_take] at hl1
      have hl2 := varI_len (L[k] + m)
      have ht := listT_take m L hk
      have hvk := ac_var (L[k] + m) (by omega) (by omega)
      clear hv
      repeat' first | refine SW.step good fun K hK => ?_ | refine X2 good fun K hK => ?_ | refine X3 good fun K hK => ?_ | refine SW.seqK fun J hJ => ?_ | refine SW.last good fun K hK => ?_ | (refine hK _ ?_; clear hK K) | (refine hJ _ _ (Wk.refl _) ?_; clear hJ J) | clear hK K | clear hJ J | refine SW.skip ?_ | refine SW.ret ?_ | refine SW.retT ?_ | refine SW.retB ?_ | refine SW.exit ?_ | refine SW.exitT ?_ | refine SW.exitB ?_ | refine XN ?_ | refine SW.block ?_ | refine SW.normB ?_ | refine SW.normT ?_ | refine XT ?_ | refine XF ?_ | refine XC (fun h => ?_) (fun h => ?_) | refine X0 ?_ | refine Xv ?_ | refine X1 (hvk) ?_ | simp only [go_sem, optI, Option.getD_some, Option.getD_none, Int.reduceToNat, reduceIte, Nat.reduceEqDiff, Nat.reduceAdd, Nat.reduceMul, Nat.reduceSub, Nat.reduceLT, Nat.reduceLeDiff, reduceCtorEq, *] | refine Xs _ (fun h => ?_) (fun h => ?_) | with_reducible refine And.intro ?_ ?_
      all_goals first | omega | (simp; omega) | skip
      all_goals refine ⟨k + 1, by omega, by omega, ?_⟩
      all_goals (refine Xto _ _ ?_ ?_ <;> simp only [go_sem, optI, Option.getD_some, Option.getD_none, Int.reduceToNat, reduceIte, Nat.reduceEqDiff, Nat.reduceAdd, Nat.reduceMul, Nat.reduceSub, Nat.reduceLT, Nat.reduceLeDiff, reduceCtorEq, Option.some.injEq, or_true, true_or] <;> (repeat' with_reducible apply And.intro) <;> (try rfl))
      all_goals first | (rw [ht]; simp; done) | (simp; done) | skip
    · have hk : k = L.length := by omega
      subst hk
      have e1 : decide ((L.length : Int) < L.length) = false := by simp
      repeat' first | refine SW.step good fun K hK => ?_ | refine X2 good fun K hK => ?_ | refine X3 good fun K hK => ?_ | refine SW.seqK fun J hJ => ?_ | refine SW.last good fun K hK => ?_ | (refine hK _ ?_; clear hK K) | (refine hJ _ _ (Wk.refl _) ?_; clear hJ J) | clear hK K | clear hJ J | refine SW.skip ?_ | refine SW.ret ?_ | refine SW.retT ?_ | refine SW.retB ?_ | refine SW.exit ?_ | refine SW.exitT ?_ | refine SW.exitB ?_ | refine XN ?_ | refine SW.block ?_ | refine SW.normB ?_ | refine SW.normT ?_ | refine XT ?_ | refine XF ?_ | refine XC (fun h => ?_) (fun h => ?_) | simp only [go_sem, optI, Option.getD_some, Option.getD_none, Int.reduceToNat, reduceIte, Nat.reduceEqDiff, Nat.reduceAdd, Nat.reduceMul, Nat.reduceSub, Nat.reduceLT, Nat.reduceLeDiff, reduceCtorEq, *] | refine Xs _ (fun h => ?_) (fun h => ?_) | with_reducible refine And.intro ?_ ?_
      all_goals refine Xrs ?_
      all_goals rw [List.take_length]
theorem bitI_le (b : Bool) : 0 ≤ bitI b ∧ bitI b ≤ 1 := by cases b <;> simp [bitI]
def itemT (x : Item) : List UInt8 := varI (sb x.text).length ++ sb x.text ++ varI (bitI x.gone)
def itemsT (L : List Item) : List UInt8 := L.flatMap itemT
def shelfT (s : Shelf) : List UInt8 := varI s.key ++ varI s.items.length ++ itemsT s.items
def shelvesT (L : List Shelf) : List UInt8 := L.flatMap shelfT
def headT (p : Peer) : List UInt8 := varI p.id ++ varI (bitI p.here) ++ varI (p.ahead + 1) ++ (varI p.behind.length ++ listT 0 p.behind) ++ (varI p.fingers.length ++ listT 1 p.fingers) ++ varI p.shelves.length
def peerText (p : Peer) : List UInt8 := if peerOk p then headT p ++ shelvesT p.shelves else []
theorem itemsT_take (L : List Item) {k : Nat} (h : k < L.length) : itemsT (L.take (k + 1)) = itemsT (L.take k) ++ itemT L[k] := by
  unfold itemsT
  rw [List.take_add_one, List.getElem?_eq_getElem h, List.flatMap_append]; simp
theorem shelvesT_take (L : List Shelf) {k : Nat} (h : k < L.length) : shelvesT (L.take (k + 1)) = shelvesT (L.take k) ++ shelfT L[k] := by
  unfold shelvesT
  rw [List.take_add_one, List.getElem?_eq_getElem h, List.flatMap_append]; simp
theorem fm_len {α : Type} (f : α → List UInt8) (n : Nat) : ∀ (L : List α), (∀ x, x ∈ L → (f x).length ≤ n) → (L.flatMap f).length ≤ n * L.length
  | [], _ => by simp
  | x :: L, h => by
    have h1 := h x (by simp)
    have h2 := fm_len f n L (fun y hy => h y (List.mem_cons_of_mem _ hy))
    simp only [List.flatMap_cons, List.length_append, List.length_cons, Nat.mul_add]; omega
theorem itemsOk_facts {L : List Item} (h : itemsOk L = true) : L.length ≤ 300 ∧ ∀ x, x ∈ L → (sb x.text).length ≤ 600 := by
  unfold itemsOk at h
  simp only [Bool.and_eq_true, decide_eq_true_eq, allN_iff] at h
  refine ⟨h.1, fun x hx => ?_⟩
  obtain ⟨k, hk, rfl⟩ := List.getElem_of_mem hx
  have h1 := h.2 k hk
  rw [← tx_at hk]
  cases k with
  | zero => simpa [itemAt] using h1
  | succ k => simp only [itemAt, Bool.and_eq_true, decide_eq_true_eq] at h1; exact h1.1
theorem shelvesOk_facts {L : List Shelf} (h : shelvesOk L = true) : L.length ≤ 80 ∧ ∀ s, s ∈ L → 0 ≤ s.key ∧ s.key ≤ 255 ∧ itemsOk s.items = true := by
  unfold shelvesOk at h
  simp only [Bool.and_eq_true, decide_eq_true_eq, allN_iff] at h
  refine ⟨h.1, fun x hx => ?_⟩
  obtain ⟨k, hk, rfl⟩ := List.getElem_of_mem hx
  have h1 := h.2 k hk
  rw [← ky_at hk, ← its_at hk]
  cases k with
  | zero => simp only [shelfAt, inB, Bool.and_eq_true, decide_eq_true_eq] at h1; exact ⟨h1.1.1, h1.1.2, h1.2⟩
  | succ k => simp only [shelfAt, inB, Bool.and_eq_true, decide_eq_true_eq] at h1; exact ⟨h1.1.1, h1.1.2, h1.2.2⟩
theorem peerOk_facts {p : Peer} (h : peerOk p = true) : (0 ≤ p.id ∧ p.id ≤ 255) ∧ (-1 ≤ p.ahead ∧ p.ahead ≤ 255) ∧ p.behind.length ≤ 3 ∧ p.fingers.length ≤ 8 ∧ (∀ n, n ∈ p.behind → 0 ≤ n + 0 ∧ n + 0 ≤ 1000) ∧ (∀ n, n ∈ p.fingers → 0 ≤ n + 1 ∧ n + 1 ≤ 1000) ∧ shelvesOk p.shelves = true := by
  unfold peerOk at h
  rw [Bool.and_eq_true] at h
  obtain ⟨h1, h2⟩ := h
  have h1' : 0 ≤ p.id ∧ p.id ≤ 255 := by simpa [inB] using h1
  split at h2
  · simp only [Bool.and_eq_true, Bool.not_eq_true', decide_eq_true_eq, inB, List.any_eq_false, badB, badF, Bool.or_eq_true, Bool.not_eq_true, Bool.and_eq_false_iff] at h2
    obtain ⟨a1, a2, a3, a4, a5, a6⟩ := h2
    refine ⟨h1', a1, a2, by omega, fun n hn => ?_, fun n hn => ?_, a6⟩
    · have := a4 n hn
      simp only [not_or, Bool.not_eq_false, decide_eq_true_eq, decide_eq_false_iff_not, Bool.not_eq_false'] at this
      have := this.1; omega
    · have := a5 n hn
      simp at this
      by_cases q : n = -1
      · omega
      · have := this q; omega
  · simp only [Bool.and_eq_true, decide_eq_true_eq] at h2
    obtain ⟨a1, a2, a3, a4⟩ := h2
    have b2 : p.behind = [] := List.eq_nil_of_length_eq_zero a2
    have b3 : p.fingers = [] := List.eq_nil_of_length_eq_zero a3
    have b4 : p.shelves = [] := List.eq_nil_of_length_eq_zero a4
    refine ⟨h1', by omega, by omega, by omega, by rw [b2]; simp, by rw [b3]; simp, by rw [b4]; simp [shelvesOk, allN]⟩
theorem itemsT_len {L : List Item} (h : ∀ x, x ∈ L → (sb x.text).length ≤ 600) : (itemsT L).length ≤ 620 * L.length := fm_len itemT 620 L fun x hx => by
  have := h x hx; have := varI_len (sb x.text).length; have := varI_len (bitI x.gone)
  unfold itemT; simp only [List.length_append]; omega
theorem shelvesT_len {L : List Shelf} (h : ∀ s, s ∈ L → itemsOk s.items = true) : (shelvesT L).length ≤ 186020 * L.length := fm_len shelfT 186020 L fun s hs => by
  obtain ⟨h1, h2⟩ := itemsOk_facts (h s hs)
  have := itemsT_len h2; have := varI_len s.key; have := varI_len s.items.length
  unfold shelfT; simp only [List.length_append]; omega
theorem headT_len {p : Peer} (h : peerOk p = true) : (headT p).length ≤ 200 := by
  obtain ⟨_, _, h1, h2, _⟩ := peerOk_facts h
  have := varI_len p.id; have := varI_len (bitI p.here); have := varI_len (p.ahead + 1); have := varI_len p.behind.length; have := varI_len p.fingers.length; have := varI_len p.shelves.length
  have := listT_len 0 p.behind; have := listT_len 1 p.fingers
  unfold headT; simp only [List.length_append]; omega
theorem peerText_len (p : Peer) : (peerText p).length ≤ 20000000 := by
  unfold peerText
  split
  · rename_i h
    have h0 := headT_len h
    obtain ⟨h1, h2⟩ := shelvesOk_facts (peerOk_facts h).2.2.2.2.2.2
    have := shelvesT_len (L := p.shelves) (fun s hs => (h2 s hs).2.2)
    rw [List.length_append]; omega
  · simp
end Go.Proofs.Ytbpfciidbgkekaa.AB
