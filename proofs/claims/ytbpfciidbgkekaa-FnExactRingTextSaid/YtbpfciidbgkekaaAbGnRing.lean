/- Whom one knows next; rings that are right: what the program and the reference ask comes to the same. -/
import Derived.Test.YtbpfciidbgkekaaAbGmRing
import Derived.Test.YtbpfciidbgkekaaAbGiText
namespace Go.Proofs.Ytbpfciidbgkekaa.AB
open Go
set_option maxRecDepth 100000
set_option linter.unusedSimpArgs false
set_option linter.unusedVariables false
def nextOf (L : List Peer) (n : Int) : Int := match L.find? (hereB n) with
  | some p => (p.behind.find? (known L)).getD (-1)
  | none => -1
def okAt (L : List Peer) (k : Nat) : Bool := match L[k]? with
  | some p => peerOk p && ((!decide ((k : Int) < 4) || p.here) && ((!p.here || knowsOne L p) && !(L.take k).any fun q => decide (q.id = p.id)))
  | none => true
def okAtS (L : List Peer) (k : Nat) : Bool := match L[k]? with
  | some p => peerOk p && ((!decide ((k : Int) < 4) || p.here) && ((!p.here || !decide (nextOf L p.id < 0)) && !(L.take k).any fun q => decide (q.id = p.id)))
  | none => true
def ringOk (L : List Peer) : Bool := decide (4 ≤ (L.length : Int) ∧ (L.length : Int) ≤ 8) && allN L.length (okAt L)
theorem behind_le {p : Peer} (h : peerOk p = true) {x : Int} (hx : x ∈ p.behind) : 0 ≤ x := by
  have := (peerOk_facts h).2.2.2.2.1 x hx; omega
theorem next_one {L : List Peer} {k : Nat} (hk : k < L.length) (hp : peerOk L[k] = true) (hh : L[k].here = true) (hd : ((L.take k).any fun q => decide (q.id = L[k].id)) = false) : (!decide (nextOf L L[k].id < 0)) = knowsOne L L[k] := by
  have hf : L.find? (hereB L[k].id) = some L[k] := by
    rw [List.find?_eq_some_iff_append]
    refine ⟨by simp [hereB, hh], L.take k, L.drop (k + 1), ?_, ?_⟩
    · rw [List.getElem_cons_drop, List.take_append_drop]
    · intro q hq
      rw [List.any_eq_false] at hd
      have := hd q hq
      simp only [hereB, Bool.and_eq_true, not_and, Bool.not_eq_true', Bool.and_eq_false_iff]
      right; simpa using this
  unfold nextOf knowsOne
  rw [hf]
  simp only
  obtain ⟨o, hb⟩ : ∃ o, L[k].behind.find? (known L) = o := ⟨_, rfl⟩
  simp only [hb]
  cases o with
  | none =>
    have : L[k].behind.any (known L) = false := by
      rw [List.any_eq_false]
      intro x hx
      simpa using List.find?_eq_none.1 hb x hx
    rw [this]; rfl
  | some x =>
    have hx := List.mem_of_find?_eq_some hb
    have hg := List.find?_some hb
    have : L[k].behind.any (known L) = true := List.any_eq_true.2 ⟨x, hx, hg⟩
    rw [this]
    have := behind_le hp hx
    simp; omega
theorem okAt_eq (L : List Peer) (k : Nat) : okAtS L k = okAt L k := by
  unfold okAt okAtS
  by_cases hk : k < L.length
  · rw [List.getElem?_eq_getElem hk]
    simp only
    cases hd : (L.take k).any fun q => decide (q.id = L[k].id) with
    | true => simp
    | false =>
      cases hp : peerOk L[k] with
      | false => rfl
      | true =>
        cases hh : L[k].here with
        | false => rfl
        | true => rw [next_one hk hp hh hd]
  · rw [List.getElem?_eq_none (by omega)]
theorem okAt_at {L : List Peer} {k : Nat} (hk : k < L.length) : okAt L k = (peerOk L[k] && ((!decide ((k : Int) < 4) || L[k].here) && ((!L[k].here || knowsOne L L[k]) && !(L.take k).any fun q => decide (q.id = L[k].id)))) := by
  unfold okAt; rw [List.getElem?_eq_getElem hk]
theorem okAtS_at {L : List Peer} {k : Nat} (hk : k < L.length) : okAt L k = (peerOk L[k] && ((!decide ((k : Int) < 4) || L[k].here) && ((!L[k].here || !decide (nextOf L L[k].id < 0)) && !(L.take k).any fun q => decide (q.id = L[k].id)))) := by
  rw [← okAt_eq]; unfold okAtS; rw [List.getElem?_eq_getElem hk]
set_option maxHeartbeats 2000000 in
theorem ac_NextOf (L : List Peer) (n : Int) (hL : L.length ≤ 1048576) (hL2 : ∀ p, p ∈ L → p.small) : AC Try.prog 169 [encRing true L, vI n] (vI (nextOf L n)) [] := by
  have ha := ac_PeerAt L n hL
  unfold nextOf
  rcases idx_spec (hereB n) L 0 with ⟨h1, h2⟩ | ⟨i, hi, h1, h2, _⟩
  · rw [h1] at ha
    rw [h2]
    clear h1 h2
    refine XA good (fn := Try.f169) rfl ?_
    simp only [entry, List.getD_cons_zero, List.getD_cons_succ]
    repeat' first | refine SW.step good fun K hK => ?_ | refine X2 good fun K hK => ?_ | refine X3 good fun K hK => ?_ | refine SW.seqK fun J hJ => ?_ | refine SW.last good fun K hK => ?_ | (refine hK _ ?_; clear hK K) | (refine hJ _ _ (Wk.refl _) ?_; clear hJ J) | clear hK K | clear hJ J | refine SW.skip ?_ | refine SW.ret ?_ | refine SW.retT ?_ | refine SW.retB ?_ | refine SW.exit ?_ | refine SW.exitT ?_ | refine SW.exitB ?_ | refine XN ?_ | refine SW.block ?_ | refine SW.normB ?_ | refine SW.normT ?_ | refine XT ?_ | refine XF ?_ | refine XC (fun h => ?_) (fun h => ?_) | refine X0 ?_ | refine Xv ?_ | refine X1 (ha) ?_ | simp only [go_sem, optI, Option.getD_some, Option.getD_none, Int.reduceToNat, reduceIte, Nat.reduceEqDiff, Nat.reduceAdd, Nat.reduceMul, Nat.reduceSub, Nat.reduceLT, Nat.reduceLeDiff, reduceCtorEq, *] | refine Xs _ (fun h => ?_) (fun h => ?_) | with_reducible refine And.intro ?_ ?_
    refine SW.loopTo (α := Unit) (fun _ => ⟨sl [(5, vI (-1))], hl []⟩) (fun _ => 0) () (fun _ => True) ?_ trivial ?_
    · (refine Xto _ _ ?_ ?_ <;> simp only [go_sem, optI, Option.getD_some, Option.getD_none, Int.reduceToNat, reduceIte, Nat.reduceEqDiff, Nat.reduceAdd, Nat.reduceMul, Nat.reduceSub, Nat.reduceLT, Nat.reduceLeDiff, reduceCtorEq, Option.some.injEq, or_true, true_or] <;> (repeat' with_reducible apply And.intro) <;> (try rfl))
    · rintro ⟨⟩ _
      have g0 : decide ((-1 : Int) ≥ 0) = false := rfl
      have g1 : decide ((0 : Int) ≤ -1) = false := rfl
      repeat' first | refine SW.step good fun K hK => ?_ | refine X2 good fun K hK => ?_ | refine X3 good fun K hK => ?_ | refine SW.seqK fun J hJ => ?_ | refine SW.last good fun K hK => ?_ | (refine hK _ ?_; clear hK K) | (refine hJ _ _ (Wk.refl _) ?_; clear hJ J) | clear hK K | clear hJ J | refine SW.skip ?_ | refine SW.ret ?_ | refine SW.retT ?_ | refine SW.retB ?_ | refine SW.exit ?_ | refine SW.exitT ?_ | refine SW.exitB ?_ | refine XN ?_ | refine SW.block ?_ | refine SW.normB ?_ | refine SW.normT ?_ | refine XT ?_ | refine XF ?_ | refine XC (fun h => ?_) (fun h => ?_) | simp only [go_sem, optI, Option.getD_some, Option.getD_none, Int.reduceToNat, reduceIte, Nat.reduceEqDiff, Nat.reduceAdd, Nat.reduceMul, Nat.reduceSub, Nat.reduceLT, Nat.reduceLeDiff, reduceCtorEq, *] | refine Xs _ (fun h => ?_) (fun h => ?_) | with_reducible refine And.intro ?_ ?_
      all_goals refine Xri ?_
      all_goals rfl
  · rw [Nat.zero_add] at h1
    rw [h1] at ha
    rw [h2]
    simp only
    have e := getD_map L peerC [] hi
    have hsm := (hL2 _ (List.getElem_mem hi)).1
    have g0 : decide ((0 : Int) ≤ (i : Int)) = true := by rw [decide_eq_true_eq]; omega
    clear h1 h2
    refine XA good (fn := Try.f169) rfl ?_
    simp only [entry, List.getD_cons_zero, List.getD_cons_succ]
    repeat' first | refine SW.step good fun K hK => ?_ | refine X2 good fun K hK => ?_ | refine X3 good fun K hK => ?_ | refine SW.seqK fun J hJ => ?_ | refine SW.last good fun K hK => ?_ | (refine hK _ ?_; clear hK K) | (refine hJ _ _ (Wk.refl _) ?_; clear hJ J) | clear hK K | clear hJ J | refine SW.skip ?_ | refine SW.ret ?_ | refine SW.retT ?_ | refine SW.retB ?_ | refine SW.exit ?_ | refine SW.exitT ?_ | refine SW.exitB ?_ | refine XN ?_ | refine SW.block ?_ | refine SW.normB ?_ | refine SW.normT ?_ | refine XT ?_ | refine XF ?_ | refine XC (fun h => ?_) (fun h => ?_) | refine X0 ?_ | refine Xv ?_ | refine X1 (ha) ?_ | simp only [go_sem, optI, Option.getD_some, Option.getD_none, Int.reduceToNat, reduceIte, Nat.reduceEqDiff, Nat.reduceAdd, Nat.reduceMul, Nat.reduceSub, Nat.reduceLT, Nat.reduceLeDiff, reduceCtorEq, *] | refine Xs _ (fun h => ?_) (fun h => ?_) | with_reducible refine And.intro ?_ ?_
    refine SW.loopTo (α := Nat) (fun k => ⟨sl [(2, .ptr (.s 2 0) 0), (5, vI i), (6, vI k)], hl [(.s 2 0, .box [.c true (.sl (L.map peerC))])]⟩) (fun k => L[i].behind.length - k) 0 (fun k => k ≤ L[i].behind.length ∧ L[i].behind.find? (known L) = (L[i].behind.drop k).find? (known L)) ?_ ⟨by simp, by simp⟩ ?_
    · (refine Xto _ _ ?_ ?_ <;> simp only [go_sem, optI, Option.getD_some, Option.getD_none, Int.reduceToNat, reduceIte, Nat.reduceEqDiff, Nat.reduceAdd, Nat.reduceMul, Nat.reduceSub, Nat.reduceLT, Nat.reduceLeDiff, reduceCtorEq, Option.some.injEq, or_true, true_or] <;> (repeat' with_reducible apply And.intro) <;> (try rfl))
    · rintro k ⟨h2, h3⟩
      by_cases hk : k < L[i].behind.length
      · have e2 := getD_map L[i].behind intC [] hk
        have e1 : decide ((k : Int) < L[i].behind.length) = true := by simp; omega
        have hw : IntKind.i64.wrap ((k : Int) + 1) = ((k + 1 : Nat) : Int) := wrap64 (by omega) (by omega)
        have hb := ac_PeerAt L L[i].behind[k] hL
        rw [List.drop_eq_getElem_cons hk, List.find?_cons] at h3
        have hkn : known L L[i].behind[k] = decide (idx (hereB L[i].behind[k]) L 0 ≥ 0) := by unfold known; rw [idx_any _ L 0]
        generalize idx (hereB L[i].behind[k]) L 0 = j at *
        by_cases hj : 0 ≤ j
        · have g2 : decide ((0 : Int) ≤ j) = true := by simpa using hj
          rw [hkn, show decide (j ≥ 0) = true from g2] at h3
          clear hkn hj ha
          repeat' first | refine SW.step good fun K hK => ?_ | refine X2 good fun K hK => ?_ | refine X3 good fun K hK => ?_ | refine SW.seqK fun J hJ => ?_ | refine SW.last good fun K hK => ?_ | (refine hK _ ?_; clear hK K) | (refine hJ _ _ (Wk.refl _) ?_; clear hJ J) | clear hK K | clear hJ J | refine SW.skip ?_ | refine SW.ret ?_ | refine SW.retT ?_ | refine SW.retB ?_ | refine SW.exit ?_ | refine SW.exitT ?_ | refine SW.exitB ?_ | refine XN ?_ | refine SW.block ?_ | refine SW.normB ?_ | refine SW.normT ?_ | refine XT ?_ | refine XF ?_ | refine XC (fun h => ?_) (fun h => ?_) | refine X0 ?_ | refine Xv ?_ | refine X1 (hb) ?_ | simp only [go_sem, optI, Option.getD_some, Option.getD_none, Int.reduceToNat, reduceIte, Nat.reduceEqDiff, Nat.reduceAdd, Nat.reduceMul, Nat.reduceSub, Nat.reduceLT, Nat.reduceLeDiff, reduceCtorEq, *] | refine Xs _ (fun h => ?_) (fun h => ?_) | with_reducible refine And.intro ?_ ?_
          all_goals first | omega | skip
          all_goals refine Xri ?_
          all_goals (try rw [h3])
          all_goals rfl
        · have g2 : decide ((0 : Int) ≤ j) = false := by simpa using hj
          rw [hkn, show decide (j ≥ 0) = false from g2] at h3
          clear hkn hj ha
          repeat' first | refine SW.step good fun K hK => ?_ | refine X2 good fun K hK => ?_ | refine X3 good fun K hK => ?_ | refine SW.seqK fun J hJ => ?_ | refine SW.last good fun K hK => ?_ | (refine hK _ ?_; clear hK K) | (refine hJ _ _ (Wk.refl _) ?_; clear hJ J) | clear hK K | clear hJ J | refine SW.skip ?_ | refine SW.ret ?_ | refine SW.retT ?_ | refine SW.retB ?_ | refine SW.exit ?_ | refine SW.exitT ?_ | refine SW.exitB ?_ | refine XN ?_ | refine SW.block ?_ | refine SW.normB ?_ | refine SW.normT ?_ | refine XT ?_ | refine XF ?_ | refine XC (fun h => ?_) (fun h => ?_) | refine X0 ?_ | refine Xv ?_ | refine X1 (hb) ?_ | simp only [go_sem, optI, Option.getD_some, Option.getD_none, Int.reduceToNat, reduceIte, Nat.reduceEqDiff, Nat.reduceAdd, Nat.reduceMul, Nat.reduceSub, Nat.reduceLT, Nat.reduceLeDiff, reduceCtorEq, *] | refine Xs _ (fun h => ?_) (fun h => ?_) | with_reducible refine And.intro ?_ ?_
          all_goals first | omega | skip
          all_goals refine ⟨k + 1, ⟨by omega, by first | exact h3 | rfl⟩, by omega, ?_⟩
          all_goals (refine Xto _ _ ?_ ?_ <;> simp only [go_sem, optI, Option.getD_some, Option.getD_none, Int.reduceToNat, reduceIte, Nat.reduceEqDiff, Nat.reduceAdd, Nat.reduceMul, Nat.reduceSub, Nat.reduceLT, Nat.reduceLeDiff, reduceCtorEq, Option.some.injEq, or_true, true_or] <;> (repeat' with_reducible apply And.intro) <;> (try rfl))
      · have hk : k = L[i].behind.length := by omega
        subst hk
        have e1 : decide ((L[i].behind.length : Int) < L[i].behind.length) = false := by simp
        rw [List.drop_length, List.find?_nil] at h3
        repeat' first | refine SW.step good fun K hK => ?_ | refine X2 good fun K hK => ?_ | refine X3 good fun K hK => ?_ | refine SW.seqK fun J hJ => ?_ | refine SW.last good fun K hK => ?_ | (refine hK _ ?_; clear hK K) | (refine hJ _ _ (Wk.refl _) ?_; clear hJ J) | clear hK K | clear hJ J | refine SW.skip ?_ | refine SW.ret ?_ | refine SW.retT ?_ | refine SW.retB ?_ | refine SW.exit ?_ | refine SW.exitT ?_ | refine SW.exitB ?_ | refine XN ?_ | refine SW.block ?_ | refine SW.normB ?_ | refine SW.normT ?_ | refine XT ?_ | refine XF ?_ | refine XC (fun h => ?_) (fun h => ?_) | simp only [go_sem, optI, Option.getD_some, Option.getD_none, Int.reduceToNat, reduceIte, Nat.reduceEqDiff, Nat.reduceAdd, Nat.reduceMul, Nat.reduceSub, Nat.reduceLT, Nat.reduceLeDiff, reduceCtorEq, *] | refine Xs _ (fun h => ?_) (fun h => ?_) | with_reducible refine And.intro ?_ ?_
        all_goals first | omega | skip
        all_goals refine Xri ?_
        all_goals (try rw [h3])
        all_goals rfl
end Go.Proofs.Ytbpfciidbgkekaa.AB
