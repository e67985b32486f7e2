/- A drawn life: the reference's function. -/
import Derived.Test.YtoemclhjcbcjaaaGreatAbCkAny
namespace Go.Proofs.YtoemclhjcbcjaaaGreat.AB
open Go
set_option maxRecDepth 100000
set_option linter.unusedSimpArgs false
set_option linter.unusedVariables false
section
variable (n : Nat) (F : DF) (s : LSt)
theorem nx_join (h : cval (cuS (cuS s.c)) % 16 < 3) : nextL n F s = ⟨cuS (cuS (cuS s.c)), s.said, s.out ++ [evN 1 (cval s.c % n) (cval (cuS s.c) % 256) nilCr []]⟩ := by unfold nextL; rw [if_pos h]
theorem nx_fall (h : cval (cuS (cuS s.c)) % 16 = 3) : nextL n F s = ⟨(F.FP (cuS (cuS (cuS s.c)))).2, s.said, s.out ++ [evN (F.FP (cuS (cuS (cuS s.c)))).1 (cval s.c % n) 0 nilCr []]⟩ := by unfold nextL; rw [if_neg (by omega), if_pos h]
theorem nx_settle (h : 4 ≤ cval (cuS (cuS s.c)) % 16 ∧ cval (cuS (cuS s.c)) % 16 < 7) : nextL n F s = ⟨cuS (cuS (cuS s.c)), s.said, s.out ++ [evN 4 (cval s.c % n) 0 nilCr []]⟩ := by unfold nextL; rw [if_neg (by omega), if_neg (by omega), if_pos h.2]
theorem nx_finger (h : cval (cuS (cuS s.c)) % 16 = 7) : nextL n F s = ⟨cuS (cuS (cuS s.c)), s.said, s.out ++ [evN 5 (cval s.c % n) 0 nilCr []]⟩ := by unfold nextL; rw [if_neg (by omega), if_neg (by omega), if_neg (by omega), if_pos h]
theorem nx_spread (h : cval (cuS (cuS s.c)) % 16 = 8) : nextL n F s = ⟨cuS (cuS (cuS s.c)), s.said, s.out ++ [evN 6 (cval s.c % n) 0 nilCr []]⟩ := by unfold nextL; rw [if_neg (by omega), if_neg (by omega), if_neg (by omega), if_neg (by omega), if_pos h]
theorem nx_vouch (h : 9 ≤ cval (cuS (cuS s.c)) % 16 ∧ cval (cuS (cuS s.c)) % 16 < 12) : nextL n F s = ⟨(F.FC (cuS (cuS (cuS s.c)))).2, s.said ++ [(F.FC (cuS (cuS (cuS s.c)))).1], s.out ++ [evN 7 (cval s.c % n) 0 (F.FC (cuS (cuS (cuS s.c)))).1 []]⟩ := by unfold nextL; rw [if_neg (by omega), if_neg (by omega), if_neg (by omega), if_neg (by omega), if_neg (by omega), if_pos h.2]
theorem nx_back0 (h : cval (cuS (cuS s.c)) % 16 = 12) (h0 : s.said.length = 0) : nextL n F s = ⟨cuS (cuS (cuS s.c)), s.said, s.out⟩ := by unfold nextL; rw [if_neg (by omega), if_neg (by omega), if_neg (by omega), if_neg (by omega), if_neg (by omega), if_neg (by omega), if_pos h, if_pos h0]
theorem nx_back (h : cval (cuS (cuS s.c)) % 16 = 12) (h0 : ¬ s.said.length = 0) : nextL n F s = ⟨cuS (cuS (cuS (cuS s.c))), s.said, s.out ++ [evN 8 (cval s.c % n) 0 (s.said.getD (cval (cuS (cuS (cuS s.c))) % s.said.length).toNat nilCr) []]⟩ := by unfold nextL; rw [if_neg (by omega), if_neg (by omega), if_neg (by omega), if_neg (by omega), if_neg (by omega), if_neg (by omega), if_pos h, if_neg h0]
theorem nx_ask (h : cval (cuS (cuS s.c)) % 16 = 13) : nextL n F s = ⟨(F.FA (cuS (cuS (cuS s.c)))).2, s.said, s.out ++ [evN 9 (cval s.c % n) 0 (F.FA (cuS (cuS (cuS s.c)))).1 []]⟩ := by unfold nextL; rw [if_neg (by omega), if_neg (by omega), if_neg (by omega), if_neg (by omega), if_neg (by omega), if_neg (by omega), if_neg (by omega), if_pos h]
theorem nx_bring (h : cval (cuS (cuS s.c)) % 16 = 14) : nextL n F s = ⟨(F.FB (cuS (cuS (cuS s.c)))).2, s.said, s.out ++ [evN 11 (cval s.c % n) (cval (cuS s.c) % 256) nilCr (F.FB (cuS (cuS (cuS s.c)))).1]⟩ := by unfold nextL; rw [if_neg (by omega), if_neg (by omega), if_neg (by omega), if_neg (by omega), if_neg (by omega), if_neg (by omega), if_neg (by omega), if_neg (by omega), if_pos h]
theorem nx_clock (h : cval (cuS (cuS s.c)) % 16 = 15) : nextL n F s = ⟨cuS (cuS (cuS s.c)), s.said, s.out ++ [evN 10 0 (cval (cuS s.c) % 256) nilCr []]⟩ := by unfold nextL; rw [if_neg (by omega), if_neg (by omega), if_neg (by omega), if_neg (by omega), if_neg (by omega), if_neg (by omega), if_neg (by omega), if_neg (by omega), if_neg (by omega)]
end
def credCl (c : Cred) : List C := credC c
theorem credC_get {L : List Cred} {k : Nat} (h : k < L.length) : (L.map credC).getD k [] = credC (L.getD k nilCr) := by
  rw [getD_map L credC [] h]; simp [List.getD_eq_getElem?_getD, List.getElem?_eq_getElem h]
theorem evC_evN (k p n : Int) (c : Cred) (t : List UInt8) : evC (evN k p n c t) = [cI k, cI p, cI n, cI c.kind, cI c.of.who, cI c.of.name, cI c.who, cI c.a.who, cI c.a.name, cI c.b.who, cI c.b.name, cI c.till, cI c.nonce, .v (.string ⟨t.toArray⟩)] := rfl
set_option maxHeartbeats 16000000 in
theorem events_ex (b : List UInt8) (hb : b.length ≤ 1048576) : ∃ (ids : List Int) (E : List Event), (8 ≤ E.length ∧ E.length ≤ 36) ∧ (∀ e, e ∈ E → (sb e.text).length ≤ 400) ∧
    MC Tryz.prog 44 [.c false (.sl (bytesC b))] [] (.tup [.c false (.sl (ids.map intC)), .own (.r 0)]) [] [.row false 29 14 (E.map evC)] := by
  obtain ⟨h0, mN⟩ := mc_New b hb
  have ok0 : Cur.ok ⟨b, 0, h0⟩ := ⟨Nat.zero_le _, hb⟩
  obtain ⟨ids, c1, hids, hc1, mS⟩ := start_ex ⟨b, 0, h0⟩ ok0
  have ok1 : c1.ok := by rw [hc1]; exact cuS_ok ok0
  have b1 : c1.b = b := by rw [hc1]; rfl
  obtain ⟨FC, hFC⟩ := choose_fn nilCr cred_ex
  obtain ⟨FA, hFA⟩ := choose_fn nilCr asked_ex
  obtain ⟨FP, hFP⟩ := choose_fn (0 : Int) (fun c hc => pickInt_ex c [2, 3] hc (by decide) (by decide))
  obtain ⟨FB, hFB⟩ := choose_fn ([] : List UInt8) bring_ex
  obtain ⟨F', eFC, eFA, eFP, eFB⟩ : ∃ F : DF, F.FC = FC ∧ F.FA = FA ∧ F.FP = FP ∧ F.FB = FB := ⟨⟨FC, FA, FP, FB⟩, rfl, rfl, rfl, rfl⟩
  have hF : F'.good := ⟨fun c hc => by rw [eFC]; exact (hFC c hc).2.1, fun c hc => by rw [eFA]; exact (hFA c hc).1, fun c hc => by rw [eFP]; exact (hFP c hc).2.1, fun c hc => by rw [eFB]; exact (hFB c hc).2.1, fun c hc => by rw [eFB]; exact (hFB c hc).1⟩
  obtain ⟨q, hq⟩ : ∃ q, q = b.length / 4 := ⟨_, rfl⟩
  obtain ⟨most, hm⟩ : ∃ m, (36 < 8 + q ∧ m = 36) ∨ (¬ 36 < 8 + q ∧ m = 8 + q) := by
    by_cases h : 36 < 8 + q
    · exact ⟨36, .inl ⟨h, rfl⟩⟩
    · exact ⟨8 + q, .inr ⟨h, rfl⟩⟩
  have hm8 : 8 ≤ most ∧ most ≤ 36 := by omega
  obtain ⟨N, hN1, hN2, hN3⟩ := life_ends b most ids.length hF ⟨c1, [], []⟩ ⟨ok1, b1, Nat.le_refl _, Nat.zero_le _, by simp⟩
  have hE := hN3 N (Nat.le_refl _)
  refine ⟨ids, (rep (nextL ids.length F') N ⟨c1, [], []⟩).out, ⟨by omega, by omega⟩, hE.text, ?_⟩
  have hrs : ∀ k, rep (nextL ids.length F') (k + 1) ⟨c1, [], []⟩ = nextL ids.length F' (rep (nextL ids.length F') k ⟨c1, [], []⟩) := fun k => rep_succ' _ _ _
  have hr0 : rep (nextL ids.length F') 0 ⟨c1, [], []⟩ = ⟨c1, [], []⟩ := rfl
  generalize hG : (fun k => rep (nextL ids.length F') k ⟨c1, [], []⟩) = G at *
  have hGk : ∀ k, rep (nextL ids.length F') k ⟨c1, [], []⟩ = G k := fun k => by rw [← hG]
  simp only [hGk] at *
  clear hG hGk
  have hb4 : (bytesC b).length = b.length := bytesC_len b
  have t1 : ((bytesC b).length : Int).tdiv 4 = ((q : Nat) : Int) := by rw [Int.tdiv_eq_ediv_of_nonneg (by omega)]; omega
  have t2 : IntKind.i64.wrap (q : Int) = (q : Int) := wrap64 (by omega) (by omega)
  have t3 : IntKind.i64.wrap (8 + (q : Int)) = ((8 + q : Nat) : Int) := by rw [wrap64 (by omega) (by omega)]; omega
  have c0 : cuO ⟨b, 0, h0⟩ = .box [.c false (.sl (bytesC b)), vI (0 : Nat), vI h0] := rfl
  rw [c0] at mN mS
  have hn1 : 1 ≤ ids.length ∧ ids.length ≤ 8 := hids
  have hil : ((ids.map intC).length : Int) = ids.length := by simp
  have hG0 : (G 0).out = [] ∧ (G 0).said = [] ∧ (G 0).c = c1 := by rw [hr0]; exact ⟨rfl, rfl, rfl⟩
  clear hc1 ok0 ok1 b1 hids c0 hr0 hE
  generalize bytesC b = X at *
  rcases hm with ⟨hm1, hm2⟩ | ⟨hm1, hm2⟩
  · have d36 : decide ((36 : Int) < ((8 + q : Nat) : Int)) = true := by simp; omega
    subst hm2
    generalize 8 + q = q8 at *
    clear hq hm1 hb4
    refine XM good (fn := Tryz.f44) rfl ?_
    try simp only [List.getD_cons_zero, List.getD_cons_succ]
    simp only [cuO] at mS
    repeat' first | refine SW.step good fun K hK => ?_ | refine X2 good fun K hK => ?_ | refine X3 good fun K hK => ?_ | refine SW.seqK fun J hJ => ?_ | refine SW.last good fun K hK => ?_ | (refine hK _ ?_; clear hK K) | (refine hJ _ _ (Wk.refl _) ?_; clear hJ J) | clear hK K | clear hJ J | refine SW.skip ?_ | refine SW.ret ?_ | refine SW.retT ?_ | refine SW.retB ?_ | refine SW.exit ?_ | refine SW.exitT ?_ | refine SW.exitB ?_ | refine XN ?_ | refine SW.block ?_ | refine SW.normB ?_ | refine SW.normT ?_ | refine XT ?_ | refine XF ?_ | refine XC (fun h => ?_) (fun h => ?_) | refine Xzb (mN) ?_ | refine Xzc (mN) ?_ | (refine Xm (.s 13 0) ?_; first | refine Xd (mS) ?_ | refine Xa (mS) ?_ | refine Xb (mS) ?_) | simp only [go_sem, optI, Option.getD_some, Option.getD_none, Int.reduceToNat, reduceIte, Nat.reduceEqDiff, Nat.reduceAdd, Nat.reduceMul, Nat.reduceSub, Nat.reduceLT, Nat.reduceLeDiff, reduceCtorEq, *] | refine Xs _ (fun h => ?_) (fun h => ?_) | with_reducible refine And.intro ?_ ?_
    all_goals first | (intro r hr; simp at hr; subst hr; rfl) | (simp [bytesC]; omega) | (simp; done) | omega | rfl | skip
    refine SW.loopTo (α := Nat) (fun k => ⟨sl [(4, .ptr (.s 13 0) 0), (5, .c false (.sl (ids.map intC))), (6, vI 36), (7, .own (.s 22 0)), (8, .own (.s 23 0))], hl [(.s 13 0, cuO (G k).c), (.s 22 0, .row false 27 10 ((G k).said.map credC)), (.s 23 0, .row false 29 14 ((G k).out.map evC))]⟩) (fun k => N - k) 0 (fun k => k ≤ N) ?_ (by simp) ?_
    · (refine Xto _ _ ?_ ?_ <;> simp only [go_sem, optI, Option.getD_some, Option.getD_none, Int.reduceToNat, reduceIte, Nat.reduceEqDiff, Nat.reduceAdd, Nat.reduceMul, Nat.reduceSub, Nat.reduceLT, Nat.reduceLeDiff, reduceCtorEq, Option.some.injEq, or_true, true_or] <;> (repeat' with_reducible apply And.intro) <;> (try rfl))
      all_goals first | (rw [hG0.1]; rfl) | (rw [hG0.2.1]; rfl) | (rw [hG0.2.2]; done) | (simp [hG0, cuO, Wn.leO, Wn.leL, Wn.le, Wn.cw, C.scal, scal]; done) | skip
    · intro k hk
      clear mN mS t1 t2 t3 d36
      by_cases hkN : k < N
      · have hinv := hN3 k hk
        have hlt := hN2 k hkN
        have hs := hrs k
        have k1 := cuS_ok hinv.ok
        have k2 := cuS_ok k1
        have k3 := cuS_ok k2
        have hsd := hinv.said
        have m1 := mc_Below (G k).c ids.length hinv.ok (by omega) (by omega)
        have m2 := mc_Below (cuS (G k).c) 256 k1 (by decide) (by decide)
        have m3 := mc_Below (cuS (cuS (G k).c)) 16 k2 (by decide) (by decide)
        have gC := hFC _ k3
        have gA := hFA _ k3
        have gP := hFP _ k3
        have gB := hFB _ k3
        have m4 := fun (h0 : 1 ≤ (G k).said.length) => mc_Below (cuS (cuS (cuS (G k).c))) (G k).said.length k3 (by omega) (by omega)
        have hr := mod_rng (cval (cuS (cuS (G k).c))) 16 (by decide)
        have d1 : decide (((G k).out.length : Int) < 36) = true := by simp; omega
        have nj := nx_join ids.length F' (G k)
        have nf := nx_fall ids.length F' (G k)
        have ns := nx_settle ids.length F' (G k)
        have ng := nx_finger ids.length F' (G k)
        have np := nx_spread ids.length F' (G k)
        have nv := nx_vouch ids.length F' (G k)
        have nb0 := nx_back0 ids.length F' (G k)
        have nb := nx_back ids.length F' (G k)
        have na := nx_ask ids.length F' (G k)
        have ni := nx_bring ids.length F' (G k)
        have nc := nx_clock ids.length F' (G k)
        rw [eFP] at nf
        rw [eFC] at nv
        rw [eFA] at na
        rw [eFB] at ni
        rw [← hs] at nj nf ns ng np nv nb0 nb na ni nc
        have hol : (G k).out.length ≤ 36 := by omega
        clear hs hrs hN1 hN2 hN3 hG0 eFP eFC eFA eFB hFC hFA hFP hFB hF hinv k1 k2 k3
        generalize G k = s at *
        obtain ⟨c, S, E⟩ := s
        simp only at m1 m2 m3 m4 gC gA gP gB hr d1 nj nf ns ng np nv nb0 nb na ni nc hol hsd hlt
        generalize cval (cuS (cuS (cuS c))) = v4 at *
        generalize cval (cuS (cuS c)) % 16 = kd at *
        generalize cval (cuS c) % 256 = num at *
        generalize cval c % ids.length = at0 at *
        generalize cuS (cuS (cuS (cuS c))) = c5 at *
        generalize cuS (cuS (cuS c)) = c4 at *
        generalize cuS (cuS c) = c3 at *
        generalize cuS c = c2 at *
        have hsl : S.length ≤ 36 := by omega
        rcases (show kd = 0 ∨ kd = 1 ∨ kd = 2 ∨ kd = 3 ∨ kd = 4 ∨ kd = 5 ∨ kd = 6 ∨ kd = 7 ∨ kd = 8 ∨ kd = 9 ∨ kd = 10 ∨ kd = 11 ∨ kd = 12 ∨ kd = 13 ∨ kd = 14 ∨ kd = 15 by omega) with rfl | rfl | rfl | rfl | rfl | rfl | rfl | rfl | rfl | rfl | rfl | rfl | rfl | rfl | rfl | rfl
        · have ht := nj (by decide)
          clear nj nf ns ng np nv nb0 nb na ni nc m4 gC gA gP gB hr
          simp only [cuO, encCred] at *
          repeat' first | refine SW.step good fun K hK => ?_ | refine X2 good fun K hK => ?_ | refine X3 good fun K hK => ?_ | refine SW.seqK fun J hJ => ?_ | refine SW.last good fun K hK => ?_ | (refine hK _ ?_; clear hK K) | (refine hJ _ _ (Wk.refl _) ?_; clear hJ J) | clear hK K | clear hJ J | refine SW.skip ?_ | refine SW.ret ?_ | refine SW.retT ?_ | refine SW.retB ?_ | refine SW.exit ?_ | refine SW.exitT ?_ | refine SW.exitB ?_ | refine XN ?_ | refine SW.block ?_ | refine SW.normB ?_ | refine SW.normT ?_ | refine XT ?_ | refine XF ?_ | refine XC (fun h => ?_) (fun h => ?_) | (refine Xm (.s 13 0) ?_; first | refine Xd (m1) ?_ | refine Xa (m1) ?_ | refine Xb (m1) ?_) | (refine Xm (.s 13 0) ?_; first | refine Xd (m2) ?_ | refine Xa (m2) ?_ | refine Xb (m2) ?_) | (refine Xm (.s 13 0) ?_; first | refine Xd (m3) ?_ | refine Xa (m3) ?_ | refine Xb (m3) ?_) | simp only [go_sem, optI, Option.getD_some, Option.getD_none, Int.reduceToNat, reduceIte, Nat.reduceEqDiff, Nat.reduceAdd, Nat.reduceMul, Nat.reduceSub, Nat.reduceLT, Nat.reduceLeDiff, reduceCtorEq, *] | refine Xs _ (fun h => ?_) (fun h => ?_) | with_reducible refine And.intro ?_ ?_
          all_goals first | (intro r hr; simp at hr; subst hr; rfl) | (simp [bytesC]; omega) | (simp; done) | omega | rfl | skip
          all_goals refine ⟨k + 1, by omega, by omega, ?_⟩
          all_goals (refine Xto _ _ ?_ ?_ <;> simp only [go_sem, optI, Option.getD_some, Option.getD_none, Int.reduceToNat, reduceIte, Nat.reduceEqDiff, Nat.reduceAdd, Nat.reduceMul, Nat.reduceSub, Nat.reduceLT, Nat.reduceLeDiff, reduceCtorEq, Option.some.injEq, or_true, true_or] <;> (repeat' with_reducible apply And.intro) <;> (try rfl))
          all_goals first | (rw [ht]; done) | (rw [ht]; simp only [List.map_append]; rfl) | skip
        · have ht := nj (by decide)
          clear nj nf ns ng np nv nb0 nb na ni nc m4 gC gA gP gB hr
          simp only [cuO, encCred] at *
          repeat' first | refine SW.step good fun K hK => ?_ | refine X2 good fun K hK => ?_ | refine X3 good fun K hK => ?_ | refine SW.seqK fun J hJ => ?_ | refine SW.last good fun K hK => ?_ | (refine hK _ ?_; clear hK K) | (refine hJ _ _ (Wk.refl _) ?_; clear hJ J) | clear hK K | clear hJ J | refine SW.skip ?_ | refine SW.ret ?_ | refine SW.retT ?_ | refine SW.retB ?_ | refine SW.exit ?_ | refine SW.exitT ?_ | refine SW.exitB ?_ | refine XN ?_ | refine SW.block ?_ | refine SW.normB ?_ | refine SW.normT ?_ | refine XT ?_ | refine XF ?_ | refine XC (fun h => ?_) (fun h => ?_) | (refine Xm (.s 13 0) ?_; first | refine Xd (m1) ?_ | refine Xa (m1) ?_ | refine Xb (m1) ?_) | (refine Xm (.s 13 0) ?_; first | refine Xd (m2) ?_ | refine Xa (m2) ?_ | refine Xb (m2) ?_) | (refine Xm (.s 13 0) ?_; first | refine Xd (m3) ?_ | refine Xa (m3) ?_ | refine Xb (m3) ?_) | simp only [go_sem, optI, Option.getD_some, Option.getD_none, Int.reduceToNat, reduceIte, Nat.reduceEqDiff, Nat.reduceAdd, Nat.reduceMul, Nat.reduceSub, Nat.reduceLT, Nat.reduceLeDiff, reduceCtorEq, *] | refine Xs _ (fun h => ?_) (fun h => ?_) | with_reducible refine And.intro ?_ ?_
          all_goals first | (intro r hr; simp at hr; subst hr; rfl) | (simp [bytesC]; omega) | (simp; done) | omega | rfl | skip
          all_goals refine ⟨k + 1, by omega, by omega, ?_⟩
          all_goals (refine Xto _ _ ?_ ?_ <;> simp only [go_sem, optI, Option.getD_some, Option.getD_none, Int.reduceToNat, reduceIte, Nat.reduceEqDiff, Nat.reduceAdd, Nat.reduceMul, Nat.reduceSub, Nat.reduceLT, Nat.reduceLeDiff, reduceCtorEq, Option.some.injEq, or_true, true_or] <;> (repeat' with_reducible apply And.intro) <;> (try rfl))
          all_goals first | (rw [ht]; done) | (rw [ht]; simp only [List.map_append]; rfl) | skip
        · have ht := nj (by decide)
          clear nj nf ns ng np nv nb0 nb na ni nc m4 gC gA gP gB hr
          simp only [cuO, encCred] at *
          repeat' first | refine SW.step good fun K hK => ?_ | refine X2 good fun K hK => ?_ | refine X3 good fun K hK => ?_ | refine SW.seqK fun J hJ => ?_ | refine SW.last good fun K hK => ?_ | (refine hK _ ?_; clear hK K) | (refine hJ _ _ (Wk.refl _) ?_; clear hJ J) | clear hK K | clear hJ J | refine SW.skip ?_ | refine SW.ret ?_ | refine SW.retT ?_ | refine SW.retB ?_ | refine SW.exit ?_ | refine SW.exitT ?_ | refine SW.exitB ?_ | refine XN ?_ | refine SW.block ?_ | refine SW.normB ?_ | refine SW.normT ?_ | refine XT ?_ | refine XF ?_ | refine XC (fun h => ?_) (fun h => ?_) | (refine Xm (.s 13 0) ?_; first | refine Xd (m1) ?_ | refine Xa (m1) ?_ | refine Xb (m1) ?_) | (refine Xm (.s 13 0) ?_; first | refine Xd (m2) ?_ | refine Xa (m2) ?_ | refine Xb (m2) ?_) | (refine Xm (.s 13 0) ?_; first | refine Xd (m3) ?_ | refine Xa (m3) ?_ | refine Xb (m3) ?_) | simp only [go_sem, optI, Option.getD_some, Option.getD_none, Int.reduceToNat, reduceIte, Nat.reduceEqDiff, Nat.reduceAdd, Nat.reduceMul, Nat.reduceSub, Nat.reduceLT, Nat.reduceLeDiff, reduceCtorEq, *] | refine Xs _ (fun h => ?_) (fun h => ?_) | with_reducible refine And.intro ?_ ?_
          all_goals first | (intro r hr; simp at hr; subst hr; rfl) | (simp [bytesC]; omega) | (simp; done) | omega | rfl | skip
          all_goals refine ⟨k + 1, by omega, by omega, ?_⟩
          all_goals (refine Xto _ _ ?_ ?_ <;> simp only [go_sem, optI, Option.getD_some, Option.getD_none, Int.reduceToNat, reduceIte, Nat.reduceEqDiff, Nat.reduceAdd, Nat.reduceMul, Nat.reduceSub, Nat.reduceLT, Nat.reduceLeDiff, reduceCtorEq, Option.some.injEq, or_true, true_or] <;> (repeat' with_reducible apply And.intro) <;> (try rfl))
          all_goals first | (rw [ht]; done) | (rw [ht]; simp only [List.map_append]; rfl) | skip
        · have ht := nf rfl
          have m5 := gP.2.2
          simp only [List.map_cons, List.map_nil, intC] at m5
          generalize FP c4 = fp at *
          obtain ⟨x5, c6⟩ := fp
          simp only at m5 ht
          clear nj nf ns ng np nv nb0 nb na ni nc m4 gC gA gP gB hr
          simp only [cuO, encCred] at *
          repeat' first | refine SW.step good fun K hK => ?_ | refine X2 good fun K hK => ?_ | refine X3 good fun K hK => ?_ | refine SW.seqK fun J hJ => ?_ | refine SW.last good fun K hK => ?_ | (refine hK _ ?_; clear hK K) | (refine hJ _ _ (Wk.refl _) ?_; clear hJ J) | clear hK K | clear hJ J | refine SW.skip ?_ | refine SW.ret ?_ | refine SW.retT ?_ | refine SW.retB ?_ | refine SW.exit ?_ | refine SW.exitT ?_ | refine SW.exitB ?_ | refine XN ?_ | refine SW.block ?_ | refine SW.normB ?_ | refine SW.normT ?_ | refine XT ?_ | refine XF ?_ | refine XC (fun h => ?_) (fun h => ?_) | (refine Xm (.s 13 0) ?_; first | refine Xd (m1) ?_ | refine Xa (m1) ?_ | refine Xb (m1) ?_) | (refine Xm (.s 13 0) ?_; first | refine Xd (m2) ?_ | refine Xa (m2) ?_ | refine Xb (m2) ?_) | (refine Xm (.s 13 0) ?_; first | refine Xd (m3) ?_ | refine Xa (m3) ?_ | refine Xb (m3) ?_) | (refine Xm (.s 13 0) ?_; first | refine Xd (m5) ?_ | refine Xa (m5) ?_ | refine Xb (m5) ?_) | simp only [go_sem, optI, Option.getD_some, Option.getD_none, Int.reduceToNat, reduceIte, Nat.reduceEqDiff, Nat.reduceAdd, Nat.reduceMul, Nat.reduceSub, Nat.reduceLT, Nat.reduceLeDiff, reduceCtorEq, *] | refine Xs _ (fun h => ?_) (fun h => ?_) | with_reducible refine And.intro ?_ ?_
          all_goals first | (intro r hr; simp at hr; subst hr; rfl) | (simp [bytesC]; omega) | (simp; done) | omega | rfl | skip
          all_goals refine ⟨k + 1, by omega, by omega, ?_⟩
          all_goals (refine Xto _ _ ?_ ?_ <;> simp only [go_sem, optI, Option.getD_some, Option.getD_none, Int.reduceToNat, reduceIte, Nat.reduceEqDiff, Nat.reduceAdd, Nat.reduceMul, Nat.reduceSub, Nat.reduceLT, Nat.reduceLeDiff, reduceCtorEq, Option.some.injEq, or_true, true_or] <;> (repeat' with_reducible apply And.intro) <;> (try rfl))
          all_goals first | (rw [ht]; done) | (rw [ht]; simp only [List.map_append]; rfl) | skip
        · have ht := ns (by decide)
          clear nj nf ns ng np nv nb0 nb na ni nc m4 gC gA gP gB hr
          simp only [cuO, encCred] at *
          repeat' first | refine SW.step good fun K hK => ?_ | refine X2 good fun K hK => ?_ | refine X3 good fun K hK => ?_ | refine SW.seqK fun J hJ => ?_ | refine SW.last good fun K hK => ?_ | (refine hK _ ?_; clear hK K) | (refine hJ _ _ (Wk.refl _) ?_; clear hJ J) | clear hK K | clear hJ J | refine SW.skip ?_ | refine SW.ret ?_ | refine SW.retT ?_ | refine SW.retB ?_ | refine SW.exit ?_ | refine SW.exitT ?_ | refine SW.exitB ?_ | refine XN ?_ | refine SW.block ?_ | refine SW.normB ?_ | refine SW.normT ?_ | refine XT ?_ | refine XF ?_ | refine XC (fun h => ?_) (fun h => ?_) | (refine Xm (.s 13 0) ?_; first | refine Xd (m1) ?_ | refine Xa (m1) ?_ | refine Xb (m1) ?_) | (refine Xm (.s 13 0) ?_; first | refine Xd (m2) ?_ | refine Xa (m2) ?_ | refine Xb (m2) ?_) | (refine Xm (.s 13 0) ?_; first | refine Xd (m3) ?_ | refine Xa (m3) ?_ | refine Xb (m3) ?_) | simp only [go_sem, optI, Option.getD_some, Option.getD_none, Int.reduceToNat, reduceIte, Nat.reduceEqDiff, Nat.reduceAdd, Nat.reduceMul, Nat.reduceSub, Nat.reduceLT, Nat.reduceLeDiff, reduceCtorEq, *] | refine Xs _ (fun h => ?_) (fun h => ?_) | with_reducible refine And.intro ?_ ?_
          all_goals first | (intro r hr; simp at hr; subst hr; rfl) | (simp [bytesC]; omega) | (simp; done) | omega | rfl | skip
          all_goals refine ⟨k + 1, by omega, by omega, ?_⟩
          all_goals (refine Xto _ _ ?_ ?_ <;> simp only [go_sem, optI, Option.getD_some, Option.getD_none, Int.reduceToNat, reduceIte, Nat.reduceEqDiff, Nat.reduceAdd, Nat.reduceMul, Nat.reduceSub, Nat.reduceLT, Nat.reduceLeDiff, reduceCtorEq, Option.some.injEq, or_true, true_or] <;> (repeat' with_reducible apply And.intro) <;> (try rfl))
          all_goals first | (rw [ht]; done) | (rw [ht]; simp only [List.map_append]; rfl) | skip
        · have ht := ns (by decide)
          clear nj nf ns ng np nv nb0 nb na ni nc m4 gC gA gP gB hr
          simp only [cuO, encCred] at *
          repeat' first | refine SW.step good fun K hK => ?_ | refine X2 good fun K hK => ?_ | refine X3 good fun K hK => ?_ | refine SW.seqK fun J hJ => ?_ | refine SW.last good fun K hK => ?_ | (refine hK _ ?_; clear hK K) | (refine hJ _ _ (Wk.refl _) ?_; clear hJ J) | clear hK K | clear hJ J | refine SW.skip ?_ | refine SW.ret ?_ | refine SW.retT ?_ | refine SW.retB ?_ | refine SW.exit ?_ | refine SW.exitT ?_ | refine SW.exitB ?_ | refine XN ?_ | refine SW.block ?_ | refine SW.normB ?_ | refine SW.normT ?_ | refine XT ?_ | refine XF ?_ | refine XC (fun h => ?_) (fun h => ?_) | (refine Xm (.s 13 0) ?_; first | refine Xd (m1) ?_ | refine Xa (m1) ?_ | refine Xb (m1) ?_) | (refine Xm (.s 13 0) ?_; first | refine Xd (m2) ?_ | refine Xa (m2) ?_ | refine Xb (m2) ?_) | (refine Xm (.s 13 0) ?_; first | refine Xd (m3) ?_ | refine Xa (m3) ?_ | refine Xb (m3) ?_) | simp only [go_sem, optI, Option.getD_some, Option.getD_none, Int.reduceToNat, reduceIte, Nat.reduceEqDiff, Nat.reduceAdd, Nat.reduceMul, Nat.reduceSub, Nat.reduceLT, Nat.reduceLeDiff, reduceCtorEq, *] | refine Xs _ (fun h => ?_) (fun h => ?_) | with_reducible refine And.intro ?_ ?_
          all_goals first | (intro r hr; simp at hr; subst hr; rfl) | (simp [bytesC]; omega) | (simp; done) | omega | rfl | skip
          all_goals refine ⟨k + 1, by omega, by omega, ?_⟩
          all_goals (refine Xto _ _ ?_ ?_ <;> simp only [go_sem, optI, Option.getD_some, Option.getD_none, Int.reduceToNat, reduceIte, Nat.reduceEqDiff, Nat.reduceAdd, Nat.reduceMul, Nat.reduceSub, Nat.reduceLT, Nat.reduceLeDiff, reduceCtorEq, Option.some.injEq, or_true, true_or] <;> (repeat' with_reducible apply And.intro) <;> (try rfl))
          all_goals first | (rw [ht]; done) | (rw [ht]; simp only [List.map_append]; rfl) | skip
        · have ht := ns (by decide)
          clear nj nf ns ng np nv nb0 nb na ni nc m4 gC gA gP gB hr
          simp only [cuO, encCred] at *
          repeat' first | refine SW.step good fun K hK => ?_ | refine X2 good fun K hK => ?_ | refine X3 good fun K hK => ?_ | refine SW.seqK fun J hJ => ?_ | refine SW.last good fun K hK => ?_ | (refine hK _ ?_; clear hK K) | (refine hJ _ _ (Wk.refl _) ?_; clear hJ J) | clear hK K | clear hJ J | refine SW.skip ?_ | refine SW.ret ?_ | refine SW.retT ?_ | refine SW.retB ?_ | refine SW.exit ?_ | refine SW.exitT ?_ | refine SW.exitB ?_ | refine XN ?_ | refine SW.block ?_ | refine SW.normB ?_ | refine SW.normT ?_ | refine XT ?_ | refine XF ?_ | refine XC (fun h => ?_) (fun h => ?_) | (refine Xm (.s 13 0) ?_; first | refine Xd (m1) ?_ | refine Xa (m1) ?_ | refine Xb (m1) ?_) | (refine Xm (.s 13 0) ?_; first | refine Xd (m2) ?_ | refine Xa (m2) ?_ | refine Xb (m2) ?_) | (refine Xm (.s 13 0) ?_; first | refine Xd (m3) ?_ | refine Xa (m3) ?_ | refine Xb (m3) ?_) | simp only [go_sem, optI, Option.getD_some, Option.getD_none, Int.reduceToNat, reduceIte, Nat.reduceEqDiff, Nat.reduceAdd, Nat.reduceMul, Nat.reduceSub, Nat.reduceLT, Nat.reduceLeDiff, reduceCtorEq, *] | refine Xs _ (fun h => ?_) (fun h => ?_) | with_reducible refine And.intro ?_ ?_
          all_goals first | (intro r hr; simp at hr; subst hr; rfl) | (simp [bytesC]; omega) | (simp; done) | omega | rfl | skip
          all_goals refine ⟨k + 1, by omega, by omega, ?_⟩
          all_goals (refine Xto _ _ ?_ ?_ <;> simp only [go_sem, optI, Option.getD_some, Option.getD_none, Int.reduceToNat, reduceIte, Nat.reduceEqDiff, Nat.reduceAdd, Nat.reduceMul, Nat.reduceSub, Nat.reduceLT, Nat.reduceLeDiff, reduceCtorEq, Option.some.injEq, or_true, true_or] <;> (repeat' with_reducible apply And.intro) <;> (try rfl))
          all_goals first | (rw [ht]; done) | (rw [ht]; simp only [List.map_append]; rfl) | skip
        · have ht := ng rfl
          clear nj nf ns ng np nv nb0 nb na ni nc m4 gC gA gP gB hr
          simp only [cuO, encCred] at *
          repeat' first | refine SW.step good fun K hK => ?_ | refine X2 good fun K hK => ?_ | refine X3 good fun K hK => ?_ | refine SW.seqK fun J hJ => ?_ | refine SW.last good fun K hK => ?_ | (refine hK _ ?_; clear hK K) | (refine hJ _ _ (Wk.refl _) ?_; clear hJ J) | clear hK K | clear hJ J | refine SW.skip ?_ | refine SW.ret ?_ | refine SW.retT ?_ | refine SW.retB ?_ | refine SW.exit ?_ | refine SW.exitT ?_ | refine SW.exitB ?_ | refine XN ?_ | refine SW.block ?_ | refine SW.normB ?_ | refine SW.normT ?_ | refine XT ?_ | refine XF ?_ | refine XC (fun h => ?_) (fun h => ?_) | (refine Xm (.s 13 0) ?_; first | refine Xd (m1) ?_ | refine Xa (m1) ?_ | refine Xb (m1) ?_) | (refine Xm (.s 13 0) ?_; first | refine Xd (m2) ?_ | refine Xa (m2) ?_ | refine Xb (m2) ?_) | (refine Xm (.s 13 0) ?_; first | refine Xd (m3) ?_ | refine Xa (m3) ?_ | refine Xb (m3) ?_) | simp only [go_sem, optI, Option.getD_some, Option.getD_none, Int.reduceToNat, reduceIte, Nat.reduceEqDiff, Nat.reduceAdd, Nat.reduceMul, Nat.reduceSub, Nat.reduceLT, Nat.reduceLeDiff, reduceCtorEq, *] | refine Xs _ (fun h => ?_) (fun h => ?_) | with_reducible refine And.intro ?_ ?_
          all_goals first | (intro r hr; simp at hr; subst hr; rfl) | (simp [bytesC]; omega) | (simp; done) | omega | rfl | skip
          all_goals refine ⟨k + 1, by omega, by omega, ?_⟩
          all_goals (refine Xto _ _ ?_ ?_ <;> simp only [go_sem, optI, Option.getD_some, Option.getD_none, Int.reduceToNat, reduceIte, Nat.reduceEqDiff, Nat.reduceAdd, Nat.reduceMul, Nat.reduceSub, Nat.reduceLT, Nat.reduceLeDiff, reduceCtorEq, Option.some.injEq, or_true, true_or] <;> (repeat' with_reducible apply And.intro) <;> (try rfl))
          all_goals first | (rw [ht]; done) | (rw [ht]; simp only [List.map_append]; rfl) | skip
        · have ht := np rfl
          clear nj nf ns ng np nv nb0 nb na ni nc m4 gC gA gP gB hr
          simp only [cuO, encCred] at *
          repeat' first | refine SW.step good fun K hK => ?_ | refine X2 good fun K hK => ?_ | refine X3 good fun K hK => ?_ | refine SW.seqK fun J hJ => ?_ | refine SW.last good fun K hK => ?_ | (refine hK _ ?_; clear hK K) | (refine hJ _ _ (Wk.refl _) ?_; clear hJ J) | clear hK K | clear hJ J | refine SW.skip ?_ | refine SW.ret ?_ | refine SW.retT ?_ | refine SW.retB ?_ | refine SW.exit ?_ | refine SW.exitT ?_ | refine SW.exitB ?_ | refine XN ?_ | refine SW.block ?_ | refine SW.normB ?_ | refine SW.normT ?_ | refine XT ?_ | refine XF ?_ | refine XC (fun h => ?_) (fun h => ?_) | (refine Xm (.s 13 0) ?_; first | refine Xd (m1) ?_ | refine Xa (m1) ?_ | refine Xb (m1) ?_) | (refine Xm (.s 13 0) ?_; first | refine Xd (m2) ?_ | refine Xa (m2) ?_ | refine Xb (m2) ?_) | (refine Xm (.s 13 0) ?_; first | refine Xd (m3) ?_ | refine Xa (m3) ?_ | refine Xb (m3) ?_) | simp only [go_sem, optI, Option.getD_some, Option.getD_none, Int.reduceToNat, reduceIte, Nat.reduceEqDiff, Nat.reduceAdd, Nat.reduceMul, Nat.reduceSub, Nat.reduceLT, Nat.reduceLeDiff, reduceCtorEq, *] | refine Xs _ (fun h => ?_) (fun h => ?_) | with_reducible refine And.intro ?_ ?_
          all_goals first | (intro r hr; simp at hr; subst hr; rfl) | (simp [bytesC]; omega) | (simp; done) | omega | rfl | skip
          all_goals refine ⟨k + 1, by omega, by omega, ?_⟩
          all_goals (refine Xto _ _ ?_ ?_ <;> simp only [go_sem, optI, Option.getD_some, Option.getD_none, Int.reduceToNat, reduceIte, Nat.reduceEqDiff, Nat.reduceAdd, Nat.reduceMul, Nat.reduceSub, Nat.reduceLT, Nat.reduceLeDiff, reduceCtorEq, Option.some.injEq, or_true, true_or] <;> (repeat' with_reducible apply And.intro) <;> (try rfl))
          all_goals first | (rw [ht]; done) | (rw [ht]; simp only [List.map_append]; rfl) | skip
        · have ht := nv (by decide)
          have m5 := gC.2.2
          generalize FC c4 = fp at *
          obtain ⟨⟨xk, ⟨o1, o2⟩, xw, ⟨a1, a2⟩, ⟨b1, b2⟩, xt, xn⟩, c6⟩ := fp
          simp only at m5 ht
          clear nj nf ns ng np nv nb0 nb na ni nc m4 gC gA gP gB hr
          simp only [cuO, encCred] at *
          repeat' first | refine SW.step good fun K hK => ?_ | refine X2 good fun K hK => ?_ | refine X3 good fun K hK => ?_ | refine SW.seqK fun J hJ => ?_ | refine SW.last good fun K hK => ?_ | (refine hK _ ?_; clear hK K) | (refine hJ _ _ (Wk.refl _) ?_; clear hJ J) | clear hK K | clear hJ J | refine SW.skip ?_ | refine SW.ret ?_ | refine SW.retT ?_ | refine SW.retB ?_ | refine SW.exit ?_ | refine SW.exitT ?_ | refine SW.exitB ?_ | refine XN ?_ | refine SW.block ?_ | refine SW.normB ?_ | refine SW.normT ?_ | refine XT ?_ | refine XF ?_ | refine XC (fun h => ?_) (fun h => ?_) | (refine Xm (.s 13 0) ?_; first | refine Xd (m1) ?_ | refine Xa (m1) ?_ | refine Xb (m1) ?_) | (refine Xm (.s 13 0) ?_; first | refine Xd (m2) ?_ | refine Xa (m2) ?_ | refine Xb (m2) ?_) | (refine Xm (.s 13 0) ?_; first | refine Xd (m3) ?_ | refine Xa (m3) ?_ | refine Xb (m3) ?_) | (refine Xm (.s 13 0) ?_; first | refine Xd (m5) ?_ | refine Xa (m5) ?_ | refine Xb (m5) ?_) | simp only [go_sem, optI, Option.getD_some, Option.getD_none, Int.reduceToNat, reduceIte, Nat.reduceEqDiff, Nat.reduceAdd, Nat.reduceMul, Nat.reduceSub, Nat.reduceLT, Nat.reduceLeDiff, reduceCtorEq, *] | refine Xs _ (fun h => ?_) (fun h => ?_) | with_reducible refine And.intro ?_ ?_
          all_goals first | (intro r hr; simp at hr; subst hr; rfl) | (simp [bytesC]; omega) | (simp; done) | omega | rfl | skip
          all_goals refine ⟨k + 1, by omega, by omega, ?_⟩
          all_goals (refine Xto _ _ ?_ ?_ <;> simp only [go_sem, optI, Option.getD_some, Option.getD_none, Int.reduceToNat, reduceIte, Nat.reduceEqDiff, Nat.reduceAdd, Nat.reduceMul, Nat.reduceSub, Nat.reduceLT, Nat.reduceLeDiff, reduceCtorEq, Option.some.injEq, or_true, true_or] <;> (repeat' with_reducible apply And.intro) <;> (try rfl))
          all_goals first | (rw [ht]; done) | (rw [ht]; simp only [List.map_append]; rfl) | skip
        · have ht := nv (by decide)
          have m5 := gC.2.2
          generalize FC c4 = fp at *
          obtain ⟨⟨xk, ⟨o1, o2⟩, xw, ⟨a1, a2⟩, ⟨b1, b2⟩, xt, xn⟩, c6⟩ := fp
          simp only at m5 ht
          clear nj nf ns ng np nv nb0 nb na ni nc m4 gC gA gP gB hr
          simp only [cuO, encCred] at *
          repeat' first | refine SW.step good fun K hK => ?_ | refine X2 good fun K hK => ?_ | refine X3 good fun K hK => ?_ | refine SW.seqK fun J hJ => ?_ | refine SW.last good fun K hK => ?_ | (refine hK _ ?_; clear hK K) | (refine hJ _ _ (Wk.refl _) ?_; clear hJ J) | clear hK K | clear hJ J | refine SW.skip ?_ | refine SW.ret ?_ | refine SW.retT ?_ | refine SW.retB ?_ | refine SW.exit ?_ | refine SW.exitT ?_ | refine SW.exitB ?_ | refine XN ?_ | refine SW.block ?_ | refine SW.normB ?_ | refine SW.normT ?_ | refine XT ?_ | refine XF ?_ | refine XC (fun h => ?_) (fun h => ?_) | (refine Xm (.s 13 0) ?_; first | refine Xd (m1) ?_ | refine Xa (m1) ?_ | refine Xb (m1) ?_) | (refine Xm (.s 13 0) ?_; first | refine Xd (m2) ?_ | refine Xa (m2) ?_ | refine Xb (m2) ?_) | (refine Xm (.s 13 0) ?_; first | refine Xd (m3) ?_ | refine Xa (m3) ?_ | refine Xb (m3) ?_) | (refine Xm (.s 13 0) ?_; first | refine Xd (m5) ?_ | refine Xa (m5) ?_ | refine Xb (m5) ?_) | simp only [go_sem, optI, Option.getD_some, Option.getD_none, Int.reduceToNat, reduceIte, Nat.reduceEqDiff, Nat.reduceAdd, Nat.reduceMul, Nat.reduceSub, Nat.reduceLT, Nat.reduceLeDiff, reduceCtorEq, *] | refine Xs _ (fun h => ?_) (fun h => ?_) | with_reducible refine And.intro ?_ ?_
          all_goals first | (intro r hr; simp at hr; subst hr; rfl) | (simp [bytesC]; omega) | (simp; done) | omega | rfl | skip
          all_goals refine ⟨k + 1, by omega, by omega, ?_⟩
          all_goals (refine Xto _ _ ?_ ?_ <;> simp only [go_sem, optI, Option.getD_some, Option.getD_none, Int.reduceToNat, reduceIte, Nat.reduceEqDiff, Nat.reduceAdd, Nat.reduceMul, Nat.reduceSub, Nat.reduceLT, Nat.reduceLeDiff, reduceCtorEq, Option.some.injEq, or_true, true_or] <;> (repeat' with_reducible apply And.intro) <;> (try rfl))
          all_goals first | (rw [ht]; done) | (rw [ht]; simp only [List.map_append]; rfl) | skip
        · have ht := nv (by decide)
          have m5 := gC.2.2
          generalize FC c4 = fp at *
          obtain ⟨⟨xk, ⟨o1, o2⟩, xw, ⟨a1, a2⟩, ⟨b1, b2⟩, xt, xn⟩, c6⟩ := fp
          simp only at m5 ht
          clear nj nf ns ng np nv nb0 nb na ni nc m4 gC gA gP gB hr
          simp only [cuO, encCred] at *
          repeat' first | refine SW.step good fun K hK => ?_ | refine X2 good fun K hK => ?_ | refine X3 good fun K hK => ?_ | refine SW.seqK fun J hJ => ?_ | refine SW.last good fun K hK => ?_ | (refine hK _ ?_; clear hK K) | (refine hJ _ _ (Wk.refl _) ?_; clear hJ J) | clear hK K | clear hJ J | refine SW.skip ?_ | refine SW.ret ?_ | refine SW.retT ?_ | refine SW.retB ?_ | refine SW.exit ?_ | refine SW.exitT ?_ | refine SW.exitB ?_ | refine XN ?_ | refine SW.block ?_ | refine SW.normB ?_ | refine SW.normT ?_ | refine XT ?_ | refine XF ?_ | refine XC (fun h => ?_) (fun h => ?_) | (refine Xm (.s 13 0) ?_; first | refine Xd (m1) ?_ | refine Xa (m1) ?_ | refine Xb (m1) ?_) | (refine Xm (.s 13 0) ?_; first | refine Xd (m2) ?_ | refine Xa (m2) ?_ | refine Xb (m2) ?_) | (refine Xm (.s 13 0) ?_; first | refine Xd (m3) ?_ | refine Xa (m3) ?_ | refine Xb (m3) ?_) | (refine Xm (.s 13 0) ?_; first | refine Xd (m5) ?_ | refine Xa (m5) ?_ | refine Xb (m5) ?_) | simp only [go_sem, optI, Option.getD_some, Option.getD_none, Int.reduceToNat, reduceIte, Nat.reduceEqDiff, Nat.reduceAdd, Nat.reduceMul, Nat.reduceSub, Nat.reduceLT, Nat.reduceLeDiff, reduceCtorEq, *] | refine Xs _ (fun h => ?_) (fun h => ?_) | with_reducible refine And.intro ?_ ?_
          all_goals first | (intro r hr; simp at hr; subst hr; rfl) | (simp [bytesC]; omega) | (simp; done) | omega | rfl | skip
          all_goals refine ⟨k + 1, by omega, by omega, ?_⟩
          all_goals (refine Xto _ _ ?_ ?_ <;> simp only [go_sem, optI, Option.getD_some, Option.getD_none, Int.reduceToNat, reduceIte, Nat.reduceEqDiff, Nat.reduceAdd, Nat.reduceMul, Nat.reduceSub, Nat.reduceLT, Nat.reduceLeDiff, reduceCtorEq, Option.some.injEq, or_true, true_or] <;> (repeat' with_reducible apply And.intro) <;> (try rfl))
          all_goals first | (rw [ht]; done) | (rw [ht]; simp only [List.map_append]; rfl) | skip
        · by_cases h0 : S.length = 0
          · have ht := nb0 rfl h0
            have dS : decide ((0 : Int) < (S.length : Int)) = false := decide_eq_false (by omega)
            clear nj nf ns ng np nv nb0 nb na ni nc m4 gC gA gP gB hr h0
            simp only [cuO, encCred] at *
            repeat' first | refine SW.step good fun K hK => ?_ | refine X2 good fun K hK => ?_ | refine X3 good fun K hK => ?_ | refine SW.seqK fun J hJ => ?_ | refine SW.last good fun K hK => ?_ | (refine hK _ ?_; clear hK K) | (refine hJ _ _ (Wk.refl _) ?_; clear hJ J) | clear hK K | clear hJ J | refine SW.skip ?_ | refine SW.ret ?_ | refine SW.retT ?_ | refine SW.retB ?_ | refine SW.exit ?_ | refine SW.exitT ?_ | refine SW.exitB ?_ | refine XN ?_ | refine SW.block ?_ | refine SW.normB ?_ | refine SW.normT ?_ | refine XT ?_ | refine XF ?_ | refine XC (fun h => ?_) (fun h => ?_) | (refine Xm (.s 13 0) ?_; first | refine Xd (m1) ?_ | refine Xa (m1) ?_ | refine Xb (m1) ?_) | (refine Xm (.s 13 0) ?_; first | refine Xd (m2) ?_ | refine Xa (m2) ?_ | refine Xb (m2) ?_) | (refine Xm (.s 13 0) ?_; first | refine Xd (m3) ?_ | refine Xa (m3) ?_ | refine Xb (m3) ?_) | simp only [go_sem, optI, Option.getD_some, Option.getD_none, Int.reduceToNat, reduceIte, Nat.reduceEqDiff, Nat.reduceAdd, Nat.reduceMul, Nat.reduceSub, Nat.reduceLT, Nat.reduceLeDiff, reduceCtorEq, *] | refine Xs _ (fun h => ?_) (fun h => ?_) | with_reducible refine And.intro ?_ ?_
            all_goals first | (intro r hr; simp at hr; subst hr; rfl) | (simp [bytesC]; omega) | (simp; done) | omega | rfl | skip
            all_goals refine ⟨k + 1, by omega, by omega, ?_⟩
            all_goals (refine Xto _ _ ?_ ?_ <;> simp only [go_sem, optI, Option.getD_some, Option.getD_none, Int.reduceToNat, reduceIte, Nat.reduceEqDiff, Nat.reduceAdd, Nat.reduceMul, Nat.reduceSub, Nat.reduceLT, Nat.reduceLeDiff, reduceCtorEq, Option.some.injEq, or_true, true_or] <;> (repeat' with_reducible apply And.intro) <;> (try rfl))
            all_goals first | (rw [ht]; done) | (rw [ht]; simp only [List.map_append]; rfl) | skip
          · have ht := nb rfl h0
            have m5 := m4 (by omega)
            have dS : decide ((0 : Int) < (S.length : Int)) = true := decide_eq_true (by omega)
            have hr4 := mod_rng v4 S.length (by omega)
            generalize v4 % (S.length : Int) = i4 at *
            obtain ⟨j4, rfl⟩ : ∃ j : Nat, i4 = (j : Int) := ⟨i4.toNat, by omega⟩
            have hj4 : j4 < S.length := by omega
            have e4 := credC_get hj4
            rw [Int.toNat_natCast] at ht
            generalize S.getD j4 nilCr = xc at *
            obtain ⟨xk, ⟨o1, o2⟩, xw, ⟨a1, a2⟩, ⟨b1, b2⟩, xt, xn⟩ := xc
            simp only [credC] at e4
            clear nj nf ns ng np nv nb0 nb na ni nc m4 gC gA gP gB hr h0
            simp only [cuO, encCred] at *
            repeat' first | refine SW.step good fun K hK => ?_ | refine X2 good fun K hK => ?_ | refine X3 good fun K hK => ?_ | refine SW.seqK fun J hJ => ?_ | refine SW.last good fun K hK => ?_ | (refine hK _ ?_; clear hK K) | (refine hJ _ _ (Wk.refl _) ?_; clear hJ J) | clear hK K | clear hJ J | refine SW.skip ?_ | refine SW.ret ?_ | refine SW.retT ?_ | refine SW.retB ?_ | refine SW.exit ?_ | refine SW.exitT ?_ | refine SW.exitB ?_ | refine XN ?_ | refine SW.block ?_ | refine SW.normB ?_ | refine SW.normT ?_ | refine XT ?_ | refine XF ?_ | refine XC (fun h => ?_) (fun h => ?_) | (refine Xm (.s 13 0) ?_; first | refine Xd (m1) ?_ | refine Xa (m1) ?_ | refine Xb (m1) ?_) | (refine Xm (.s 13 0) ?_; first | refine Xd (m2) ?_ | refine Xa (m2) ?_ | refine Xb (m2) ?_) | (refine Xm (.s 13 0) ?_; first | refine Xd (m3) ?_ | refine Xa (m3) ?_ | refine Xb (m3) ?_) | (refine Xm (.s 13 0) ?_; first | refine Xd (m5) ?_ | refine Xa (m5) ?_ | refine Xb (m5) ?_) | simp only [go_sem, optI, Option.getD_some, Option.getD_none, Int.reduceToNat, reduceIte, Nat.reduceEqDiff, Nat.reduceAdd, Nat.reduceMul, Nat.reduceSub, Nat.reduceLT, Nat.reduceLeDiff, reduceCtorEq, *] | refine Xs _ (fun h => ?_) (fun h => ?_) | with_reducible refine And.intro ?_ ?_
            all_goals first | (intro r hr; simp at hr; subst hr; rfl) | (simp [bytesC]; omega) | (simp; done) | omega | rfl | skip
            all_goals refine ⟨k + 1, by omega, by omega, ?_⟩
            all_goals (refine Xto _ _ ?_ ?_ <;> simp only [go_sem, optI, Option.getD_some, Option.getD_none, Int.reduceToNat, reduceIte, Nat.reduceEqDiff, Nat.reduceAdd, Nat.reduceMul, Nat.reduceSub, Nat.reduceLT, Nat.reduceLeDiff, reduceCtorEq, Option.some.injEq, or_true, true_or] <;> (repeat' with_reducible apply And.intro) <;> (try rfl))
            all_goals first | (rw [ht]; done) | (rw [ht]; simp only [List.map_append]; rfl) | skip
        · have ht := na rfl
          have m5 := gA.2
          generalize FA c4 = fp at *
          obtain ⟨⟨xk, ⟨o1, o2⟩, xw, ⟨a1, a2⟩, ⟨b1, b2⟩, xt, xn⟩, c6⟩ := fp
          simp only at m5 ht
          clear nj nf ns ng np nv nb0 nb na ni nc m4 gC gA gP gB hr
          simp only [cuO, encCred] at *
          repeat' first | refine SW.step good fun K hK => ?_ | refine X2 good fun K hK => ?_ | refine X3 good fun K hK => ?_ | refine SW.seqK fun J hJ => ?_ | refine SW.last good fun K hK => ?_ | (refine hK _ ?_; clear hK K) | (refine hJ _ _ (Wk.refl _) ?_; clear hJ J) | clear hK K | clear hJ J | refine SW.skip ?_ | refine SW.ret ?_ | refine SW.retT ?_ | refine SW.retB ?_ | refine SW.exit ?_ | refine SW.exitT ?_ | refine SW.exitB ?_ | refine XN ?_ | refine SW.block ?_ | refine SW.normB ?_ | refine SW.normT ?_ | refine XT ?_ | refine XF ?_ | refine XC (fun h => ?_) (fun h => ?_) | (refine Xm (.s 13 0) ?_; first | refine Xd (m1) ?_ | refine Xa (m1) ?_ | refine Xb (m1) ?_) | (refine Xm (.s 13 0) ?_; first | refine Xd (m2) ?_ | refine Xa (m2) ?_ | refine Xb (m2) ?_) | (refine Xm (.s 13 0) ?_; first | refine Xd (m3) ?_ | refine Xa (m3) ?_ | refine Xb (m3) ?_) | (refine Xm (.s 13 0) ?_; first | refine Xd (m5) ?_ | refine Xa (m5) ?_ | refine Xb (m5) ?_) | simp only [go_sem, optI, Option.getD_some, Option.getD_none, Int.reduceToNat, reduceIte, Nat.reduceEqDiff, Nat.reduceAdd, Nat.reduceMul, Nat.reduceSub, Nat.reduceLT, Nat.reduceLeDiff, reduceCtorEq, *] | refine Xs _ (fun h => ?_) (fun h => ?_) | with_reducible refine And.intro ?_ ?_
          all_goals first | (intro r hr; simp at hr; subst hr; rfl) | (simp [bytesC]; omega) | (simp; done) | omega | rfl | skip
          all_goals refine ⟨k + 1, by omega, by omega, ?_⟩
          all_goals (refine Xto _ _ ?_ ?_ <;> simp only [go_sem, optI, Option.getD_some, Option.getD_none, Int.reduceToNat, reduceIte, Nat.reduceEqDiff, Nat.reduceAdd, Nat.reduceMul, Nat.reduceSub, Nat.reduceLT, Nat.reduceLeDiff, reduceCtorEq, Option.some.injEq, or_true, true_or] <;> (repeat' with_reducible apply And.intro) <;> (try rfl))
          all_goals first | (rw [ht]; done) | (rw [ht]; simp only [List.map_append]; rfl) | skip
        · have ht := ni rfl
          obtain ⟨v, c7, tx, m5, m6, m7⟩ := gB.2.2
          generalize FB c4 = fp at *
          obtain ⟨x5, c6⟩ := fp
          simp only at m5 m6 m7 ht
          simp only [List.map_cons, List.map_nil, strC] at m7
          obtain ⟨⟨xk, ⟨o1, o2⟩, xw, ⟨a1, a2⟩, ⟨b1, b2⟩, xt, xn⟩, ⟨lf, E5, W5⟩⟩ := v
          simp only [encVou] at m5 m6
          generalize E5.map strC = EE at *
          generalize W5.map strC = WW at *
          clear nj nf ns ng np nv nb0 nb na ni nc m4 gC gA gP gB hr
          simp only [cuO, encCred] at *
          repeat' first | refine SW.step good fun K hK => ?_ | refine X2 good fun K hK => ?_ | refine X3 good fun K hK => ?_ | refine SW.seqK fun J hJ => ?_ | refine SW.last good fun K hK => ?_ | (refine hK _ ?_; clear hK K) | (refine hJ _ _ (Wk.refl _) ?_; clear hJ J) | clear hK K | clear hJ J | refine SW.skip ?_ | refine SW.ret ?_ | refine SW.retT ?_ | refine SW.retB ?_ | refine SW.exit ?_ | refine SW.exitT ?_ | refine SW.exitB ?_ | refine XN ?_ | refine SW.block ?_ | refine SW.normB ?_ | refine SW.normT ?_ | refine XT ?_ | refine XF ?_ | refine XC (fun h => ?_) (fun h => ?_) | refine X0 ?_ | refine Xv ?_ | refine X1 (m6) ?_ | (refine Xm (.s 13 0) ?_; first | refine Xd (m1) ?_ | refine Xa (m1) ?_ | refine Xb (m1) ?_) | (refine Xm (.s 13 0) ?_; first | refine Xd (m2) ?_ | refine Xa (m2) ?_ | refine Xb (m2) ?_) | (refine Xm (.s 13 0) ?_; first | refine Xd (m3) ?_ | refine Xa (m3) ?_ | refine Xb (m3) ?_) | (refine Xm (.s 13 0) ?_; first | refine Xd (m5) ?_ | refine Xa (m5) ?_ | refine Xb (m5) ?_) | (refine Xm (.s 13 0) ?_; first | refine Xd (m7) ?_ | refine Xa (m7) ?_ | refine Xb (m7) ?_) | simp only [go_sem, optI, Option.getD_some, Option.getD_none, Int.reduceToNat, reduceIte, Nat.reduceEqDiff, Nat.reduceAdd, Nat.reduceMul, Nat.reduceSub, Nat.reduceLT, Nat.reduceLeDiff, reduceCtorEq, *] | refine Xs _ (fun h => ?_) (fun h => ?_) | with_reducible refine And.intro ?_ ?_
          all_goals first | (intro r hr; simp at hr; subst hr; rfl) | (simp [bytesC]; omega) | (simp; done) | omega | rfl | skip
          all_goals refine ⟨k + 1, by omega, by omega, ?_⟩
          all_goals (refine Xto _ _ ?_ ?_ <;> simp only [go_sem, optI, Option.getD_some, Option.getD_none, Int.reduceToNat, reduceIte, Nat.reduceEqDiff, Nat.reduceAdd, Nat.reduceMul, Nat.reduceSub, Nat.reduceLT, Nat.reduceLeDiff, reduceCtorEq, Option.some.injEq, or_true, true_or] <;> (repeat' with_reducible apply And.intro) <;> (try rfl))
          all_goals first | (rw [ht]; done) | (rw [ht]; simp only [List.map_append]; rfl) | skip
        · have ht := nc rfl
          clear nj nf ns ng np nv nb0 nb na ni nc m4 gC gA gP gB hr
          simp only [cuO, encCred] at *
          repeat' first | refine SW.step good fun K hK => ?_ | refine X2 good fun K hK => ?_ | refine X3 good fun K hK => ?_ | refine SW.seqK fun J hJ => ?_ | refine SW.last good fun K hK => ?_ | (refine hK _ ?_; clear hK K) | (refine hJ _ _ (Wk.refl _) ?_; clear hJ J) | clear hK K | clear hJ J | refine SW.skip ?_ | refine SW.ret ?_ | refine SW.retT ?_ | refine SW.retB ?_ | refine SW.exit ?_ | refine SW.exitT ?_ | refine SW.exitB ?_ | refine XN ?_ | refine SW.block ?_ | refine SW.normB ?_ | refine SW.normT ?_ | refine XT ?_ | refine XF ?_ | refine XC (fun h => ?_) (fun h => ?_) | (refine Xm (.s 13 0) ?_; first | refine Xd (m1) ?_ | refine Xa (m1) ?_ | refine Xb (m1) ?_) | (refine Xm (.s 13 0) ?_; first | refine Xd (m2) ?_ | refine Xa (m2) ?_ | refine Xb (m2) ?_) | (refine Xm (.s 13 0) ?_; first | refine Xd (m3) ?_ | refine Xa (m3) ?_ | refine Xb (m3) ?_) | simp only [go_sem, optI, Option.getD_some, Option.getD_none, Int.reduceToNat, reduceIte, Nat.reduceEqDiff, Nat.reduceAdd, Nat.reduceMul, Nat.reduceSub, Nat.reduceLT, Nat.reduceLeDiff, reduceCtorEq, *] | refine Xs _ (fun h => ?_) (fun h => ?_) | with_reducible refine And.intro ?_ ?_
          all_goals first | (intro r hr; simp at hr; subst hr; rfl) | (simp [bytesC]; omega) | (simp; done) | omega | rfl | skip
          all_goals refine ⟨k + 1, by omega, by omega, ?_⟩
          all_goals (refine Xto _ _ ?_ ?_ <;> simp only [go_sem, optI, Option.getD_some, Option.getD_none, Int.reduceToNat, reduceIte, Nat.reduceEqDiff, Nat.reduceAdd, Nat.reduceMul, Nat.reduceSub, Nat.reduceLT, Nat.reduceLeDiff, reduceCtorEq, Option.some.injEq, or_true, true_or] <;> (repeat' with_reducible apply And.intro) <;> (try rfl))
          all_goals first | (rw [ht]; done) | (rw [ht]; simp only [List.map_append]; rfl) | skip
      · have hkN : k = N := by omega
        subst hkN
        have hol := hN1
        have d1 : decide (((G k).out.length : Int) < 36) = false := by simp; omega
        clear hN1 hN2 hN3 hrs hFC hFA hFP hFB hF hG0
        generalize (G k).out = E at *
        generalize (G k).said = S at *
        generalize (G k).c = c at *
        clear hol
        repeat' first | refine SW.step good fun K hK => ?_ | refine X2 good fun K hK => ?_ | refine X3 good fun K hK => ?_ | refine SW.seqK fun J hJ => ?_ | refine SW.last good fun K hK => ?_ | (refine hK _ ?_; clear hK K) | (refine hJ _ _ (Wk.refl _) ?_; clear hJ J) | clear hK K | clear hJ J | refine SW.skip ?_ | refine SW.ret ?_ | refine SW.retT ?_ | refine SW.retB ?_ | refine SW.exit ?_ | refine SW.exitT ?_ | refine SW.exitB ?_ | refine XN ?_ | refine SW.block ?_ | refine SW.normB ?_ | refine SW.normT ?_ | refine XT ?_ | refine XF ?_ | refine XC (fun h => ?_) (fun h => ?_) | simp only [go_sem, optI, Option.getD_some, Option.getD_none, Int.reduceToNat, reduceIte, Nat.reduceEqDiff, Nat.reduceAdd, Nat.reduceMul, Nat.reduceSub, Nat.reduceLT, Nat.reduceLeDiff, reduceCtorEq, *] | refine Xs _ (fun h => ?_) (fun h => ?_) | with_reducible refine And.intro ?_ ?_
        all_goals first | (intro r hr; simp at hr; subst hr; rfl) | (simp [bytesC]; omega) | (simp; done) | omega | rfl | skip
        all_goals (refine Xr1 (i := .s 23 0) ?_ ?_ <;> simp [Wn.leO, resOf, Wn.le, Wn.leL, Wn.cw, C.scal, scal, outM, idsTo, hAR])
  · have d36 : decide ((36 : Int) < ((8 + q : Nat) : Int)) = false := by simp; omega
    generalize 8 + q = q8 at *
    subst hm2
    clear hq hm1 hb4
    refine XM good (fn := Tryz.f44) rfl ?_
    try simp only [List.getD_cons_zero, List.getD_cons_succ]
    simp only [cuO] at mS
    repeat' first | refine SW.step good fun K hK => ?_ | refine X2 good fun K hK => ?_ | refine X3 good fun K hK => ?_ | refine SW.seqK fun J hJ => ?_ | refine SW.last good fun K hK => ?_ | (refine hK _ ?_; clear hK K) | (refine hJ _ _ (Wk.refl _) ?_; clear hJ J) | clear hK K | clear hJ J | refine SW.skip ?_ | refine SW.ret ?_ | refine SW.retT ?_ | refine SW.retB ?_ | refine SW.exit ?_ | refine SW.exitT ?_ | refine SW.exitB ?_ | refine XN ?_ | refine SW.block ?_ | refine SW.normB ?_ | refine SW.normT ?_ | refine XT ?_ | refine XF ?_ | refine XC (fun h => ?_) (fun h => ?_) | refine Xzb (mN) ?_ | refine Xzc (mN) ?_ | (refine Xm (.s 13 0) ?_; first | refine Xd (mS) ?_ | refine Xa (mS) ?_ | refine Xb (mS) ?_) | simp only [go_sem, optI, Option.getD_some, Option.getD_none, Int.reduceToNat, reduceIte, Nat.reduceEqDiff, Nat.reduceAdd, Nat.reduceMul, Nat.reduceSub, Nat.reduceLT, Nat.reduceLeDiff, reduceCtorEq, *] | refine Xs _ (fun h => ?_) (fun h => ?_) | with_reducible refine And.intro ?_ ?_
    all_goals first | (intro r hr; simp at hr; subst hr; rfl) | (simp [bytesC]; omega) | (simp; done) | omega | rfl | skip
    refine SW.loopTo (α := Nat) (fun k => ⟨sl [(4, .ptr (.s 13 0) 0), (5, .c false (.sl (ids.map intC))), (6, vI (most : Int)), (7, .own (.s 22 0)), (8, .own (.s 23 0))], hl [(.s 13 0, cuO (G k).c), (.s 22 0, .row false 27 10 ((G k).said.map credC)), (.s 23 0, .row false 29 14 ((G k).out.map evC))]⟩) (fun k => N - k) 0 (fun k => k ≤ N) ?_ (by simp) ?_
    · (refine Xto _ _ ?_ ?_ <;> simp only [go_sem, optI, Option.getD_some, Option.getD_none, Int.reduceToNat, reduceIte, Nat.reduceEqDiff, Nat.reduceAdd, Nat.reduceMul, Nat.reduceSub, Nat.reduceLT, Nat.reduceLeDiff, reduceCtorEq, Option.some.injEq, or_true, true_or] <;> (repeat' with_reducible apply And.intro) <;> (try rfl))
      all_goals first | (rw [hG0.1]; rfl) | (rw [hG0.2.1]; rfl) | (rw [hG0.2.2]; done) | (simp [hG0, cuO, Wn.leO, Wn.leL, Wn.le, Wn.cw, C.scal, scal]; done) | skip
    · intro k hk
      clear mN mS t1 t2 t3 d36
      by_cases hkN : k < N
      · have hinv := hN3 k hk
        have hlt := hN2 k hkN
        have hs := hrs k
        have k1 := cuS_ok hinv.ok
        have k2 := cuS_ok k1
        have k3 := cuS_ok k2
        have hsd := hinv.said
        have m1 := mc_Below (G k).c ids.length hinv.ok (by omega) (by omega)
        have m2 := mc_Below (cuS (G k).c) 256 k1 (by decide) (by decide)
        have m3 := mc_Below (cuS (cuS (G k).c)) 16 k2 (by decide) (by decide)
        have gC := hFC _ k3
        have gA := hFA _ k3
        have gP := hFP _ k3
        have gB := hFB _ k3
        have m4 := fun (h0 : 1 ≤ (G k).said.length) => mc_Below (cuS (cuS (cuS (G k).c))) (G k).said.length k3 (by omega) (by omega)
        have hr := mod_rng (cval (cuS (cuS (G k).c))) 16 (by decide)
        have d1 : decide (((G k).out.length : Int) < (most : Int)) = true := by simp; omega
        have nj := nx_join ids.length F' (G k)
        have nf := nx_fall ids.length F' (G k)
        have ns := nx_settle ids.length F' (G k)
        have ng := nx_finger ids.length F' (G k)
        have np := nx_spread ids.length F' (G k)
        have nv := nx_vouch ids.length F' (G k)
        have nb0 := nx_back0 ids.length F' (G k)
        have nb := nx_back ids.length F' (G k)
        have na := nx_ask ids.length F' (G k)
        have ni := nx_bring ids.length F' (G k)
        have nc := nx_clock ids.length F' (G k)
        rw [eFP] at nf
        rw [eFC] at nv
        rw [eFA] at na
        rw [eFB] at ni
        rw [← hs] at nj nf ns ng np nv nb0 nb na ni nc
        have hol : (G k).out.length ≤ 36 := by omega
        clear hs hrs hN1 hN2 hN3 hG0 eFP eFC eFA eFB hFC hFA hFP hFB hF hinv k1 k2 k3
        generalize G k = s at *
        obtain ⟨c, S, E⟩ := s
        simp only at m1 m2 m3 m4 gC gA gP gB hr d1 nj nf ns ng np nv nb0 nb na ni nc hol hsd hlt
        generalize cval (cuS (cuS (cuS c))) = v4 at *
        generalize cval (cuS (cuS c)) % 16 = kd at *
        generalize cval (cuS c) % 256 = num at *
        generalize cval c % ids.length = at0 at *
        generalize cuS (cuS (cuS (cuS c))) = c5 at *
        generalize cuS (cuS (cuS c)) = c4 at *
        generalize cuS (cuS c) = c3 at *
        generalize cuS c = c2 at *
        have hsl : S.length ≤ 36 := by omega
        rcases (show kd = 0 ∨ kd = 1 ∨ kd = 2 ∨ kd = 3 ∨ kd = 4 ∨ kd = 5 ∨ kd = 6 ∨ kd = 7 ∨ kd = 8 ∨ kd = 9 ∨ kd = 10 ∨ kd = 11 ∨ kd = 12 ∨ kd = 13 ∨ kd = 14 ∨ kd = 15 by omega) with rfl | rfl | rfl | rfl | rfl | rfl | rfl | rfl | rfl | rfl | rfl | rfl | rfl | rfl | rfl | rfl
        · have ht := nj (by decide)
          clear nj nf ns ng np nv nb0 nb na ni nc m4 gC gA gP gB hr
          simp only [cuO, encCred] at *
          repeat' first | refine SW.step good fun K hK => ?_ | refine X2 good fun K hK => ?_ | refine X3 good fun K hK => ?_ | refine SW.seqK fun J hJ => ?_ | refine SW.last good fun K hK => ?_ | (refine hK _ ?_; clear hK K) | (refine hJ _ _ (Wk.refl _) ?_; clear hJ J) | clear hK K | clear hJ J | refine SW.skip ?_ | refine SW.ret ?_ | refine SW.retT ?_ | refine SW.retB ?_ | refine SW.exit ?_ | refine SW.exitT ?_ | refine SW.exitB ?_ | refine XN ?_ | refine SW.block ?_ | refine SW.normB ?_ | refine SW.normT ?_ | refine XT ?_ | refine XF ?_ | refine XC (fun h => ?_) (fun h => ?_) | (refine Xm (.s 13 0) ?_; first | refine Xd (m1) ?_ | refine Xa (m1) ?_ | refine Xb (m1) ?_) | (refine Xm (.s 13 0) ?_; first | refine Xd (m2) ?_ | refine Xa (m2) ?_ | refine Xb (m2) ?_) | (refine Xm (.s 13 0) ?_; first | refine Xd (m3) ?_ | refine Xa (m3) ?_ | refine Xb (m3) ?_) | simp only [go_sem, optI, Option.getD_some, Option.getD_none, Int.reduceToNat, reduceIte, Nat.reduceEqDiff, Nat.reduceAdd, Nat.reduceMul, Nat.reduceSub, Nat.reduceLT, Nat.reduceLeDiff, reduceCtorEq, *] | refine Xs _ (fun h => ?_) (fun h => ?_) | with_reducible refine And.intro ?_ ?_
          all_goals first | (intro r hr; simp at hr; subst hr; rfl) | (simp [bytesC]; omega) | (simp; done) | omega | rfl | skip
          all_goals refine ⟨k + 1, by omega, by omega, ?_⟩
          all_goals (refine Xto _ _ ?_ ?_ <;> simp only [go_sem, optI, Option.getD_some, Option.getD_none, Int.reduceToNat, reduceIte, Nat.reduceEqDiff, Nat.reduceAdd, Nat.reduceMul, Nat.reduceSub, Nat.reduceLT, Nat.reduceLeDiff, reduceCtorEq, Option.some.injEq, or_true, true_or] <;> (repeat' with_reducible apply And.intro) <;> (try rfl))
          all_goals first | (rw [ht]; done) | (rw [ht]; simp only [List.map_append]; rfl) | skip
        · have ht := nj (by decide)
          clear nj nf ns ng np nv nb0 nb na ni nc m4 gC gA gP gB hr
          simp only [cuO, encCred] at *
          repeat' first | refine SW.step good fun K hK => ?_ | refine X2 good fun K hK => ?_ | refine X3 good fun K hK => ?_ | refine SW.seqK fun J hJ => ?_ | refine SW.last good fun K hK => ?_ | (refine hK _ ?_; clear hK K) | (refine hJ _ _ (Wk.refl _) ?_; clear hJ J) | clear hK K | clear hJ J | refine SW.skip ?_ | refine SW.ret ?_ | refine SW.retT ?_ | refine SW.retB ?_ | refine SW.exit ?_ | refine SW.exitT ?_ | refine SW.exitB ?_ | refine XN ?_ | refine SW.block ?_ | refine SW.normB ?_ | refine SW.normT ?_ | refine XT ?_ | refine XF ?_ | refine XC (fun h => ?_) (fun h => ?_) | (refine Xm (.s 13 0) ?_; first | refine Xd (m1) ?_ | refine Xa (m1) ?_ | refine Xb (m1) ?_) | (refine Xm (.s 13 0) ?_; first | refine Xd (m2) ?_ | refine Xa (m2) ?_ | refine Xb (m2) ?_) | (refine Xm (.s 13 0) ?_; first | refine Xd (m3) ?_ | refine Xa (m3) ?_ | refine Xb (m3) ?_) | simp only [go_sem, optI, Option.getD_some, Option.getD_none, Int.reduceToNat, reduceIte, Nat.reduceEqDiff, Nat.reduceAdd, Nat.reduceMul, Nat.reduceSub, Nat.reduceLT, Nat.reduceLeDiff, reduceCtorEq, *] | refine Xs _ (fun h => ?_) (fun h => ?_) | with_reducible refine And.intro ?_ ?_
          all_goals first | (intro r hr; simp at hr; subst hr; rfl) | (simp [bytesC]; omega) | (simp; done) | omega | rfl | skip
          all_goals refine ⟨k + 1, by omega, by omega, ?_⟩
          all_goals (refine Xto _ _ ?_ ?_ <;> simp only [go_sem, optI, Option.getD_some, Option.getD_none, Int.reduceToNat, reduceIte, Nat.reduceEqDiff, Nat.reduceAdd, Nat.reduceMul, Nat.reduceSub, Nat.reduceLT, Nat.reduceLeDiff, reduceCtorEq, Option.some.injEq, or_true, true_or] <;> (repeat' with_reducible apply And.intro) <;> (try rfl))
          all_goals first | (rw [ht]; done) | (rw [ht]; simp only [List.map_append]; rfl) | skip
        · have ht := nj (by decide)
          clear nj nf ns ng np nv nb0 nb na ni nc m4 gC gA gP gB hr
          simp only [cuO, encCred] at *
          repeat' first | refine SW.step good fun K hK => ?_ | refine X2 good fun K hK => ?_ | refine X3 good fun K hK => ?_ | refine SW.seqK fun J hJ => ?_ | refine SW.last good fun K hK => ?_ | (refine hK _ ?_; clear hK K) | (refine hJ _ _ (Wk.refl _) ?_; clear hJ J) | clear hK K | clear hJ J | refine SW.skip ?_ | refine SW.ret ?_ | refine SW.retT ?_ | refine SW.retB ?_ | refine SW.exit ?_ | refine SW.exitT ?_ | refine SW.exitB ?_ | refine XN ?_ | refine SW.block ?_ | refine SW.normB ?_ | refine SW.normT ?_ | refine XT ?_ | refine XF ?_ | refine XC (fun h => ?_) (fun h => ?_) | (refine Xm (.s 13 0) ?_; first | refine Xd (m1) ?_ | refine Xa (m1) ?_ | refine Xb (m1) ?_) | (refine Xm (.s 13 0) ?_; first | refine Xd (m2) ?_ | refine Xa (m2) ?_ | refine Xb (m2) ?_) | (refine Xm (.s 13 0) ?_; first | refine Xd (m3) ?_ | refine Xa (m3) ?_ | refine Xb (m3) ?_) | simp only [go_sem, optI, Option.getD_some, Option.getD_none, Int.reduceToNat, reduceIte, Nat.reduceEqDiff, Nat.reduceAdd, Nat.reduceMul, Nat.reduceSub, Nat.reduceLT, Nat.reduceLeDiff, reduceCtorEq, *] | refine Xs _ (fun h => ?_) (fun h => ?_) | with_reducible refine And.intro ?_ ?_
          all_goals first | (intro r hr; simp at hr; subst hr; rfl) | (simp [bytesC]; omega) | (simp; done) | omega | rfl | skip
          all_goals refine ⟨k + 1, by omega, by omega, ?_⟩
          all_goals (refine Xto _ _ ?_ ?_ <;> simp only [go_sem, optI, Option.getD_some, Option.getD_none, Int.reduceToNat, reduceIte, Nat.reduceEqDiff, Nat.reduceAdd, Nat.reduceMul, Nat.reduceSub, Nat.reduceLT, Nat.reduceLeDiff, reduceCtorEq, Option.some.injEq, or_true, true_or] <;> (repeat' with_reducible apply And.intro) <;> (try rfl))
          all_goals first | (rw [ht]; done) | (rw [ht]; simp only [List.map_append]; rfl) | skip
        · have ht := nf rfl
          have m5 := gP.2.2
          simp only [List.map_cons, List.map_nil, intC] at m5
          generalize FP c4 = fp at *
          obtain ⟨x5, c6⟩ := fp
          simp only at m5 ht
          clear nj nf ns ng np nv nb0 nb na ni nc m4 gC gA gP gB hr
          simp only [cuO, encCred] at *
          repeat' first | refine SW.step good fun K hK => ?_ | refine X2 good fun K hK => ?_ | refine X3 good fun K hK => ?_ | refine SW.seqK fun J hJ => ?_ | refine SW.last good fun K hK => ?_ | (refine hK _ ?_; clear hK K) | (refine hJ _ _ (Wk.refl _) ?_; clear hJ J) | clear hK K | clear hJ J | refine SW.skip ?_ | refine SW.ret ?_ | refine SW.retT ?_ | refine SW.retB ?_ | refine SW.exit ?_ | refine SW.exitT ?_ | refine SW.exitB ?_ | refine XN ?_ | refine SW.block ?_ | refine SW.normB ?_ | refine SW.normT ?_ | refine XT ?_ | refine XF ?_ | refine XC (fun h => ?_) (fun h => ?_) | (refine Xm (.s 13 0) ?_; first | refine Xd (m1) ?_ | refine Xa (m1) ?_ | refine Xb (m1) ?_) | (refine Xm (.s 13 0) ?_; first | refine Xd (m2) ?_ | refine Xa (m2) ?_ | refine Xb (m2) ?_) | (refine Xm (.s 13 0) ?_; first | refine Xd (m3) ?_ | refine Xa (m3) ?_ | refine Xb (m3) ?_) | (refine Xm (.s 13 0) ?_; first | refine Xd (m5) ?_ | refine Xa (m5) ?_ | refine Xb (m5) ?_) | simp only [go_sem, optI, Option.getD_some, Option.getD_none, Int.reduceToNat, reduceIte, Nat.reduceEqDiff, Nat.reduceAdd, Nat.reduceMul, Nat.reduceSub, Nat.reduceLT, Nat.reduceLeDiff, reduceCtorEq, *] | refine Xs _ (fun h => ?_) (fun h => ?_) | with_reducible refine And.intro ?_ ?_
          all_goals first | (intro r hr; simp at hr; subst hr; rfl) | (simp [bytesC]; omega) | (simp; done) | omega | rfl | skip
          all_goals refine ⟨k + 1, by omega, by omega, ?_⟩
          all_goals (refine Xto _ _ ?_ ?_ <;> simp only [go_sem, optI, Option.getD_some, Option.getD_none, Int.reduceToNat, reduceIte, Nat.reduceEqDiff, Nat.reduceAdd, Nat.reduceMul, Nat.reduceSub, Nat.reduceLT, Nat.reduceLeDiff, reduceCtorEq, Option.some.injEq, or_true, true_or] <;> (repeat' with_reducible apply And.intro) <;> (try rfl))
          all_goals first | (rw [ht]; done) | (rw [ht]; simp only [List.map_append]; rfl) | skip
        · have ht := ns (by decide)
          clear nj nf ns ng np nv nb0 nb na ni nc m4 gC gA gP gB hr
          simp only [cuO, encCred] at *
          repeat' first | refine SW.step good fun K hK => ?_ | refine X2 good fun K hK => ?_ | refine X3 good fun K hK => ?_ | refine SW.seqK fun J hJ => ?_ | refine SW.last good fun K hK => ?_ | (refine hK _ ?_; clear hK K) | (refine hJ _ _ (Wk.refl _) ?_; clear hJ J) | clear hK K | clear hJ J | refine SW.skip ?_ | refine SW.ret ?_ | refine SW.retT ?_ | refine SW.retB ?_ | refine SW.exit ?_ | refine SW.exitT ?_ | refine SW.exitB ?_ | refine XN ?_ | refine SW.block ?_ | refine SW.normB ?_ | refine SW.normT ?_ | refine XT ?_ | refine XF ?_ | refine XC (fun h => ?_) (fun h => ?_) | (refine Xm (.s 13 0) ?_; first | refine Xd (m1) ?_ | refine Xa (m1) ?_ | refine Xb (m1) ?_) | (refine Xm (.s 13 0) ?_; first | refine Xd (m2) ?_ | refine Xa (m2) ?_ | refine Xb (m2) ?_) | (refine Xm (.s 13 0) ?_; first | refine Xd (m3) ?_ | refine Xa (m3) ?_ | refine Xb (m3) ?_) | simp only [go_sem, optI, Option.getD_some, Option.getD_none, Int.reduceToNat, reduceIte, Nat.reduceEqDiff, Nat.reduceAdd, Nat.reduceMul, Nat.reduceSub, Nat.reduceLT, Nat.reduceLeDiff, reduceCtorEq, *] | refine Xs _ (fun h => ?_) (fun h => ?_) | with_reducible refine And.intro ?_ ?_
          all_goals first | (intro r hr; simp at hr; subst hr; rfl) | (simp [bytesC]; omega) | (simp; done) | omega | rfl | skip
          all_goals refine ⟨k + 1, by omega, by omega, ?_⟩
          all_goals (refine Xto _ _ ?_ ?_ <;> simp only [go_sem, optI, Option.getD_some, Option.getD_none, Int.reduceToNat, reduceIte, Nat.reduceEqDiff, Nat.reduceAdd, Nat.reduceMul, Nat.reduceSub, Nat.reduceLT, Nat.reduceLeDiff, reduceCtorEq, Option.some.injEq, or_true, true_or] <;> (repeat' with_reducible apply And.intro) <;> (try rfl))
          all_goals first | (rw [ht]; done) | (rw [ht]; simp only [List.map_append]; rfl) | skip
        · have ht := ns (by decide)
          clear nj nf ns ng np nv nb0 nb na ni nc m4 gC gA gP gB hr
          simp only [cuO, encCred] at *
          repeat' first | refine SW.step good fun K hK => ?_ | refine X2 good fun K hK => ?_ | refine X3 good fun K hK => ?_ | refine SW.seqK fun J hJ => ?_ | refine SW.last good fun K hK => ?_ | (refine hK _ ?_; clear hK K) | (refine hJ _ _ (Wk.refl _) ?_; clear hJ J) | clear hK K | clear hJ J | refine SW.skip ?_ | refine SW.ret ?_ | refine SW.retT ?_ | refine SW.retB ?_ | refine SW.exit ?_ | refine SW.exitT ?_ | refine SW.exitB ?_ | refine XN ?_ | refine SW.block ?_ | refine SW.normB ?_ | refine SW.normT ?_ | refine XT ?_ | refine XF ?_ | refine XC (fun h => ?_) (fun h => ?_) | (refine Xm (.s 13 0) ?_; first | refine Xd (m1) ?_ | refine Xa (m1) ?_ | refine Xb (m1) ?_) | (refine Xm (.s 13 0) ?_; first | refine Xd (m2) ?_ | refine Xa (m2) ?_ | refine Xb (m2) ?_) | (refine Xm (.s 13 0) ?_; first | refine Xd (m3) ?_ | refine Xa (m3) ?_ | refine Xb (m3) ?_) | simp only [go_sem, optI, Option.getD_some, Option.getD_none, Int.reduceToNat, reduceIte, Nat.reduceEqDiff, Nat.reduceAdd, Nat.reduceMul, Nat.reduceSub, Nat.reduceLT, Nat.reduceLeDiff, reduceCtorEq, *] | refine Xs _ (fun h => ?_) (fun h => ?_) | with_reducible refine And.intro ?_ ?_
          all_goals first | (intro r hr; simp at hr; subst hr; rfl) | (simp [bytesC]; omega) | (simp; done) | omega | rfl | skip
          all_goals refine ⟨k + 1, by omega, by omega, ?_⟩
          all_goals (refine Xto _ _ ?_ ?_ <;> simp only [go_sem, optI, Option.getD_some, Option.getD_none, Int.reduceToNat, reduceIte, Nat.reduceEqDiff, Nat.reduceAdd, Nat.reduceMul, Nat.reduceSub, Nat.reduceLT, Nat.reduceLeDiff, reduceCtorEq, Option.some.injEq, or_true, true_or] <;> (repeat' with_reducible apply And.intro) <;> (try rfl))
          all_goals first | (rw [ht]; done) | (rw [ht]; simp only [List.map_append]; rfl) | skip
        · have ht := ns (by decide)
          clear nj nf ns ng np nv nb0 nb na ni nc m4 gC gA gP gB hr
          simp only [cuO, encCred] at *
          repeat' first | refine SW.step good fun K hK => ?_ | refine X2 good fun K hK => ?_ | refine X3 good fun K hK => ?_ | refine SW.seqK fun J hJ => ?_ | refine SW.last good fun K hK => ?_ | (refine hK _ ?_; clear hK K) | (refine hJ _ _ (Wk.refl _) ?_; clear hJ J) | clear hK K | clear hJ J | refine SW.skip ?_ | refine SW.ret ?_ | refine SW.retT ?_ | refine SW.retB ?_ | refine SW.exit ?_ | refine SW.exitT ?_ | refine SW.exitB ?_ | refine XN ?_ | refine SW.block ?_ | refine SW.normB ?_ | refine SW.normT ?_ | refine XT ?_ | refine XF ?_ | refine XC (fun h => ?_) (fun h => ?_) | (refine Xm (.s 13 0) ?_; first | refine Xd (m1) ?_ | refine Xa (m1) ?_ | refine Xb (m1) ?_) | (refine Xm (.s 13 0) ?_; first | refine Xd (m2) ?_ | refine Xa (m2) ?_ | refine Xb (m2) ?_) | (refine Xm (.s 13 0) ?_; first | refine Xd (m3) ?_ | refine Xa (m3) ?_ | refine Xb (m3) ?_) | simp only [go_sem, optI, Option.getD_some, Option.getD_none, Int.reduceToNat, reduceIte, Nat.reduceEqDiff, Nat.reduceAdd, Nat.reduceMul, Nat.reduceSub, Nat.reduceLT, Nat.reduceLeDiff, reduceCtorEq, *] | refine Xs _ (fun h => ?_) (fun h => ?_) | with_reducible refine And.intro ?_ ?_
          all_goals first | (intro r hr; simp at hr; subst hr; rfl) | (simp [bytesC]; omega) | (simp; done) | omega | rfl | skip
          all_goals refine ⟨k + 1, by omega, by omega, ?_⟩
          all_goals (refine Xto _ _ ?_ ?_ <;> simp only [go_sem, optI, Option.getD_some, Option.getD_none, Int.reduceToNat, reduceIte, Nat.reduceEqDiff, Nat.reduceAdd, Nat.reduceMul, Nat.reduceSub, Nat.reduceLT, Nat.reduceLeDiff, reduceCtorEq, Option.some.injEq, or_true, true_or] <;> (repeat' with_reducible apply And.intro) <;> (try rfl))
          all_goals first | (rw [ht]; done) | (rw [ht]; simp only [List.map_append]; rfl) | skip
        · have ht := ng rfl
          clear nj nf ns ng np nv nb0 nb na ni nc m4 gC gA gP gB hr
          simp only [cuO, encCred] at *
          repeat' first | refine SW.step good fun K hK => ?_ | refine X2 good fun K hK => ?_ | refine X3 good fun K hK => ?_ | refine SW.seqK fun J hJ => ?_ | refine SW.last good fun K hK => ?_ | (refine hK _ ?_; clear hK K) | (refine hJ _ _ (Wk.refl _) ?_; clear hJ J) | clear hK K | clear hJ J | refine SW.skip ?_ | refine SW.ret ?_ | refine SW.retT ?_ | refine SW.retB ?_ | refine SW.exit ?_ | refine SW.exitT ?_ | refine SW.exitB ?_ | refine XN ?_ | refine SW.block ?_ | refine SW.normB ?_ | refine SW.normT ?_ | refine XT ?_ | refine XF ?_ | refine XC (fun h => ?_) (fun h => ?_) | (refine Xm (.s 13 0) ?_; first | refine Xd (m1) ?_ | refine Xa (m1) ?_ | refine Xb (m1) ?_) | (refine Xm (.s 13 0) ?_; first | refine Xd (m2) ?_ | refine Xa (m2) ?_ | refine Xb (m2) ?_) | (refine Xm (.s 13 0) ?_; first | refine Xd (m3) ?_ | refine Xa (m3) ?_ | refine Xb (m3) ?_) | simp only [go_sem, optI, Option.getD_some, Option.getD_none, Int.reduceToNat, reduceIte, Nat.reduceEqDiff, Nat.reduceAdd, Nat.reduceMul, Nat.reduceSub, Nat.reduceLT, Nat.reduceLeDiff, reduceCtorEq, *] | refine Xs _ (fun h => ?_) (fun h => ?_) | with_reducible refine And.intro ?_ ?_
          all_goals first | (intro r hr; simp at hr; subst hr; rfl) | (simp [bytesC]; omega) | (simp; done) | omega | rfl | skip
          all_goals refine ⟨k + 1, by omega, by omega, ?_⟩
          all_goals (refine Xto _ _ ?_ ?_ <;> simp only [go_sem, optI, Option.getD_some, Option.getD_none, Int.reduceToNat, reduceIte, Nat.reduceEqDiff, Nat.reduceAdd, Nat.reduceMul, Nat.reduceSub, Nat.reduceLT, Nat.reduceLeDiff, reduceCtorEq, Option.some.injEq, or_true, true_or] <;> (repeat' with_reducible apply And.intro) <;> (try rfl))
          all_goals first | (rw [ht]; done) | (rw [ht]; simp only [List.map_append]; rfl) | skip
        · have ht := np rfl
          clear nj nf ns ng np nv nb0 nb na ni nc m4 gC gA gP gB hr
          simp only [cuO, encCred] at *
          repeat' first | refine SW.step good fun K hK => ?_ | refine X2 good fun K hK => ?_ | refine X3 good fun K hK => ?_ | refine SW.seqK fun J hJ => ?_ | refine SW.last good fun K hK => ?_ | (refine hK _ ?_; clear hK K) | (refine hJ _ _ (Wk.refl _) ?_; clear hJ J) | clear hK K | clear hJ J | refine SW.skip ?_ | refine SW.ret ?_ | refine SW.retT ?_ | refine SW.retB ?_ | refine SW.exit ?_ | refine SW.exitT ?_ | refine SW.exitB ?_ | refine XN ?_ | refine SW.block ?_ | refine SW.normB ?_ | refine SW.normT ?_ | refine XT ?_ | refine XF ?_ | refine XC (fun h => ?_) (fun h => ?_) | (refine Xm (.s 13 0) ?_; first | refine Xd (m1) ?_ | refine Xa (m1) ?_ | refine Xb (m1) ?_) | (refine Xm (.s 13 0) ?_; first | refine Xd (m2) ?_ | refine Xa (m2) ?_ | refine Xb (m2) ?_) | (refine Xm (.s 13 0) ?_; first | refine Xd (m3) ?_ | refine Xa (m3) ?_ | refine Xb (m3) ?_) | simp only [go_sem, optI, Option.getD_some, Option.getD_none, Int.reduceToNat, reduceIte, Nat.reduceEqDiff, Nat.reduceAdd, Nat.reduceMul, Nat.reduceSub, Nat.reduceLT, Nat.reduceLeDiff, reduceCtorEq, *] | refine Xs _ (fun h => ?_) (fun h => ?_) | with_reducible refine And.intro ?_ ?_
          all_goals first | (intro r hr; simp at hr; subst hr; rfl) | (simp [bytesC]; omega) | (simp; done) | omega | rfl | skip
          all_goals refine ⟨k + 1, by omega, by omega, ?_⟩
          all_goals (refine Xto _ _ ?_ ?_ <;> simp only [go_sem, optI, Option.getD_some, Option.getD_none, Int.reduceToNat, reduceIte, Nat.reduceEqDiff, Nat.reduceAdd, Nat.reduceMul, Nat.reduceSub, Nat.reduceLT, Nat.reduceLeDiff, reduceCtorEq, Option.some.injEq, or_true, true_or] <;> (repeat' with_reducible apply And.intro) <;> (try rfl))
          all_goals first | (rw [ht]; done) | (rw [ht]; simp only [List.map_append]; rfl) | skip
        · have ht := nv (by decide)
          have m5 := gC.2.2
          generalize FC c4 = fp at *
          obtain ⟨⟨xk, ⟨o1, o2⟩, xw, ⟨a1, a2⟩, ⟨b1, b2⟩, xt, xn⟩, c6⟩ := fp
          simp only at m5 ht
          clear nj nf ns ng np nv nb0 nb na ni nc m4 gC gA gP gB hr
          simp only [cuO, encCred] at *
          repeat' first | refine SW.step good fun K hK => ?_ | refine X2 good fun K hK => ?_ | refine X3 good fun K hK => ?_ | refine SW.seqK fun J hJ => ?_ | refine SW.last good fun K hK => ?_ | (refine hK _ ?_; clear hK K) | (refine hJ _ _ (Wk.refl _) ?_; clear hJ J) | clear hK K | clear hJ J | refine SW.skip ?_ | refine SW.ret ?_ | refine SW.retT ?_ | refine SW.retB ?_ | refine SW.exit ?_ | refine SW.exitT ?_ | refine SW.exitB ?_ | refine XN ?_ | refine SW.block ?_ | refine SW.normB ?_ | refine SW.normT ?_ | refine XT ?_ | refine XF ?_ | refine XC (fun h => ?_) (fun h => ?_) | (refine Xm (.s 13 0) ?_; first | refine Xd (m1) ?_ | refine Xa (m1) ?_ | refine Xb (m1) ?_) | (refine Xm (.s 13 0) ?_; first | refine Xd (m2) ?_ | refine Xa (m2) ?_ | refine Xb (m2) ?_) | (refine Xm (.s 13 0) ?_; first | refine Xd (m3) ?_ | refine Xa (m3) ?_ | refine Xb (m3) ?_) | (refine Xm (.s 13 0) ?_; first | refine Xd (m5) ?_ | refine Xa (m5) ?_ | refine Xb (m5) ?_) | simp only [go_sem, optI, Option.getD_some, Option.getD_none, Int.reduceToNat, reduceIte, Nat.reduceEqDiff, Nat.reduceAdd, Nat.reduceMul, Nat.reduceSub, Nat.reduceLT, Nat.reduceLeDiff, reduceCtorEq, *] | refine Xs _ (fun h => ?_) (fun h => ?_) | with_reducible refine And.intro ?_ ?_
          all_goals first | (intro r hr; simp at hr; subst hr; rfl) | (simp [bytesC]; omega) | (simp; done) | omega | rfl | skip
          all_goals refine ⟨k + 1, by omega, by omega, ?_⟩
          all_goals (refine Xto _ _ ?_ ?_ <;> simp only [go_sem, optI, Option.getD_some, Option.getD_none, Int.reduceToNat, reduceIte, Nat.reduceEqDiff, Nat.reduceAdd, Nat.reduceMul, Nat.reduceSub, Nat.reduceLT, Nat.reduceLeDiff, reduceCtorEq, Option.some.injEq, or_true, true_or] <;> (repeat' with_reducible apply And.intro) <;> (try rfl))
          all_goals first | (rw [ht]; done) | (rw [ht]; simp only [List.map_append]; rfl) | skip
        · have ht := nv (by decide)
          have m5 := gC.2.2
          generalize FC c4 = fp at *
          obtain ⟨⟨xk, ⟨o1, o2⟩, xw, ⟨a1, a2⟩, ⟨b1, b2⟩, xt, xn⟩, c6⟩ := fp
          simp only at m5 ht
          clear nj nf ns ng np nv nb0 nb na ni nc m4 gC gA gP gB hr
          simp only [cuO, encCred] at *
          repeat' first | refine SW.step good fun K hK => ?_ | refine X2 good fun K hK => ?_ | refine X3 good fun K hK => ?_ | refine SW.seqK fun J hJ => ?_ | refine SW.last good fun K hK => ?_ | (refine hK _ ?_; clear hK K) | (refine hJ _ _ (Wk.refl _) ?_; clear hJ J) | clear hK K | clear hJ J | refine SW.skip ?_ | refine SW.ret ?_ | refine SW.retT ?_ | refine SW.retB ?_ | refine SW.exit ?_ | refine SW.exitT ?_ | refine SW.exitB ?_ | refine XN ?_ | refine SW.block ?_ | refine SW.normB ?_ | refine SW.normT ?_ | refine XT ?_ | refine XF ?_ | refine XC (fun h => ?_) (fun h => ?_) | (refine Xm (.s 13 0) ?_; first | refine Xd (m1) ?_ | refine Xa (m1) ?_ | refine Xb (m1) ?_) | (refine Xm (.s 13 0) ?_; first | refine Xd (m2) ?_ | refine Xa (m2) ?_ | refine Xb (m2) ?_) | (refine Xm (.s 13 0) ?_; first | refine Xd (m3) ?_ | refine Xa (m3) ?_ | refine Xb (m3) ?_) | (refine Xm (.s 13 0) ?_; first | refine Xd (m5) ?_ | refine Xa (m5) ?_ | refine Xb (m5) ?_) | simp only [go_sem, optI, Option.getD_some, Option.getD_none, Int.reduceToNat, reduceIte, Nat.reduceEqDiff, Nat.reduceAdd, Nat.reduceMul, Nat.reduceSub, Nat.reduceLT, Nat.reduceLeDiff, reduceCtorEq, *] | refine Xs _ (fun h => ?_) (fun h => ?_) | with_reducible refine And.intro ?_ ?_
          all_goals first | (intro r hr; simp at hr; subst hr; rfl) | (simp [bytesC]; omega) | (simp; done) | omega | rfl | skip
          all_goals refine ⟨k + 1, by omega, by omega, ?_⟩
          all_goals (refine Xto _ _ ?_ ?_ <;> simp only [go_sem, optI, Option.getD_some, Option.getD_none, Int.reduceToNat, reduceIte, Nat.reduceEqDiff, Nat.reduceAdd, Nat.reduceMul, Nat.reduceSub, Nat.reduceLT, Nat.reduceLeDiff, reduceCtorEq, Option.some.injEq, or_true, true_or] <;> (repeat' with_reducible apply And.intro) <;> (try rfl))
          all_goals first | (rw [ht]; done) | (rw [ht]; simp only [List.map_append]; rfl) | skip
        · have ht := nv (by decide)
          have m5 := gC.2.2
          generalize FC c4 = fp at *
          obtain ⟨⟨xk, ⟨o1, o2⟩, xw, ⟨a1, a2⟩, ⟨b1, b2⟩, xt, xn⟩, c6⟩ := fp
          simp only at m5 ht
          clear nj nf ns ng np nv nb0 nb na ni nc m4 gC gA gP gB hr
          simp only [cuO, encCred] at *
          repeat' first | refine SW.step good fun K hK => ?_ | refine X2 good fun K hK => ?_ | refine X3 good fun K hK => ?_ | refine SW.seqK fun J hJ => ?_ | refine SW.last good fun K hK => ?_ | (refine hK _ ?_; clear hK K) | (refine hJ _ _ (Wk.refl _) ?_; clear hJ J) | clear hK K | clear hJ J | refine SW.skip ?_ | refine SW.ret ?_ | refine SW.retT ?_ | refine SW.retB ?_ | refine SW.exit ?_ | refine SW.exitT ?_ | refine SW.exitB ?_ | refine XN ?_ | refine SW.block ?_ | refine SW.normB ?_ | refine SW.normT ?_ | refine XT ?_ | refine XF ?_ | refine XC (fun h => ?_) (fun h => ?_) | (refine Xm (.s 13 0) ?_; first | refine Xd (m1) ?_ | refine Xa (m1) ?_ | refine Xb (m1) ?_) | (refine Xm (.s 13 0) ?_; first | refine Xd (m2) ?_ | refine Xa (m2) ?_ | refine Xb (m2) ?_) | (refine Xm (.s 13 0) ?_; first | refine Xd (m3) ?_ | refine Xa (m3) ?_ | refine Xb (m3) ?_) | (refine Xm (.s 13 0) ?_; first | refine Xd (m5) ?_ | refine Xa (m5) ?_ | refine Xb (m5) ?_) | simp only [go_sem, optI, Option.getD_some, Option.getD_none, Int.reduceToNat, reduceIte, Nat.reduceEqDiff, Nat.reduceAdd, Nat.reduceMul, Nat.reduceSub, Nat.reduceLT, Nat.reduceLeDiff, reduceCtorEq, *] | refine Xs _ (fun h => ?_) (fun h => ?_) | with_reducible refine And.intro ?_ ?_
          all_goals first | (intro r hr; simp at hr; subst hr; rfl) | (simp [bytesC]; omega) | (simp; done) | omega | rfl | skip
          all_goals refine ⟨k + 1, by omega, by omega, ?_⟩
          all_goals (refine Xto _ _ ?_ ?_ <;> simp only [go_sem, optI, Option.getD_some, Option.getD_none, Int.reduceToNat, reduceIte, Nat.reduceEqDiff, Nat.reduceAdd, Nat.reduceMul, Nat.reduceSub, Nat.reduceLT, Nat.reduceLeDiff, reduceCtorEq, Option.some.injEq, or_true, true_or] <;> (repeat' with_reducible apply And.intro) <;> (try rfl))
          all_goals first | (rw [ht]; done) | (rw [ht]; simp only [List.map_append]; rfl) | skip
        · by_cases h0 : S.length = 0
          · have ht := nb0 rfl h0
            have dS : decide ((0 : Int) < (S.length : Int)) = false := decide_eq_false (by omega)
            clear nj nf ns ng np nv nb0 nb na ni nc m4 gC gA gP gB hr h0
            simp only [cuO, encCred] at *
            repeat' first | refine SW.step good fun K hK => ?_ | refine X2 good fun K hK => ?_ | refine X3 good fun K hK => ?_ | refine SW.seqK fun J hJ => ?_ | refine SW.last good fun K hK => ?_ | (refine hK _ ?_; clear hK K) | (refine hJ _ _ (Wk.refl _) ?_; clear hJ J) | clear hK K | clear hJ J | refine SW.skip ?_ | refine SW.ret ?_ | refine SW.retT ?_ | refine SW.retB ?_ | refine SW.exit ?_ | refine SW.exitT ?_ | refine SW.exitB ?_ | refine XN ?_ | refine SW.block ?_ | refine SW.normB ?_ | refine SW.normT ?_ | refine XT ?_ | refine XF ?_ | refine XC (fun h => ?_) (fun h => ?_) | (refine Xm (.s 13 0) ?_; first | refine Xd (m1) ?_ | refine Xa (m1) ?_ | refine Xb (m1) ?_) | (refine Xm (.s 13 0) ?_; first | refine Xd (m2) ?_ | refine Xa (m2) ?_ | refine Xb (m2) ?_) | (refine Xm (.s 13 0) ?_; first | refine Xd (m3) ?_ | refine Xa (m3) ?_ | refine Xb (m3) ?_) | simp only [go_sem, optI, Option.getD_some, Option.getD_none, Int.reduceToNat, reduceIte, Nat.reduceEqDiff, Nat.reduceAdd, Nat.reduceMul, Nat.reduceSub, Nat.reduceLT, Nat.reduceLeDiff, reduceCtorEq, *] | refine Xs _ (fun h => ?_) (fun h => ?_) | with_reducible refine And.intro ?_ ?_
            all_goals first | (intro r hr; simp at hr; subst hr; rfl) | (simp [bytesC]; omega) | (simp; done) | omega | rfl | skip
            all_goals refine ⟨k + 1, by omega, by omega, ?_⟩
            all_goals (refine Xto _ _ ?_ ?_ <;> simp only [go_sem, optI, Option.getD_some, Option.getD_none, Int.reduceToNat, reduceIte, Nat.reduceEqDiff, Nat.reduceAdd, Nat.reduceMul, Nat.reduceSub, Nat.reduceLT, Nat.reduceLeDiff, reduceCtorEq, Option.some.injEq, or_true, true_or] <;> (repeat' with_reducible apply And.intro) <;> (try rfl))
            all_goals first | (rw [ht]; done) | (rw [ht]; simp only [List.map_append]; rfl) | skip
          · have ht := nb rfl h0
            have m5 := m4 (by omega)
            have dS : decide ((0 : Int) < (S.length : Int)) = true := decide_eq_true (by omega)
            have hr4 := mod_rng v4 S.length (by omega)
            generalize v4 % (S.length : Int) = i4 at *
            obtain ⟨j4, rfl⟩ : ∃ j : Nat, i4 = (j : Int) := ⟨i4.toNat, by omega⟩
            have hj4 : j4 < S.length := by omega
            have e4 := credC_get hj4
            rw [Int.toNat_natCast] at ht
            generalize S.getD j4 nilCr = xc at *
            obtain ⟨xk, ⟨o1, o2⟩, xw, ⟨a1, a2⟩, ⟨b1, b2⟩, xt, xn⟩ := xc
            simp only [credC] at e4
            clear nj nf ns ng np nv nb0 nb na ni nc m4 gC gA gP gB hr h0
            simp only [cuO, encCred] at *
            repeat' first | refine SW.step good fun K hK => ?_ | refine X2 good fun K hK => ?_ | refine X3 good fun K hK => ?_ | refine SW.seqK fun J hJ => ?_ | refine SW.last good fun K hK => ?_ | (refine hK _ ?_; clear hK K) | (refine hJ _ _ (Wk.refl _) ?_; clear hJ J) | clear hK K | clear hJ J | refine SW.skip ?_ | refine SW.ret ?_ | refine SW.retT ?_ | refine SW.retB ?_ | refine SW.exit ?_ | refine SW.exitT ?_ | refine SW.exitB ?_ | refine XN ?_ | refine SW.block ?_ | refine SW.normB ?_ | refine SW.normT ?_ | refine XT ?_ | refine XF ?_ | refine XC (fun h => ?_) (fun h => ?_) | (refine Xm (.s 13 0) ?_; first | refine Xd (m1) ?_ | refine Xa (m1) ?_ | refine Xb (m1) ?_) | (refine Xm (.s 13 0) ?_; first | refine Xd (m2) ?_ | refine Xa (m2) ?_ | refine Xb (m2) ?_) | (refine Xm (.s 13 0) ?_; first | refine Xd (m3) ?_ | refine Xa (m3) ?_ | refine Xb (m3) ?_) | (refine Xm (.s 13 0) ?_; first | refine Xd (m5) ?_ | refine Xa (m5) ?_ | refine Xb (m5) ?_) | simp only [go_sem, optI, Option.getD_some, Option.getD_none, Int.reduceToNat, reduceIte, Nat.reduceEqDiff, Nat.reduceAdd, Nat.reduceMul, Nat.reduceSub, Nat.reduceLT, Nat.reduceLeDiff, reduceCtorEq, *] | refine Xs _ (fun h => ?_) (fun h => ?_) | with_reducible refine And.intro ?_ ?_
            all_goals first | (intro r hr; simp at hr; subst hr; rfl) | (simp [bytesC]; omega) | (simp; done) | omega | rfl | skip
            all_goals refine ⟨k + 1, by omega, by omega, ?_⟩
            all_goals (refine Xto _ _ ?_ ?_ <;> simp only [go_sem, optI, Option.getD_some, Option.getD_none, Int.reduceToNat, reduceIte, Nat.reduceEqDiff, Nat.reduceAdd, Nat.reduceMul, Nat.reduceSub, Nat.reduceLT, Nat.reduceLeDiff, reduceCtorEq, Option.some.injEq, or_true, true_or] <;> (repeat' with_reducible apply And.intro) <;> (try rfl))
            all_goals first | (rw [ht]; done) | (rw [ht]; simp only [List.map_append]; rfl) | skip
        · have ht := na rfl
          have m5 := gA.2
          generalize FA c4 = fp at *
          obtain ⟨⟨xk, ⟨o1, o2⟩, xw, ⟨a1, a2⟩, ⟨b1, b2⟩, xt, xn⟩, c6⟩ := fp
          simp only at m5 ht
          clear nj nf ns ng np nv nb0 nb na ni nc m4 gC gA gP gB hr
          simp only [cuO, encCred] at *
          repeat' first | refine SW.step good fun K hK => ?_ | refine X2 good fun K hK => ?_ | refine X3 good fun K hK => ?_ | refine SW.seqK fun J hJ => ?_ | refine SW.last good fun K hK => ?_ | (refine hK _ ?_; clear hK K) | (refine hJ _ _ (Wk.refl _) ?_; clear hJ J) | clear hK K | clear hJ J | refine SW.skip ?_ | refine SW.ret ?_ | refine SW.retT ?_ | refine SW.retB ?_ | refine SW.exit ?_ | refine SW.exitT ?_ | refine SW.exitB ?_ | refine XN ?_ | refine SW.block ?_ | refine SW.normB ?_ | refine SW.normT ?_ | refine XT ?_ | refine XF ?_ | refine XC (fun h => ?_) (fun h => ?_) | (refine Xm (.s 13 0) ?_; first | refine Xd (m1) ?_ | refine Xa (m1) ?_ | refine Xb (m1) ?_) | (refine Xm (.s 13 0) ?_; first | refine Xd (m2) ?_ | refine Xa (m2) ?_ | refine Xb (m2) ?_) | (refine Xm (.s 13 0) ?_; first | refine Xd (m3) ?_ | refine Xa (m3) ?_ | refine Xb (m3) ?_) | (refine Xm (.s 13 0) ?_; first | refine Xd (m5) ?_ | refine Xa (m5) ?_ | refine Xb (m5) ?_) | simp only [go_sem, optI, Option.getD_some, Option.getD_none, Int.reduceToNat, reduceIte, Nat.reduceEqDiff, Nat.reduceAdd, Nat.reduceMul, Nat.reduceSub, Nat.reduceLT, Nat.reduceLeDiff, reduceCtorEq, *] | refine Xs _ (fun h => ?_) (fun h => ?_) | with_reducible refine And.intro ?_ ?_
          all_goals first | (intro r hr; simp at hr; subst hr; rfl) | (simp [bytesC]; omega) | (simp; done) | omega | rfl | skip
          all_goals refine ⟨k + 1, by omega, by omega, ?_⟩
          all_goals (refine Xto _ _ ?_ ?_ <;> simp only [go_sem, optI, Option.getD_some, Option.getD_none, Int.reduceToNat, reduceIte, Nat.reduceEqDiff, Nat.reduceAdd, Nat.reduceMul, Nat.reduceSub, Nat.reduceLT, Nat.reduceLeDiff, reduceCtorEq, Option.some.injEq, or_true, true_or] <;> (repeat' with_reducible apply And.intro) <;> (try rfl))
          all_goals first | (rw [ht]; done) | (rw [ht]; simp only [List.map_append]; rfl) | skip
        · have ht := ni rfl
          obtain ⟨v, c7, tx, m5, m6, m7⟩ := gB.2.2
          generalize FB c4 = fp at *
          obtain ⟨x5, c6⟩ := fp
          simp only at m5 m6 m7 ht
          simp only [List.map_cons, List.map_nil, strC] at m7
          obtain ⟨⟨xk, ⟨o1, o2⟩, xw, ⟨a1, a2⟩, ⟨b1, b2⟩, xt, xn⟩, ⟨lf, E5, W5⟩⟩ := v
          simp only [encVou] at m5 m6
          generalize E5.map strC = EE at *
          generalize W5.map strC = WW at *
          clear nj nf ns ng np nv nb0 nb na ni nc m4 gC gA gP gB hr
          simp only [cuO, encCred] at *
          repeat' first | refine SW.step good fun K hK => ?_ | refine X2 good fun K hK => ?_ | refine X3 good fun K hK => ?_ | refine SW.seqK fun J hJ => ?_ | refine SW.last good fun K hK => ?_ | (refine hK _ ?_; clear hK K) | (refine hJ _ _ (Wk.refl _) ?_; clear hJ J) | clear hK K | clear hJ J | refine SW.skip ?_ | refine SW.ret ?_ | refine SW.retT ?_ | refine SW.retB ?_ | refine SW.exit ?_ | refine SW.exitT ?_ | refine SW.exitB ?_ | refine XN ?_ | refine SW.block ?_ | refine SW.normB ?_ | refine SW.normT ?_ | refine XT ?_ | refine XF ?_ | refine XC (fun h => ?_) (fun h => ?_) | refine X0 ?_ | refine Xv ?_ | refine X1 (m6) ?_ | (refine Xm (.s 13 0) ?_; first | refine Xd (m1) ?_ | refine Xa (m1) ?_ | refine Xb (m1) ?_) | (refine Xm (.s 13 0) ?_; first | refine Xd (m2) ?_ | refine Xa (m2) ?_ | refine Xb (m2) ?_) | (refine Xm (.s 13 0) ?_; first | refine Xd (m3) ?_ | refine Xa (m3) ?_ | refine Xb (m3) ?_) | (refine Xm (.s 13 0) ?_; first | refine Xd (m5) ?_ | refine Xa (m5) ?_ | refine Xb (m5) ?_) | (refine Xm (.s 13 0) ?_; first | refine Xd (m7) ?_ | refine Xa (m7) ?_ | refine Xb (m7) ?_) | simp only [go_sem, optI, Option.getD_some, Option.getD_none, Int.reduceToNat, reduceIte, Nat.reduceEqDiff, Nat.reduceAdd, Nat.reduceMul, Nat.reduceSub, Nat.reduceLT, Nat.reduceLeDiff, reduceCtorEq, *] | refine Xs _ (fun h => ?_) (fun h => ?_) | with_reducible refine And.intro ?_ ?_
          all_goals first | (intro r hr; simp at hr; subst hr; rfl) | (simp [bytesC]; omega) | (simp; done) | omega | rfl | skip
          all_goals refine ⟨k + 1, by omega, by omega, ?_⟩
          all_goals (refine Xto _ _ ?_ ?_ <;> simp only [go_sem, optI, Option.getD_some, Option.getD_none, Int.reduceToNat, reduceIte, Nat.reduceEqDiff, Nat.reduceAdd, Nat.reduceMul, Nat.reduceSub, Nat.reduceLT, Nat.reduceLeDiff, reduceCtorEq, Option.some.injEq, or_true, true_or] <;> (repeat' with_reducible apply And.intro) <;> (try rfl))
          all_goals first | (rw [ht]; done) | (rw [ht]; simp only [List.map_append]; rfl) | skip
        · have ht := nc rfl
          clear nj nf ns ng np nv nb0 nb na ni nc m4 gC gA gP gB hr
          simp only [cuO, encCred] at *
          repeat' first | refine SW.step good fun K hK => ?_ | refine X2 good fun K hK => ?_ | refine X3 good fun K hK => ?_ | refine SW.seqK fun J hJ => ?_ | refine SW.last good fun K hK => ?_ | (refine hK _ ?_; clear hK K) | (refine hJ _ _ (Wk.refl _) ?_; clear hJ J) | clear hK K | clear hJ J | refine SW.skip ?_ | refine SW.ret ?_ | refine SW.retT ?_ | refine SW.retB ?_ | refine SW.exit ?_ | refine SW.exitT ?_ | refine SW.exitB ?_ | refine XN ?_ | refine SW.block ?_ | refine SW.normB ?_ | refine SW.normT ?_ | refine XT ?_ | refine XF ?_ | refine XC (fun h => ?_) (fun h => ?_) | (refine Xm (.s 13 0) ?_; first | refine Xd (m1) ?_ | refine Xa (m1) ?_ | refine Xb (m1) ?_) | (refine Xm (.s 13 0) ?_; first | refine Xd (m2) ?_ | refine Xa (m2) ?_ | refine Xb (m2) ?_) | (refine Xm (.s 13 0) ?_; first | refine Xd (m3) ?_ | refine Xa (m3) ?_ | refine Xb (m3) ?_) | simp only [go_sem, optI, Option.getD_some, Option.getD_none, Int.reduceToNat, reduceIte, Nat.reduceEqDiff, Nat.reduceAdd, Nat.reduceMul, Nat.reduceSub, Nat.reduceLT, Nat.reduceLeDiff, reduceCtorEq, *] | refine Xs _ (fun h => ?_) (fun h => ?_) | with_reducible refine And.intro ?_ ?_
          all_goals first | (intro r hr; simp at hr; subst hr; rfl) | (simp [bytesC]; omega) | (simp; done) | omega | rfl | skip
          all_goals refine ⟨k + 1, by omega, by omega, ?_⟩
          all_goals (refine Xto _ _ ?_ ?_ <;> simp only [go_sem, optI, Option.getD_some, Option.getD_none, Int.reduceToNat, reduceIte, Nat.reduceEqDiff, Nat.reduceAdd, Nat.reduceMul, Nat.reduceSub, Nat.reduceLT, Nat.reduceLeDiff, reduceCtorEq, Option.some.injEq, or_true, true_or] <;> (repeat' with_reducible apply And.intro) <;> (try rfl))
          all_goals first | (rw [ht]; done) | (rw [ht]; simp only [List.map_append]; rfl) | skip
      · have hkN : k = N := by omega
        subst hkN
        have hol := hN1
        have d1 : decide (((G k).out.length : Int) < (most : Int)) = false := by simp; omega
        clear hN1 hN2 hN3 hrs hFC hFA hFP hFB hF hG0
        generalize (G k).out = E at *
        generalize (G k).said = S at *
        generalize (G k).c = c at *
        clear hol
        repeat' first | refine SW.step good fun K hK => ?_ | refine X2 good fun K hK => ?_ | refine X3 good fun K hK => ?_ | refine SW.seqK fun J hJ => ?_ | refine SW.last good fun K hK => ?_ | (refine hK _ ?_; clear hK K) | (refine hJ _ _ (Wk.refl _) ?_; clear hJ J) | clear hK K | clear hJ J | refine SW.skip ?_ | refine SW.ret ?_ | refine SW.retT ?_ | refine SW.retB ?_ | refine SW.exit ?_ | refine SW.exitT ?_ | refine SW.exitB ?_ | refine XN ?_ | refine SW.block ?_ | refine SW.normB ?_ | refine SW.normT ?_ | refine XT ?_ | refine XF ?_ | refine XC (fun h => ?_) (fun h => ?_) | simp only [go_sem, optI, Option.getD_some, Option.getD_none, Int.reduceToNat, reduceIte, Nat.reduceEqDiff, Nat.reduceAdd, Nat.reduceMul, Nat.reduceSub, Nat.reduceLT, Nat.reduceLeDiff, reduceCtorEq, *] | refine Xs _ (fun h => ?_) (fun h => ?_) | with_reducible refine And.intro ?_ ?_
        all_goals first | (intro r hr; simp at hr; subst hr; rfl) | (simp [bytesC]; omega) | (simp; done) | omega | rfl | skip
        all_goals (refine Xr1 (i := .s 23 0) ?_ ?_ <;> simp [Wn.leO, resOf, Wn.le, Wn.leL, Wn.cw, C.scal, scal, outM, idsTo, hAR])
end Go.Proofs.YtoemclhjcbcjaaaGreat.AB
