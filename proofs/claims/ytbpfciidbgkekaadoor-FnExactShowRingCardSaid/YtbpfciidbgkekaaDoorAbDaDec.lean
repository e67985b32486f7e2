/- Numbers as figures: both functions. -/
import Derived.Test.YtbpfciidbgkekaaDoorAbFaVar
import Derived.Test.YtbpfciidbgkekaaDoorAbShelfI
namespace Go.Proofs.YtbpfciidbgkekaaDoor.AB
open Go
set_option maxRecDepth 100000
set_option linter.unusedSimpArgs false
set_option linter.unusedVariables false
theorem tab_of {Z : Nat → Prop} {w : World} (h : Lay Z w) : Lib.TabIs Tryd.prog w "internal/strconv.uint64pow10" .u64 Lib.pow10Tab := by
  obtain ⟨_, t, fz, h2⟩ := h
  have hg : Tryd.prog.globalNamed "internal/strconv.uint64pow10" = some 0 := by kernel_rfl
  unfold Lib.TabIs World.var?
  simp only [hg, Option.bind_some, h2]
  rfl
theorem ac_Itoa (n : Int) (h0 : -9223372036854775808 ≤ n) (h1 : n ≤ 9223372036854775807) : AC Tryd.prog 50 [vI n] (vS (Lib.itoa n)) [] := by
  refine ⟨by simp, fun w S B ν vs hlt hlay hl hv => .inl ⟨run_enter Tryd.func50 (by decide +kernel) (by kernel_rfl), ?_⟩⟩
  have hsz : vs.size = 1 := hl.symm
  obtain ⟨v0, rfl⟩ : ∃ v0, vs = #[v0] := by
    refine ⟨vs[0], ?_⟩
    apply Array.ext
    · simpa using hsz
    · intro i h1 h2
      have : i = 0 := by omega
      subst this; rfl
  have hv0 := hv 0 _ v0 rfl rfl
  obtain ⟨rfl, _⟩ := hv0.scal_eq
  refine (Tryd.strconv_Itoa n h0 h1 w (tab_of hlay)).mono ?_
  rintro e w' ⟨rfl, k, os, rfl⟩
  have hsz : w.heap.size ≤ (Sort.grow (w.drewN k) os).heap.size := by show _ ≤ (w.heap ++ os).size; simp
  have hbl : ∀ b, b < w.heap.size → (Sort.grow (w.drewN k) os).heap[b]? = w.heap[b]? := fun b hb => by
    show (w.heap ++ os)[b]? = _
    rw [Array.getElem?_append_left hb]
  refine ⟨_, rfl, S, ν, ⟨rfl, rfl, rfl, hsz, fun b h _ => hbl b h⟩, fun b h => h, fun b h => .inl h, ⟨fun i cs hi => ?_, fun i b e sz xs hi => ?_, fun i hi => ?_, fun i j b _ hi => ?_, fun i b hi => ?_, fun b h => Nat.lt_of_lt_of_le (hlt b h) hsz⟩, fun i b hi => ?_, fun b h => .inl h, .c (.v rfl)⟩
  · cases i <;> simp [hrOf] at hi
  · cases i <;> simp [hrOf] at hi
  · cases i <;> simp [hrOf] at hi
  · cases i <;> simp [hrOf] at hi
  · cases i <;> simp [hrOf] at hi
  · cases i <;> simp [hrOf] at hi
/-- the figures of a number -/
def decN (n : Nat) : List UInt8 := Lib.decDigits n
def decI (n : Int) : List UInt8 := decN n.toNat
def figD (n : Nat) (acc : List UInt8) : List UInt8 := if n = 0 then acc else figD (n / 10) (UInt8.ofNat (48 + n % 10) :: acc)
  termination_by n
  decreasing_by omega
theorem figD_zero (acc : List UInt8) : figD 0 acc = acc := by unfold figD; simp
theorem figD_pos {n : Nat} (h : 0 < n) (acc : List UInt8) : figD n acc = figD (n / 10) (UInt8.ofNat (48 + n % 10) :: acc) := by
  conv => lhs; unfold figD
  rw [if_neg (by omega)]
theorem figD_app : ∀ (f n : Nat), n ≤ f → ∀ acc : List UInt8, figD n acc = figD n [] ++ acc
  | 0, n, h, acc => by obtain rfl : n = 0 := by omega
                       simp [figD_zero]
  | f + 1, n, h, acc => by
    by_cases h0 : n = 0
    · subst h0; simp [figD_zero]
    · rw [figD_pos (by omega), figD_app f (n / 10) (by omega), figD_pos (n := n) (by omega) [], figD_app f (n / 10) (by omega) [_]]
      simp
theorem dec_fig : ∀ (f n : Nat), n ≤ f → 0 < n → decN n = figD n []
  | 0, n, h, h0 => by omega
  | f + 1, n, h, h0 => by
    unfold decN
    rw [Lib.decDigits, figD_pos h0]
    by_cases h1 : n < 10
    · rw [dif_pos h1, show n / 10 = 0 by omega, figD_zero, show n % 10 = n by omega]
    · rw [dif_neg h1, figD_app _ (n / 10) (Nat.le_refl _) [_], ← dec_fig f (n / 10) (by omega) (by omega)]; rfl
theorem figD_len : ∀ (f n : Nat) (acc : List UInt8), n < 10 ^ f → (figD n acc).length ≤ acc.length + f
  | 0, n, acc, h => by have : n = 0 := by simpa using h
                       subst this; rw [figD_zero]; omega
  | f + 1, n, acc, h => by
    by_cases h0 : n = 0
    · subst h0; rw [figD_zero]; omega
    · rw [figD_pos (by omega)]
      have := figD_len f (n / 10) (UInt8.ofNat (48 + n % 10) :: acc) (by rw [Nat.pow_succ] at h; omega)
      simp only [List.length_cons] at this; omega
theorem decN_zero : decN 0 = [48] := by unfold decN; rw [Lib.decDigits]; rfl
theorem decN_len {n : Nat} (h : n ≤ 9223372036854775807) : (decN n).length ≤ 20 := by
  by_cases h0 : n = 0
  · subst h0; rw [decN_zero]; simp
  · rw [dec_fig n n (Nat.le_refl _) (by omega)]
    have := figD_len 20 n [] (by omega)
    simpa using this
theorem ac_Decimal (n : Nat) (h : n ≤ 9223372036854775807) : AC Tryd.prog 31 [vI n] (vS (decN n)) [] := by
  have h1 := ac_Itoa n (by omega) (by omega)
  have h2 : Lib.itoa (n : Int) = decN n := by unfold Lib.itoa decN; rw [if_neg (by omega)]; simp
  rw [h2] at h1
  refine XA good (fn := Tryd.f31) rfl ?_
  simp only [entry, List.getD_cons_zero, List.getD_cons_succ]
  repeat' first | refine SW.step good fun K hK => ?_ | refine X2 good fun K hK => ?_ | refine X3 good fun K hK => ?_ | refine SW.seqK fun J hJ => ?_ | refine SW.last good fun K hK => ?_ | (refine hK _ ?_; clear hK K) | (refine hJ _ _ (Wk.refl _) ?_; clear hJ J) | clear hK K | clear hJ J | refine SW.skip ?_ | refine SW.ret ?_ | refine SW.retT ?_ | refine SW.retB ?_ | refine SW.exit ?_ | refine SW.exitT ?_ | refine SW.exitB ?_ | refine XN ?_ | refine SW.block ?_ | refine SW.normB ?_ | refine SW.normT ?_ | refine XT ?_ | refine XF ?_ | refine XC (fun h => ?_) (fun h => ?_) | refine X0 ?_ | refine Xv ?_ | refine X1 (h1) ?_ | simp only [go_sem, optI, Option.getD_some, Option.getD_none, Int.reduceToNat, reduceIte, Nat.reduceEqDiff, Nat.reduceAdd, Nat.reduceMul, Nat.reduceSub, Nat.reduceLT, Nat.reduceLeDiff, reduceCtorEq, *] | refine Xs _ (fun h => ?_) (fun h => ?_) | with_reducible refine And.intro ?_ ?_
  all_goals (refine Xrs ?_; rfl)
theorem ac_figures (n : Int) (h : n ≤ 9223372036854775807) : AC Tryd.prog 21 [vI n] (vS (decI n)) [] := by
  have h1 := ac_Decimal n.toNat (by omega)
  have h2 : (if (0 : Int) < n then n else 0) = ((n.toNat : Nat) : Int) := by split <;> omega
  refine XA good (fn := Tryd.f21) rfl ?_
  simp only [entry, List.getD_cons_zero, List.getD_cons_succ]
  repeat' first | refine SW.step good fun K hK => ?_ | refine X2 good fun K hK => ?_ | refine X3 good fun K hK => ?_ | refine SW.seqK fun J hJ => ?_ | refine SW.last good fun K hK => ?_ | (refine hK _ ?_; clear hK K) | (refine hJ _ _ (Wk.refl _) ?_; clear hJ J) | clear hK K | clear hJ J | refine SW.skip ?_ | refine SW.ret ?_ | refine SW.retT ?_ | refine SW.retB ?_ | refine SW.exit ?_ | refine SW.exitT ?_ | refine SW.exitB ?_ | refine XN ?_ | refine SW.block ?_ | refine SW.normB ?_ | refine SW.normT ?_ | refine XT ?_ | refine XF ?_ | refine XC (fun h => ?_) (fun h => ?_) | refine X0 ?_ | refine Xv ?_ | refine X1 (h1) ?_ | simp only [go_sem, optI, Option.getD_some, Option.getD_none, Int.reduceToNat, reduceIte, Nat.reduceEqDiff, Nat.reduceAdd, Nat.reduceMul, Nat.reduceSub, Nat.reduceLT, Nat.reduceLeDiff, reduceCtorEq, *] | refine Xs _ (fun h => ?_) (fun h => ?_) | with_reducible refine And.intro ?_ ?_
  all_goals first | (refine Xrs ?_; rfl) | skip
theorem ac_l01Figure (x : Nat) (h : x < 10) : AC Tryd.prog 34 [vI x] (.c false (.v (.int .u8 ((48 + x : Nat) : Int)))) [] := by
  have e1 : decide ((x : Int) < 10) = true := by simp; omega
  have e2 : IntKind.u8.wrap (IntKind.i64.wrap (48 + (x : Int))) = ((48 + x : Nat) : Int) := by rw [wrap64 (by omega) (by omega), wrap8 (by omega) (by omega)]; rfl
  refine XA good (fn := Tryd.f34) rfl ?_
  simp only [entry, List.getD_cons_zero, List.getD_cons_succ]
  repeat' first | refine SW.step good fun K hK => ?_ | refine X2 good fun K hK => ?_ | refine X3 good fun K hK => ?_ | refine SW.seqK fun J hJ => ?_ | refine SW.last good fun K hK => ?_ | (refine hK _ ?_; clear hK K) | (refine hJ _ _ (Wk.refl _) ?_; clear hJ J) | clear hK K | clear hJ J | refine SW.skip ?_ | refine SW.ret ?_ | refine SW.retT ?_ | refine SW.retB ?_ | refine SW.exit ?_ | refine SW.exitT ?_ | refine SW.exitB ?_ | refine XN ?_ | refine SW.block ?_ | refine SW.normB ?_ | refine SW.normT ?_ | refine XT ?_ | refine XF ?_ | refine XC (fun h => ?_) (fun h => ?_) | simp only [go_sem, optI, Option.getD_some, Option.getD_none, Int.reduceToNat, reduceIte, Nat.reduceEqDiff, Nat.reduceAdd, Nat.reduceMul, Nat.reduceSub, Nat.reduceLT, Nat.reduceLeDiff, reduceCtorEq, *] | refine Xs _ (fun h => ?_) (fun h => ?_) | with_reducible refine And.intro ?_ ?_
  all_goals refine Xrp ?_
  all_goals simp [resOf, Wn.le, Wn.leL, Wn.cw, C.scal, scal]
theorem ac_Decimal' (n : Nat) (h : n ≤ 9223372036854775807) : AC Tryd.prog 16 [vI n] (vS (decN n)) [] := by
  by_cases h0 : n = 0
  · subst h0
    refine XA good (fn := Tryd.f16) rfl ?_
    simp only [entry, List.getD_cons_zero, List.getD_cons_succ]
    repeat' first | refine SW.step good fun K hK => ?_ | refine X2 good fun K hK => ?_ | refine X3 good fun K hK => ?_ | refine SW.seqK fun J hJ => ?_ | refine SW.last good fun K hK => ?_ | (refine hK _ ?_; clear hK K) | (refine hJ _ _ (Wk.refl _) ?_; clear hJ J) | clear hK K | clear hJ J | refine SW.skip ?_ | refine SW.ret ?_ | refine SW.retT ?_ | refine SW.retB ?_ | refine SW.exit ?_ | refine SW.exitT ?_ | refine SW.exitB ?_ | refine XN ?_ | refine SW.block ?_ | refine SW.normB ?_ | refine SW.normT ?_ | refine XT ?_ | refine XF ?_ | refine XC (fun h => ?_) (fun h => ?_) | simp only [go_sem, optI, Option.getD_some, Option.getD_none, Int.reduceToNat, reduceIte, Nat.reduceEqDiff, Nat.reduceAdd, Nat.reduceMul, Nat.reduceSub, Nat.reduceLT, Nat.reduceLeDiff, reduceCtorEq, *] | refine Xs _ (fun h => ?_) (fun h => ?_) | with_reducible refine And.intro ?_ ?_
    all_goals first | (refine Xrs ?_; exact decN_zero) | (exfalso; simp_all; done) | skip
  · have g1 : decide ((n : Int) = 0) = false := by simp; omega
    have g2 : decide ((n : Int) < 0) = false := by simp
    have hn0 := dec_fig n n (Nat.le_refl _) (by omega)
    refine XA good (fn := Tryd.f16) rfl ?_
    simp only [entry, List.getD_cons_zero, List.getD_cons_succ]
    repeat' first | refine SW.step good fun K hK => ?_ | refine X2 good fun K hK => ?_ | refine X3 good fun K hK => ?_ | refine SW.seqK fun J hJ => ?_ | refine SW.last good fun K hK => ?_ | (refine hK _ ?_; clear hK K) | (refine hJ _ _ (Wk.refl _) ?_; clear hJ J) | clear hK K | clear hJ J | refine SW.skip ?_ | refine SW.ret ?_ | refine SW.retT ?_ | refine SW.retB ?_ | refine SW.exit ?_ | refine SW.exitT ?_ | refine SW.exitB ?_ | refine XN ?_ | refine SW.block ?_ | refine SW.normB ?_ | refine SW.normT ?_ | refine XT ?_ | refine XF ?_ | refine XC (fun h => ?_) (fun h => ?_) | simp only [go_sem, optI, Option.getD_some, Option.getD_none, Int.reduceToNat, reduceIte, Nat.reduceEqDiff, Nat.reduceAdd, Nat.reduceMul, Nat.reduceSub, Nat.reduceLT, Nat.reduceLeDiff, reduceCtorEq, *] | refine Xs _ (fun h => ?_) (fun h => ?_) | with_reducible refine And.intro ?_ ?_
    refine SW.loopTo (α := Nat × List UInt8) (fun a => ⟨sl [(0, vI a.1), (3, vB false), (4, vS a.2)], hl []⟩) (fun a => a.1) (n, []) (fun a => a.1 ≤ n ∧ a.2.length + a.1 ≤ n ∧ figD a.1 a.2 = figD n []) ?_ ⟨by simp, by simp, rfl⟩ ?_
    · (refine Xto _ _ ?_ ?_ <;> simp only [go_sem, optI, Option.getD_some, Option.getD_none, Int.reduceToNat, reduceIte, Nat.reduceEqDiff, Nat.reduceAdd, Nat.reduceMul, Nat.reduceSub, Nat.reduceLT, Nat.reduceLeDiff, reduceCtorEq, Option.some.injEq, or_true, true_or] <;> (repeat' with_reducible apply And.intro) <;> (try rfl))
    · rintro ⟨m, acc⟩ ⟨h2, h3, h4⟩
      simp only at h2 h3 h4
      by_cases hz : m = 0
      · subst hz
        rw [figD_zero] at h4
        have e1 : decide (((0 : Nat) : Int) = 0) = true := by simp
        repeat' first | refine SW.step good fun K hK => ?_ | refine X2 good fun K hK => ?_ | refine X3 good fun K hK => ?_ | refine SW.seqK fun J hJ => ?_ | refine SW.last good fun K hK => ?_ | (refine hK _ ?_; clear hK K) | (refine hJ _ _ (Wk.refl _) ?_; clear hJ J) | clear hK K | clear hJ J | refine SW.skip ?_ | refine SW.ret ?_ | refine SW.retT ?_ | refine SW.retB ?_ | refine SW.exit ?_ | refine SW.exitT ?_ | refine SW.exitB ?_ | refine XN ?_ | refine SW.block ?_ | refine SW.normB ?_ | refine SW.normT ?_ | refine XT ?_ | refine XF ?_ | refine XC (fun h => ?_) (fun h => ?_) | simp only [go_sem, optI, Option.getD_some, Option.getD_none, Int.reduceToNat, reduceIte, Nat.reduceEqDiff, Nat.reduceAdd, Nat.reduceMul, Nat.reduceSub, Nat.reduceLT, Nat.reduceLeDiff, reduceCtorEq, *] | refine Xs _ (fun h => ?_) (fun h => ?_) | with_reducible refine And.intro ?_ ?_
        all_goals first | omega | (simp; omega) | skip
        all_goals first | (refine Xrs ?_; first | rfl | rw [hn0, ← h4]) | (exfalso; simp_all; done) | skip
      · have e1 : decide ((m : Int) = 0) = false := by simp; omega
        have e2 : ((m : Int).tmod 10) = ((m % 10 : Nat) : Int) := by rw [Int.tmod_eq_emod_of_nonneg (by omega)]; simp
        have e3 : ((m : Int).tdiv 10) = ((m / 10 : Nat) : Int) := by rw [Int.tdiv_eq_ediv_of_nonneg (by omega)]; simp
        have e5 : decide (((m % 10 : Nat) : Int) < 0) = false := by simp; omega
        have e6 : IntKind.i64.wrap ((m / 10 : Nat) : Int) = ((m / 10 : Nat) : Int) := wrap64 (by omega) (by omega)
        have hf := ac_l01Figure (m % 10) (by omega)
        rw [figD_pos (by omega)] at h4
        clear hn0
        repeat' first | refine SW.step good fun K hK => ?_ | refine X2 good fun K hK => ?_ | refine X3 good fun K hK => ?_ | refine SW.seqK fun J hJ => ?_ | refine SW.last good fun K hK => ?_ | (refine hK _ ?_; clear hK K) | (refine hJ _ _ (Wk.refl _) ?_; clear hJ J) | clear hK K | clear hJ J | refine SW.skip ?_ | refine SW.ret ?_ | refine SW.retT ?_ | refine SW.retB ?_ | refine SW.exit ?_ | refine SW.exitT ?_ | refine SW.exitB ?_ | refine XN ?_ | refine SW.block ?_ | refine SW.normB ?_ | refine SW.normT ?_ | refine XT ?_ | refine XF ?_ | refine XC (fun h => ?_) (fun h => ?_) | refine X0 ?_ | refine Xv ?_ | refine X1 (hf) ?_ | simp only [go_sem, optI, Option.getD_some, Option.getD_none, Int.reduceToNat, reduceIte, Nat.reduceEqDiff, Nat.reduceAdd, Nat.reduceMul, Nat.reduceSub, Nat.reduceLT, Nat.reduceLeDiff, reduceCtorEq, *] | refine Xs _ (fun h => ?_) (fun h => ?_) | with_reducible refine And.intro ?_ ?_
        all_goals first | omega | (simp only [List.length_append, List.length_cons, List.length_nil]; omega) | (exfalso; simp_all; done) | skip
        all_goals refine ⟨(m / 10, UInt8.ofNat (48 + m % 10) :: acc), ⟨by simp only; omega, by simp only [List.length_cons]; omega, h4⟩, by simp only; omega, ?_⟩
        all_goals (refine Xto _ _ ?_ ?_ <;> simp only [go_sem, optI, Option.getD_some, Option.getD_none, Int.reduceToNat, reduceIte, Nat.reduceEqDiff, Nat.reduceAdd, Nat.reduceMul, Nat.reduceSub, Nat.reduceLT, Nat.reduceLeDiff, reduceCtorEq, Option.some.injEq, or_true, true_or] <;> (repeat' with_reducible apply And.intro) <;> (try rfl))
theorem ac_l27Num (n : Int) (h : n ≤ 9223372036854775807) : AC Tryd.prog 17 [vI n] (vS (decI n)) [] := by
  by_cases h0 : n < 0
  · have e1 : decide (n < 0) = true := by simpa using h0
    refine XA good (fn := Tryd.f17) rfl ?_
    simp only [entry, List.getD_cons_zero, List.getD_cons_succ]
    repeat' first | refine SW.step good fun K hK => ?_ | refine X2 good fun K hK => ?_ | refine X3 good fun K hK => ?_ | refine SW.seqK fun J hJ => ?_ | refine SW.last good fun K hK => ?_ | (refine hK _ ?_; clear hK K) | (refine hJ _ _ (Wk.refl _) ?_; clear hJ J) | clear hK K | clear hJ J | refine SW.skip ?_ | refine SW.ret ?_ | refine SW.retT ?_ | refine SW.retB ?_ | refine SW.exit ?_ | refine SW.exitT ?_ | refine SW.exitB ?_ | refine XN ?_ | refine SW.block ?_ | refine SW.normB ?_ | refine SW.normT ?_ | refine XT ?_ | refine XF ?_ | refine XC (fun h => ?_) (fun h => ?_) | simp only [go_sem, optI, Option.getD_some, Option.getD_none, Int.reduceToNat, reduceIte, Nat.reduceEqDiff, Nat.reduceAdd, Nat.reduceMul, Nat.reduceSub, Nat.reduceLT, Nat.reduceLeDiff, reduceCtorEq, *] | refine Xs _ (fun h => ?_) (fun h => ?_) | with_reducible refine And.intro ?_ ?_
    all_goals first | (refine Xrs ?_; unfold decI; rw [show n.toNat = 0 by omega, decN_zero]) | skip
  · obtain ⟨m, rfl⟩ : ∃ m : Nat, n = (m : Int) := ⟨n.toNat, by omega⟩
    have e1 : decide ((m : Int) < 0) = false := by simp
    have hd := ac_Decimal' m (by omega)
    refine XA good (fn := Tryd.f17) rfl ?_
    simp only [entry, List.getD_cons_zero, List.getD_cons_succ]
    repeat' first | refine SW.step good fun K hK => ?_ | refine X2 good fun K hK => ?_ | refine X3 good fun K hK => ?_ | refine SW.seqK fun J hJ => ?_ | refine SW.last good fun K hK => ?_ | (refine hK _ ?_; clear hK K) | (refine hJ _ _ (Wk.refl _) ?_; clear hJ J) | clear hK K | clear hJ J | refine SW.skip ?_ | refine SW.ret ?_ | refine SW.retT ?_ | refine SW.retB ?_ | refine SW.exit ?_ | refine SW.exitT ?_ | refine SW.exitB ?_ | refine XN ?_ | refine SW.block ?_ | refine SW.normB ?_ | refine SW.normT ?_ | refine XT ?_ | refine XF ?_ | refine XC (fun h => ?_) (fun h => ?_) | refine X0 ?_ | refine Xv ?_ | refine X1 (hd) ?_ | simp only [go_sem, optI, Option.getD_some, Option.getD_none, Int.reduceToNat, reduceIte, Nat.reduceEqDiff, Nat.reduceAdd, Nat.reduceMul, Nat.reduceSub, Nat.reduceLT, Nat.reduceLeDiff, reduceCtorEq, *] | refine Xs _ (fun h => ?_) (fun h => ?_) | with_reducible refine And.intro ?_ ?_
    all_goals (refine Xrs ?_; rfl)
end Go.Proofs.YtbpfciidbgkekaaDoor.AB
