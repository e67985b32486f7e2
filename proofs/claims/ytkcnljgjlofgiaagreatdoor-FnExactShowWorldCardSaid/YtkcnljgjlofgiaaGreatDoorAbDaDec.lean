/- Numbers as figures: both functions; strconv.Itoa's contract, laid. -/
import Derived.Shelf.Strconv.Itoa0
import Derived.Shelf.Strconv.Itoa1
import Derived.Shelf.LaysM
import Derived.Shelf.Strconv.Itoa2
import Derived.Shelf.Strconv.Itoa3
import Derived.Test.YtkcnljgjlofgiaaGreatDoorProg
import Derived.Test.YtkcnljgjlofgiaaGreatDoorAbFaVar
namespace Go.Proofs
open Go.Shelf
def Tryz.laysM171_ren : Go.Shelf.Ren := ⟨fun | 171 => 66 | 243 => 85 | 246 => 107 | 283 => 117 | 284 => 118 | 285 => 119 | 286 => 120 | 129 => 106 | 317 => 125 | 318 => 126 | 319 => 127 | 320 => 128 | 337 => 130 | 338 => 131 | n => n, fun | 3 => 3 | 9 => 9 | 2 => 2 | 4 => 4 | 171 => 179 | 0 => 0 | 53 => 168 | 37 => 95 | 5 => 5 | 173 => 181 | 212 => 194 | 51 => 166 | 20 => 20 | 213 => 195 | 46 => 140 | 232 => 197 | 233 => 198 | n => n, fun | 17 => 1 | 18 => 2 | 19 => 3 | n => n⟩
theorem Tryz.laysM171 : Go.Proofs.LaysM.n171 Tryz.prog Tryz.laysM171_ren := {
  mixed := by kernel_rfl
  f129 := Tryz.func106.trans (congrArg some (by kernel_rfl))
  f171 := Tryz.func66.trans (congrArg some (by kernel_rfl))
  f243 := Tryz.func85.trans (congrArg some (by kernel_rfl))
  f246 := Tryz.func107.trans (congrArg some (by kernel_rfl))
  f283 := Tryz.func117.trans (congrArg some (by kernel_rfl))
  f284 := Tryz.func118.trans (congrArg some (by kernel_rfl))
  f285 := Tryz.func119.trans (congrArg some (by kernel_rfl))
  f286 := Tryz.func120.trans (congrArg some (by kernel_rfl))
  f317 := Tryz.func125.trans (congrArg some (by kernel_rfl))
  f318 := Tryz.func126.trans (congrArg some (by kernel_rfl))
  f319 := Tryz.func127.trans (congrArg some (by kernel_rfl))
  f320 := Tryz.func128.trans (congrArg some (by kernel_rfl))
  f337 := Tryz.func130.trans (congrArg some (by kernel_rfl))
  f338 := Tryz.func131.trans (congrArg some (by kernel_rfl))
  t0 := Tryz.underlying0
  a0 := Tryz.isAgg0
  z0 := Tryz.sizeOf0
  v0 := Tryz.zeroValue0
  t2 := Tryz.underlying2
  a2 := Tryz.isAgg2
  z2 := Tryz.sizeOf2
  v2 := Tryz.zeroValue2
  t3 := Tryz.underlying3
  a3 := Tryz.isAgg3
  z3 := Tryz.sizeOf3
  v3 := Tryz.zeroValue3
  t4 := Tryz.underlying4
  a4 := Tryz.isAgg4
  z4 := Tryz.sizeOf4
  v4 := Tryz.zeroValue4
  t5 := Tryz.underlying5
  a5 := Tryz.isAgg5
  z5 := Tryz.sizeOf5
  v5 := Tryz.zeroValue5
  t9 := Tryz.underlying9
  a9 := Tryz.isAgg9
  z9 := Tryz.sizeOf9
  v9 := Tryz.zeroValue9
  t20 := Tryz.underlying20
  a20 := Tryz.isAgg20
  z20 := Tryz.sizeOf20
  v20 := Tryz.zeroValue20
  t37 := Tryz.underlying95
  a37 := Tryz.isAgg95
  z37 := Tryz.sizeOf95
  v37 := Tryz.zeroValue95
  t46 := Tryz.underlying140
  a46 := Tryz.isAgg140
  z46 := Tryz.sizeOf140
  v46 := Tryz.zeroValue140
  t51 := Tryz.underlying166
  a51 := Tryz.isAgg166
  z51 := Tryz.sizeOf166
  v51 := Tryz.zeroValue166
  t53 := Tryz.underlying168
  a53 := Tryz.isAgg168
  z53 := Tryz.sizeOf168
  v53 := Tryz.zeroValue168
  t171 := Tryz.underlying179
  a171 := Tryz.isAgg179
  z171 := Tryz.sizeOf179
  v171 := Tryz.zeroValue179
  t173 := Tryz.underlying181
  a173 := Tryz.isAgg181
  z173 := Tryz.sizeOf181
  v173 := Tryz.zeroValue181
  t212 := Tryz.underlying194
  a212 := Tryz.isAgg194
  z212 := Tryz.sizeOf194
  v212 := Tryz.zeroValue194
  t213 := Tryz.underlying195
  a213 := Tryz.isAgg195
  z213 := Tryz.sizeOf195
  t232 := Tryz.underlying197
  a232 := Tryz.isAgg197
  z232 := Tryz.sizeOf197
  v232 := Tryz.zeroValue197
  t233 := Tryz.underlying198
  a233 := Tryz.isAgg198
  z233 := Tryz.sizeOf198
  v233 := Tryz.zeroValue198
  g17 := by kernel_rfl
  g18 := by kernel_rfl
  g19 := by kernel_rfl
  i0 := by kernel_rfl
  i2 := by kernel_rfl
  i3 := by kernel_rfl
  i4 := by kernel_rfl
  i5 := by kernel_rfl
  i9 := by kernel_rfl
  i20 := by kernel_rfl
  i37 := by kernel_rfl
  i46 := by kernel_rfl
  i51 := by kernel_rfl
  i53 := by kernel_rfl
  i171 := by kernel_rfl
  i173 := by kernel_rfl
  i212 := by kernel_rfl
  i232 := by kernel_rfl
  i233 := by kernel_rfl
  m17 := by kernel_rfl
  m18 := by kernel_rfl
  m19 := by kernel_rfl }
open Go.RowKit Go.Sort Go.Lib in
theorem Tryz.strconv_Itoa (n : Int) (h0 : -9223372036854775808 ≤ n) (h1 : n ≤ 9223372036854775807) (w : World) (htab : Lib.TabIs Tryz.prog w "internal/strconv.uint64pow10" .u64 Lib.pow10Tab) :
    Calls Tryz.prog 66 #[.int .i64 n] w fun e w' => e = .returned (.string ⟨(Lib.itoa n).toArray⟩) ∧ ∃ k os, w' = grow (w.drewN k) os := Any.strconv_Itoa Tryz.laysM171 n h0 h1 w htab
end Go.Proofs
namespace Go.Proofs.YtkcnljgjlofgiaaGreatDoor.AB
open Go
set_option maxRecDepth 100000
set_option linter.unusedSimpArgs false
set_option linter.unusedVariables false
theorem tab_of {Z : Nat → Prop} {w : World} (h : Lay Z w) : Lib.TabIs Tryz.prog w "internal/strconv.uint64pow10" .u64 Lib.pow10Tab := by
  obtain ⟨_, t, fz, h2⟩ := h
  have hg : Tryz.prog.globalNamed "internal/strconv.uint64pow10" = some 1 := by kernel_rfl
  unfold Lib.TabIs World.var?
  simp only [hg, Option.bind_some, h2]
  rfl
theorem ac_Itoa (n : Int) (h0 : -9223372036854775808 ≤ n) (h1 : n ≤ 9223372036854775807) : AC Tryz.prog 66 [vI n] (vS (Lib.itoa n)) [] := by
  refine ⟨by simp, fun w S B ν vs hlt hlay hl hv => .inl ⟨run_enter Tryz.func66 (by decide +kernel) (by kernel_rfl), ?_⟩⟩
  have hsz : vs.size = 1 := hl.symm
  obtain ⟨v0, rfl⟩ : ∃ v0, vs = #[v0] := by
    refine ⟨vs[0], ?_⟩
    apply Array.ext
    · simpa using hsz
    · intro i h1 h2
      have : i = 0 := by omega
      subst this; rfl
  have hv0 := hv 0 _ v0 rfl rfl
  obtain ⟨rfl, _⟩ := hv0.scal_eq
  refine (Tryz.strconv_Itoa n h0 h1 w (tab_of hlay)).mono ?_
  rintro e w' ⟨rfl, k, os, rfl⟩
  have hsz : w.heap.size ≤ (Sort.grow (w.drewN k) os).heap.size := by show _ ≤ (w.heap ++ os).size; simp
  have hbl : ∀ b, b < w.heap.size → (Sort.grow (w.drewN k) os).heap[b]? = w.heap[b]? := fun b hb => by
    show (w.heap ++ os)[b]? = _
    rw [Array.getElem?_append_left hb]
  refine ⟨_, rfl, S, ν, ⟨rfl, rfl, rfl, hsz, fun b h _ => hbl b h⟩, fun b h => h, fun b h => .inl h, ⟨fun i cs hi => ?_, fun i b e sz xs hi => ?_, fun i hi => ?_, fun i j b _ hi => ?_, fun i b hi => ?_, fun b h => Nat.lt_of_lt_of_le (hlt b h) hsz⟩, fun i b hi => ?_, fun b h => .inl h, .c (.v rfl)⟩
  · cases i <;> simp [hrOf] at hi
  · cases i <;> simp [hrOf] at hi
  · cases i <;> simp [hrOf] at hi
  · cases i <;> simp [hrOf] at hi
  · cases i <;> simp [hrOf] at hi
  · cases i <;> simp [hrOf] at hi
/-- the figures of a number -/
def decN (n : Nat) : List UInt8 := Lib.decDigits n
def decI (n : Int) : List UInt8 := decN n.toNat
def figD (n : Nat) (acc : List UInt8) : List UInt8 := if n = 0 then acc else figD (n / 10) (UInt8.ofNat (48 + n % 10) :: acc)
  termination_by n
  decreasing_by omega
theorem figD_zero (acc : List UInt8) : figD 0 acc = acc := by unfold figD; simp
theorem figD_pos {n : Nat} (h : 0 < n) (acc : List UInt8) : figD n acc = figD (n / 10) (UInt8.ofNat (48 + n % 10) :: acc) := by
  conv => lhs; unfold figD
  rw [if_neg (by omega)]
theorem figD_app : ∀ (f n : Nat), n ≤ f → ∀ acc : List UInt8, figD n acc = figD n [] ++ acc
  | 0, n, h, acc => by obtain rfl : n = 0 := by omega
                       simp [figD_zero]
  | f + 1, n, h, acc => by
    by_cases h0 : n = 0
    · subst h0; simp [figD_zero]
    · rw [figD_pos (by omega), figD_app f (n / 10) (by omega), figD_pos (n := n) (by omega) [], figD_app f (n / 10) (by omega) [_]]
      simp
theorem dec_fig : ∀ (f n : Nat), n ≤ f → 0 < n → decN n = figD n []
  | 0, n, h, h0 => by omega
  | f + 1, n, h, h0 => by
    unfold decN
    rw [Lib.decDigits, figD_pos h0]
    by_cases h1 : n < 10
    · rw [dif_pos h1, show n / 10 = 0 by omega, figD_zero, show n % 10 = n by omega]
    · rw [dif_neg h1, figD_app _ (n / 10) (Nat.le_refl _) [_], ← dec_fig f (n / 10) (by omega) (by omega)]; rfl
theorem figD_len : ∀ (f n : Nat) (acc : List UInt8), n < 10 ^ f → (figD n acc).length ≤ acc.length + f
  | 0, n, acc, h => by have : n = 0 := by simpa using h
                       subst this; rw [figD_zero]; omega
  | f + 1, n, acc, h => by
    by_cases h0 : n = 0
    · subst h0; rw [figD_zero]; omega
    · rw [figD_pos (by omega)]
      have := figD_len f (n / 10) (UInt8.ofNat (48 + n % 10) :: acc) (by rw [Nat.pow_succ] at h; omega)
      simp only [List.length_cons] at this; omega
theorem decN_zero : decN 0 = [48] := by unfold decN; rw [Lib.decDigits]; rfl
theorem decN_len {n : Nat} (h : n ≤ 9223372036854775807) : (decN n).length ≤ 20 := by
  by_cases h0 : n = 0
  · subst h0; rw [decN_zero]; simp
  · rw [dec_fig n n (Nat.le_refl _) (by omega)]
    have := figD_len 20 n [] (by omega)
    simpa using this
theorem ac_Decimal (n : Nat) (h : n ≤ 9223372036854775807) : AC Tryz.prog 43 [vI n] (vS (decN n)) [] := by
  have h1 := ac_Itoa n (by omega) (by omega)
  have h2 : Lib.itoa (n : Int) = decN n := by unfold Lib.itoa decN; rw [if_neg (by omega)]; simp
  rw [h2] at h1
  refine XA good (fn := Tryz.f43) rfl ?_
  simp only [entry, List.getD_cons_zero, List.getD_cons_succ]
  repeat' first | refine SW.step good fun K hK => ?_ | refine X2 good fun K hK => ?_ | refine X3 good fun K hK => ?_ | refine SW.seqK fun J hJ => ?_ | refine SW.last good fun K hK => ?_ | (refine hK _ ?_; clear hK K) | (refine hJ _ _ (Wk.refl _) ?_; clear hJ J) | clear hK K | clear hJ J | refine SW.skip ?_ | refine SW.ret ?_ | refine SW.retT ?_ | refine SW.retB ?_ | refine SW.exit ?_ | refine SW.exitT ?_ | refine SW.exitB ?_ | refine XN ?_ | refine SW.block ?_ | refine SW.normB ?_ | refine SW.normT ?_ | refine XT ?_ | refine XF ?_ | refine XC (fun h => ?_) (fun h => ?_) | refine X0 ?_ | refine Xv ?_ | refine X1 (h1) ?_ | simp only [go_sem, optI, Option.getD_some, Option.getD_none, Int.reduceToNat, reduceIte, Nat.reduceEqDiff, Nat.reduceAdd, Nat.reduceMul, Nat.reduceSub, Nat.reduceLT, Nat.reduceLeDiff, reduceCtorEq, *] | refine Xs _ (fun h => ?_) (fun h => ?_) | with_reducible refine And.intro ?_ ?_
  all_goals (refine Xrs ?_; rfl)
theorem ac_figures (n : Int) (h : n ≤ 9223372036854775807) : AC Tryz.prog 44 [vI n] (vS (decI n)) [] := by
  have h1 := ac_Decimal n.toNat (by omega)
  have h2 : (if (0 : Int) < n then n else 0) = ((n.toNat : Nat) : Int) := by split <;> omega
  refine XA good (fn := Tryz.f44) rfl ?_
  simp only [entry, List.getD_cons_zero, List.getD_cons_succ]
  repeat' first | refine SW.step good fun K hK => ?_ | refine X2 good fun K hK => ?_ | refine X3 good fun K hK => ?_ | refine SW.seqK fun J hJ => ?_ | refine SW.last good fun K hK => ?_ | (refine hK _ ?_; clear hK K) | (refine hJ _ _ (Wk.refl _) ?_; clear hJ J) | clear hK K | clear hJ J | refine SW.skip ?_ | refine SW.ret ?_ | refine SW.retT ?_ | refine SW.retB ?_ | refine SW.exit ?_ | refine SW.exitT ?_ | refine SW.exitB ?_ | refine XN ?_ | refine SW.block ?_ | refine SW.normB ?_ | refine SW.normT ?_ | refine XT ?_ | refine XF ?_ | refine XC (fun h => ?_) (fun h => ?_) | refine X0 ?_ | refine Xv ?_ | refine X1 (h1) ?_ | simp only [go_sem, optI, Option.getD_some, Option.getD_none, Int.reduceToNat, reduceIte, Nat.reduceEqDiff, Nat.reduceAdd, Nat.reduceMul, Nat.reduceSub, Nat.reduceLT, Nat.reduceLeDiff, reduceCtorEq, *] | refine Xs _ (fun h => ?_) (fun h => ?_) | with_reducible refine And.intro ?_ ?_
  all_goals first | (refine Xrs ?_; rfl) | skip
theorem ac_l01Figure (x : Nat) (h : x < 10) : AC Tryz.prog 56 [vI x] (.c false (.v (.int .u8 ((48 + x : Nat) : Int)))) [] := by
  have e1 : decide ((x : Int) < 10) = true := by simp; omega
  have e2 : IntKind.u8.wrap (IntKind.i64.wrap (48 + (x : Int))) = ((48 + x : Nat) : Int) := by rw [wrap64 (by omega) (by omega), wrap8 (by omega) (by omega)]; rfl
  refine XA good (fn := Tryz.f56) rfl ?_
  simp only [entry, List.getD_cons_zero, List.getD_cons_succ]
  repeat' first | refine SW.step good fun K hK => ?_ | refine X2 good fun K hK => ?_ | refine X3 good fun K hK => ?_ | refine SW.seqK fun J hJ => ?_ | refine SW.last good fun K hK => ?_ | (refine hK _ ?_; clear hK K) | (refine hJ _ _ (Wk.refl _) ?_; clear hJ J) | clear hK K | clear hJ J | refine SW.skip ?_ | refine SW.ret ?_ | refine SW.retT ?_ | refine SW.retB ?_ | refine SW.exit ?_ | refine SW.exitT ?_ | refine SW.exitB ?_ | refine XN ?_ | refine SW.block ?_ | refine SW.normB ?_ | refine SW.normT ?_ | refine XT ?_ | refine XF ?_ | refine XC (fun h => ?_) (fun h => ?_) | simp only [go_sem, optI, Option.getD_some, Option.getD_none, Int.reduceToNat, reduceIte, Nat.reduceEqDiff, Nat.reduceAdd, Nat.reduceMul, Nat.reduceSub, Nat.reduceLT, Nat.reduceLeDiff, reduceCtorEq, *] | refine Xs _ (fun h => ?_) (fun h => ?_) | with_reducible refine And.intro ?_ ?_
  all_goals refine Xrp ?_
  all_goals simp [resOf, Wn.le, Wn.leL, Wn.cw, C.scal, scal]
theorem ac_Decimal' (n : Nat) (h : n ≤ 9223372036854775807) : AC Tryz.prog 34 [vI n] (vS (decN n)) [] := by
  by_cases h0 : n = 0
  · subst h0
    refine XA good (fn := Tryz.f34) rfl ?_
    simp only [entry, List.getD_cons_zero, List.getD_cons_succ]
    repeat' first | refine SW.step good fun K hK => ?_ | refine X2 good fun K hK => ?_ | refine X3 good fun K hK => ?_ | refine SW.seqK fun J hJ => ?_ | refine SW.last good fun K hK => ?_ | (refine hK _ ?_; clear hK K) | (refine hJ _ _ (Wk.refl _) ?_; clear hJ J) | clear hK K | clear hJ J | refine SW.skip ?_ | refine SW.ret ?_ | refine SW.retT ?_ | refine SW.retB ?_ | refine SW.exit ?_ | refine SW.exitT ?_ | refine SW.exitB ?_ | refine XN ?_ | refine SW.block ?_ | refine SW.normB ?_ | refine SW.normT ?_ | refine XT ?_ | refine XF ?_ | refine XC (fun h => ?_) (fun h => ?_) | simp only [go_sem, optI, Option.getD_some, Option.getD_none, Int.reduceToNat, reduceIte, Nat.reduceEqDiff, Nat.reduceAdd, Nat.reduceMul, Nat.reduceSub, Nat.reduceLT, Nat.reduceLeDiff, reduceCtorEq, *] | refine Xs _ (fun h => ?_) (fun h => ?_) | with_reducible refine And.intro ?_ ?_
    all_goals first | (refine Xrs ?_; exact decN_zero) | (exfalso; simp_all; done) | skip
  · have g1 : decide ((n : Int) = 0) = false := by simp; omega
    have g2 : decide ((n : Int) < 0) = false := by simp
    have hn0 := dec_fig n n (Nat.le_refl _) (by omega)
    refine XA good (fn := Tryz.f34) rfl ?_
    simp only [entry, List.getD_cons_zero, List.getD_cons_succ]
    repeat' first | refine SW.step good fun K hK => ?_ | refine X2 good fun K hK => ?_ | refine X3 good fun K hK => ?_ | refine SW.seqK fun J hJ => ?_ | refine SW.last good fun K hK => ?_ | (refine hK _ ?_; clear hK K) | (refine hJ _ _ (Wk.refl _) ?_; clear hJ J) | clear hK K | clear hJ J | refine SW.skip ?_ | refine SW.ret ?_ | refine SW.retT ?_ | refine SW.retB ?_ | refine SW.exit ?_ | refine SW.exitT ?_ | refine SW.exitB ?_ | refine XN ?_ | refine SW.block ?_ | refine SW.normB ?_ | refine SW.normT ?_ | refine XT ?_ | refine XF ?_ | refine XC (fun h => ?_) (fun h => ?_) | simp only [go_sem, optI, Option.getD_some, Option.getD_none, Int.reduceToNat, reduceIte, Nat.reduceEqDiff, Nat.reduceAdd, Nat.reduceMul, Nat.reduceSub, Nat.reduceLT, Nat.reduceLeDiff, reduceCtorEq, *] | refine Xs _ (fun h => ?_) (fun h => ?_) | with_reducible refine And.intro ?_ ?_
    refine SW.loopTo (α := Nat × List UInt8) (fun a => ⟨sl [(0, vI a.1), (3, vB false), (4, vS a.2)], hl []⟩) (fun a => a.1) (n, []) (fun a => a.1 ≤ n ∧ a.2.length + a.1 ≤ n ∧ figD a.1 a.2 = figD n []) ?_ ⟨by simp, by simp, rfl⟩ ?_
    · (refine Xto _ _ ?_ ?_ <;> simp only [go_sem, optI, Option.getD_some, Option.getD_none, Int.reduceToNat, reduceIte, Nat.reduceEqDiff, Nat.reduceAdd, Nat.reduceMul, Nat.reduceSub, Nat.reduceLT, Nat.reduceLeDiff, reduceCtorEq, Option.some.injEq, or_true, true_or] <;> (repeat' with_reducible apply And.intro) <;> (try rfl))
    · rintro ⟨m, acc⟩ ⟨h2, h3, h4⟩
      simp only at h2 h3 h4
      by_cases hz : m = 0
      · subst hz
        rw [figD_zero] at h4
        have e1 : decide (((0 : Nat) : Int) = 0) = true := by simp
        repeat' first | refine SW.step good fun K hK => ?_ | refine X2 good fun K hK => ?_ | refine X3 good fun K hK => ?_ | refine SW.seqK fun J hJ => ?_ | refine SW.last good fun K hK => ?_ | (refine hK _ ?_; clear hK K) | (refine hJ _ _ (Wk.refl _) ?_; clear hJ J) | clear hK K | clear hJ J | refine SW.skip ?_ | refine SW.ret ?_ | refine SW.retT ?_ | refine SW.retB ?_ | refine SW.exit ?_ | refine SW.exitT ?_ | refine SW.exitB ?_ | refine XN ?_ | refine SW.block ?_ | refine SW.normB ?_ | refine SW.normT ?_ | refine XT ?_ | refine XF ?_ | refine XC (fun h => ?_) (fun h => ?_) | simp only [go_sem, optI, Option.getD_some, Option.getD_none, Int.reduceToNat, reduceIte, Nat.reduceEqDiff, Nat.reduceAdd, Nat.reduceMul, Nat.reduceSub, Nat.reduceLT, Nat.reduceLeDiff, reduceCtorEq, *] | refine Xs _ (fun h => ?_) (fun h => ?_) | with_reducible refine And.intro ?_ ?_
        all_goals first | omega | (simp; omega) | skip
        all_goals first | (refine Xrs ?_; first | rfl | rw [hn0, ← h4]) | (exfalso; simp_all; done) | skip
      · have e1 : decide ((m : Int) = 0) = false := by simp; omega
        have e2 : ((m : Int).tmod 10) = ((m % 10 : Nat) : Int) := by rw [Int.tmod_eq_emod_of_nonneg (by omega)]; simp
        have e3 : ((m : Int).tdiv 10) = ((m / 10 : Nat) : Int) := by rw [Int.tdiv_eq_ediv_of_nonneg (by omega)]; simp
        have e5 : decide (((m % 10 : Nat) : Int) < 0) = false := by simp; omega
        have e6 : IntKind.i64.wrap ((m / 10 : Nat) : Int) = ((m / 10 : Nat) : Int) := wrap64 (by omega) (by omega)
        have hf := ac_l01Figure (m % 10) (by omega)
        rw [figD_pos (by omega)] at h4
        clear hn0
        repeat' first | refine SW.step good fun K hK => ?_ | refine X2 good fun K hK => ?_ | refine X3 good fun K hK => ?_ | refine SW.seqK fun J hJ => ?_ | refine SW.last good fun K hK => ?_ | (refine hK _ ?_; clear hK K) | (refine hJ _ _ (Wk.refl _) ?_; clear hJ J) | clear hK K | clear hJ J | refine SW.skip ?_ | refine SW.ret ?_ | refine SW.retT ?_ | refine SW.retB ?_ | refine SW.exit ?_ | refine SW.exitT ?_ | refine SW.exitB ?_ | refine XN ?_ | refine SW.block ?_ | refine SW.normB ?_ | refine SW.normT ?_ | refine XT ?_ | refine XF ?_ | refine XC (fun h => ?_) (fun h => ?_) | refine X0 ?_ | refine Xv ?_ | refine X1 (hf) ?_ | simp only [go_sem, optI, Option.getD_some, Option.getD_none, Int.reduceToNat, reduceIte, Nat.reduceEqDiff, Nat.reduceAdd, Nat.reduceMul, Nat.reduceSub, Nat.reduceLT, Nat.reduceLeDiff, reduceCtorEq, *] | refine Xs _ (fun h => ?_) (fun h => ?_) | with_reducible refine And.intro ?_ ?_
        all_goals first | omega | (simp only [List.length_append, List.length_cons, List.length_nil]; omega) | (exfalso; simp_all; done) | skip
        all_goals refine ⟨(m / 10, UInt8.ofNat (48 + m % 10) :: acc), ⟨by simp only; omega, by simp only [List.length_cons]; omega, h4⟩, by simp only; omega, ?_⟩
        all_goals (refine Xto _ _ ?_ ?_ <;> simp only [go_sem, optI, Option.getD_some, Option.getD_none, Int.reduceToNat, reduceIte, Nat.reduceEqDiff, Nat.reduceAdd, Nat.reduceMul, Nat.reduceSub, Nat.reduceLT, Nat.reduceLeDiff, reduceCtorEq, Option.some.injEq, or_true, true_or] <;> (repeat' with_reducible apply And.intro) <;> (try rfl))
theorem ac_l27Num (n : Int) (h : n ≤ 9223372036854775807) : AC Tryz.prog 33 [vI n] (vS (decI n)) [] := by
  by_cases h0 : n < 0
  · have e1 : decide (n < 0) = true := by simpa using h0
    refine XA good (fn := Tryz.f33) rfl ?_
    simp only [entry, List.getD_cons_zero, List.getD_cons_succ]
    repeat' first | refine SW.step good fun K hK => ?_ | refine X2 good fun K hK => ?_ | refine X3 good fun K hK => ?_ | refine SW.seqK fun J hJ => ?_ | refine SW.last good fun K hK => ?_ | (refine hK _ ?_; clear hK K) | (refine hJ _ _ (Wk.refl _) ?_; clear hJ J) | clear hK K | clear hJ J | refine SW.skip ?_ | refine SW.ret ?_ | refine SW.retT ?_ | refine SW.retB ?_ | refine SW.exit ?_ | refine SW.exitT ?_ | refine SW.exitB ?_ | refine XN ?_ | refine SW.block ?_ | refine SW.normB ?_ | refine SW.normT ?_ | refine XT ?_ | refine XF ?_ | refine XC (fun h => ?_) (fun h => ?_) | simp only [go_sem, optI, Option.getD_some, Option.getD_none, Int.reduceToNat, reduceIte, Nat.reduceEqDiff, Nat.reduceAdd, Nat.reduceMul, Nat.reduceSub, Nat.reduceLT, Nat.reduceLeDiff, reduceCtorEq, *] | refine Xs _ (fun h => ?_) (fun h => ?_) | with_reducible refine And.intro ?_ ?_
    all_goals first | (refine Xrs ?_; unfold decI; rw [show n.toNat = 0 by omega, decN_zero]) | skip
  · obtain ⟨m, rfl⟩ : ∃ m : Nat, n = (m : Int) := ⟨n.toNat, by omega⟩
    have e1 : decide ((m : Int) < 0) = false := by simp
    have hd := ac_Decimal' m (by omega)
    refine XA good (fn := Tryz.f33) rfl ?_
    simp only [entry, List.getD_cons_zero, List.getD_cons_succ]
    repeat' first | refine SW.step good fun K hK => ?_ | refine X2 good fun K hK => ?_ | refine X3 good fun K hK => ?_ | refine SW.seqK fun J hJ => ?_ | refine SW.last good fun K hK => ?_ | (refine hK _ ?_; clear hK K) | (refine hJ _ _ (Wk.refl _) ?_; clear hJ J) | clear hK K | clear hJ J | refine SW.skip ?_ | refine SW.ret ?_ | refine SW.retT ?_ | refine SW.retB ?_ | refine SW.exit ?_ | refine SW.exitT ?_ | refine SW.exitB ?_ | refine XN ?_ | refine SW.block ?_ | refine SW.normB ?_ | refine SW.normT ?_ | refine XT ?_ | refine XF ?_ | refine XC (fun h => ?_) (fun h => ?_) | refine X0 ?_ | refine Xv ?_ | refine X1 (hd) ?_ | simp only [go_sem, optI, Option.getD_some, Option.getD_none, Int.reduceToNat, reduceIte, Nat.reduceEqDiff, Nat.reduceAdd, Nat.reduceMul, Nat.reduceSub, Nat.reduceLT, Nat.reduceLeDiff, reduceCtorEq, *] | refine Xs _ (fun h => ?_) (fun h => ?_) | with_reducible refine And.intro ?_ ?_
    all_goals (refine Xrs ?_; rfl)
end Go.Proofs.YtkcnljgjlofgiaaGreatDoor.AB
