/- The digest of a text: both functions. -/
import Derived.Test.YtoemclhjcbcjaaaGreatAbShelfR
namespace Go.Proofs.YtoemclhjcbcjaaaGreat.AB
open Go
set_option maxRecDepth 100000
set_option linter.unusedSimpArgs false
set_option linter.unusedVariables false
theorem rep_zero : ∀ c, Lib.repeatL [0] c = List.replicate c 0
  | 0 => rfl
  | c + 1 => by rw [Lib.repeatL, rep_zero c]; rfl
theorem ac_Repeat0 (c : Nat) (hc : c ≤ 64) : AC Tryz.prog 75 [vS [0], vI c] (vS (List.replicate c 0)) [] := by
  refine ⟨by simp, fun w S B ν vs hlt _ hl hv => .inl ⟨run_enter Tryz.func75 (by decide +kernel) (by kernel_rfl), ?_⟩⟩
  have hsz : vs.size = 2 := hl.symm
  obtain ⟨v0, v1, rfl⟩ : ∃ v0 v1, vs = #[v0, v1] := by
    refine ⟨vs[0], vs[1], ?_⟩
    apply Array.ext
    · simpa using hsz
    · intro i h1 h2
      have : i = 0 ∨ i = 1 := by omega
      rcases this with rfl | rfl <;> rfl
  have h0 := hv 0 _ v0 rfl rfl
  have h1 := hv 1 _ v1 rfl rfl
  obtain ⟨rfl, _⟩ := h0.scal_eq
  obtain ⟨rfl, _⟩ := h1.scal_eq
  refine (Tryz.strings_Repeat ⟨[0].toArray⟩ c w (by omega) (by show 1 * c ≤ _; omega)).mono ?_
  rintro e w' ⟨rfl, hb⟩
  refine ⟨_, rfl, S, ν, ⟨hb.os, hb.tape, hb.output, hb.size, fun b h _ => hb.block b h⟩, fun b h => h, fun b h => .inl h, ⟨fun i cs hi => ?_, fun i b e sz xs hi => ?_, fun i hi => ?_, fun i j b _ hi => ?_, fun i b hi => ?_, fun b h => Nat.lt_of_lt_of_le (hlt b h) hb.size⟩, fun i b hi => ?_, fun b h => .inl h, ?_⟩
  · cases i <;> simp [hrOf] at hi
  · cases i <;> simp [hrOf] at hi
  · cases i <;> simp [hrOf] at hi
  · cases i <;> simp [hrOf] at hi
  · cases i <;> simp [hrOf] at hi
  · cases i <;> simp [hrOf] at hi
  · rw [show (⟨[0].toArray⟩ : ByteArray).data.toList = [0] from rfl, rep_zero]
    exact .c (.v rfl)
/-- how many bytes are missing -/
def miss (n : Nat) : Nat := (120 - (n + 1) % 64) % 64
def lb (m : Nat) : List UInt8 := [UInt8.ofNat (m / 256 ^ 7 % 256), UInt8.ofNat (m / 256 ^ 6 % 256), UInt8.ofNat (m / 256 ^ 5 % 256), UInt8.ofNat (m / 256 ^ 4 % 256), UInt8.ofNat (m / 256 ^ 3 % 256), UInt8.ofNat (m / 256 ^ 2 % 256), UInt8.ofNat (m / 256 ^ 1 % 256), UInt8.ofNat (m / 256 ^ 0 % 256)]
def eb (m j : Nat) : List UInt8 := List.replicate (8 - j) 0 ++ (lb m).drop (8 - j)
theorem eb_cases {j : Nat} (h : j < 8) : j = 0 ∨ j = 1 ∨ j = 2 ∨ j = 3 ∨ j = 4 ∨ j = 5 ∨ j = 6 ∨ j = 7 := by omega
theorem eb_set {m j : Nat} (h : j < 8) : (bytesC (eb m j)).set (7 - j) [.v (.int .u8 ((m / 256 ^ j % 256 : Nat) : Int))] = bytesC (eb m (j + 1)) := by
  rcases eb_cases h with rfl | rfl | rfl | rfl | rfl | rfl | rfl | rfl <;> simp [eb, lb, bytesC, List.replicate]
theorem eb_get {m j : Nat} (h : j < 8) : (bytesC (eb m j)).getD (7 - j) [] = [.v (.int .u8 0)] := by
  rcases eb_cases h with rfl | rfl | rfl | rfl | rfl | rfl | rfl | rfl <;> rfl
theorem eb_len {m j : Nat} (h : j ≤ 8) : (bytesC (eb m j)).length = 8 := by simp [eb, lb, bytesC]
theorem eb_all (m : Nat) : eb m 8 = lb m := rfl
def padT (t : List UInt8) : List UInt8 := t ++ [128] ++ List.replicate (miss t.length) 0 ++ lb (8 * t.length)
set_option maxHeartbeats 2000000 in
theorem ac_PadText (t : List UInt8) (ht : t.length ≤ 1048576) : AC Tryz.prog 60 [vS t] (vS (padT t)) [] := by
  have f1 : (((t ++ [128]).length : Nat) : Int).tmod 64 = (((t.length + 1) % 64 : Nat) : Int) := by rw [Int.tmod_eq_emod_of_nonneg (by omega)]; simp
  have f2 : IntKind.i64.wrap (56 - (((t.length + 1) % 64 : Nat) : Int)) = 56 - (((t.length + 1) % 64 : Nat) : Int) := wrap64 (by omega) (by omega)
  have f3 : IntKind.i64.wrap (56 - (((t.length + 1) % 64 : Nat) : Int) + 64) = 56 - (((t.length + 1) % 64 : Nat) : Int) + 64 := wrap64 (by omega) (by omega)
  have f4 : (56 - (((t.length + 1) % 64 : Nat) : Int) + 64).tmod 64 = ((miss t.length : Nat) : Int) := by rw [Int.tmod_eq_emod_of_nonneg (by omega)]; unfold miss; omega
  have hm : miss t.length ≤ 64 := by unfold miss; omega
  have hr := ac_Repeat0 _ hm
  have f5 : IntKind.i64.wrap (8 * (t.length : Int)) = ((8 * t.length : Nat) : Int) := by rw [wrap64 (by omega) (by omega)]; simp
  refine XA good (fn := Tryz.f60) rfl ?_
  simp only [entry, List.getD_cons_zero, List.getD_cons_succ]
  repeat' first | refine SW.step good fun K hK => ?_ | refine X2 good fun K hK => ?_ | refine X3 good fun K hK => ?_ | refine SW.seqK fun J hJ => ?_ | refine SW.last good fun K hK => ?_ | (refine hK _ ?_; clear hK K) | (refine hJ _ _ (Wk.refl _) ?_; clear hJ J) | clear hK K | clear hJ J | refine SW.skip ?_ | refine SW.ret ?_ | refine SW.retT ?_ | refine SW.retB ?_ | refine SW.exit ?_ | refine SW.exitT ?_ | refine SW.exitB ?_ | refine XN ?_ | refine SW.block ?_ | refine SW.normB ?_ | refine SW.normT ?_ | refine XT ?_ | refine XF ?_ | refine XC (fun h => ?_) (fun h => ?_) | refine X0 ?_ | refine Xv ?_ | refine X1 (hr) ?_ | simp only [go_sem, optI, Option.getD_some, Option.getD_none, Int.reduceToNat, reduceIte, Nat.reduceEqDiff, Nat.reduceAdd, Nat.reduceMul, Nat.reduceSub, Nat.reduceLT, Nat.reduceLeDiff, reduceCtorEq, *] | refine Xs _ (fun h => ?_) (fun h => ?_) | with_reducible refine And.intro ?_ ?_
  all_goals first | omega | (simp; omega) | skip
  · rfl
  clear f1 f2 f3 f4 f5 hr
  generalize hM : 8 * t.length = m at *
  have hm2 : m ≤ 8388608 := by omega
  refine SW.loopTo (α := Nat) (fun j => ⟨sl [(3, vS (t ++ [128] ++ List.replicate (miss t.length) 0)), (5, vI ((m / 256 ^ j : Nat) : Int)), (6, .own (.s 23 0)), (7, vI (7 - (j : Int)))], hl [(.s 23 0, .row false 5 1 (bytesC (eb m j)))]⟩) (fun j => 8 - j) 0 (fun j => j ≤ 8) ?_ (by simp) ?_
  · (refine Xto _ _ ?_ ?_ <;> simp only [go_sem, optI, Option.getD_some, Option.getD_none, Int.reduceToNat, reduceIte, Nat.reduceEqDiff, Nat.reduceAdd, Nat.reduceMul, Nat.reduceSub, Nat.reduceLT, Nat.reduceLeDiff, reduceCtorEq, Option.some.injEq, or_true, true_or] <;> (repeat' with_reducible apply And.intro) <;> (try rfl))
    all_goals first | rfl | (simp; done) | skip
  · intro j h2
    by_cases hj : j < 8
    · have e1 : decide ((0 : Int) ≤ 7 - (j : Int)) = true := by simp; omega
      have e2 : (7 - (j : Int)).toNat = 7 - j := by omega
      have e3 := eb_get (m := m) hj
      have e4 := eb_set (m := m) hj
      have e5 := eb_len (m := m) (j := j) (by omega)
      have hle : m / 256 ^ j ≤ m := Nat.div_le_self ..
      have e6 : IntKind.u8.wrap ((m / 256 ^ j : Nat) : Int) = ((m / 256 ^ j % 256 : Nat) : Int) := by
        generalize m / 256 ^ j = q
        simp only [IntKind.wrap, IntKind.bits, IntKind.signed]
        simp
      have e7 : shrK .i64 ((m / 256 ^ j : Nat) : Int) 8 = ((m / 256 ^ (j + 1) : Nat) : Int) := by
        rw [Nat.pow_succ, ← Nat.div_div_eq_div_mul]
        generalize m / 256 ^ j = q
        simp only [shrK, IntKind.bits]
        rw [Int.fdiv_eq_ediv_of_nonneg _ (by decide)]
        simp
      have e8 : IntKind.i64.wrap (7 - (j : Int) - 1) = 7 - ((j + 1 : Nat) : Int) := by rw [wrap64 (by omega) (by omega)]; omega
      clear hM ht hm
      repeat' first | refine SW.step good fun K hK => ?_ | refine X2 good fun K hK => ?_ | refine X3 good fun K hK => ?_ | refine SW.seqK fun J hJ => ?_ | refine SW.last good fun K hK => ?_ | (refine hK _ ?_; clear hK K) | (refine hJ _ _ (Wk.refl _) ?_; clear hJ J) | clear hK K | clear hJ J | refine SW.skip ?_ | refine SW.ret ?_ | refine SW.retT ?_ | refine SW.retB ?_ | refine SW.exit ?_ | refine SW.exitT ?_ | refine SW.exitB ?_ | refine XN ?_ | refine SW.block ?_ | refine SW.normB ?_ | refine SW.normT ?_ | refine XT ?_ | refine XF ?_ | refine XC (fun h => ?_) (fun h => ?_) | simp only [go_sem, optI, Option.getD_some, Option.getD_none, Int.reduceToNat, reduceIte, Nat.reduceEqDiff, Nat.reduceAdd, Nat.reduceMul, Nat.reduceSub, Nat.reduceLT, Nat.reduceLeDiff, reduceCtorEq, *] | refine Xs _ (fun h => ?_) (fun h => ?_) | with_reducible refine And.intro ?_ ?_
      clear e3 e4 e6 e7 e8
      all_goals first | omega | (simp; omega) | skip
      all_goals refine ⟨j + 1, by omega, by omega, ?_⟩
      all_goals (refine Xto _ _ ?_ ?_ <;> simp only [go_sem, optI, Option.getD_some, Option.getD_none, Int.reduceToNat, reduceIte, Nat.reduceEqDiff, Nat.reduceAdd, Nat.reduceMul, Nat.reduceSub, Nat.reduceLT, Nat.reduceLeDiff, reduceCtorEq, Option.some.injEq, or_true, true_or] <;> (repeat' with_reducible apply And.intro) <;> (try rfl))
      all_goals trace_state
    · have hj : j = 8 := by omega
      subst hj
      have e1 : decide ((0 : Int) ≤ 7 - ((8 : Nat) : Int)) = false := rfl
      have e9 : ∀ n : Nat, n ≤ 2097152 → n ≤ 9223372036854775807 := fun n h => by omega
      rw [eb_all]
      repeat' first | refine SW.step good fun K hK => ?_ | refine X2 good fun K hK => ?_ | refine X3 good fun K hK => ?_ | refine SW.seqK fun J hJ => ?_ | refine SW.last good fun K hK => ?_ | (refine hK _ ?_; clear hK K) | (refine hJ _ _ (Wk.refl _) ?_; clear hJ J) | clear hK K | clear hJ J | refine SW.skip ?_ | refine SW.ret ?_ | refine SW.retT ?_ | refine SW.retB ?_ | refine SW.exit ?_ | refine SW.exitT ?_ | refine SW.exitB ?_ | refine XN ?_ | refine SW.block ?_ | refine SW.normB ?_ | refine SW.normT ?_ | refine XT ?_ | refine XF ?_ | refine XC (fun h => ?_) (fun h => ?_) | simp only [go_sem, optI, Option.getD_some, Option.getD_none, Int.reduceToNat, reduceIte, Nat.reduceEqDiff, Nat.reduceAdd, Nat.reduceMul, Nat.reduceSub, Nat.reduceLT, Nat.reduceLeDiff, reduceCtorEq, *] | refine Xs _ (fun h => ?_) (fun h => ?_) | with_reducible refine And.intro ?_ ?_
      all_goals first | (refine Xrs ?_; unfold padT; rw [hM]; done) | (simp [lb]; omega) | skip
      all_goals trace_state
theorem bytesC_snoc' (l : List UInt8) {k : Nat} (h : k ≤ 255) : bytesC (l ++ [UInt8.ofNat k]) = bytesC l ++ [[.v (.int .u8 (k : Int))]] := by
  simp [bytesC, UInt8.toNat_ofNat']; omega
theorem bytesC_zero (l : List UInt8) : bytesC (l ++ [0]) = bytesC l ++ [[.v (.int .u8 0)]] := by simp [bytesC]
def pb (t : List UInt8) (j : Nat) : List UInt8 := t ++ [128] ++ List.replicate j 0
theorem pb_next (t : List UInt8) (j : Nat) : pb t (j + 1) = pb t j ++ [0] := by simp [pb, List.replicate_succ']
theorem pb_len (t : List UInt8) (j : Nat) : (bytesC (pb t j)).length = t.length + 1 + j := by simp [bytesC, pb]; omega
theorem lb_next {m j : Nat} (h : j < 8) : (lb m).take (j + 1) = (lb m).take j ++ [UInt8.ofNat (m / 256 ^ (7 - j) % 256)] := by
  rcases eb_cases h with rfl | rfl | rfl | rfl | rfl | rfl | rfl | rfl <;> rfl
theorem u64_small {n : Int} (h0 : 0 ≤ n) (h1 : n ≤ 1000) : IntKind.u64.wrap n = n := by
  simp only [IntKind.wrap, IntKind.bits, IntKind.signed]
  simp
  omega
theorem shr_256 (m i : Nat) (h : i ≤ 7) : shrK .i64 (m : Int) ((8 * i : Nat) : Int) = ((m / 256 ^ i : Nat) : Int) := by
  simp only [shrK, IntKind.bits, Int.toNat_natCast]
  rw [Nat.min_eq_left (by omega), Int.fdiv_eq_ediv_of_nonneg _ (by exact Int.le_of_lt (Int.pow_pos (by decide))), show (256 : Nat) ^ i = 2 ^ (8 * i) by rw [show (256 : Nat) = 2 ^ 8 from rfl, ← Nat.pow_mul]]
  simp
set_option maxHeartbeats 2000000 in
theorem ac_PadText' (t : List UInt8) (ht : t.length ≤ 1048576) : AC Tryz.prog 64 [vS t] (vS (padT t)) [] := by
  have f5 : IntKind.i64.wrap (8 * (t.length : Int)) = ((8 * t.length : Nat) : Int) := by rw [wrap64 (by omega) (by omega)]; simp
  have hm : miss t.length ≤ 64 := by unfold miss; omega
  refine XA good (fn := Tryz.f64) rfl ?_
  simp only [entry, List.getD_cons_zero, List.getD_cons_succ]
  repeat' first | refine SW.step good fun K hK => ?_ | refine X2 good fun K hK => ?_ | refine X3 good fun K hK => ?_ | refine SW.seqK fun J hJ => ?_ | refine SW.last good fun K hK => ?_ | (refine hK _ ?_; clear hK K) | (refine hJ _ _ (Wk.refl _) ?_; clear hJ J) | clear hK K | clear hJ J | refine SW.skip ?_ | refine SW.ret ?_ | refine SW.retT ?_ | refine SW.retB ?_ | refine SW.exit ?_ | refine SW.exitT ?_ | refine SW.exitB ?_ | refine XN ?_ | refine SW.block ?_ | refine SW.normB ?_ | refine SW.normT ?_ | refine XT ?_ | refine XF ?_ | refine XC (fun h => ?_) (fun h => ?_) | simp only [go_sem, optI, Option.getD_some, Option.getD_none, Int.reduceToNat, reduceIte, Nat.reduceEqDiff, Nat.reduceAdd, Nat.reduceMul, Nat.reduceSub, Nat.reduceLT, Nat.reduceLeDiff, reduceCtorEq, *] | refine Xs _ (fun h => ?_) (fun h => ?_) | with_reducible refine And.intro ?_ ?_
  all_goals first | omega | (simp only [sb_mk]; omega) | (intro r hr; subst hr; rfl) | (intro r hr; simp at hr; subst hr; rfl) | (simp [bytesC]; omega) | (simp; done) | omega | rfl | (simp [bytesC]; omega) | skip
  refine SW.loopTo (α := Nat) (fun j => ⟨sl [(0, vS t), (3, .own (.s 7 0))], hl [(.s 7 0, .row false 5 1 (bytesC (pb t j)))]⟩) (fun j => miss t.length - j) 0 (fun j => j ≤ miss t.length) ?_ (by simp) ?_
  · (refine Xto _ _ ?_ ?_ <;> simp only [go_sem, optI, Option.getD_some, Option.getD_none, Int.reduceToNat, reduceIte, Nat.reduceEqDiff, Nat.reduceAdd, Nat.reduceMul, Nat.reduceSub, Nat.reduceLT, Nat.reduceLeDiff, reduceCtorEq, Option.some.injEq, or_true, true_or] <;> (repeat' with_reducible apply And.intro) <;> (try rfl))
    all_goals first | (simp [pb, bytesC]; done) | skip
  · intro j h2
    have hl := pb_len t j
    have e0 : ((t.length + 1 + j : Nat) : Int).tmod 64 = (((t.length + 1 + j) % 64 : Nat) : Int) := by rw [Int.tmod_eq_emod_of_nonneg (by omega)]; simp
    by_cases hj : j < miss t.length
    · have e1 : decide ((((t.length + 1 + j) % 64 : Nat) : Int) = 56) = false := by
        unfold miss at hj
        simp only [decide_eq_false_iff_not]; omega
      have hn := pb_next t j
      clear f5
      repeat' first | refine SW.step good fun K hK => ?_ | refine X2 good fun K hK => ?_ | refine X3 good fun K hK => ?_ | refine SW.seqK fun J hJ => ?_ | refine SW.last good fun K hK => ?_ | (refine hK _ ?_; clear hK K) | (refine hJ _ _ (Wk.refl _) ?_; clear hJ J) | clear hK K | clear hJ J | refine SW.skip ?_ | refine SW.ret ?_ | refine SW.retT ?_ | refine SW.retB ?_ | refine SW.exit ?_ | refine SW.exitT ?_ | refine SW.exitB ?_ | refine XN ?_ | refine SW.block ?_ | refine SW.normB ?_ | refine SW.normT ?_ | refine XT ?_ | refine XF ?_ | refine XC (fun h => ?_) (fun h => ?_) | simp only [go_sem, optI, Option.getD_some, Option.getD_none, Int.reduceToNat, reduceIte, Nat.reduceEqDiff, Nat.reduceAdd, Nat.reduceMul, Nat.reduceSub, Nat.reduceLT, Nat.reduceLeDiff, reduceCtorEq, *] | refine Xs _ (fun h => ?_) (fun h => ?_) | with_reducible refine And.intro ?_ ?_
      all_goals first | omega | (intro r hr; subst hr; rfl) | (intro r hr; simp at hr; subst hr; rfl) | (simp [bytesC]; omega) | (simp; done) | omega | rfl | skip
      all_goals refine ⟨j + 1, by omega, by omega, ?_⟩
      all_goals (refine Xto _ _ ?_ ?_ <;> simp only [go_sem, optI, Option.getD_some, Option.getD_none, Int.reduceToNat, reduceIte, Nat.reduceEqDiff, Nat.reduceAdd, Nat.reduceMul, Nat.reduceSub, Nat.reduceLT, Nat.reduceLeDiff, reduceCtorEq, Option.some.injEq, or_true, true_or] <;> (repeat' with_reducible apply And.intro) <;> (try rfl))
      all_goals first | (rw [hn, bytesC_zero]; done) | skip
      all_goals trace_state
    · have hj : j = miss t.length := by omega
      have e1 : decide ((((t.length + 1 + j) % 64 : Nat) : Int) = 56) = true := by
        rw [hj]
        unfold miss
        simp only [decide_eq_true_eq]; omega
      subst hj
      repeat' first | refine SW.step good fun K hK => ?_ | refine X2 good fun K hK => ?_ | refine X3 good fun K hK => ?_ | refine SW.seqK fun J hJ => ?_ | refine SW.last good fun K hK => ?_ | (refine hK _ ?_; clear hK K) | (refine hJ _ _ (Wk.refl _) ?_; clear hJ J) | clear hK K | clear hJ J | refine SW.skip ?_ | refine SW.ret ?_ | refine SW.retT ?_ | refine SW.retB ?_ | refine SW.exit ?_ | refine SW.exitT ?_ | refine SW.exitB ?_ | refine XN ?_ | refine SW.block ?_ | refine SW.normB ?_ | refine SW.normT ?_ | refine XT ?_ | refine XF ?_ | refine XC (fun h => ?_) (fun h => ?_) | simp only [go_sem, optI, Option.getD_some, Option.getD_none, Int.reduceToNat, reduceIte, Nat.reduceEqDiff, Nat.reduceAdd, Nat.reduceMul, Nat.reduceSub, Nat.reduceLT, Nat.reduceLeDiff, reduceCtorEq, *] | refine Xs _ (fun h => ?_) (fun h => ?_) | with_reducible refine And.intro ?_ ?_
      all_goals first | omega | skip
      clear e0 e1 h2 hl
      have hpl := pb_len t (miss t.length)
      refine SW.loopTo (α := Nat) (fun j => ⟨sl [(3, .own (.s 7 0)), (4, vI ((8 * t.length : Nat) : Int)), (5, vI (7 - (j : Int)))], hl [(.s 7 0, .row false 5 1 (bytesC (pb t (miss t.length) ++ (lb (8 * t.length)).take j)))]⟩) (fun j => 8 - j) 0 (fun j => j ≤ 8) ?_ (by simp) ?_
      · (refine Xto _ _ ?_ ?_ <;> simp only [go_sem, optI, Option.getD_some, Option.getD_none, Int.reduceToNat, reduceIte, Nat.reduceEqDiff, Nat.reduceAdd, Nat.reduceMul, Nat.reduceSub, Nat.reduceLT, Nat.reduceLeDiff, reduceCtorEq, Option.some.injEq, or_true, true_or] <;> (repeat' with_reducible apply And.intro) <;> (try rfl))
        all_goals first | (simp; done) | skip
      · intro j h2
        have hml : (bytesC (pb t (miss t.length) ++ (lb (8 * t.length)).take j)).length ≤ 2097152 := by
          simp only [bytesC, List.length_map] at hpl ⊢
          rw [List.length_append, hpl, List.length_take]; simp [lb]; omega
        by_cases hj : j < 8
        · have e1 : decide ((0 : Int) ≤ 7 - (j : Int)) = true := by simp; omega
          have e2 : IntKind.u64.wrap (7 - (j : Int)) = 7 - (j : Int) := u64_small (by omega) (by omega)
          have e3 : IntKind.u64.wrap (8 * (7 - (j : Int))) = ((8 * (7 - j) : Nat) : Int) := by rw [u64_small (by omega) (by omega)]; omega
          have e4 := shr_256 (8 * t.length) (7 - j) (by omega)
          have e6 : IntKind.u8.wrap ((8 * t.length / 256 ^ (7 - j) : Nat) : Int) = ((8 * t.length / 256 ^ (7 - j) % 256 : Nat) : Int) := by
            generalize 8 * t.length / 256 ^ (7 - j) = q
            simp only [IntKind.wrap, IntKind.bits, IntKind.signed]
            simp
          have e8 : IntKind.i64.wrap (7 - (j : Int) - 1) = 7 - ((j + 1 : Nat) : Int) := by rw [wrap64 (by omega) (by omega)]; omega
          have hn := lb_next (m := 8 * t.length) hj
          generalize 8 * t.length = m at *
          clear hm ht hpl f5
          repeat' first | refine SW.step good fun K hK => ?_ | refine X2 good fun K hK => ?_ | refine X3 good fun K hK => ?_ | refine SW.seqK fun J hJ => ?_ | refine SW.last good fun K hK => ?_ | (refine hK _ ?_; clear hK K) | (refine hJ _ _ (Wk.refl _) ?_; clear hJ J) | clear hK K | clear hJ J | refine SW.skip ?_ | refine SW.ret ?_ | refine SW.retT ?_ | refine SW.retB ?_ | refine SW.exit ?_ | refine SW.exitT ?_ | refine SW.exitB ?_ | refine XN ?_ | refine SW.block ?_ | refine SW.normB ?_ | refine SW.normT ?_ | refine XT ?_ | refine XF ?_ | refine XC (fun h => ?_) (fun h => ?_) | simp only [go_sem, optI, Option.getD_some, Option.getD_none, Int.reduceToNat, reduceIte, Nat.reduceEqDiff, Nat.reduceAdd, Nat.reduceMul, Nat.reduceSub, Nat.reduceLT, Nat.reduceLeDiff, reduceCtorEq, *] | refine Xs _ (fun h => ?_) (fun h => ?_) | with_reducible refine And.intro ?_ ?_
          clear e3 e4 e6 e8
          all_goals first | omega | (intro r hr; subst hr; rfl) | (intro r hr; simp at hr; subst hr; rfl) | (simp [bytesC]; omega) | (simp; done) | omega | rfl | skip
          all_goals refine ⟨j + 1, by omega, by omega, ?_⟩
          all_goals (refine Xto _ _ ?_ ?_ <;> simp only [go_sem, optI, Option.getD_some, Option.getD_none, Int.reduceToNat, reduceIte, Nat.reduceEqDiff, Nat.reduceAdd, Nat.reduceMul, Nat.reduceSub, Nat.reduceLT, Nat.reduceLeDiff, reduceCtorEq, Option.some.injEq, or_true, true_or] <;> (repeat' with_reducible apply And.intro) <;> (try rfl))
          all_goals first | (rw [hn, ← List.append_assoc, bytesC_snoc' _ (by omega)]; done) | skip
          all_goals trace_state
        · have hj : j = 8 := by omega
          subst hj
          have e1 : decide ((0 : Int) ≤ 7 - ((8 : Nat) : Int)) = false := rfl
          repeat' first | refine SW.step good fun K hK => ?_ | refine X2 good fun K hK => ?_ | refine X3 good fun K hK => ?_ | refine SW.seqK fun J hJ => ?_ | refine SW.last good fun K hK => ?_ | (refine hK _ ?_; clear hK K) | (refine hJ _ _ (Wk.refl _) ?_; clear hJ J) | clear hK K | clear hJ J | refine SW.skip ?_ | refine SW.ret ?_ | refine SW.retT ?_ | refine SW.retB ?_ | refine SW.exit ?_ | refine SW.exitT ?_ | refine SW.exitB ?_ | refine XN ?_ | refine SW.block ?_ | refine SW.normB ?_ | refine SW.normT ?_ | refine XT ?_ | refine XF ?_ | refine XC (fun h => ?_) (fun h => ?_) | simp only [go_sem, optI, Option.getD_some, Option.getD_none, Int.reduceToNat, reduceIte, Nat.reduceEqDiff, Nat.reduceAdd, Nat.reduceMul, Nat.reduceSub, Nat.reduceLT, Nat.reduceLeDiff, reduceCtorEq, *] | refine Xs _ (fun h => ?_) (fun h => ?_) | with_reducible refine And.intro ?_ ?_
          all_goals (refine Xrs ?_; unfold padT pb; rfl)
theorem padT_len (t : List UInt8) : (padT t).length = 64 * ((t.length + 8) / 64 + 1) := by
  unfold padT miss
  simp only [List.length_append, List.length_cons, List.length_nil, List.length_replicate, lb]
  omega
end Go.Proofs.YtoemclhjcbcjaaaGreat.AB
namespace Go.Proofs.YtoemclhjcbcjaaaGreat.AB
open Go
set_option maxRecDepth 100000
set_option linter.unusedSimpArgs false
set_option linter.unusedVariables false
/-- a block of a text -/
def blk64 (p : List UInt8) (k : Nat) : List UInt8 := (p.drop (64 * k)).take 64
/-- the state behind the first blocks -/
def dgS (p : List UInt8) : Nat → List Int
  | 0 => iW
  | k + 1 => blockS' (blk64 p k) (dgS p k)
def byt (n : Int) : List UInt8 := [UInt8.ofNat ((n / 16777216) % 256).toNat, UInt8.ofNat ((n / 65536) % 256).toNat, UInt8.ofNat ((n / 256) % 256).toNat, UInt8.ofNat (n % 256).toNat]
def digest (t : List UInt8) : List UInt8 := (dgS (padT t) ((padT t).length / 64)).flatMap byt
theorem blk64_len {p : List UInt8} {k : Nat} (h : 64 * k + 64 ≤ p.length) : (blk64 p k).length = 64 := by
  unfold blk64; rw [List.length_take, List.length_drop]; omega
theorem ad_range (a b : Int) : 0 ≤ ad a b ∧ ad a b ≤ 4294967295 := by
  unfold ad
  simp only [IntKind.wrap, IntKind.bits, IntKind.signed]
  simp
  omega
theorem zip_range : ∀ (A B : List Int), ∀ n, n ∈ List.zipWith ad A B → 0 ≤ n ∧ n ≤ 4294967295
  | [], _, n, h => by simp at h
  | _ :: _, [], n, h => by simp at h
  | a :: A, b :: B, n, h => by
    rw [List.zipWith_cons_cons] at h
    rcases List.mem_cons.1 h with rfl | h
    · exact ad_range a b
    · exact zip_range A B n h
theorem dgS_ok (p : List UInt8) (k : Nat) : (dgS p k).length = 8 ∧ ∀ n, n ∈ dgS p k → 0 ≤ n ∧ n ≤ 4294967295 := by
  induction k with
  | zero =>
    refine ⟨rfl, ?_⟩
    have : iW.all (fun n => decide (0 ≤ n ∧ n ≤ 4294967295)) = true := by decide
    intro n hn
    simpa using List.all_eq_true.1 this n hn
  | succ k ih =>
    unfold dgS blockS'
    refine ⟨?_, zip_range _ _⟩
    rw [List.length_zipWith, ih.1, rs_len ih.1]; rfl
theorem wrap8m (x : Int) : IntKind.u8.wrap x = x % 256 := by
  simp only [IntKind.wrap, IntKind.bits, IntKind.signed]
  simp
theorem shr_i (k : IntKind) (h : k = .i64 ∨ k = .u32) (n : Int) : shrK k n 24 = n / 16777216 ∧ shrK k n 16 = n / 65536 ∧ shrK k n 8 = n / 256 := by
  rcases h with rfl | rfl <;> (simp only [shrK, IntKind.bits]; refine ⟨?_, ?_, ?_⟩ <;> (rw [Int.fdiv_eq_ediv_of_nonneg _ (by decide)]; simp))
theorem byt_c (n : Int) : bytesC (byt n) = [[.v (.int .u8 (n / 16777216 % 256))], [.v (.int .u8 (n / 65536 % 256))], [.v (.int .u8 (n / 256 % 256))], [.v (.int .u8 (n % 256))]] := by
  have h : ∀ x : Int, (((UInt8.ofNat (x % 256).toNat).toNat : Nat) : Int) = x % 256 := fun x => by
    rw [UInt8.toNat_ofNat']; omega
  simp only [byt, bytesC, List.map_cons, List.map_nil, h]
theorem fm_take (D : List Int) {k : Nat} (h : k < D.length) : (D.take (k + 1)).flatMap byt = (D.take k).flatMap byt ++ byt (D.getD k 0) := by
  rw [List.take_add_one, List.getElem?_eq_getElem h, List.flatMap_append, List.getD_eq_getElem?_getD, List.getElem?_eq_getElem h]; simp
theorem fm_len (D : List Int) : (bytesC (D.flatMap byt)).length = 4 * D.length := by
  simp only [bytesC, List.length_map]
  induction D with
  | nil => rfl
  | cons a D ih => rw [List.flatMap_cons, List.length_append, ih]; simp [byt]; omega
set_option maxHeartbeats 2000000 in
theorem ac_Digest (t : List UInt8) (ht : t.length ≤ 1048576) : AC Tryz.prog 42 [vS t] (vS (digest t)) [] := by
  have hp := ac_PadText t ht
  have hpl := padT_len t
  have hs := start_is
  unfold digest
  generalize padT t = p at *
  have hp2 : p.length ≤ 2097152 := by omega
  obtain ⟨nb, hnb⟩ : ∃ nb, p.length = 64 * nb := ⟨_, hpl⟩
  rw [show p.length / 64 = nb by omega]
  clear hpl ht
  refine XA good (fn := Tryz.f42) rfl ?_
  simp only [entry, List.getD_cons_zero, List.getD_cons_succ]
  repeat' first | refine SW.step good fun K hK => ?_ | refine X2 good fun K hK => ?_ | refine X3 good fun K hK => ?_ | refine SW.seqK fun J hJ => ?_ | refine SW.last good fun K hK => ?_ | (refine hK _ ?_; clear hK K) | (refine hJ _ _ (Wk.refl _) ?_; clear hJ J) | clear hK K | clear hJ J | refine SW.skip ?_ | refine SW.ret ?_ | refine SW.retT ?_ | refine SW.retB ?_ | refine SW.exit ?_ | refine SW.exitT ?_ | refine SW.exitB ?_ | refine XN ?_ | refine SW.block ?_ | refine SW.normB ?_ | refine SW.normT ?_ | refine XT ?_ | refine XF ?_ | refine XC (fun h => ?_) (fun h => ?_) | refine X0 ?_ | refine Xv ?_ | refine X1 (hs) ?_ | refine X1 (hp) ?_ | simp only [go_sem, optI, Option.getD_some, Option.getD_none, Int.reduceToNat, reduceIte, Nat.reduceEqDiff, Nat.reduceAdd, Nat.reduceMul, Nat.reduceSub, Nat.reduceLT, Nat.reduceLeDiff, reduceCtorEq, *] | refine Xs _ (fun h => ?_) (fun h => ?_) | with_reducible refine And.intro ?_ ?_
  all_goals first | omega | skip
  refine SW.loopTo (α := Nat) (fun k => ⟨sl [(3, .own (.s 9 0)), (4, vS p), (5, vI ((64 * k : Nat) : Int))], hl [(.s 9 0, .row false 3 1 ((dgS p k).map nC))]⟩) (fun k => nb - k) 0 (fun k => k ≤ nb) ?_ (by simp) ?_
  · (refine Xto _ _ ?_ ?_ <;> simp only [go_sem, optI, Option.getD_some, Option.getD_none, Int.reduceToNat, reduceIte, Nat.reduceEqDiff, Nat.reduceAdd, Nat.reduceMul, Nat.reduceSub, Nat.reduceLT, Nat.reduceLeDiff, reduceCtorEq, Option.some.injEq, or_true, true_or] <;> (repeat' with_reducible apply And.intro) <;> (try rfl))
  · intro k h2
    by_cases hk : k < nb
    · have e1 : decide (((64 * k : Nat) : Int) < ((64 * nb : Nat) : Int)) = true := by simp; omega
      have hw : IntKind.i64.wrap (((64 * k : Nat) : Int) + 64) = ((64 * (k + 1) : Nat) : Int) := by rw [wrap64 (by omega) (by omega)]; omega
      obtain ⟨o1, o2⟩ := dgS_ok p k
      have hb := ac_ShaBlock (dgS p k) (blk64 p k) o1 o2 (blk64_len (by omega))
      have hn : dgS p (k + 1) = blockS' (blk64 p k) (dgS p k) := rfl
      have hx : List.take (64 * (k + 1) - 64 * k) (List.drop (64 * k) p) = blk64 p k := by unfold blk64; congr 1; omega
      clear o1 o2 hs hp
      repeat' first | refine SW.step good fun K hK => ?_ | refine X2 good fun K hK => ?_ | refine X3 good fun K hK => ?_ | refine SW.seqK fun J hJ => ?_ | refine SW.last good fun K hK => ?_ | (refine hK _ ?_; clear hK K) | (refine hJ _ _ (Wk.refl _) ?_; clear hJ J) | clear hK K | clear hJ J | refine SW.skip ?_ | refine SW.ret ?_ | refine SW.retT ?_ | refine SW.retB ?_ | refine SW.exit ?_ | refine SW.exitT ?_ | refine SW.exitB ?_ | refine XN ?_ | refine SW.block ?_ | refine SW.normB ?_ | refine SW.normT ?_ | refine XT ?_ | refine XF ?_ | refine XC (fun h => ?_) (fun h => ?_) | refine X0 ?_ | refine Xv ?_ | refine X1 (hb) ?_ | simp only [go_sem, optI, Option.getD_some, Option.getD_none, Int.reduceToNat, reduceIte, Nat.reduceEqDiff, Nat.reduceAdd, Nat.reduceMul, Nat.reduceSub, Nat.reduceLT, Nat.reduceLeDiff, reduceCtorEq, *] | refine Xs _ (fun h => ?_) (fun h => ?_) | with_reducible refine And.intro ?_ ?_
      all_goals first | omega | (simp; omega) | skip
      all_goals refine ⟨k + 1, by omega, by omega, ?_⟩
      all_goals (refine Wk.to _ _ [(.s 9 0, .s 24 0)] ?_ (by simp [ren]) ?_ (by simp [ren]) <;> simp only [go_sem, optI, Option.getD_some, Option.getD_none, Int.reduceToNat, reduceIte, Nat.reduceEqDiff, Nat.reduceAdd, Nat.reduceMul, Nat.reduceSub, Nat.reduceLT, Nat.reduceLeDiff, reduceCtorEq, Option.some.injEq, or_true, true_or] <;> (repeat' with_reducible apply And.intro) <;> (try rfl))
      all_goals first | (rw [hn]; done) | skip
    · have hk : k = nb := by omega
      subst hk
      have e1 : decide (((64 * k : Nat) : Int) < ((64 * k : Nat) : Int)) = false := by simp
      have hD := (dgS_ok p k).1
      clear hs hp
      generalize dgS p k = D at *
      repeat' first | refine SW.step good fun K hK => ?_ | refine X2 good fun K hK => ?_ | refine X3 good fun K hK => ?_ | refine SW.seqK fun J hJ => ?_ | refine SW.last good fun K hK => ?_ | (refine hK _ ?_; clear hK K) | (refine hJ _ _ (Wk.refl _) ?_; clear hJ J) | clear hK K | clear hJ J | refine SW.skip ?_ | refine SW.ret ?_ | refine SW.retT ?_ | refine SW.retB ?_ | refine SW.exit ?_ | refine SW.exitT ?_ | refine SW.exitB ?_ | refine XN ?_ | refine SW.block ?_ | refine SW.normB ?_ | refine SW.normT ?_ | refine XT ?_ | refine XF ?_ | refine XC (fun h => ?_) (fun h => ?_) | simp only [go_sem, optI, Option.getD_some, Option.getD_none, Int.reduceToNat, reduceIte, Nat.reduceEqDiff, Nat.reduceAdd, Nat.reduceMul, Nat.reduceSub, Nat.reduceLT, Nat.reduceLeDiff, reduceCtorEq, *] | refine Xs _ (fun h => ?_) (fun h => ?_) | with_reducible refine And.intro ?_ ?_
      all_goals first | omega | skip
      refine SW.loopTo (α := Nat) (fun k => ⟨sl [(6, .own (.s 25 0)), (26, .own (.s 9 0)), (27, vI 8), (28, vI k)], hl [(.s 9 0, .row false 3 1 (D.map nC)), (.s 25 0, .row false 5 1 (bytesC ((D.take k).flatMap byt)))]⟩) (fun k => 8 - k) 0 (fun k => k ≤ 8) ?_ (by simp) ?_
      · (refine Xto _ _ ?_ ?_ <;> simp only [go_sem, optI, Option.getD_some, Option.getD_none, Int.reduceToNat, reduceIte, Nat.reduceEqDiff, Nat.reduceAdd, Nat.reduceMul, Nat.reduceSub, Nat.reduceLT, Nat.reduceLeDiff, reduceCtorEq, Option.some.injEq, or_true, true_or] <;> (repeat' with_reducible apply And.intro) <;> (try rfl))
        all_goals first | (simp [bytesC]; done) | (rw [hD]; done) | skip
      · intro j j2
        clear e1 h2
        by_cases hj : j < 8
        · have e1 : decide ((j : Int) < 8) = true := by simp; omega
          have hw : IntKind.i64.wrap ((j : Int) + 1) = ((j + 1 : Nat) : Int) := wrap64 (by omega) (by omega)
          have e := nC_get (l := D) (j := j) (by omega)
          have hf := fm_take D (k := j) (by omega)
          have hfl := fm_len (D.take j)
          rw [List.length_take] at hfl
          have hlm : (D.map nC).length = 8 := by rw [List.length_map]; exact hD
          have hw8 := wrap8m
          have hbc := byt_c (D.getD j 0)
          generalize D.getD j 0 = n at *
          obtain ⟨s1, s2, s3⟩ := shr_i .i64 (.inl rfl) n
          clear hnb hp2
          repeat' first | refine SW.step good fun K hK => ?_ | refine X2 good fun K hK => ?_ | refine X3 good fun K hK => ?_ | refine SW.seqK fun J hJ => ?_ | refine SW.last good fun K hK => ?_ | (refine hK _ ?_; clear hK K) | (refine hJ _ _ (Wk.refl _) ?_; clear hJ J) | clear hK K | clear hJ J | refine SW.skip ?_ | refine SW.ret ?_ | refine SW.retT ?_ | refine SW.retB ?_ | refine SW.exit ?_ | refine SW.exitT ?_ | refine SW.exitB ?_ | refine XN ?_ | refine SW.block ?_ | refine SW.normB ?_ | refine SW.normT ?_ | refine XT ?_ | refine XF ?_ | refine XC (fun h => ?_) (fun h => ?_) | simp only [go_sem, optI, Option.getD_some, Option.getD_none, Int.reduceToNat, reduceIte, Nat.reduceEqDiff, Nat.reduceAdd, Nat.reduceMul, Nat.reduceSub, Nat.reduceLT, Nat.reduceLeDiff, reduceCtorEq, *] | refine Xs _ (fun h => ?_) (fun h => ?_) | with_reducible refine And.intro ?_ ?_
          clear s1 s2 s3 hw8
          all_goals first | omega | (simp; done) | (simp; omega) | skip
          all_goals refine ⟨j + 1, by omega, by omega, ?_⟩
          all_goals (refine Xto _ _ ?_ ?_ <;> simp only [go_sem, optI, Option.getD_some, Option.getD_none, Int.reduceToNat, reduceIte, Nat.reduceEqDiff, Nat.reduceAdd, Nat.reduceMul, Nat.reduceSub, Nat.reduceLT, Nat.reduceLeDiff, reduceCtorEq, Option.some.injEq, or_true, true_or] <;> (repeat' with_reducible apply And.intro) <;> (try rfl))
          all_goals first | (rw [hf, bytesC_app, hbc]; done) | skip
          all_goals trace_state
        · have hj : j = 8 := by omega
          subst hj
          have e1 : decide (((8 : Nat) : Int) < 8) = false := rfl
          have ht8 : D.take 8 = D := List.take_of_length_le (by omega)
          repeat' first | refine SW.step good fun K hK => ?_ | refine X2 good fun K hK => ?_ | refine X3 good fun K hK => ?_ | refine SW.seqK fun J hJ => ?_ | refine SW.last good fun K hK => ?_ | (refine hK _ ?_; clear hK K) | (refine hJ _ _ (Wk.refl _) ?_; clear hJ J) | clear hK K | clear hJ J | refine SW.skip ?_ | refine SW.ret ?_ | refine SW.retT ?_ | refine SW.retB ?_ | refine SW.exit ?_ | refine SW.exitT ?_ | refine SW.exitB ?_ | refine XN ?_ | refine SW.block ?_ | refine SW.normB ?_ | refine SW.normT ?_ | refine XT ?_ | refine XF ?_ | refine XC (fun h => ?_) (fun h => ?_) | simp only [go_sem, optI, Option.getD_some, Option.getD_none, Int.reduceToNat, reduceIte, Nat.reduceEqDiff, Nat.reduceAdd, Nat.reduceMul, Nat.reduceSub, Nat.reduceLT, Nat.reduceLeDiff, reduceCtorEq, *] | refine Xs _ (fun h => ?_) (fun h => ?_) | with_reducible refine And.intro ?_ ?_
          all_goals (refine Xrs ?_; rfl)
end Go.Proofs.YtoemclhjcbcjaaaGreat.AB
