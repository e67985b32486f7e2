/- Draws: numbers, roles, words. -/
import Derived.Test.YtoemclhjcbcjaaaGreatAbFcText
import Derived.Test.YtoemclhjcbcjaaaGreatAbBbPure
namespace Go.Proofs.YtoemclhjcbcjaaaGreat.AB
open Go
set_option maxRecDepth 100000
/-- a drawn byte of a number -/
def btH (h : Int) : Int := andK .i64 (xorK .i64 (shrK .i64 h 33) (shrK .i64 h 45)) 255
theorem wrap_if (x : Int) : IntKind.i64.wrap x = if 9223372036854775808 ≤ x % 18446744073709551616 then x % 18446744073709551616 - 18446744073709551616 else x % 18446744073709551616 := by
  simp only [IntKind.wrap, IntKind.bits, IntKind.signed]
  simp
theorem ofInt_wrap (x : Int) : BitVec.ofInt 64 (IntKind.i64.wrap x) = BitVec.ofInt 64 x := by
  apply BitVec.eq_of_toNat_eq
  rw [BitVec.toNat_ofInt, BitVec.toNat_ofInt]
  rw [wrap_if]
  split <;> omega
theorem and255 (a : Int) : andK .i64 a 255 = (((BitVec.ofInt 64 a).toNat % 256 : Nat) : Int) := by
  unfold andK
  simp only [IntKind.bits]
  have e : (BitVec.ofInt 64 a &&& BitVec.ofInt 64 255).toNat = (BitVec.ofInt 64 a).toNat % 256 := by
    rw [BitVec.toNat_and, show (BitVec.ofInt 64 255).toNat = 2 ^ 8 - 1 from rfl, Nat.and_two_pow_sub_one_eq_mod]
  show IntKind.i64.wrap ((BitVec.ofInt 64 a &&& BitVec.ofInt 64 255).toNat : Int) = _
  rw [e]
  exact wrap64 (by omega) (by omega)
theorem btH_rng (h : Int) : 0 ≤ btH h ∧ btH h ≤ 255 := by
  unfold btH; rw [and255]; omega
theorem shr_is (h : Int) (s : Nat) (hs : s ≤ 64) : shrK .i64 h s = h / 2 ^ s := by
  have e : min (s : Int).toNat IntKind.i64.bits = s := by simp only [Int.toNat_natCast]; exact Nat.min_eq_left hs
  unfold shrK
  rw [e, Int.fdiv_eq_ediv_of_nonneg _ (by exact Int.le_of_lt (Int.pow_pos (by decide)))]
theorem testBit1 (n : Nat) : n.testBit 1 = decide (n / 2 % 2 = 1) := by
  rw [Nat.testBit_eq_decide_div_mod_eq]
theorem btH_bit (h : Int) : btH h / 2 % 2 = ((h / 2 ^ 34) % 2 + (h / 2 ^ 46) % 2) % 2 := by
  unfold btH
  rw [and255]
  have e1 : shrK .i64 h 33 = h / 2 ^ 33 := shr_is h 33 (by decide)
  have e2 : shrK .i64 h 45 = h / 2 ^ 45 := shr_is h 45 (by decide)
  rw [e1, e2]
  have e3 : BitVec.ofInt 64 (xorK .i64 (h / 2 ^ 33) (h / 2 ^ 45)) = BitVec.ofInt 64 (h / 2 ^ 33) ^^^ BitVec.ofInt 64 (h / 2 ^ 45) := by
    unfold xorK
    rw [ofInt_wrap]
    apply BitVec.eq_of_toNat_eq
    rw [BitVec.toNat_ofInt]
    have := (BitVec.ofInt 64 (h / 2 ^ 33) ^^^ BitVec.ofInt 64 (h / 2 ^ 45)).isLt
    show ((((BitVec.ofInt 64 (h / 2 ^ 33) ^^^ BitVec.ofInt 64 (h / 2 ^ 45)).toNat : Nat) : Int) % ((2 ^ 64 : Nat) : Int)).toNat = (BitVec.ofInt 64 (h / 2 ^ 33) ^^^ BitVec.ofInt 64 (h / 2 ^ 45)).toNat
    omega
  rw [e3, BitVec.toNat_xor, BitVec.toNat_ofInt, BitVec.toNat_ofInt]
  generalize hA : (h / 2 ^ 33 % ((2 ^ 64 : Nat) : Int)).toNat = A
  generalize hB : (h / 2 ^ 45 % ((2 ^ 64 : Nat) : Int)).toNat = B
  have hx : (A ^^^ B).testBit 1 = (A.testBit 1 ^^ B.testBit 1) := Nat.testBit_xor ..
  rw [testBit1, testBit1, testBit1] at hx
  have hA2 : ((A / 2 % 2 : Nat) : Int) = (h / 2 ^ 34) % 2 := by omega
  have hB2 : ((B / 2 % 2 : Nat) : Int) = (h / 2 ^ 46) % 2 := by omega
  generalize A ^^^ B = n at *
  rw [← hA2, ← hB2]
  have k1 : A / 2 % 2 = 0 ∨ A / 2 % 2 = 1 := by omega
  have k2 : B / 2 % 2 = 0 ∨ B / 2 % 2 = 1 := by omega
  rcases k1 with k1 | k1 <;> rcases k2 with k2 | k2 <;> simp [k1, k2] at hx ⊢ <;> omega
/-- the cursor's number turns -/
def lcg (h : Int) : Int := IntKind.i64.wrap (IntKind.i64.wrap (h * 6364136223846793005) + 1442695040888963407)
theorem wrap_mod (x : Int) : ∃ u : Int, IntKind.i64.wrap x = x + 2 ^ 64 * u := by
  rw [wrap_if]
  split
  · exact ⟨- (x / 2 ^ 64) - 1, by omega⟩
  · exact ⟨- (x / 2 ^ 64), by omega⟩
theorem lcg_is (h : Int) : ∃ u : Int, lcg h = h * 6364136223846793005 + 1442695040888963407 + 2 ^ 64 * u := by
  obtain ⟨u, hu⟩ := wrap_mod (h * 6364136223846793005)
  obtain ⟨v, hv⟩ := wrap_mod (IntKind.i64.wrap (h * 6364136223846793005) + 1442695040888963407)
  refine ⟨u + v, ?_⟩
  unfold lcg
  rw [hv, hu]; omega
def lcg3 (h : Int) : Int := lcg (lcg (lcg h))
def rep {α : Type} (f : α → α) : Nat → α → α
  | 0, x => x
  | n + 1, x => rep f n (f x)
theorem rep_add {α : Type} (f : α → α) : ∀ (n m : Nat) (x : α), rep f (n + m) x = rep f m (rep f n x)
  | 0, m, x => by rw [Nat.zero_add]; rfl
  | n + 1, m, x => by rw [show n + 1 + m = (n + m) + 1 by omega, rep, rep, rep_add f n m]
/-- 2^k turns of a map that is affine modulo 2^64, with a factor that is 1 modulo 4 and an odd summand -/
theorem rep_pow {f : Int → Int} {s t : Int} (hf : ∀ h, ∃ u : Int, f h = (1 + 4 * s) * h + (2 * t + 1) + 2 ^ 64 * u) : ∀ k : Nat, ∃ s' t' : Int, ∀ h, ∃ u : Int, rep f (2 ^ k) h = (1 + 2 ^ (k + 2) * s') * h + 2 ^ k * (2 * t' + 1) + 2 ^ 64 * u
  | 0 => ⟨s, t, fun h => by
      obtain ⟨u, hu⟩ := hf h
      refine ⟨u, ?_⟩
      rw [show rep f (2 ^ 0) h = f h from rfl, hu]
      simp⟩
  | k + 1 => by
    obtain ⟨s', t', ih⟩ := rep_pow hf k
    refine ⟨s' + 2 ^ (k + 1) * s' * s', t' + 2 ^ k * s' * (2 * t' + 1), fun h => ?_⟩
    obtain ⟨u, hu⟩ := ih h
    obtain ⟨v, hv⟩ := ih (rep f (2 ^ k) h)
    refine ⟨(1 + 2 ^ (k + 2) * s') * u + v, ?_⟩
    rw [show 2 ^ (k + 1) = 2 ^ k + 2 ^ k by rw [Nat.pow_succ]; omega, rep_add, hv, hu]
    have p1 : (2 : Int) ^ (k + 1) = 2 ^ k * 2 := Int.pow_succ ..
    have p2 : (2 : Int) ^ (k + 2) = 2 ^ k * 2 * 2 := by rw [show k + 2 = (k + 1) + 1 from rfl, Int.pow_succ, p1]
    have p3 : (2 : Int) ^ (k + 1 + 2) = 2 ^ k * 2 * 2 * 2 := by rw [show k + 1 + 2 = (k + 2) + 1 from rfl, Int.pow_succ, p2]
    rw [p1, p2, p3]
    generalize (2 : Int) ^ k = q
    generalize (2 : Int) ^ 64 = z
    grind
theorem lcg3_is (h : Int) : ∃ u : Int, lcg3 h = (1 + 4 * 64440427074594498112845732836248110860103425454561118781) * h + (2 * 29216183093293395808559990274999157049054126876221063308 + 1) + 2 ^ 64 * u := by
  obtain ⟨u1, h1⟩ := lcg_is h
  obtain ⟨u2, h2⟩ := lcg_is (lcg h)
  obtain ⟨u3, h3⟩ := lcg_is (lcg (lcg h))
  refine ⟨u1 * 6364136223846793005 * 6364136223846793005 + u2 * 6364136223846793005 + u3, ?_⟩
  unfold lcg3
  rw [h3, h2, h1]
  omega
theorem turn46 : ∃ N : Nat, ∀ h, ∃ t u : Int, rep lcg3 N h = h + 2 ^ 46 * (2 * t + 1) + 2 ^ 47 * u := by
  obtain ⟨s, t, hst⟩ := rep_pow (f := lcg3) lcg3_is 46
  refine ⟨2 ^ 46, fun h => ?_⟩
  obtain ⟨u, hu⟩ := hst h
  refine ⟨t, 2 * (s * h) + 2 ^ 17 * u, ?_⟩
  rw [hu, Int.add_mul, Int.one_mul, Int.mul_assoc]
  generalize s * h = m
  omega
theorem pw46 (h g t u : Int) (e : g = h + 2 ^ 46 * (2 * t + 1) + 2 ^ 47 * u) : (g / 2 ^ 34) % 2 = (h / 2 ^ 34) % 2 ∧ (g / 2 ^ 46) % 2 = 1 - (h / 2 ^ 46) % 2 := by
  constructor <;> omega
/-- how long it may take -/
noncomputable def NL : Nat := Classical.choose turn46
theorem NL_is (h : Int) : ∃ t u : Int, rep lcg3 NL h = h + 2 ^ 46 * (2 * t + 1) + 2 ^ 47 * u := Classical.choose_spec turn46 h
theorem lcg_stop (h : Int) : ∃ n, n ≤ NL ∧ ¬ btH (rep lcg3 (n + 1) h) % 16 = 12 := by
  apply Classical.byContradiction
  intro hn
  have hall : ∀ n, n ≤ NL → btH (rep lcg3 (n + 1) h) % 16 = 12 := fun n hle => Classical.byContradiction fun q => hn ⟨n, hle, q⟩
  have h1 := hall 0 (Nat.zero_le _)
  have h2 := hall NL (Nat.le_refl _)
  rw [show rep lcg3 (0 + 1) h = lcg3 h from rfl] at h1
  rw [show rep lcg3 (NL + 1) h = rep lcg3 NL (lcg3 h) from rfl] at h2
  obtain ⟨t, u, e⟩ := NL_is (lcg3 h)
  have b1 := btH_bit (lcg3 h)
  have b2 := btH_bit (rep lcg3 NL (lcg3 h))
  obtain ⟨p1, p2⟩ := pw46 _ _ _ _ e
  omega
/-- how often the byte is twelve, from here on -/
def stopB : Nat → Int → Nat
  | 0, _ => 0
  | k + 1, h => if btH (lcg3 h) % 16 = 12 then stopB k (lcg3 h) + 1 else 0
theorem stopB_le : ∀ (k : Nat) (h : Int), stopB k h ≤ k
  | 0, _ => Nat.le_refl _
  | k + 1, h => by
    have := stopB_le k (lcg3 h)
    rw [stopB]; split <;> omega
theorem stopB_same : ∀ (k : Nat) (h : Int), (∃ n, n ≤ k ∧ ¬ btH (rep lcg3 (n + 1) h) % 16 = 12) → stopB (k + 1) h = stopB k h
  | 0, h, ⟨n, hn, hq⟩ => by
    obtain rfl : n = 0 := by omega
    have hq' : ¬ btH (lcg3 h) % 16 = 12 := hq
    show (if btH (lcg3 h) % 16 = 12 then stopB 0 (lcg3 h) + 1 else 0) = 0
    rw [if_neg hq']
  | k + 1, h, ⟨n, hn, hq⟩ => by
    by_cases h12 : btH (lcg3 h) % 16 = 12
    · cases n with
      | zero => exact absurd h12 hq
      | succ n =>
        have ih := stopB_same k (lcg3 h) ⟨n, by omega, hq⟩
        rw [stopB, if_pos h12, ih, stopB.eq_2 h, if_pos h12]
    · rw [stopB, if_neg h12, stopB, if_neg h12]
noncomputable def stopT (h : Int) : Nat := stopB (NL + 1) h
theorem stopT_le (h : Int) : stopT h ≤ NL + 1 := stopB_le _ _
theorem stopT_lt {h : Int} (h12 : btH (lcg3 h) % 16 = 12) : stopT (lcg3 h) < stopT h := by
  have e := stopB_same NL (lcg3 h) (lcg_stop _)
  unfold stopT
  rw [e, stopB.eq_2 h, if_pos h12]
  omega
end Go.Proofs.YtoemclhjcbcjaaaGreat.AB
namespace Go.Proofs.YtoemclhjcbcjaaaGreat.AB
open Go
set_option maxRecDepth 100000
set_option linter.unusedSimpArgs false
set_option linter.unusedVariables false
structure Cur where
  b : List UInt8
  i : Nat
  h : Int
def Cur.ok (c : Cur) : Prop := c.i ≤ c.b.length ∧ c.b.length ≤ 1048576
def cuO (c : Cur) : Ob := .box [.c false (.sl (bytesC c.b)), vI c.i, vI c.h]
def cuS (c : Cur) : Cur := ⟨c.b, if c.i < c.b.length then c.i + 1 else c.i, lcg c.h⟩
def cval (c : Cur) : Int := if c.i < c.b.length then andK .i64 (btH (lcg c.h) + ((c.b.getD c.i 0).toNat : Int)) 255 else btH (lcg c.h)
theorem cuS_b (c : Cur) : (cuS c).b = c.b := rfl
theorem cuS_ok {c : Cur} (h : c.ok) : (cuS c).ok := by
  unfold Cur.ok cuS at *; simp only; split <;> omega
theorem and255_rng (a : Int) : 0 ≤ andK .i64 a 255 ∧ andK .i64 a 255 ≤ 255 := by rw [and255]; omega
theorem cval_rng (c : Cur) : 0 ≤ cval c ∧ cval c ≤ 255 := by
  unfold cval; split
  · exact and255_rng _
  · exact btH_rng _
theorem pick_ge {c : Cur} (h : ¬ c.i < c.b.length) : cval c = btH (lcg c.h) ∧ cuS c = ⟨c.b, c.i, lcg c.h⟩ := by
  unfold cval cuS; rw [if_neg h, if_neg h]; exact ⟨rfl, rfl⟩
theorem pick_lt {c : Cur} (h : c.i < c.b.length) : cval c = andK .i64 (btH (lcg c.h) + ((c.b.getD c.i 0).toNat : Int)) 255 ∧ cuS c = ⟨c.b, c.i + 1, lcg c.h⟩ := by
  unfold cval cuS; rw [if_pos h, if_pos h]; exact ⟨rfl, rfl⟩
theorem bytesC_get {b : List UInt8} {i : Nat} (h : i < b.length) : (bytesC b).getD i [] = [.v (.int .u8 ((b.getD i 0).toNat : Int))] := by
  unfold bytesC
  rw [getD_map b _ [] h]; simp [List.getD_eq_getElem?_getD, List.getElem?_eq_getElem h]
theorem mc_Byte (c : Cur) (hc : c.ok) : MC Tryz.prog 58 [.ptr (.a 0) 0] [cuO c] (vI (cval c)) [some (cuO (cuS c))] [] := by
  obtain ⟨h1, h2⟩ := hc
  have hr := btH_rng (lcg c.h)
  by_cases hi : c.i < c.b.length
  · obtain ⟨e1, e2⟩ := pick_lt hi
    rw [e1, e2]
    have hg := bytesC_get hi
    have hy := (c.b.getD c.i 0).toNat_lt
    obtain ⟨b, i, h⟩ := c
    simp only at h1 h2 hi hg hy e1 e2 hr ⊢
    clear e1 e2
    simp only [cuO]
    generalize b.getD i 0 = y at *
    have hb : (bytesC b).length = b.length := bytesC_len b
    generalize bytesC b = X at *
    have hb2 : X.length ≤ 1048576 ∧ i < X.length := by omega
    have d1 : decide ((i : Int) < (X.length : Int)) = true := by simp; omega
    have w1 : IntKind.i64.wrap ((i : Int) + 1) = ((i + 1 : Nat) : Int) := wrap64 (by omega) (by omega)
    have w2 : IntKind.i64.wrap ((y.toNat : Nat) : Int) = (y.toNat : Int) := wrap64 (by omega) (by omega)
    have w3 : IntKind.i64.wrap (btH (lcg h) + (y.toNat : Int)) = btH (lcg h) + (y.toNat : Int) := wrap64 (by omega) (by omega)
    have u1 : btH (lcg h) = andK .i64 (xorK .i64 (shrK .i64 (lcg h) 33) (shrK .i64 (lcg h) 45)) 255 := rfl
    have u2 : lcg h = IntKind.i64.wrap (IntKind.i64.wrap (h * 6364136223846793005) + 1442695040888963407) := rfl
    rw [u1] at w3 ⊢
    generalize lcg h = g at *
    have u3 := u2.symm
    clear hb h1 h2 hi hr u1 u2 hy
    refine XM good (fn := Tryz.f58) rfl ?_
    try simp only [List.getD_cons_zero, List.getD_cons_succ]
    repeat' first | refine SW.step good fun K hK => ?_ | refine X2 good fun K hK => ?_ | refine X3 good fun K hK => ?_ | refine SW.seqK fun J hJ => ?_ | refine SW.last good fun K hK => ?_ | (refine hK _ ?_; clear hK K) | (refine hJ _ _ (Wk.refl _) ?_; clear hJ J) | clear hK K | clear hJ J | refine SW.skip ?_ | refine SW.ret ?_ | refine SW.retT ?_ | refine SW.retB ?_ | refine SW.exit ?_ | refine SW.exitT ?_ | refine SW.exitB ?_ | refine XN ?_ | refine SW.block ?_ | refine SW.normB ?_ | refine SW.normT ?_ | refine XT ?_ | refine XF ?_ | refine XC (fun h => ?_) (fun h => ?_) | simp only [go_sem, optI, Option.getD_some, Option.getD_none, Int.reduceToNat, reduceIte, Nat.reduceEqDiff, Nat.reduceAdd, Nat.reduceMul, Nat.reduceSub, Nat.reduceLT, Nat.reduceLeDiff, reduceCtorEq, *] | refine Xs _ (fun h => ?_) (fun h => ?_) | with_reducible refine And.intro ?_ ?_
    all_goals first | (intro r hr; simp at hr; subst hr; rfl) | (simp [bytesC]; omega) | (simp; done) | omega | rfl | skip
    all_goals first | (refine Xrm ?_ ?_ <;> simp [Wn.leO, resOf, Wn.le, Wn.leL, Wn.cw, C.scal, scal] <;> done) | (exfalso; simp_all; done)
  · obtain ⟨e1, e2⟩ := pick_ge hi
    rw [e1, e2]
    obtain ⟨b, i, h⟩ := c
    simp only at h1 h2 hi e1 e2 hr ⊢
    clear e1 e2
    simp only [cuO]
    have hb : (bytesC b).length = b.length := bytesC_len b
    generalize bytesC b = X at *
    have hb2 : X.length ≤ 1048576 ∧ i ≤ X.length := by omega
    have d1 : decide ((i : Int) < (X.length : Int)) = false := by simp; omega
    have u1 : btH (lcg h) = andK .i64 (xorK .i64 (shrK .i64 (lcg h) 33) (shrK .i64 (lcg h) 45)) 255 := rfl
    have u2 : lcg h = IntKind.i64.wrap (IntKind.i64.wrap (h * 6364136223846793005) + 1442695040888963407) := rfl
    rw [u1]
    generalize lcg h = g at *
    have u3 := u2.symm
    clear hb h1 h2 hi hr u1 u2
    refine XM good (fn := Tryz.f58) rfl ?_
    try simp only [List.getD_cons_zero, List.getD_cons_succ]
    repeat' first | refine SW.step good fun K hK => ?_ | refine X2 good fun K hK => ?_ | refine X3 good fun K hK => ?_ | refine SW.seqK fun J hJ => ?_ | refine SW.last good fun K hK => ?_ | (refine hK _ ?_; clear hK K) | (refine hJ _ _ (Wk.refl _) ?_; clear hJ J) | clear hK K | clear hJ J | refine SW.skip ?_ | refine SW.ret ?_ | refine SW.retT ?_ | refine SW.retB ?_ | refine SW.exit ?_ | refine SW.exitT ?_ | refine SW.exitB ?_ | refine XN ?_ | refine SW.block ?_ | refine SW.normB ?_ | refine SW.normT ?_ | refine XT ?_ | refine XF ?_ | refine XC (fun h => ?_) (fun h => ?_) | simp only [go_sem, optI, Option.getD_some, Option.getD_none, Int.reduceToNat, reduceIte, Nat.reduceEqDiff, Nat.reduceAdd, Nat.reduceMul, Nat.reduceSub, Nat.reduceLT, Nat.reduceLeDiff, reduceCtorEq, *] | refine Xs _ (fun h => ?_) (fun h => ?_) | with_reducible refine And.intro ?_ ?_
    all_goals first | (intro r hr; simp at hr; subst hr; rfl) | (simp [bytesC]; omega) | (simp; done) | omega | rfl | skip
    all_goals first | (refine Xrm ?_ ?_ <;> simp [Wn.leO, resOf, Wn.le, Wn.leL, Wn.cw, C.scal, scal] <;> done) | (exfalso; simp_all; done)
def newH (b : List UInt8) : Nat → Int
  | 0 => IntKind.i64.wrap (95501 + (b.length : Int))
  | k + 1 => andK .i64 (IntKind.i64.wrap (IntKind.i64.wrap (IntKind.i64.wrap (newH b k * 131) + ((b.getD k 0).toNat : Int)) + 7)) 1073741823
theorem mc_New (b : List UInt8) (hbl : b.length ≤ 1048576) : ∃ h, MC Tryz.prog 30 [.c false (.sl (bytesC b))] [] (.ptr (.r 0) 0) [] [cuO ⟨b, 0, h⟩] := by
  obtain ⟨m, hm1, hm2⟩ : ∃ m, m ≤ b.length ∧ (m = b.length ∨ m = 4000) ∧ m ≤ 4000 := by
    by_cases h : b.length ≤ 4000
    · exact ⟨b.length, by omega, .inl rfl, h⟩
    · exact ⟨4000, by omega, .inr rfl, by omega⟩
  refine ⟨newH b m, ?_⟩
  simp only [cuO]
  have hb : (bytesC b).length = b.length := bytesC_len b
  have h0 : newH b 0 = IntKind.i64.wrap (95501 + ((bytesC b).length : Int)) := by rw [hb]; rfl
  have hg := fun k h => bytesC_get (b := b) (i := k) h
  have hs : ∀ k, newH b (k + 1) = andK .i64 (IntKind.i64.wrap (IntKind.i64.wrap (IntKind.i64.wrap (newH b k * 131) + ((b.getD k 0).toNat : Int)) + 7)) 1073741823 := fun k => rfl
  have hbl2 : (bytesC b).length ≤ 1048576 ∧ m ≤ (bytesC b).length ∧ (m = 4000 ∨ (bytesC b).length ≤ m) := by omega
  rw [← hb] at hg
  generalize newH b = F at *
  generalize bytesC b = X at *
  clear hb hm1 hbl
  refine XM good (fn := Tryz.f30) rfl ?_
  try simp only [List.getD_cons_zero, List.getD_cons_succ]
  repeat' first | refine SW.step good fun K hK => ?_ | refine X2 good fun K hK => ?_ | refine X3 good fun K hK => ?_ | refine SW.seqK fun J hJ => ?_ | refine SW.last good fun K hK => ?_ | (refine hK _ ?_; clear hK K) | (refine hJ _ _ (Wk.refl _) ?_; clear hJ J) | clear hK K | clear hJ J | refine SW.skip ?_ | refine SW.ret ?_ | refine SW.retT ?_ | refine SW.retB ?_ | refine SW.exit ?_ | refine SW.exitT ?_ | refine SW.exitB ?_ | refine XN ?_ | refine SW.block ?_ | refine SW.normB ?_ | refine SW.normT ?_ | refine XT ?_ | refine XF ?_ | refine XC (fun h => ?_) (fun h => ?_) | simp only [go_sem, optI, Option.getD_some, Option.getD_none, Int.reduceToNat, reduceIte, Nat.reduceEqDiff, Nat.reduceAdd, Nat.reduceMul, Nat.reduceSub, Nat.reduceLT, Nat.reduceLeDiff, reduceCtorEq, *] | refine Xs _ (fun h => ?_) (fun h => ?_) | with_reducible refine And.intro ?_ ?_
  all_goals first | (intro r hr; simp at hr; subst hr; rfl) | (simp [bytesC]; omega) | (simp; done) | omega | rfl | skip
  refine SW.loopTo (α := Nat) (fun k => ⟨sl [(0, .c false (.sl X)), (3, vI (F k)), (4, vI k)], hl []⟩) (fun k => m - k) 0 (fun k => k ≤ m) ?_ (by simp) ?_
  · (refine Xto _ _ ?_ ?_ <;> simp only [go_sem, optI, Option.getD_some, Option.getD_none, Int.reduceToNat, reduceIte, Nat.reduceEqDiff, Nat.reduceAdd, Nat.reduceMul, Nat.reduceSub, Nat.reduceLT, Nat.reduceLeDiff, reduceCtorEq, Option.some.injEq, or_true, true_or] <;> (repeat' with_reducible apply And.intro) <;> (try rfl))
    all_goals first | (rw [h0]; done) | skip
  · intro k hk
    clear h0
    by_cases hkm : k < m
    · have hg1 := hg k (by omega)
      have hs1 := hs k
      have hy := (b.getD k 0).toNat_lt
      generalize b.getD k 0 = y at *
      generalize F k = fk at *
      have d1 : decide ((k : Int) < (X.length : Int)) = true := by simp; omega
      have d2 : decide ((k : Int) < 4000) = true := by simp; omega
      have i1 : k < X.length := by omega
      have w1 : IntKind.i64.wrap ((k : Int) + 1) = ((k + 1 : Nat) : Int) := wrap64 (by omega) (by omega)
      have w2 : IntKind.i64.wrap ((y.toNat : Nat) : Int) = (y.toNat : Int) := wrap64 (by omega) (by omega)
      clear hg hs
      repeat' first | refine SW.step good fun K hK => ?_ | refine X2 good fun K hK => ?_ | refine X3 good fun K hK => ?_ | refine SW.seqK fun J hJ => ?_ | refine SW.last good fun K hK => ?_ | (refine hK _ ?_; clear hK K) | (refine hJ _ _ (Wk.refl _) ?_; clear hJ J) | clear hK K | clear hJ J | refine SW.skip ?_ | refine SW.ret ?_ | refine SW.retT ?_ | refine SW.retB ?_ | refine SW.exit ?_ | refine SW.exitT ?_ | refine SW.exitB ?_ | refine XN ?_ | refine SW.block ?_ | refine SW.normB ?_ | refine SW.normT ?_ | refine XT ?_ | refine XF ?_ | refine XC (fun h => ?_) (fun h => ?_) | simp only [go_sem, optI, Option.getD_some, Option.getD_none, Int.reduceToNat, reduceIte, Nat.reduceEqDiff, Nat.reduceAdd, Nat.reduceMul, Nat.reduceSub, Nat.reduceLT, Nat.reduceLeDiff, reduceCtorEq, *] | refine Xs _ (fun h => ?_) (fun h => ?_) | with_reducible refine And.intro ?_ ?_
      all_goals first | (intro r hr; simp at hr; subst hr; rfl) | (simp [bytesC]; omega) | (simp; done) | omega | rfl | skip
      all_goals refine ⟨k + 1, by omega, by omega, ?_⟩
      all_goals (refine Xto _ _ ?_ ?_ <;> simp only [go_sem, optI, Option.getD_some, Option.getD_none, Int.reduceToNat, reduceIte, Nat.reduceEqDiff, Nat.reduceAdd, Nat.reduceMul, Nat.reduceSub, Nat.reduceLT, Nat.reduceLeDiff, reduceCtorEq, Option.some.injEq, or_true, true_or] <;> (repeat' with_reducible apply And.intro) <;> (try rfl))
      all_goals first | (rw [hs1]; done) | skip
    · have hkm : k = m := by omega
      subst hkm
      clear hg hs
      by_cases h4 : k = 4000
      · subst h4
        have d2 : decide (((4000 : Nat) : Int) < 4000) = false := by simp
        repeat' first | refine SW.step good fun K hK => ?_ | refine X2 good fun K hK => ?_ | refine X3 good fun K hK => ?_ | refine SW.seqK fun J hJ => ?_ | refine SW.last good fun K hK => ?_ | (refine hK _ ?_; clear hK K) | (refine hJ _ _ (Wk.refl _) ?_; clear hJ J) | clear hK K | clear hJ J | refine SW.skip ?_ | refine SW.ret ?_ | refine SW.retT ?_ | refine SW.retB ?_ | refine SW.exit ?_ | refine SW.exitT ?_ | refine SW.exitB ?_ | refine XN ?_ | refine SW.block ?_ | refine SW.normB ?_ | refine SW.normT ?_ | refine XT ?_ | refine XF ?_ | refine XC (fun h => ?_) (fun h => ?_) | simp only [go_sem, optI, Option.getD_some, Option.getD_none, Int.reduceToNat, reduceIte, Nat.reduceEqDiff, Nat.reduceAdd, Nat.reduceMul, Nat.reduceSub, Nat.reduceLT, Nat.reduceLeDiff, reduceCtorEq, *] | refine Xs _ (fun h => ?_) (fun h => ?_) | with_reducible refine And.intro ?_ ?_
        all_goals first | (intro r hr; simp at hr; subst hr; rfl) | (simp [bytesC]; omega) | (simp; done) | omega | rfl | skip
        all_goals (refine Xr1 (i := .s 31 0) ?_ ?_ <;> simp [Wn.leO, resOf, Wn.le, Wn.leL, Wn.cw, C.scal, scal, outM, idsTo, hAR])
      · have d1 : decide ((k : Int) < (X.length : Int)) = false := by simp; omega
        repeat' first | refine SW.step good fun K hK => ?_ | refine X2 good fun K hK => ?_ | refine X3 good fun K hK => ?_ | refine SW.seqK fun J hJ => ?_ | refine SW.last good fun K hK => ?_ | (refine hK _ ?_; clear hK K) | (refine hJ _ _ (Wk.refl _) ?_; clear hJ J) | clear hK K | clear hJ J | refine SW.skip ?_ | refine SW.ret ?_ | refine SW.retT ?_ | refine SW.retB ?_ | refine SW.exit ?_ | refine SW.exitT ?_ | refine SW.exitB ?_ | refine XN ?_ | refine SW.block ?_ | refine SW.normB ?_ | refine SW.normT ?_ | refine XT ?_ | refine XF ?_ | refine XC (fun h => ?_) (fun h => ?_) | simp only [go_sem, optI, Option.getD_some, Option.getD_none, Int.reduceToNat, reduceIte, Nat.reduceEqDiff, Nat.reduceAdd, Nat.reduceMul, Nat.reduceSub, Nat.reduceLT, Nat.reduceLeDiff, reduceCtorEq, *] | refine Xs _ (fun h => ?_) (fun h => ?_) | with_reducible refine And.intro ?_ ?_
        all_goals first | (intro r hr; simp at hr; subst hr; rfl) | (simp [bytesC]; omega) | (simp; done) | omega | rfl | skip
        all_goals (refine Xr1 (i := .s 31 0) ?_ ?_ <;> simp [Wn.leO, resOf, Wn.le, Wn.leL, Wn.cw, C.scal, scal, outM, idsTo, hAR])
theorem mc_Below (c : Cur) (n : Int) (hc : c.ok) (h1 : 1 ≤ n) (h2 : n ≤ 256) : MC Tryz.prog 41 [.ptr (.a 0) 0, vI n] [cuO c] (vI (cval c % n)) [some (cuO (cuS c))] [] := by
  have m1 := mc_Byte c hc
  have hv := cval_rng c
  generalize cval c = v at *
  have e1 : v.tmod n = v % n := Int.tmod_eq_emod_of_nonneg hv.1
  have e2 : IntKind.i64.wrap (v % n) = v % n := wrap64 (by have := Int.emod_nonneg v (show n ≠ 0 by omega); omega) (by have := Int.emod_lt_of_pos v (show 0 < n by omega); omega)
  have d1 : decide (n ≤ 0) = false := by simp; omega
  have d2 : decide (n ≤ 256) = true := by simp; omega
  have n0 : n ≠ 0 := by omega
  clear hc hv h1 h2
  simp only [cuO] at *
  generalize bytesC c.b = X at *
  generalize bytesC (cuS c).b = Y at *
  refine XM good (fn := Tryz.f41) rfl ?_
  try simp only [List.getD_cons_zero, List.getD_cons_succ]
  repeat' first | refine SW.step good fun K hK => ?_ | refine X2 good fun K hK => ?_ | refine X3 good fun K hK => ?_ | refine SW.seqK fun J hJ => ?_ | refine SW.last good fun K hK => ?_ | (refine hK _ ?_; clear hK K) | (refine hJ _ _ (Wk.refl _) ?_; clear hJ J) | clear hK K | clear hJ J | refine SW.skip ?_ | refine SW.ret ?_ | refine SW.retT ?_ | refine SW.retB ?_ | refine SW.exit ?_ | refine SW.exitT ?_ | refine SW.exitB ?_ | refine XN ?_ | refine SW.block ?_ | refine SW.normB ?_ | refine SW.normT ?_ | refine XT ?_ | refine XF ?_ | refine XC (fun h => ?_) (fun h => ?_) | (refine Xm (.a 0) ?_; first | refine Xd (m1) ?_ | refine Xa (m1) ?_ | refine Xb (m1) ?_) | simp only [go_sem, optI, Option.getD_some, Option.getD_none, Int.reduceToNat, reduceIte, Nat.reduceEqDiff, Nat.reduceAdd, Nat.reduceMul, Nat.reduceSub, Nat.reduceLT, Nat.reduceLeDiff, reduceCtorEq, *] | refine Xs _ (fun h => ?_) (fun h => ?_) | with_reducible refine And.intro ?_ ?_
  all_goals first | (intro r hr; simp at hr; subst hr; rfl) | (simp [bytesC]; omega) | (simp; done) | omega | rfl | skip
  all_goals first | (refine Xrm ?_ ?_ <;> simp [Wn.leO, resOf, Wn.le, Wn.leL, Wn.cw, C.scal, scal] <;> done) | (exfalso; simp_all; done)
end Go.Proofs.YtoemclhjcbcjaaaGreat.AB
namespace Go.Proofs.YtoemclhjcbcjaaaGreat.AB
open Go
set_option maxRecDepth 100000
set_option linter.unusedSimpArgs false
set_option linter.unusedVariables false
noncomputable def muC (c : Cur) : Nat := if c.i < c.b.length then (c.b.length - c.i) + NL + 2 else stopT c.h
theorem muC_le {c : Cur} (h : c.ok) : muC c ≤ c.b.length + NL + 2 := by
  have := stopT_le c.h
  unfold muC; split <;> omega
theorem muC_lt {c : Cur} (h : c.ok) (h12 : cval (cuS (cuS c)) % 16 = 12) : muC (cuS (cuS (cuS c))) < muC c := by
  by_cases hi : c.i < c.b.length
  · have e1 : c.i + 1 ≤ (cuS (cuS (cuS c))).i := by
      have a1 : (cuS c).i = c.i + 1 := by unfold cuS; simp [hi]
      have a2 : (cuS c).i ≤ (cuS (cuS c)).i := by
        show _ ≤ (if (cuS c).i < (cuS c).b.length then (cuS c).i + 1 else (cuS c).i)
        split <;> omega
      have a3 : (cuS (cuS c)).i ≤ (cuS (cuS (cuS c))).i := by
        show _ ≤ (if (cuS (cuS c)).i < (cuS (cuS c)).b.length then (cuS (cuS c)).i + 1 else (cuS (cuS c)).i)
        split <;> omega
      omega
    have e2 : (cuS (cuS (cuS c))).b = c.b := rfl
    have e3 := stopT_le (cuS (cuS (cuS c))).h
    unfold muC
    rw [if_pos hi, e2]
    split <;> omega
  · have s1 := pick_ge hi
    have s2 := pick_ge (c := cuS c) (by rw [s1.2]; exact hi)
    have s3 := pick_ge (c := cuS (cuS c)) (by rw [s2.2, s1.2]; exact hi)
    have hh : (cuS (cuS c)).h = lcg (lcg c.h) := rfl
    rw [s3.1, hh] at h12
    have h3 := stopT_lt (h := c.h) h12
    have e : cuS (cuS (cuS c)) = ⟨c.b, c.i, lcg3 c.h⟩ := by rw [s3.2, s2.2, s1.2]; rfl
    rw [e]
    unfold muC
    rw [if_neg hi, if_neg hi]
    exact h3
theorem rep_succ' {α : Type} (f : α → α) (n : Nat) (x : α) : rep f (n + 1) x = f (rep f n x) := by
  rw [rep_add f n 1]; rfl
theorem first_end {α : Type} (f : α → α) (P fin : α → Prop) (Φ : α → Nat) (hstep : ∀ s, P s → ¬ fin s → P (f s) ∧ Φ (f s) < Φ s) :
    ∀ (m : Nat) (s : α), Φ s ≤ m → P s → ∃ N, fin (rep f N s) ∧ (∀ k, k < N → ¬ fin (rep f k s)) ∧ ∀ k, k ≤ N → P (rep f k s) := by
  intro m
  induction m with
  | zero =>
    intro s hm hP
    by_cases hf : fin s
    · exact ⟨0, hf, fun k hk => by omega, fun k hk => by obtain rfl : k = 0 := by omega
                                                         exact hP⟩
    · have := (hstep s hP hf).2; omega
  | succ m ih =>
    intro s hm hP
    by_cases hf : fin s
    · exact ⟨0, hf, fun k hk => by omega, fun k hk => by obtain rfl : k = 0 := by omega
                                                         exact hP⟩
    · obtain ⟨h1, h2⟩ := hstep s hP hf
      obtain ⟨N, n1, n2, n3⟩ := ih (f s) (by omega) h1
      refine ⟨N + 1, n1, fun k hk => ?_, fun k hk => ?_⟩
      · cases k with
        | zero => exact hf
        | succ k => exact n2 k (by omega)
      · cases k with
        | zero => exact hP
        | succ k => exact n3 k (by omega)
structure LSt where
  c : Cur
  said : List Cred
  out : List Event
def nilCr : Cred := ⟨0, ⟨0, 0⟩, 0, ⟨0, 0⟩, ⟨0, 0⟩, 0, 0⟩
def evN (k p n : Int) (c : Cred) (t : List UInt8) : Event := ⟨k, p, n, c, ⟨t.toArray⟩⟩
structure DF where
  FC : Cur → Cred × Cur
  FA : Cur → Cred × Cur
  FP : Cur → Int × Cur
  FB : Cur → List UInt8 × Cur
structure DF.good (F : DF) : Prop where
  c : ∀ c, c.ok → (F.FC c).2.b = c.b ∧ (F.FC c).2.ok
  a : ∀ c, c.ok → (F.FA c).2.b = c.b ∧ (F.FA c).2.ok
  p : ∀ c, c.ok → (F.FP c).2.b = c.b ∧ (F.FP c).2.ok
  b : ∀ c, c.ok → (F.FB c).2.b = c.b ∧ (F.FB c).2.ok
  t : ∀ c, c.ok → (F.FB c).1.length ≤ 400
def nextL (n : Nat) (F : DF) (s : LSt) : LSt :=
  if cval (cuS (cuS s.c)) % 16 < 3 then ⟨cuS (cuS (cuS s.c)), s.said, s.out ++ [evN 1 (cval s.c % n) (cval (cuS s.c) % 256) nilCr []]⟩
  else if cval (cuS (cuS s.c)) % 16 = 3 then ⟨(F.FP (cuS (cuS (cuS s.c)))).2, s.said, s.out ++ [evN (F.FP (cuS (cuS (cuS s.c)))).1 (cval s.c % n) 0 nilCr []]⟩
  else if cval (cuS (cuS s.c)) % 16 < 7 then ⟨cuS (cuS (cuS s.c)), s.said, s.out ++ [evN 4 (cval s.c % n) 0 nilCr []]⟩
  else if cval (cuS (cuS s.c)) % 16 = 7 then ⟨cuS (cuS (cuS s.c)), s.said, s.out ++ [evN 5 (cval s.c % n) 0 nilCr []]⟩
  else if cval (cuS (cuS s.c)) % 16 = 8 then ⟨cuS (cuS (cuS s.c)), s.said, s.out ++ [evN 6 (cval s.c % n) 0 nilCr []]⟩
  else if cval (cuS (cuS s.c)) % 16 < 12 then ⟨(F.FC (cuS (cuS (cuS s.c)))).2, s.said ++ [(F.FC (cuS (cuS (cuS s.c)))).1], s.out ++ [evN 7 (cval s.c % n) 0 (F.FC (cuS (cuS (cuS s.c)))).1 []]⟩
  else if cval (cuS (cuS s.c)) % 16 = 12 then
    (if s.said.length = 0 then ⟨cuS (cuS (cuS s.c)), s.said, s.out⟩
    else ⟨cuS (cuS (cuS (cuS s.c))), s.said, s.out ++ [evN 8 (cval s.c % n) 0 (s.said.getD (cval (cuS (cuS (cuS s.c))) % s.said.length).toNat nilCr) []]⟩)
  else if cval (cuS (cuS s.c)) % 16 = 13 then ⟨(F.FA (cuS (cuS (cuS s.c)))).2, s.said, s.out ++ [evN 9 (cval s.c % n) 0 (F.FA (cuS (cuS (cuS s.c)))).1 []]⟩
  else if cval (cuS (cuS s.c)) % 16 = 14 then ⟨(F.FB (cuS (cuS (cuS s.c)))).2, s.said, s.out ++ [evN 11 (cval s.c % n) (cval (cuS s.c) % 256) nilCr (F.FB (cuS (cuS (cuS s.c)))).1]⟩
  else ⟨cuS (cuS (cuS s.c)), s.said, s.out ++ [evN 10 0 (cval (cuS s.c) % 256) nilCr []]⟩
structure LInv (b : List UInt8) (most : Nat) (s : LSt) : Prop where
  ok : s.c.ok
  b : s.c.b = b
  said : s.said.length ≤ s.out.length
  out : s.out.length ≤ most
  text : ∀ e, e ∈ s.out → (sb e.text).length ≤ 400
noncomputable def phiL (b : List UInt8) (most : Nat) (s : LSt) : Nat := (most - s.out.length) * (b.length + NL + 3) + muC s.c
theorem phi_add {b : List UInt8} {most : Nat} {s t : LSt} (h1 : s.out.length < most) (h2 : t.out.length = s.out.length + 1) (h3 : t.c.b = b) (h4 : t.c.ok) : phiL b most t < phiL b most s := by
  have := muC_le h4
  rw [h3] at this
  unfold phiL
  obtain ⟨d, hd⟩ : ∃ d, most - s.out.length = d + 1 := ⟨most - s.out.length - 1, by omega⟩
  rw [hd, show most - t.out.length = d by omega, Nat.succ_mul]
  generalize d * (b.length + NL + 3) = m
  omega
theorem inv_add {b : List UInt8} {most : Nat} {s : LSt} {c' : Cur} {S' : List Cred} {e : Event} (h : LInv b most s) (hl : s.out.length < most) (hb : c'.b = b) (hc : c'.ok) (hS : S'.length ≤ s.said.length + 1) (he : (sb e.text).length ≤ 400) :
    LInv b most ⟨c', S', s.out ++ [e]⟩ ∧ phiL b most ⟨c', S', s.out ++ [e]⟩ < phiL b most s :=
  ⟨⟨hc, hb, by have := h.said; simp only [List.length_append, List.length_cons, List.length_nil]; omega, by simp only [List.length_append, List.length_cons, List.length_nil]; omega, fun x hx => by
    rcases List.mem_append.1 hx with hx | hx
    · exact h.text x hx
    · simp only [List.mem_cons, List.not_mem_nil, or_false] at hx; subst hx; exact he⟩, phi_add hl (by simp) hb hc⟩
theorem sb_evN (k p n : Int) (c : Cred) (t : List UInt8) : sb (evN k p n c t).text = t := by simp [evN, sb]
theorem nextL_ok {b : List UInt8} {most n : Nat} {F : DF} (hF : F.good) {s : LSt} (h : LInv b most s) (hl : s.out.length < most) : LInv b most (nextL n F s) ∧ phiL b most (nextL n F s) < phiL b most s := by
  have k1 := cuS_ok h.ok
  have k2 := cuS_ok k1
  have k3 := cuS_ok k2
  have k4 := cuS_ok k3
  have b3 : (cuS (cuS (cuS s.c))).b = b := h.b
  have b4 : (cuS (cuS (cuS (cuS s.c)))).b = b := h.b
  have hC := hF.c _ k3
  have hA := hF.a _ k3
  have hP := hF.p _ k3
  have hB := hF.b _ k3
  have hT := hF.t _ k3
  have z : ∀ k p n c, (sb (evN k p n c []).text).length ≤ 400 := fun k p n c => by rw [sb_evN]; simp
  unfold nextL
  split
  · exact inv_add h hl b3 k3 (by omega) (z ..)
  split
  · exact inv_add h hl (hP.1.trans b3) hP.2 (by omega) (z ..)
  split
  · exact inv_add h hl b3 k3 (by omega) (z ..)
  split
  · exact inv_add h hl b3 k3 (by omega) (z ..)
  split
  · exact inv_add h hl b3 k3 (by omega) (z ..)
  split
  · exact inv_add h hl (hC.1.trans b3) hC.2 (by simp) (z ..)
  split
  · rename_i h12
    split
    · rename_i h0
      refine ⟨⟨k3, b3, h.said, h.out, h.text⟩, ?_⟩
      have := muC_lt h.ok h12
      unfold phiL
      simp only
      omega
    · exact inv_add h hl b4 k4 (by omega) (z ..)
  split
  · exact inv_add h hl (hA.1.trans b3) hA.2 (by omega) (z ..)
  split
  · exact inv_add h hl (hB.1.trans b3) hB.2 (by omega) (by rw [sb_evN]; exact hT)
  · exact inv_add h hl b3 k3 (by omega) (z ..)
/-- so long the loop goes -/
theorem life_ends (b : List UInt8) (most n : Nat) {F : DF} (hF : F.good) (s : LSt) (h : LInv b most s) :
    ∃ N, (rep (nextL n F) N s).out.length = most ∧ (∀ k, k < N → (rep (nextL n F) k s).out.length < most) ∧ ∀ k, k ≤ N → LInv b most (rep (nextL n F) k s) := by
  obtain ⟨N, h1, h2, h3⟩ := first_end (nextL n F) (LInv b most) (fun s => ¬ s.out.length < most) (phiL b most) (fun s hs hf => nextL_ok hF hs (by simpa using hf)) _ s (Nat.le_refl _) h
  exact ⟨N, by have := (h3 N (Nat.le_refl _)).out; simp only [Nat.not_lt] at h1; omega, fun k hk => by simpa using h2 k hk, h3⟩
end Go.Proofs.YtoemclhjcbcjaaaGreat.AB
namespace Go.Proofs.YtoemclhjcbcjaaaGreat.AB
open Go
set_option maxRecDepth 100000
set_option linter.unusedSimpArgs false
set_option linter.unusedVariables false
attribute [go_sem] cuO
def Fwd (c c' : Cur) : Prop := c'.b = c.b ∧ c'.ok
theorem Fwd.trans {a b c : Cur} (h : Fwd a b) (k : Fwd b c) : Fwd a c := ⟨k.1.trans h.1, k.2⟩
theorem mod_rng (v n : Int) (h : 1 ≤ n) : 0 ≤ v % n ∧ v % n < n := ⟨Int.emod_nonneg v (by omega), Int.emod_lt_of_pos v (by omega)⟩
theorem below_ex (c : Cur) (n : Int) (hc : c.ok) (h1 : 1 ≤ n) (h2 : n ≤ 256) : ∃ x c', (0 ≤ x ∧ x < n) ∧ Fwd c c' ∧ MC Tryz.prog 41 [.ptr (.a 0) 0, vI n] [cuO c] (vI x) [some (cuO c')] [] :=
  ⟨cval c % n, cuS c, mod_rng _ _ h1, ⟨rfl, cuS_ok hc⟩, mc_Below c n hc h1 h2⟩
theorem below4_ex (c : Cur) (n : Int) (hc : c.ok) (h1 : 256 < n) (h2 : n ≤ 4294967296) : ∃ x c', (0 ≤ x ∧ x < n) ∧ Fwd c c' ∧ MC Tryz.prog 41 [.ptr (.a 0) 0, vI n] [cuO c] (vI x) [some (cuO c')] [] := by
  have k1 := cuS_ok hc
  have k2 := cuS_ok k1
  have k3 := cuS_ok k2
  have k4 := cuS_ok k3
  have m1 := mc_Byte c hc
  have m2 := mc_Byte _ k1
  have m3 := mc_Byte _ k2
  have m4 := mc_Byte _ k3
  have v1 := cval_rng c
  have v2 := cval_rng (cuS c)
  have v3 := cval_rng (cuS (cuS c))
  have v4 := cval_rng (cuS (cuS (cuS c)))
  have hf : Fwd c (cuS (cuS (cuS (cuS c)))) := ⟨rfl, k4⟩
  refine ⟨(cval c * 16777216 + cval (cuS c) * 65536 + cval (cuS (cuS c)) * 256 + cval (cuS (cuS (cuS c)))) % n, _, mod_rng _ _ (by omega), hf, ?_⟩
  generalize cval (cuS (cuS (cuS c))) = x4 at *
  generalize cval (cuS (cuS c)) = x3 at *
  generalize cval (cuS c) = x2 at *
  generalize cval c = x1 at *
  generalize cuS (cuS (cuS (cuS c))) = c4 at *
  generalize cuS (cuS (cuS c)) = c3 at *
  generalize cuS (cuS c) = c2 at *
  generalize cuS c = c1 at *
  have d1 : decide (n ≤ 0) = false := by simp; omega
  have d2 : decide (n ≤ 256) = false := by simp; omega
  have n0 : n ≠ 0 := by omega
  have w1 : IntKind.i64.wrap (x1 * 16777216) = x1 * 16777216 := wrap64 (by omega) (by omega)
  have w2 : IntKind.i64.wrap (x2 * 65536) = x2 * 65536 := wrap64 (by omega) (by omega)
  have w3 : IntKind.i64.wrap (x3 * 256) = x3 * 256 := wrap64 (by omega) (by omega)
  have w4 : IntKind.i64.wrap (x1 * 16777216 + x2 * 65536) = x1 * 16777216 + x2 * 65536 := wrap64 (by omega) (by omega)
  have w5 : IntKind.i64.wrap (x1 * 16777216 + x2 * 65536 + x3 * 256) = x1 * 16777216 + x2 * 65536 + x3 * 256 := wrap64 (by omega) (by omega)
  have w6 : IntKind.i64.wrap (x1 * 16777216 + x2 * 65536 + x3 * 256 + x4) = x1 * 16777216 + x2 * 65536 + x3 * 256 + x4 := wrap64 (by omega) (by omega)
  have t1 : (x1 * 16777216 + x2 * 65536 + x3 * 256 + x4).tmod n = (x1 * 16777216 + x2 * 65536 + x3 * 256 + x4) % n := Int.tmod_eq_emod_of_nonneg (by omega)
  have t2 : IntKind.i64.wrap ((x1 * 16777216 + x2 * 65536 + x3 * 256 + x4) % n) = (x1 * 16777216 + x2 * 65536 + x3 * 256 + x4) % n := by
    have := mod_rng (x1 * 16777216 + x2 * 65536 + x3 * 256 + x4) n (by omega)
    exact wrap64 (by omega) (by omega)
  clear k1 k2 k3 k4 hf v1 v2 v3 v4 hc h1 h2
  simp only [cuO] at *
  refine XM good (fn := Tryz.f41) rfl ?_
  try simp only [List.getD_cons_zero, List.getD_cons_succ]
  repeat' first | refine SW.step good fun K hK => ?_ | refine X2 good fun K hK => ?_ | refine X3 good fun K hK => ?_ | refine SW.seqK fun J hJ => ?_ | refine SW.last good fun K hK => ?_ | (refine hK _ ?_; clear hK K) | (refine hJ _ _ (Wk.refl _) ?_; clear hJ J) | clear hK K | clear hJ J | refine SW.skip ?_ | refine SW.ret ?_ | refine SW.retT ?_ | refine SW.retB ?_ | refine SW.exit ?_ | refine SW.exitT ?_ | refine SW.exitB ?_ | refine XN ?_ | refine SW.block ?_ | refine SW.normB ?_ | refine SW.normT ?_ | refine XT ?_ | refine XF ?_ | refine XC (fun h => ?_) (fun h => ?_) | (refine Xm (.a 0) ?_; first | refine Xd (m1) ?_ | refine Xa (m1) ?_ | refine Xb (m1) ?_) | (refine Xm (.a 0) ?_; first | refine Xd (m2) ?_ | refine Xa (m2) ?_ | refine Xb (m2) ?_) | (refine Xm (.a 0) ?_; first | refine Xd (m3) ?_ | refine Xa (m3) ?_ | refine Xb (m3) ?_) | (refine Xm (.a 0) ?_; first | refine Xd (m4) ?_ | refine Xa (m4) ?_ | refine Xb (m4) ?_) | simp only [go_sem, optI, Option.getD_some, Option.getD_none, Int.reduceToNat, reduceIte, Nat.reduceEqDiff, Nat.reduceAdd, Nat.reduceMul, Nat.reduceSub, Nat.reduceLT, Nat.reduceLeDiff, reduceCtorEq, *] | refine Xs _ (fun h => ?_) (fun h => ?_) | with_reducible refine And.intro ?_ ?_
  all_goals first | (intro r hr; simp at hr; subst hr; rfl) | (simp [bytesC]; omega) | (simp; done) | omega | rfl | skip
  all_goals first | (refine Xrm ?_ ?_ <;> simp [Wn.leO, resOf, Wn.le, Wn.leL, Wn.cw, C.scal, scal, cuO, encRole, encCred] <;> done) | (exfalso; simp_all; done)
theorem belowA_ex (c : Cur) (n : Int) (hc : c.ok) (h1 : 1 ≤ n) (h2 : n ≤ 4294967296) : ∃ x c', (0 ≤ x ∧ x < n) ∧ Fwd c c' ∧ MC Tryz.prog 41 [.ptr (.a 0) 0, vI n] [cuO c] (vI x) [some (cuO c')] [] := by
  by_cases h : n ≤ 256
  · exact below_ex c n hc h1 h
  · exact below4_ex c n hc (by omega) h2
theorem once_ex (c : Cur) (n : Int) (hc : c.ok) (h1 : 1 ≤ n) (h2 : n ≤ 256) : ∃ b c', Fwd c c' ∧ MC Tryz.prog 32 [.ptr (.a 0) 0, vI n] [cuO c] (vB b) [some (cuO c')] [] := by
  obtain ⟨x, c1, hx, hf, m1⟩ := below_ex c n hc h1 h2
  refine ⟨decide (x = 0), c1, hf, ?_⟩
  clear hx hf hc h1 h2
  simp only [cuO] at *
  refine XM good (fn := Tryz.f32) rfl ?_
  try simp only [List.getD_cons_zero, List.getD_cons_succ]
  repeat' first | refine SW.step good fun K hK => ?_ | refine X2 good fun K hK => ?_ | refine X3 good fun K hK => ?_ | refine SW.seqK fun J hJ => ?_ | refine SW.last good fun K hK => ?_ | (refine hK _ ?_; clear hK K) | (refine hJ _ _ (Wk.refl _) ?_; clear hJ J) | clear hK K | clear hJ J | refine SW.skip ?_ | refine SW.ret ?_ | refine SW.retT ?_ | refine SW.retB ?_ | refine SW.exit ?_ | refine SW.exitT ?_ | refine SW.exitB ?_ | refine XN ?_ | refine SW.block ?_ | refine SW.normB ?_ | refine SW.normT ?_ | refine XT ?_ | refine XF ?_ | refine XC (fun h => ?_) (fun h => ?_) | (refine Xm (.a 0) ?_; first | refine Xd (m1) ?_ | refine Xa (m1) ?_ | refine Xb (m1) ?_) | simp only [go_sem, optI, Option.getD_some, Option.getD_none, Int.reduceToNat, reduceIte, Nat.reduceEqDiff, Nat.reduceAdd, Nat.reduceMul, Nat.reduceSub, Nat.reduceLT, Nat.reduceLeDiff, reduceCtorEq, *] | refine Xs _ (fun h => ?_) (fun h => ?_) | with_reducible refine And.intro ?_ ?_
  all_goals first | (intro r hr; simp at hr; subst hr; rfl) | (simp [bytesC]; omega) | (simp; done) | omega | rfl | skip
  all_goals first | (refine Xrm ?_ ?_ <;> simp [Wn.leO, resOf, Wn.le, Wn.leL, Wn.cw, C.scal, scal, cuO, encRole, encCred] <;> done) | (exfalso; simp_all; done)
theorem pickInt_ex (c : Cur) (L : List Int) (hc : c.ok) (h1 : 1 ≤ L.length) (h2 : L.length ≤ 256) : ∃ x c', x ∈ L ∧ Fwd c c' ∧ MC Tryz.prog 31 [.ptr (.a 0) 0, .c false (.sl (L.map intC))] [cuO c] (vI x) [some (cuO c')] [] := by
  obtain ⟨x, c1, hx, hf, m1⟩ := below_ex c L.length hc (by omega) (by omega)
  obtain ⟨k, rfl⟩ : ∃ k : Nat, x = (k : Int) := ⟨x.toNat, by omega⟩
  have hk : k < L.length := by omega
  have e := getD_map L intC [] hk
  refine ⟨L[k], c1, List.getElem_mem hk, hf, ?_⟩
  generalize L[k] = y at *
  clear hf hc hx
  simp only [cuO] at *
  refine XM good (fn := Tryz.f31) rfl ?_
  try simp only [List.getD_cons_zero, List.getD_cons_succ]
  repeat' first | refine SW.step good fun K hK => ?_ | refine X2 good fun K hK => ?_ | refine X3 good fun K hK => ?_ | refine SW.seqK fun J hJ => ?_ | refine SW.last good fun K hK => ?_ | (refine hK _ ?_; clear hK K) | (refine hJ _ _ (Wk.refl _) ?_; clear hJ J) | clear hK K | clear hJ J | refine SW.skip ?_ | refine SW.ret ?_ | refine SW.retT ?_ | refine SW.retB ?_ | refine SW.exit ?_ | refine SW.exitT ?_ | refine SW.exitB ?_ | refine XN ?_ | refine SW.block ?_ | refine SW.normB ?_ | refine SW.normT ?_ | refine XT ?_ | refine XF ?_ | refine XC (fun h => ?_) (fun h => ?_) | (refine Xm (.a 0) ?_; first | refine Xd (m1) ?_ | refine Xa (m1) ?_ | refine Xb (m1) ?_) | simp only [go_sem, optI, Option.getD_some, Option.getD_none, Int.reduceToNat, reduceIte, Nat.reduceEqDiff, Nat.reduceAdd, Nat.reduceMul, Nat.reduceSub, Nat.reduceLT, Nat.reduceLeDiff, reduceCtorEq, *] | refine Xs _ (fun h => ?_) (fun h => ?_) | with_reducible refine And.intro ?_ ?_
  all_goals first | (intro r hr; simp at hr; subst hr; rfl) | (simp [bytesC]; omega) | (simp; done) | omega | rfl | skip
  all_goals first | (refine Xrm ?_ ?_ <;> simp [Wn.leO, resOf, Wn.le, Wn.leL, Wn.cw, C.scal, scal, cuO, encRole, encCred] <;> done) | (exfalso; simp_all; done)
theorem role_ex (c : Cur) (hc : c.ok) : ∃ (r : Role) (c' : Cur), ((0 ≤ r.who ∧ r.who < 3) ∧ 0 ≤ r.name ∧ r.name < 2) ∧ Fwd c c' ∧ MC Tryz.prog 80 [.ptr (.a 0) 0] [cuO c] (encRole r) [some (cuO c')] [] := by
  obtain ⟨x, c1, hx, hf, m1⟩ := below_ex c 3 hc (by decide) (by decide)
  obtain ⟨y, c2, hy, hg, m2⟩ := below_ex c1 2 hf.2 (by decide) (by decide)
  refine ⟨⟨x, y⟩, c2, ⟨hx, hy⟩, hf.trans hg, ?_⟩
  clear hx hf hc hy hg
  simp only [cuO] at *
  refine XM good (fn := Tryz.f80) rfl ?_
  try simp only [List.getD_cons_zero, List.getD_cons_succ]
  repeat' first | refine SW.step good fun K hK => ?_ | refine X2 good fun K hK => ?_ | refine X3 good fun K hK => ?_ | refine SW.seqK fun J hJ => ?_ | refine SW.last good fun K hK => ?_ | (refine hK _ ?_; clear hK K) | (refine hJ _ _ (Wk.refl _) ?_; clear hJ J) | clear hK K | clear hJ J | refine SW.skip ?_ | refine SW.ret ?_ | refine SW.retT ?_ | refine SW.retB ?_ | refine SW.exit ?_ | refine SW.exitT ?_ | refine SW.exitB ?_ | refine XN ?_ | refine SW.block ?_ | refine SW.normB ?_ | refine SW.normT ?_ | refine XT ?_ | refine XF ?_ | refine XC (fun h => ?_) (fun h => ?_) | (refine Xm (.a 0) ?_; first | refine Xd (m1) ?_ | refine Xa (m1) ?_ | refine Xb (m1) ?_) | (refine Xm (.a 0) ?_; first | refine Xd (m2) ?_ | refine Xa (m2) ?_ | refine Xb (m2) ?_) | simp only [go_sem, optI, Option.getD_some, Option.getD_none, Int.reduceToNat, reduceIte, Nat.reduceEqDiff, Nat.reduceAdd, Nat.reduceMul, Nat.reduceSub, Nat.reduceLT, Nat.reduceLeDiff, reduceCtorEq, *] | refine Xs _ (fun h => ?_) (fun h => ?_) | with_reducible refine And.intro ?_ ?_
  all_goals first | (intro r hr; simp at hr; subst hr; rfl) | (simp [bytesC]; omega) | (simp; done) | omega | rfl | skip
  all_goals first | (refine Xrm ?_ ?_ <;> simp [Wn.leO, resOf, Wn.le, Wn.leL, Wn.cw, C.scal, scal, cuO, encRole, encCred] <;> done) | (exfalso; simp_all; done)
end Go.Proofs.YtoemclhjcbcjaaaGreat.AB
