/- Numbers and texts are read: the program's functions and the reference's. -/
import Derived.Test.YtoemclhjcbcjaaaGreatAbFlText
namespace Go.Proofs.YtoemclhjcbcjaaaGreat.AB
open Go
set_option maxRecDepth 100000
set_option linter.unusedSimpArgs false
set_option linter.unusedVariables false
/-- a number is read, seven bits a byte, the low ones first: k bytes are behind, n is what they say -/
def rvGo : Nat → Nat → Nat → Nat → List UInt8 → Option (Nat × Nat)
  | 0, _, _, _, _ => none
  | _ + 1, _, _, _, [] => none
  | f + 1, at', k, n, x :: r =>
    if x.toNat > 127 then rvGo f at' (k + 1) (n + x.toNat % 128 * 128 ^ k) r
    else if (x = 0 ∧ 0 < k) ∨ 1000000000 < n + x.toNat * 128 ^ k then none else some (n + x.toNat * 128 ^ k, at' + k + 1)
def readVar (t : List UInt8) (p : Int) : Option (Nat × Nat) := if 0 ≤ p ∧ p ≤ t.length then rvGo 5 p.toNat 0 0 (t.drop p.toNat) else none
/-- what some bytes say -/
def sayL : List UInt8 → Nat
  | [] => 0
  | x :: r => x.toNat % 128 + 128 * sayL r
theorem sayL_app (a : List UInt8) (x : UInt8) : sayL (a ++ [x]) = sayL a + x.toNat % 128 * 128 ^ a.length := by
  induction a with
  | nil => simp [sayL]
  | cons y a ih => simp only [List.cons_append, sayL, ih, List.length_cons, Nat.pow_succ, Nat.mul_add]; rw [Nat.add_assoc]; congr 2; rw [Nat.mul_comm (128 ^ a.length) 128, ← Nat.mul_assoc, ← Nat.mul_assoc, Nat.mul_comm 128]
theorem sayL_lt (a : List UInt8) : sayL a < 128 ^ a.length := by
  induction a with
  | nil => simp [sayL]
  | cons y a ih => simp only [sayL, List.length_cons, Nat.pow_succ]; omega
theorem u8_lt (x : UInt8) : x.toNat < 256 := x.toNat_lt
/-- bytes that a number has: just then the last one is not 0, or there is but one -/
theorem varN_say : ∀ (a : List UInt8) (x : UInt8), (∀ y, y ∈ a → 127 < y.toNat) → x.toNat ≤ 127 → (varN (sayL (a ++ [x])) = a ++ [x] ↔ (a = [] ∨ x ≠ 0))
  | [], x, _, hx => by
    have e1 : sayL ([] ++ [x]) = x.toNat := by simp [sayL]; omega
    rw [e1]; unfold varN; rw [if_neg (by omega)]; simp
  | y :: a, x, ha, hx => by
    have hy := ha y (by simp)
    have hy2 := u8_lt y
    have ih := varN_say a x (fun z hz => ha z (List.mem_cons_of_mem _ hz)) hx
    have e1 : sayL ((y :: a) ++ [x]) = y.toNat % 128 + 128 * sayL (a ++ [x]) := rfl
    rw [e1]
    by_cases h0 : sayL (a ++ [x]) = 0
    · have hx0 : x = 0 := by
        rw [sayL_app] at h0
        have h1 : x.toNat % 128 * 128 ^ a.length = 0 := by omega
        have h2 : 0 < 128 ^ a.length := Nat.pow_pos (by omega)
        have h3 : x.toNat % 128 = 0 := (Nat.mul_eq_zero.1 h1).resolve_right (by omega)
        exact UInt8.toNat_inj.1 (by simp; omega)
      rw [h0]; unfold varN; rw [if_neg (by omega)]
      simp [hx0]
    · have h1 : varN (y.toNat % 128 + 128 * sayL (a ++ [x])) = y :: varN (sayL (a ++ [x])) := by
        conv => lhs; unfold varN
        rw [if_pos (by omega)]
        congr 1
        · have : (y.toNat % 128 + 128 * sayL (a ++ [x])) % 128 + 128 = y.toNat := by omega
          rw [this]; simp
        · congr 1; omega
      rw [h1]
      simp only [List.cons_append, List.cons.injEq, true_and, reduceCtorEq, false_or]
      rw [ih]
      constructor
      · rintro (rfl | h)
        · intro hx0; subst hx0; simp [sayL] at h0
        · exact h
      · exact .inr
theorem rvGo_spec : ∀ (f p k n : Nat) (r : List UInt8) (a : List UInt8), a.length = k → (∀ y, y ∈ a → 127 < y.toNat) → n = sayL a → ∀ v e, rvGo f p k n r = some (v, e) →
    v ≤ 1000000000 ∧ p + k < e ∧ e ≤ p + k + r.length ∧ varN v = a ++ r.take (e - p - k) ∧ e ≤ p + k + f
  | 0, _, _, _, _, _, _, _, _, v, e, h => by simp [rvGo] at h
  | f + 1, _, _, _, [], _, _, _, _, v, e, h => by simp [rvGo] at h
  | f + 1, p, k, n, x :: r, a, hk, ha, hn, v, e, h => by
    simp only [rvGo] at h
    split at h
    · rename_i hx
      obtain ⟨h1, h2, h3, h4, h5⟩ := rvGo_spec f p (k + 1) _ r (a ++ [x]) (by simp [hk]) (by intro y hy; rcases List.mem_append.1 hy with hy | hy; exact ha y hy; simp at hy; subst hy; omega) (by rw [sayL_app, hk, hn]) v e h
      refine ⟨h1, by omega, by simp; omega, ?_, by omega⟩
      rw [h4, List.append_assoc]
      congr 1
      rw [show e - p - k = (e - p - (k + 1)) + 1 by omega, List.take_succ_cons]; rfl
    · rename_i hx
      split at h
      · cases h
      · rename_i hc
        simp only [not_or, not_and, Nat.not_lt] at hc
        simp only [Option.some.injEq, Prod.mk.injEq] at h
        obtain ⟨rfl, rfl⟩ := h
        refine ⟨hc.2, by omega, by simp only [List.length_cons]; omega, ?_, by omega⟩
        have e1 : n + x.toNat * 128 ^ k = sayL (a ++ [x]) := by rw [sayL_app, hn, hk, Nat.mod_eq_of_lt (by omega)]
        rw [e1, (varN_say a x ha (by omega)).2]
        · rw [show p + k + 1 - p - k = 1 by omega]; try rfl
        · by_cases ha0 : a = []
          · exact .inl ha0
          · right; intro hx0
            have := hc.1 hx0
            have : a.length ≠ 0 := fun q => ha0 (List.eq_nil_of_length_eq_zero q)
            omega
theorem readVar_spec {t : List UInt8} {p : Int} {v e : Nat} (h : readVar t p = some (v, e)) : 0 ≤ p ∧ v ≤ 1000000000 ∧ p.toNat < e ∧ e ≤ t.length ∧ varN v = (t.drop p.toNat).take (e - p.toNat) := by
  unfold readVar at h
  split at h
  · rename_i hp
    obtain ⟨h1, h2, h3, h4, _⟩ := rvGo_spec 5 p.toNat 0 0 _ [] rfl (by simp) rfl v e h
    refine ⟨hp.1, h1, by omega, ?_, by simpa using h4⟩
    rw [List.length_drop] at h3; omega
  · cases h
/-- a text is read: how long it is, and so many bytes -/
def readShort (t : List UInt8) (p : Int) : Option (List UInt8 × Nat) :=
  match readVar t p with
  | some (n, e) => if 20000 < n ∨ t.length - e < n then none else some ((t.drop e).take n, e + n)
  | none => none
/-- the place, and whether there was none -/
abbrev Sc := Int × Bool
def scNum (t : List UInt8) (most : Int) (s : Sc) : Int × Sc :=
  if s.2 = true then (0, s) else match readVar t s.1 with
    | some (n, e) => if most < n then (0, s.1, true) else (n, e, false)
    | none => (0, s.1, true)
def scText (t : List UInt8) (s : Sc) : List UInt8 × Sc :=
  if s.2 = true then ([], s) else match readShort t s.1 with
    | some (x, e) => (x, e, false)
    | none => ([], s.1, true)
/-- what lies between two places -/
def cut (t : List UInt8) (p e : Int) : List UInt8 := (t.drop p.toNat).take (e.toNat - p.toNat)
theorem cut_app {t : List UInt8} {p q e : Int} (h1 : p ≤ q) (h2 : q ≤ e) : cut t p q ++ cut t q e = cut t p e := by
  unfold cut
  rw [show e.toNat - p.toNat = (q.toNat - p.toNat) + (e.toNat - q.toNat) by omega, List.take_add, List.drop_drop, show p.toNat + (q.toNat - p.toNat) = q.toNat by omega]
theorem scNum_ok {t : List UInt8} {most : Int} {s : Sc} (h : (scNum t most s).2.2 = false) : s.2 = false ∧ 0 ≤ s.1 ∧ 0 ≤ (scNum t most s).1 ∧ (scNum t most s).1 ≤ most ∧ (scNum t most s).1 ≤ 1000000000 ∧ s.1 < (scNum t most s).2.1 ∧ (scNum t most s).2.1 ≤ t.length ∧ varI (scNum t most s).1 = cut t s.1 (scNum t most s).2.1 := by
  unfold scNum at h ⊢
  by_cases hb : s.2 = true
  · rw [if_pos hb] at h; simp [hb] at h
  · rw [if_neg hb] at h ⊢
    cases hr : readVar t s.1 with
    | none => rw [hr] at h; simp at h
    | some ne =>
      obtain ⟨n, e⟩ := ne
      rw [hr] at h
      simp only at h ⊢
      split at h
      · simp at h
      · rename_i hm
        rw [if_neg hm]
        obtain ⟨h1, h2, h3, h4, h5⟩ := readVar_spec hr
        refine ⟨by simpa using hb, h1, by simp, by simp only; omega, by simp only; omega, by simp only; omega, by simp only; omega, ?_⟩
        simp only
        rw [varI_nat (by omega), h5]; unfold cut; simp
theorem readShort_spec {t : List UInt8} {p : Int} {x : List UInt8} {e : Nat} (h : readShort t p = some (x, e)) : 0 ≤ p ∧ x.length ≤ 20000 ∧ p.toNat < e ∧ e ≤ t.length ∧ varN x.length ++ x = (t.drop p.toNat).take (e - p.toNat) := by
  unfold readShort at h
  split at h
  · rename_i n e' hr
    split at h
    · cases h
    · rename_i hc
      simp only [not_or, Nat.not_lt] at hc
      simp only [Option.some.injEq, Prod.mk.injEq] at h
      obtain ⟨rfl, rfl⟩ := h
      obtain ⟨h1, h2, h3, h4, h5⟩ := readVar_spec hr
      have hl : ((t.drop e').take n).length = n := by simp; omega
      rw [hl]
      refine ⟨h1, by omega, by omega, by omega, ?_⟩
      rw [h5, show e' + n - p.toNat = (e' - p.toNat) + n by omega, List.take_add, List.drop_drop, show p.toNat + (e' - p.toNat) = e' by omega]
  · cases h
theorem scText_ok {t : List UInt8} {s : Sc} (h : (scText t s).2.2 = false) : s.2 = false ∧ 0 ≤ s.1 ∧ (scText t s).1.length ≤ 20000 ∧ s.1 < (scText t s).2.1 ∧ (scText t s).2.1 ≤ t.length ∧ varI (scText t s).1.length ++ (scText t s).1 = cut t s.1 (scText t s).2.1 := by
  unfold scText at h ⊢
  by_cases hb : s.2 = true
  · rw [if_pos hb] at h; simp [hb] at h
  · rw [if_neg hb] at h ⊢
    cases hr : readShort t s.1 with
    | none => rw [hr] at h; simp at h
    | some ne =>
      obtain ⟨x, e⟩ := ne
      simp only
      obtain ⟨h1, h2, h3, h4, h5⟩ := readShort_spec hr
      refine ⟨by simpa using hb, h1, h2, by omega, by omega, ?_⟩
      rw [varI_nat (by omega), h5]; unfold cut; simp
theorem scNum_bad {t : List UInt8} {most : Int} {s : Sc} (h : s.2 = true) : scNum t most s = (0, s) := by unfold scNum; rw [if_pos h]
theorem scText_bad {t : List UInt8} {s : Sc} (h : s.2 = true) : scText t s = ([], s) := by unfold scText; rw [if_pos h]
theorem scNum_le (t : List UInt8) (most : Int) (h : 0 ≤ most) (s : Sc) : 0 ≤ (scNum t most s).1 ∧ (scNum t most s).1 ≤ most ∧ (scNum t most s).1 ≤ 1000000000 := by
  by_cases hb : (scNum t most s).2.2 = false
  · have := scNum_ok hb; omega
  · unfold scNum at hb ⊢
    by_cases h2 : s.2 = true
    · rw [if_pos h2] at hb ⊢; exact ⟨by simp, h, by simp⟩
    · rw [if_neg h2] at hb ⊢
      cases hr : readVar t s.1 with
      | none => simp; omega
      | some ne =>
        rw [hr] at hb; simp only at hb ⊢
        split
        · simp; omega
        · rename_i hm; rw [if_neg hm] at hb; simp at hb
theorem varI_inj_app {m n : Int} {a b : List UInt8} (hm : 0 ≤ m ∧ m ≤ 9223372036854775807) (hn : 0 ≤ n ∧ n ≤ 9223372036854775807) (h : varI m ++ a = varI n ++ b) : m = n ∧ a = b := by
  obtain ⟨i, rfl⟩ := Int.eq_ofNat_of_zero_le hm.1
  obtain ⟨j, rfl⟩ := Int.eq_ofNat_of_zero_le hn.1
  rw [varI_nat (by omega), varI_nat (by omega)] at h
  have key : ∀ (i j : Nat), varN i ++ a = varN j ++ b → i = j ∧ a = b := by
    intro i
    induction i using Nat.strongRecOn with
    | _ i ih =>
      intro j h
      unfold varN at h
      split at h <;> split at h <;> simp only [List.cons_append, List.nil_append, List.cons.injEq] at h
      · obtain ⟨h1, h2⟩ := ih (i / 128) (by omega) (j / 128) h.2
        have h3 := congrArg UInt8.toNat h.1
        simp at h3
        exact ⟨by omega, h2⟩
      · have h3 := congrArg UInt8.toNat h.1
        simp at h3; omega
      · have h3 := congrArg UInt8.toNat h.1
        simp at h3; omega
      · have h3 := congrArg UInt8.toNat h.1
        simp at h3
        exact ⟨by omega, h.2⟩
  obtain ⟨h1, h2⟩ := key i j h
  exact ⟨by rw [h1], h2⟩
/-- some numbers are read -/
def readNs (t : List UInt8) : Nat → Int → Option (List Int × Int)
  | 0, p => some ([], p)
  | k + 1, p => match readVar t p with
    | some (n, e) => match readNs t k e with
      | some (l, e') => some ((n : Int) :: l, e')
      | none => none
    | none => none
theorem readNs_spec {t : List UInt8} : ∀ (k : Nat) (p : Int) (l : List Int) (e : Int), readNs t k p = some (l, e) → l.length = k ∧ (∀ n, n ∈ l → 0 ≤ n ∧ n ≤ 1000000000) ∧ p ≤ e ∧ (0 ≤ p → p ≤ t.length → e ≤ t.length) ∧ (0 ≤ p → varL l = cut t p e)
  | 0, p, l, e, h => by
    simp only [readNs, Option.some.injEq, Prod.mk.injEq] at h
    obtain ⟨rfl, rfl⟩ := h
    exact ⟨rfl, by simp, by omega, fun _ q => q, fun _ => by simp [varL, cut]⟩
  | k + 1, p, l, e, h => by
    simp only [readNs] at h
    split at h
    · rename_i n e' hr
      split at h
      · rename_i l' e'' hq
        simp only [Option.some.injEq, Prod.mk.injEq] at h
        obtain ⟨rfl, rfl⟩ := h
        obtain ⟨a1, a2, a3, a4, a5⟩ := readVar_spec hr
        obtain ⟨b1, b2, b3, b4, b5⟩ := readNs_spec k _ _ _ hq
        refine ⟨by simp [b1], ?_, by omega, fun _ _ => b4 (by omega) (by omega), fun _ => ?_⟩
        · intro m hm
          rcases List.mem_cons.1 hm with rfl | hm
          · omega
          · exact b2 m hm
        · rw [show varL ((n : Int) :: l') = varI n ++ varL l' from rfl, b5 (by omega), varI_nat (by omega), a5]
          have := cut_app (t := t) (p := p) (q := (e' : Int)) (e := e'') (by omega) b3
          unfold cut at this ⊢
          simpa using this
      · cases h
    · cases h
def credOf : List Int → Cred
  | [k, o1, o2, w, a1, a2, b1, b2, u, n] => ⟨k, ⟨o1, o2⟩, w, ⟨a1, a2⟩, ⟨b1, b2⟩, u, n⟩
  | _ => ⟨0, ⟨0, 0⟩, 0, ⟨0, 0⟩, ⟨0, 0⟩, 0, 0⟩
def credZ : Cred := ⟨0, ⟨0, 0⟩, 0, ⟨0, 0⟩, ⟨0, 0⟩, 0, 0⟩
theorem credOf_nums {l : List Int} (h : l.length = 10) : (credOf l).nums = l := by
  match l, h with
  | [k, o1, o2, w, a1, a2, b1, b2, u, n], _ => rfl
def readCred (t : List UInt8) : Option Cred := match readNs t 10 0 with
  | some (l, e) => if e = t.length ∧ credOk (credOf l) = true then some (credOf l) else none
  | none => none
theorem readCred_ok {t : List UInt8} {c : Cred} (h : readCred t = some c) : credOk c = true ∧ credText c = t := by
  unfold readCred at h
  split at h
  · rename_i l e hr
    split at h
    · rename_i hc
      simp only [Option.some.injEq] at h
      subst h
      obtain ⟨a1, a2, a3, a4, a5⟩ := readNs_spec _ _ _ _ hr
      refine ⟨hc.2, ?_⟩
      unfold credText
      rw [if_pos hc.2, credOf_nums a1, a5 (by omega), hc.1]; unfold cut; simp
    · cases h
  · cases h
theorem readCred_end {t : List UInt8} {l : List Int} {e : Int} (h : readNs t 10 0 = some (l, e)) (hc : credOk (credOf l) = true) : credText (credOf l) = t ↔ e = t.length := by
  obtain ⟨a1, a2, a3, a4, a5⟩ := readNs_spec _ _ _ _ h
  unfold credText
  rw [if_pos hc, credOf_nums a1, a5 (by omega)]
  have := a4 (by omega) (by omega)
  constructor
  · intro q
    have := congrArg List.length q
    unfold cut at this; simp at this; omega
  · rintro rfl; unfold cut; simp
theorem credText_nil : credText credZ = [] := by unfold credText; rw [if_neg (by simp [credOk, credZ, roleOk])]
theorem credOk_Z : credOk credZ = false := by simp [credOk, credZ, roleOk]
def evZ : Event := ⟨0, 0, 0, credZ, ⟨#[]⟩⟩
def readEvI (t : List UInt8) (p : Int) : Event × Int × Bool :=
  let a := scNum t 1000000000 (p, false)
  let b := scNum t 1000000000 a.2
  let c := scNum t 1000000000 b.2
  let d := scText t c.2
  let x := scText t d.2
  let q : Cred × Bool := if d.1 = [] then (credZ, x.2.2) else match readCred d.1 with
    | some c => (c, x.2.2)
    | none => (credZ, true)
  let e : Event := ⟨a.1, b.1, c.1, q.1, ⟨x.1.toArray⟩⟩
  if q.2 = true ∨ eventOk e = false then (evZ, 0, false) else (e, x.2.1, true)
def readEvS (t : List UInt8) (p : Int) : Event × Int × Bool :=
  let a := scNum t 100 (p, false)
  let b := scNum t 1000000000 a.2
  let c := scNum t 1000000000 b.2
  let d := scText t c.2
  let x := scText t d.2
  if x.2.2 = true then (evZ, 0, false) else
  let e : Event := ⟨a.1, b.1, c.1, (readCred d.1).getD credZ, ⟨x.1.toArray⟩⟩
  if eventFit e = false ∨ cut t p x.2.1 ≠ eventText e then (evZ, 0, false) else (e, x.2.1, true)
theorem scNum_stop {t : List UInt8} {m : Int} {s : Sc} (h : s.2 = true) : (scNum t m s).2.2 = true := by rw [scNum_bad h]; exact h
theorem scText_stop {t : List UInt8} {s : Sc} (h : s.2 = true) : (scText t s).2.2 = true := by rw [scText_bad h]; exact h
theorem readCred_nil : readCred [] = none := by simp [readCred, readNs, readVar, rvGo]
theorem kind_of_ok {e : Event} (h : eventOk e = true) : 1 ≤ e.kind ∧ e.kind ≤ 11 := by
  unfold eventOk inB at h
  simp only [Bool.and_eq_true, decide_eq_true_eq] at h
  exact h.1
theorem scNum_100 (t : List UInt8) (p : Int) : scNum t 100 (p, false) = scNum t 1000000000 (p, false) ∨ ((scNum t 100 (p, false)).2.2 = true ∧ (100 < (scNum t 1000000000 (p, false)).1)) := by
  unfold scNum
  simp only [Bool.false_eq_true, if_false]
  cases hr : readVar t p with
  | none => simp
  | some ne =>
    obtain ⟨n, e⟩ := ne
    obtain ⟨_, h2, _⟩ := readVar_spec hr
    by_cases h : (100 : Int) < n
    · right
      simp only
      rw [if_pos h, if_neg (by omega)]; exact ⟨rfl, h⟩
    · left; simp only; rw [if_neg h, if_neg (by omega)]
theorem readEv_eq (t : List UInt8) (p : Int) : readEvI t p = readEvS t p := by
  rcases scNum_100 t p with h100 | ⟨hb, hv⟩
  · unfold readEvI readEvS
    rw [h100]
    generalize ha : scNum t 1000000000 (p, false) = a
    simp only
    generalize hb : scNum t 1000000000 a.2 = b
    generalize hc : scNum t 1000000000 b.2 = c
    generalize hd : scText t c.2 = d
    generalize hx : scText t d.2 = x
    by_cases hbad : x.2.2 = true
    · rw [if_pos hbad, if_pos]
      left
      split
      · exact hbad
      · split
        · exact hbad
        · rfl
    · rw [if_neg hbad]
      have e5 := scText_ok (t := t) (s := d.2) (by rw [hx]; simpa using hbad)
      rw [hx] at e5
      have e4 := scText_ok (t := t) (s := c.2) (by rw [hd]; exact e5.1)
      rw [hd] at e4
      have e3 := scNum_ok (t := t) (most := 1000000000) (s := b.2) (by rw [hc]; exact e4.1)
      rw [hc] at e3
      have e2 := scNum_ok (t := t) (most := 1000000000) (s := a.2) (by rw [hb]; exact e3.1)
      rw [hb] at e2
      have e1 := scNum_ok (t := t) (most := 1000000000) (s := (p, false)) (by rw [ha]; exact e2.1)
      rw [ha] at e1
      simp only at e1
      have hcut : cut t p x.2.1 = varI a.1 ++ (varI b.1 ++ (varI c.1 ++ ((varI d.1.length ++ d.1) ++ (varI x.1.length ++ x.1)))) := by
        rw [e5.2.2.2.2.2, e4.2.2.2.2.2, e3.2.2.2.2.2.2.2, e2.2.2.2.2.2.2.2, e1.2.2.2.2.2.2.2, cut_app (by omega) (by omega), cut_app (by omega) (by omega), cut_app (by omega) (by omega), cut_app (by omega) (by omega)]
      have hxl : sb (⟨x.1.toArray⟩ : ByteArray) = x.1 := rfl
      have htext : ∀ q : Cred, eventOk ⟨a.1, b.1, c.1, q, ⟨x.1.toArray⟩⟩ = true → eventFit ⟨a.1, b.1, c.1, q, ⟨x.1.toArray⟩⟩ = true ∧ (cut t p x.2.1 = eventText ⟨a.1, b.1, c.1, q, ⟨x.1.toArray⟩⟩ ↔ d.1 = credText q) := by
        intro q hq
        have hf : eventFit ⟨a.1, b.1, c.1, q, ⟨x.1.toArray⟩⟩ = true := by unfold eventFit; simp only [hq, Bool.true_and, Bool.and_eq_true, decide_eq_true_eq]; omega
        refine ⟨hf, ?_⟩
        unfold eventText
        rw [if_pos hf, hcut]
        simp only [List.append_assoc, List.append_cancel_left_eq, hxl]
        have hql := credText_len q
        constructor
        · intro h
          exact List.append_cancel_right (varI_inj_app ⟨by omega, by omega⟩ ⟨by omega, by omega⟩ h).2
        · rintro h; rw [h]
      by_cases hd0 : d.1 = []
      · rw [if_pos hd0, hd0, readCred_nil]
        simp only [Option.getD_none]
        by_cases hok : eventOk ⟨a.1, b.1, c.1, credZ, ⟨x.1.toArray⟩⟩ = true
        · obtain ⟨h1, h2⟩ := htext credZ hok
          rw [if_neg, if_neg]
          · rw [not_or, h1]; exact ⟨by simp, fun q => q (h2.2 (by rw [hd0, credText_nil]))⟩
          · rw [not_or, hok]; exact ⟨hbad, by simp⟩
        · have hok : eventOk ⟨a.1, b.1, c.1, credZ, ⟨x.1.toArray⟩⟩ = false := by simpa using hok
          rw [if_pos (.inr hok), if_pos]
          left; unfold eventFit; rw [hok]; rfl
      · rw [if_neg hd0]
        cases hr : readCred d.1 with
        | none =>
          simp only [Option.getD_none]
          rw [if_pos (by simp), if_pos]
          by_cases hok : eventOk ⟨a.1, b.1, c.1, credZ, ⟨x.1.toArray⟩⟩ = true
          · right; intro q
            have := (htext credZ hok).2.1 q
            rw [credText_nil] at this; exact hd0 this
          · left; unfold eventFit; rw [show eventOk _ = false from by simpa using hok]; rfl
        | some q =>
          simp only [Option.getD_some]
          obtain ⟨h3, h4⟩ := readCred_ok hr
          by_cases hok : eventOk ⟨a.1, b.1, c.1, q, ⟨x.1.toArray⟩⟩ = true
          · obtain ⟨h1, h2⟩ := htext q hok
            rw [if_neg, if_neg]
            · rw [not_or, h1]; exact ⟨by simp, fun r => r (h2.2 h4.symm)⟩
            · rw [not_or, hok]; exact ⟨hbad, by simp⟩
          · have hok : eventOk ⟨a.1, b.1, c.1, q, ⟨x.1.toArray⟩⟩ = false := by simpa using hok
            rw [if_pos (.inr hok), if_pos]
            left; unfold eventFit; rw [hok]; rfl
  · have hS : readEvS t p = (evZ, 0, false) := by
      unfold readEvS
      simp only
      rw [if_pos]
      exact scText_stop (scText_stop (scNum_stop (scNum_stop hb)))
    rw [hS]
    unfold readEvI
    simp only
    rw [if_pos]
    right
    refine Bool.eq_false_iff.2 (fun h => ?_)
    have := kind_of_ok h
    simp only at this; omega
end Go.Proofs.YtoemclhjcbcjaaaGreat.AB
namespace Go.Proofs.YtoemclhjcbcjaaaGreat.AB
open Go
set_option maxRecDepth 100000
set_option linter.unusedSimpArgs false
set_option linter.unusedVariables false
def rvV (t : List UInt8) (p : Int) : Int := match readVar t p with | some (n, _) => n | none => 0
def rvE (t : List UInt8) (p : Int) : Int := match readVar t p with | some (_, e) => e | none => 0
def rvB (t : List UInt8) (p : Int) : Bool := (readVar t p).isSome
theorem orK_shl {n m k : Nat} (hn : n < 128 ^ k) (hm : m < 128) (hk : k < 5) : orK .i64 (n : Int) (shlK .i64 (m : Int) ((7 * k : Nat) : Int)) = ((n + m * 128 ^ k : Nat) : Int) := by
  have hp : (128 : Nat) ^ k = 2 ^ (7 * k) := by rw [show (128 : Nat) = 2 ^ 7 from rfl, ← Nat.pow_mul]
  have hb : (128 : Nat) ^ k ≤ 128 ^ 4 := Nat.pow_le_pow_right (by omega) (by omega)
  have hmb : m * 128 ^ k ≤ 127 * 128 ^ 4 := Nat.mul_le_mul (by omega) hb
  have h1 : shlK .i64 (m : Int) ((7 * k : Nat) : Int) = ((m * 128 ^ k : Nat) : Int) := by
    unfold shlK
    rw [Int.toNat_natCast, show min (7 * k) IntKind.i64.bits = 7 * k from Nat.min_eq_left (by show 7 * k ≤ 64; omega)]
    rw [show (m : Int) * 2 ^ (7 * k) = ((m * 128 ^ k : Nat) : Int) from by rw [hp]; simp]
    exact wrap64 (by omega) (by omega)
  rw [h1, orK_nat (by omega) (by omega)]
  rw [Nat.or_comm, hp, ← Nat.shiftLeft_eq, ← Nat.shiftLeft_add_eq_or_of_lt (by rw [← hp]; exact hn), Nat.add_comm]
set_option maxHeartbeats 1000000 in
theorem ac_ReadVar (t : List UInt8) (p : Int) (ht : t.length ≤ 4611686018427387904) : AC Tryz.prog 53 [vS t, vI p] (.tup [vI (rvV t p), vI (rvE t p), vB (rvB t p)]) [] := by
  by_cases hp : 0 ≤ p ∧ p ≤ t.length
  · obtain ⟨q, rfl⟩ := Int.eq_ofNat_of_zero_le hp.1
    have hq : q ≤ t.length := by omega
    have hd : decide (0 ≤ (q : Int) ∧ (q : Int) ≤ t.length) = true := by simpa using hp
    refine XA good (fn := Tryz.f53) rfl ?_
    simp only [entry, List.getD_cons_zero, List.getD_cons_succ]
    repeat' first | refine SW.step good fun K hK => ?_ | refine X2 good fun K hK => ?_ | refine X3 good fun K hK => ?_ | refine SW.seqK fun J hJ => ?_ | refine SW.last good fun K hK => ?_ | (refine hK _ ?_; clear hK K) | (refine hJ _ _ (Wk.refl _) ?_; clear hJ J) | clear hK K | clear hJ J | refine SW.skip ?_ | refine SW.ret ?_ | refine SW.retT ?_ | refine SW.retB ?_ | refine SW.exit ?_ | refine SW.exitT ?_ | refine SW.exitB ?_ | refine XN ?_ | refine SW.block ?_ | refine SW.normB ?_ | refine SW.normT ?_ | refine XT ?_ | refine XF ?_ | refine XC (fun h => ?_) (fun h => ?_) | refine X0 ?_ | refine Xv ?_ | refine X1 (ac_in _ _ _) ?_ | simp only [go_sem, optI, Option.getD_some, Option.getD_none, Int.reduceToNat, reduceIte, Nat.reduceEqDiff, Nat.reduceAdd, Nat.reduceMul, Nat.reduceSub, Nat.reduceLT, Nat.reduceLeDiff, reduceCtorEq, *] | refine Xs _ (fun h => ?_) (fun h => ?_) | with_reducible refine And.intro ?_ ?_
    refine SW.loopTo (α := Nat × Nat) (fun a => ⟨sl [(0, vS t), (1, vI q), (7, vI a.2), (8, vI a.1)], hl []⟩) (fun a => 5 - a.1) (0, 0) (fun a => a.1 ≤ 5 ∧ q + a.1 ≤ t.length ∧ a.2 < 128 ^ a.1 ∧ readVar t q = rvGo (5 - a.1) q a.1 a.2 (t.drop (q + a.1))) ?_ ⟨by simp, by simpa using hq, by simp, by simp [readVar, hq]⟩ ?_
    · (refine Xto _ _ ?_ ?_ <;> simp only [go_sem, optI, Option.getD_some, Option.getD_none, Int.reduceToNat, reduceIte, Nat.reduceEqDiff, Nat.reduceAdd, Nat.reduceMul, Nat.reduceSub, Nat.reduceLT, Nat.reduceLeDiff, reduceCtorEq, Option.some.injEq, or_true, true_or] <;> (repeat' with_reducible apply And.intro) <;> (try rfl))
    · rintro ⟨k, n⟩ ⟨h1, h2, h3, h4⟩
      simp only at h1 h2 h3 h4
      by_cases hk : k < 5 ∧ q + k < t.length
      · obtain ⟨hk5, hkl⟩ := hk
        have hw : IntKind.i64.wrap ((q : Int) + (k : Int)) = ((q + k : Nat) : Int) := wrap64 (by omega) (by omega)
        have hw7 : IntKind.i64.wrap (7 * (k : Int)) = ((7 * k : Nat) : Int) := wrap64 (by omega) (by omega)
        have g1 : decide ((k : Int) < 5) = true := by simp; omega
        have g2 : decide (((q + k : Nat) : Int) < (t.length : Int)) = true := by simp; omega
        obtain ⟨x, hx⟩ : ∃ x, x = t[q + k] := ⟨_, rfl⟩
        have e : t.getD (q + k) 0 = x := by rw [List.getD_eq_getElem?_getD, List.getElem?_eq_getElem hkl, hx]; rfl
        have hdr : t.drop (q + k) = x :: t.drop (q + k + 1) := by rw [hx]; exact List.drop_eq_getElem_cons hkl
        clear hx
        have hxl := u8_lt x
        have hxw : IntKind.i64.wrap (x.toNat : Int) = (x.toNat : Int) := wrap64 (by omega) (by omega)
        have ha : andK .i64 (x.toNat : Int) 127 = ((x.toNat % 128 : Nat) : Int) := and127 (by omega)
        have ho := orK_shl (m := x.toNat % 128) h3 (by omega) hk5
        have hb : (128 : Nat) ^ k ≤ 128 ^ 4 := Nat.pow_le_pow_right (by omega) (by omega)
        have hmb : x.toNat % 128 * 128 ^ k ≤ 127 * 128 ^ 4 := Nat.mul_le_mul (by omega) hb
        rw [hdr, show 5 - k = (4 - k) + 1 by omega, rvGo] at h4
        by_cases c1 : x.toNat > 127
        · rw [if_pos c1] at h4
          have g3 : decide ((127 : Int) < (x.toNat : Int)) = true := by simp; omega
          repeat' first | refine SW.step good fun K hK => ?_ | refine X2 good fun K hK => ?_ | refine X3 good fun K hK => ?_ | refine SW.seqK fun J hJ => ?_ | refine SW.last good fun K hK => ?_ | (refine hK _ ?_; clear hK K) | (refine hJ _ _ (Wk.refl _) ?_; clear hJ J) | clear hK K | clear hJ J | refine SW.skip ?_ | refine SW.ret ?_ | refine SW.retT ?_ | refine SW.retB ?_ | refine SW.exit ?_ | refine SW.exitT ?_ | refine SW.exitB ?_ | refine XN ?_ | refine SW.block ?_ | refine SW.normB ?_ | refine SW.normT ?_ | refine XT ?_ | refine XF ?_ | refine XC (fun h => ?_) (fun h => ?_) | simp only [go_sem, optI, Option.getD_some, Option.getD_none, Int.reduceToNat, reduceIte, Nat.reduceEqDiff, Nat.reduceAdd, Nat.reduceMul, Nat.reduceSub, Nat.reduceLT, Nat.reduceLeDiff, reduceCtorEq, *] | refine Xs _ (fun h => ?_) (fun h => ?_) | with_reducible refine And.intro ?_ ?_
          all_goals first | omega | skip
          refine ⟨(k + 1, n + x.toNat % 128 * 128 ^ k), ⟨by simp only; omega, by simp only; omega, ?_, ?_⟩, by simp only; omega, ?_⟩
          · simp only [Nat.pow_succ]; have : x.toNat % 128 * 128 ^ k ≤ 127 * 128 ^ k := Nat.mul_le_mul (by omega) (Nat.le_refl _); omega
          · simp only; first | rw [h4, show 5 - (k + 1) = 4 - k by omega, show q + (k + 1) = q + k + 1 by omega] | rw [show 5 - (k + 1) = 4 - k by omega, show q + (k + 1) = q + k + 1 by omega]
          · (refine Xto _ _ ?_ ?_ <;> simp only [go_sem, optI, Option.getD_some, Option.getD_none, Int.reduceToNat, reduceIte, Nat.reduceEqDiff, Nat.reduceAdd, Nat.reduceMul, Nat.reduceSub, Nat.reduceLT, Nat.reduceLeDiff, reduceCtorEq, Option.some.injEq, or_true, true_or] <;> (repeat' with_reducible apply And.intro) <;> (try rfl))
            all_goals (try (rw [wrap64 (by omega) (by omega)]; try simp))
        · rw [if_neg c1] at h4
          have g3 : decide ((127 : Int) < (x.toNat : Int)) = false := by simp; omega
          have hm : x.toNat % 128 = x.toNat := Nat.mod_eq_of_lt (by omega)
          rw [hm] at ho hmb
          have hx0 : x = 0 ↔ (x.toNat : Int) = 0 := by rw [← UInt8.toNat_inj]; simp
          by_cases c2 : (x = 0 ∧ 0 < k) ∨ 1000000000 < n + x.toNat * 128 ^ k
          · rw [if_pos c2] at h4
            have hres := h4
            repeat' first | refine SW.step good fun K hK => ?_ | refine X2 good fun K hK => ?_ | refine X3 good fun K hK => ?_ | refine SW.seqK fun J hJ => ?_ | refine SW.last good fun K hK => ?_ | (refine hK _ ?_; clear hK K) | (refine hJ _ _ (Wk.refl _) ?_; clear hJ J) | clear hK K | clear hJ J | refine SW.skip ?_ | refine SW.ret ?_ | refine SW.retT ?_ | refine SW.retB ?_ | refine SW.exit ?_ | refine SW.exitT ?_ | refine SW.exitB ?_ | refine XN ?_ | refine SW.block ?_ | refine SW.normB ?_ | refine SW.normT ?_ | refine XT ?_ | refine XF ?_ | refine XC (fun h => ?_) (fun h => ?_) | simp only [go_sem, optI, Option.getD_some, Option.getD_none, Int.reduceToNat, reduceIte, Nat.reduceEqDiff, Nat.reduceAdd, Nat.reduceMul, Nat.reduceSub, Nat.reduceLT, Nat.reduceLeDiff, reduceCtorEq, *] | refine Xs _ (fun h => ?_) (fun h => ?_) | with_reducible refine And.intro ?_ ?_
            all_goals first | omega | skip
            all_goals first
              | (refine Xrp ?_; simp [resOf, Wn.le, Wn.leL, Wn.cw, C.scal, scal, rvV, rvE, rvB, hres]; done)
              | (exfalso; rw [hx0] at c2; clear hx0; simp only [decide_eq_true_eq, decide_eq_false_iff_not] at *; omega)
              | skip
          · rw [if_neg c2] at h4
            have hres := h4
            repeat' first | refine SW.step good fun K hK => ?_ | refine X2 good fun K hK => ?_ | refine X3 good fun K hK => ?_ | refine SW.seqK fun J hJ => ?_ | refine SW.last good fun K hK => ?_ | (refine hK _ ?_; clear hK K) | (refine hJ _ _ (Wk.refl _) ?_; clear hJ J) | clear hK K | clear hJ J | refine SW.skip ?_ | refine SW.ret ?_ | refine SW.retT ?_ | refine SW.retB ?_ | refine SW.exit ?_ | refine SW.exitT ?_ | refine SW.exitB ?_ | refine XN ?_ | refine SW.block ?_ | refine SW.normB ?_ | refine SW.normT ?_ | refine XT ?_ | refine XF ?_ | refine XC (fun h => ?_) (fun h => ?_) | simp only [go_sem, optI, Option.getD_some, Option.getD_none, Int.reduceToNat, reduceIte, Nat.reduceEqDiff, Nat.reduceAdd, Nat.reduceMul, Nat.reduceSub, Nat.reduceLT, Nat.reduceLeDiff, reduceCtorEq, *] | refine Xs _ (fun h => ?_) (fun h => ?_) | with_reducible refine And.intro ?_ ?_
            all_goals first | omega | skip
            all_goals first
              | (exfalso; rw [hx0] at c2; clear hx0; simp only [decide_eq_true_eq, decide_eq_false_iff_not] at *; omega)
              | (rw [wrap64 (x := (((q + k : Nat) : Int) + 1)) (by omega) (by omega)]; (refine Xrp ?_; simp [resOf, Wn.le, Wn.leL, Wn.cw, C.scal, scal, rvV, rvE, rvB, hres]; done))
              | skip
      · have hres : readVar t q = none := by
          rw [h4]
          by_cases hk5 : k = 5
          · subst hk5; rfl
          · rw [List.drop_of_length_le (by omega), show 5 - k = (4 - k) + 1 by omega]; rfl
        have hw : IntKind.i64.wrap ((q : Int) + (k : Int)) = ((q + k : Nat) : Int) := wrap64 (by omega) (by omega)
        repeat' first | refine SW.step good fun K hK => ?_ | refine X2 good fun K hK => ?_ | refine X3 good fun K hK => ?_ | refine SW.seqK fun J hJ => ?_ | refine SW.last good fun K hK => ?_ | (refine hK _ ?_; clear hK K) | (refine hJ _ _ (Wk.refl _) ?_; clear hJ J) | clear hK K | clear hJ J | refine SW.skip ?_ | refine SW.ret ?_ | refine SW.retT ?_ | refine SW.retB ?_ | refine SW.exit ?_ | refine SW.exitT ?_ | refine SW.exitB ?_ | refine XN ?_ | refine SW.block ?_ | refine SW.normB ?_ | refine SW.normT ?_ | refine XT ?_ | refine XF ?_ | refine XC (fun h => ?_) (fun h => ?_) | simp only [go_sem, optI, Option.getD_some, Option.getD_none, Int.reduceToNat, reduceIte, Nat.reduceEqDiff, Nat.reduceAdd, Nat.reduceMul, Nat.reduceSub, Nat.reduceLT, Nat.reduceLeDiff, reduceCtorEq, *] | refine Xs _ (fun h => ?_) (fun h => ?_) | with_reducible refine And.intro ?_ ?_
        all_goals first | (exfalso; simp only [decide_eq_true_eq, decide_eq_false_iff_not] at *; omega) | (refine Xrp ?_; simp [resOf, Wn.le, Wn.leL, Wn.cw, C.scal, scal, rvV, rvE, rvB, hres]; done) | skip
  · have hd : decide (0 ≤ p ∧ p ≤ t.length) = false := by simpa using hp
    have hres : readVar t p = none := by unfold readVar; rw [if_neg hp]
    refine XA good (fn := Tryz.f53) rfl ?_
    simp only [entry, List.getD_cons_zero, List.getD_cons_succ]
    repeat' first | refine SW.step good fun K hK => ?_ | refine X2 good fun K hK => ?_ | refine X3 good fun K hK => ?_ | refine SW.seqK fun J hJ => ?_ | refine SW.last good fun K hK => ?_ | (refine hK _ ?_; clear hK K) | (refine hJ _ _ (Wk.refl _) ?_; clear hJ J) | clear hK K | clear hJ J | refine SW.skip ?_ | refine SW.ret ?_ | refine SW.retT ?_ | refine SW.retB ?_ | refine SW.exit ?_ | refine SW.exitT ?_ | refine SW.exitB ?_ | refine XN ?_ | refine SW.block ?_ | refine SW.normB ?_ | refine SW.normT ?_ | refine XT ?_ | refine XF ?_ | refine XC (fun h => ?_) (fun h => ?_) | refine X0 ?_ | refine Xv ?_ | refine X1 (ac_in _ _ _) ?_ | simp only [go_sem, optI, Option.getD_some, Option.getD_none, Int.reduceToNat, reduceIte, Nat.reduceEqDiff, Nat.reduceAdd, Nat.reduceMul, Nat.reduceSub, Nat.reduceLT, Nat.reduceLeDiff, reduceCtorEq, *] | refine Xs _ (fun h => ?_) (fun h => ?_) | with_reducible refine And.intro ?_ ?_
    all_goals (refine Xrp ?_; simp [resOf, Wn.le, Wn.leL, Wn.cw, C.scal, scal, rvV, rvE, rvB, hres]; done)
end Go.Proofs.YtoemclhjcbcjaaaGreat.AB
