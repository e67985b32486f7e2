/- The end of a walk: what a function hands back. -/
import Derived.Test.YtoemclhjcbcjaaaGreatAbX
namespace Go.Proofs.YtoemclhjcbcjaaaGreat.AB
open Go
set_option linter.unusedVariables false
set_option linter.unusedSimpArgs false

theorem evalO_lit {st : St} (l : List UInt8) : evalO st (.const (.string ⟨⟨l⟩⟩)) = vS l := rfl
theorem wrap64 {x : Int} (h1 : -9223372036854775808 ≤ x) (h2 : x ≤ 9223372036854775807) : IntKind.i64.wrap x = x := by
  show (if (true && decide (x % 18446744073709551616 ≥ 9223372036854775808)) = true then x % 18446744073709551616 - 18446744073709551616 else x % 18446744073709551616) = x
  by_cases h : x % 18446744073709551616 ≥ 9223372036854775808
  · simp only [h, decide_true, Bool.and_self, if_true]; omega
  · simp only [h, decide_false, Bool.and_false, Bool.false_eq_true, if_false]; omega
theorem wrap8 {x : Int} (h1 : 0 ≤ x) (h2 : x ≤ 255) : IntKind.u8.wrap x = x := by
  simp only [IntKind.wrap, IntKind.bits, IntKind.signed]
  simp
  omega
theorem hempty_app (i : Id) : hempty i = none := rfl

section
variable {P : Program} {T : Tab} {N : Nat} {Q Q' : Exit → St → Prop} {st st' : St} {sc x y z : SC} {d : Bool} {l : List GOp} {rv : List ResultVar} {res y : AV} {hr : List Ob} {p : Prop} {xs : List AV}

/-- a region at the end of a block -/
theorem SW.last (g : Good P T) (h : ∀ K : St → Prop, (∀ st', Q .normal st' → K st') → semL P l st K) : SW P T N (.ops false l) Q st := .ops g (h _ fun _ q => q)
theorem SW.last2 (g : Good P T) {ls : List (List GOp)} (hls : ordsL l = ls) (h : ∀ K : St → Prop, (∀ st', Q .normal st' → K st') → semO P ls st K) : SW P T N (.ops true l) Q st := .ops2 g (hls ▸ h _ fun _ q => q)

theorem outW_gone {ids : List Id} {j : Id} : (outW st ids hr).gone j ↔ ∀ (q : Nat) (o : Ob), hr[q]? = some o → idsTo ids (.r q) ≠ j := by
  constructor
  · intro h q o ho
    exact h (.r q) (by show (hr[q]?).isSome = true; rw [ho]; rfl)
  · intro h i hi
    cases i with
    | r q =>
      obtain ⟨o, ho⟩ := Option.isSome_iff_exists.1 hi
      exact h q o ho
    | s => cases hi
    | a => cases hi
theorem outW_nil {ids : List Id} {j : Id} : (outW st ids []).gone j ↔ True := by
  rw [outW_gone]; simp

theorem res1_cell {t a : Nat} {i : TI} (hi : T.at t = some i) (hx : readAt st (st.t a) = some xs) : res1 T st (.cell a t) = if i.u.isAgg then some (i.size ≤ xs.length, .agg (xs.take i.size)) else some (0 < xs.length, xs.getD 0 .dead) := by
  simp only [res1, hi, hx]
theorem res1_tmp {t : Nat} : res1 T st (.tmp t) = some (True, st.t t) := rfl

/-- nothing of one's own is handed back -/
theorem ret_plain (h : resL T st rv = some (p, xs)) (hp : p) (hle : (outW st [] []).le res (resOf xs)) : retS T rv res [] .ret st := by
  simp only [retS, h]
  exact ⟨hp, [], rfl, .nil, fun j o i hj => by simp at hj, hle⟩
/-- one row of one's own is handed back -/
theorem ret_one {i : Id} {o o' : Ob} (h : resL T st rv = some (p, xs)) (hp : p) (ho : st.h i = some o') (hoo : (outW st [i] [o]).leO o o') (hle : (outW st [i] [o]).le res (resOf xs)) : retS T rv res [o] .ret st := by
  simp only [retS, h]
  refine ⟨hp, [i], rfl, by simp, fun j o1 i1 hj hi => ?_, hle⟩
  cases j with
  | zero => simp only [List.getElem?_cons_zero, Option.some.injEq] at hj hi; subst hj; subst hi; exact ⟨o', ho, hoo⟩
  | succ j => simp at hj

theorem le_v {W : Wn} {b b' : Bool} {u v : Value} (h : u = v) (hs : scal u = true) : W.le (.c b (.v u)) (.c b' (.v v)) := by
  simp only [Wn.le, Wn.cw]
  exact ⟨by rw [h], .inr (.inr hs)⟩
theorem ret_bool {b b' : Bool} (h : resL T st rv = some (p, [vB b'])) (hp : p) (e : b = b') : retS T rv (vB b) [] .ret st := ret_plain h hp (le_v (by rw [e]) rfl)
theorem ret_int {b b' : Int} (h : resL T st rv = some (p, [vI b'])) (hp : p) (e : b = b') : retS T rv (vI b) [] .ret st := ret_plain h hp (le_v (by rw [e]) rfl)
theorem ret_str {b b' : List UInt8} (h : resL T st rv = some (p, [vS b'])) (hp : p) (e : b = b') : retS T rv (vS b) [] .ret st := ret_plain h hp (le_v (by rw [e]) rfl)

/-- a function's text, its slots, its results -/
def fnData (T : Tab) (fn : Func) : Option (SC × Nat × List ResultVar) := match fn.body with
  | some b => match comp T b with
    | some sc => some (sc, fn.ntmps, fn.results.toList)
    | none => none
  | none => none
def fnOk (T : Tab) (fn : Func) : Bool := fn.name != "runtime.NumGoroutine" && match fn.body with
  | some b => codeOk T fn.ntmps b
  | none => false

theorem AC.walk (g : Good P T) {f : FuncId} {fn : Func} {args : List AV} (hf : P.funcs[f]? = some fn) (hd : fnData T fn = some (sc, N, rv)) (hok : fnOk T fn = true) (hna : args.length ≤ N) (hrows : ∀ o, o ∈ hr → ∃ b e sz xs, o = .row b e sz xs)
    (h : SW P T N sc (retS T rv res hr) (entry args)) : AC P f args res hr := by
  unfold fnData at hd
  split at hd
  · rename_i b hb
    split at hd
    · rename_i s hs
      simp only [Option.some.injEq, Prod.mk.injEq] at hd
      obtain ⟨rfl, rfl, rfl⟩ := hd
      unfold fnOk at hok
      rw [hb, Bool.and_eq_true] at hok
      exact AC.intro g hf (by simpa using hok.1) hb hs hok.2 hna hrows h
    · cases hd
  · cases hd
theorem MC.walk (g : Good P T) {f : FuncId} {fn : Func} {args : List AV} {hin : List Ob} {la : List (Option Ob)} {lr : List Ob} (hf : P.funcs[f]? = some fn) (hd : fnData T fn = some (sc, N, rv)) (hok : fnOk T fn = true) (hna : args.length ≤ N)
    (h : SW P T N sc (retM T rv res la lr) ⟨fun d => args.getD d (.tup []), hA hin⟩) : MC P f args hin res la lr := by
  unfold fnData at hd
  split at hd
  · rename_i b hb
    split at hd
    · rename_i s hs
      simp only [Option.some.injEq, Prod.mk.injEq] at hd
      obtain ⟨rfl, rfl, rfl⟩ := hd
      unfold fnOk at hok
      rw [hb, Bool.and_eq_true] at hok
      exact MC.intro g hf (by simpa using hok.1) hb hs hok.2 hna h
    · cases hd
  · cases hd
end
end Go.Proofs.YtoemclhjcbcjaaaGreat.AB
