/- Rules of walks whose side conditions are found by themselves. -/
import Derived.Test.YtoemclhjcbcjaaaGreatAbYs
namespace Go.Proofs.YtoemclhjcbcjaaaGreat.AB
open Go
set_option linter.unusedVariables false
set_option linter.unusedSimpArgs false
section
variable {P : Program} {T : Tab} {N : Nat} {Q Q' : Exit → St → Prop} {st st' : St} {sc x y z : SC} {d : Bool} {l : List GOp}
theorem X2 (g : Good P T) {ls : List (List GOp)} (h : ∀ K : St → Prop, (∀ st', SW P T N y Q st' → K st') → semO P ls st K) (hls : ordsL l = ls := by cbv <;> rfl) : SW P T N (.seq (.ops true l) y) Q st := SW.step2 g hls h
theorem X3 (g : Good P T) {ls : List (List GOp)} (h : ∀ K : St → Prop, (∀ st', Q .normal st' → K st') → semO P ls st K) (hls : ordsL l = ls := by cbv <;> rfl) : SW P T N (.ops true l) Q st := SW.last2 g hls h
theorem XT {c : Operand} {bo : Bool} (h : SW P T N x Q st) (hb : evalO st c = .c bo (.v (.bool true)) := by simp only [go_sem, optI, Option.getD_some, Option.getD_none, Int.reduceToNat, reduceIte, Nat.reduceEqDiff, Nat.reduceAdd, Nat.reduceMul, Nat.reduceSub, Nat.reduceLT, Nat.reduceLeDiff, reduceCtorEq] <;> rfl) : SW P T N (.cond c x y) Q st := SW.condT hb h
theorem XF {c : Operand} {bo : Bool} (h : SW P T N y Q st) (hb : evalO st c = .c bo (.v (.bool false)) := by simp only [go_sem, optI, Option.getD_some, Option.getD_none, Int.reduceToNat, reduceIte, Nat.reduceEqDiff, Nat.reduceAdd, Nat.reduceMul, Nat.reduceSub, Nat.reduceLT, Nat.reduceLeDiff, reduceCtorEq] <;> rfl) : SW P T N (.cond c x y) Q st := SW.condF hb h
theorem XC {c : Operand} {bo b : Bool} (ht : b = true → SW P T N x Q st) (hf : b = false → SW P T N y Q st) (hb : evalO st c = .c bo (.v (.bool b)) := by simp only [go_sem, optI, Option.getD_some, Option.getD_none, Int.reduceToNat, reduceIte, Nat.reduceEqDiff, Nat.reduceAdd, Nat.reduceMul, Nat.reduceSub, Nat.reduceLT, Nat.reduceLeDiff, reduceCtorEq] <;> rfl) : SW P T N (.cond c x y) Q st := SW.cond hb ht hf
theorem XN {id id' : Nat} (h : Q (.exit id') st) (hne : (id' == id) = false := by rfl) : blockS id Q (.exit id') st := SW.exitN hne h
end
section
variable {P : Program} {st : St} {K : St → Prop} {d : Option Nat} {so : SOp} {t : Nat} {w b bo : Bool} {l : List GOp} {n : Nat} {x : Operand} {xs : List Operand}
theorem X0 {f : FuncId} {args : List AV} (h : CallK P f args l K st d) (ha : lendAll st.h (xs.map (evalO st)) = args := by simp only [go_sem, optI, Option.getD_some, Option.getD_none, Int.reduceToNat, reduceIte, Nat.reduceEqDiff, Nat.reduceAdd, Nat.reduceMul, Nat.reduceSub, Nat.reduceLT, Nat.reduceLeDiff, reduceCtorEq] <;> rfl) : semL P (⟨d, .call f xs, none⟩ :: l) st K := L_call0 ha h
theorem Xv {f : FuncId} {caps args : List AV} (h : CallK P f args l K st d) (hx : evalO st x = .fn f caps := by simp only [go_sem, optI, Option.getD_some, Option.getD_none, Int.reduceToNat, reduceIte, Nat.reduceEqDiff, Nat.reduceAdd, Nat.reduceMul, Nat.reduceSub, Nat.reduceLT, Nat.reduceLeDiff, reduceCtorEq] <;> rfl) (ha : lendAll st.h (xs.map (evalO st) ++ caps) = args := by simp only [go_sem, optI, Option.getD_some, Option.getD_none, Int.reduceToNat, reduceIte, Nat.reduceEqDiff, Nat.reduceAdd, Nat.reduceMul, Nat.reduceSub, Nat.reduceLT, Nat.reduceLeDiff, reduceCtorEq] <;> rfl) :
    semL P (⟨d, .callv x xs, none⟩ :: l) st K := L_callv0 hx ha h
theorem Xr {f : FuncId} {args : List AV} {res : AV} (h : AC P f args res []) (k : semL P l ⟨upd st.t n (res.on (toR (.s n 0))), hupd st.h (.s n 0) (some .reg)⟩ K) (ha : lendAll st.h (xs.map (evalO st)) = args := by simp only [go_sem, optI, Option.getD_some, Option.getD_none, Int.reduceToNat, reduceIte, Nat.reduceEqDiff, Nat.reduceAdd, Nat.reduceMul, Nat.reduceSub, Nat.reduceLT, Nat.reduceLeDiff, reduceCtorEq] <;> rfl)
    (hf : st.h (.s n 0) = none := by simp only [go_sem, optI, Option.getD_some, Option.getD_none, Int.reduceToNat, reduceIte, Nat.reduceEqDiff, Nat.reduceAdd, Nat.reduceMul, Nat.reduceSub, Nat.reduceLT, Nat.reduceLeDiff, reduceCtorEq]) : semL P (⟨some n, .call f xs, none⟩ :: l) st K := L_callr ha h hf k
theorem X1 {f : FuncId} {args : List AV} {res : AV} {hr : List Ob} (h : AC P f args res hr) (k : semL P l ⟨upd st.t n (res.on (toS n)), hputs st.h n 0 hr⟩ K) (hc : res.clean = true ∧ ∀ o, o ∈ hr → o.clean = true := by exact ⟨rfl, by simp [Ob.clean]⟩)
    (hf : hfree st.h n 0 hr := by simp only [hfree, hputs, go_sem, optI, Option.getD_some, Option.getD_none, Int.reduceToNat, reduceIte, Nat.reduceEqDiff, Nat.reduceAdd, Nat.reduceMul, Nat.reduceSub, Nat.reduceLT, Nat.reduceLeDiff, reduceCtorEq]) : CallK P f args l K st (some n) := L_call1 h hc hf k
theorem Xs (b : Bool) (h1 : b = true → semL P (⟨d, so, some (t, w)⟩ :: l) st K) (h2 : b = false → semL P (⟨d, so, some (t, w)⟩ :: l) st K) (h : gv (st.t t) = some (some b) := by simp only [go_sem, optI, Option.getD_some, Option.getD_none, Int.reduceToNat, reduceIte, Nat.reduceEqDiff, Nat.reduceAdd, Nat.reduceMul, Nat.reduceSub, Nat.reduceLT, Nat.reduceLeDiff, reduceCtorEq] <;> rfl) : semL P (⟨d, so, some (t, w)⟩ :: l) st K := L_split b h h1 h2
theorem Xm (i : Id) {f : FuncId} {args : List AV} {o o1 : Ob} (h : CallMK P f args [o1] [i] l K st d) (ho : st.h i = some o := by simp only [go_sem, optI, Option.getD_some, Option.getD_none, Int.reduceToNat, reduceIte, Nat.reduceEqDiff, Nat.reduceAdd, Nat.reduceMul, Nat.reduceSub, Nat.reduceLT, Nat.reduceLeDiff, reduceCtorEq] <;> rfl)
    (ha : (xs.map (evalO st)).map (AV.on (lendM st.h [i])) = args := by simp only [List.map, go_sem, optI, Option.getD_some, Option.getD_none, Int.reduceToNat, reduceIte, Nat.reduceEqDiff, Nat.reduceAdd, Nat.reduceMul, Nat.reduceSub, Nat.reduceLT, Nat.reduceLeDiff, reduceCtorEq] <;> rfl) (hi : Ob.on (inM [i]) o = o1 := by simp only [go_sem, optI, Option.getD_some, Option.getD_none, Int.reduceToNat, reduceIte, Nat.reduceEqDiff, Nat.reduceAdd, Nat.reduceMul, Nat.reduceSub, Nat.reduceLT, Nat.reduceLeDiff, reduceCtorEq] <;> rfl) : semL P (⟨d, .callm f xs, none⟩ :: l) st K := L_callmo i ho ha hi h
theorem Xz {f : FuncId} {args : List AV} (h : CallMK P f args [] [] l K st d) (ha : (xs.map (evalO st)).map (AV.on (lendM st.h [])) = args := by simp only [List.map, go_sem, optI, Option.getD_some, Option.getD_none, Int.reduceToNat, reduceIte, Nat.reduceEqDiff, Nat.reduceAdd, Nat.reduceMul, Nat.reduceSub, Nat.reduceLT, Nat.reduceLeDiff, reduceCtorEq] <;> rfl) : semL P (⟨d, .callm f xs, none⟩ :: l) st K := L_callm0 [] (obs := []) rfl .nil ha rfl h
theorem Xa {f : FuncId} {args : List AV} {hin : List Ob} {as : List Id} {res : AV} {la : List (Option Ob)} {lr : List Ob} (h : MC P f args hin res la lr)
    (k : semL P l ⟨upd (fun q => (st.t q).on (kilM as la)) n (res.on (bkM as n)), hM st.h as n la lr⟩ K)
    (hc : res.clean = true ∧ (∀ o, o ∈ lr → o.clean = true) ∧ (∀ o, some o ∈ la → o.clean = true) ∧ la.length ≤ as.length := by exact ⟨rfl, by simp, by simp [Ob.clean, AV.cleanL, AV.clean, C.free], by simp⟩)
    (hf : ∀ q, q < lr.length → st.h (.s n q) = none := by simp) : CallMK P f args hin as l K st (some n) := L_callm1 h hc hf k
theorem Xb {f : FuncId} {args : List AV} {hin : List Ob} {as : List Id} {res : AV} {la : List (Option Ob)} (h : MC P f args hin res la [])
    (k : semL P l ⟨fun q => (st.t q).on (kilM as la), hM st.h as 0 la []⟩ K)
    (hc : res.clean = true ∧ (∀ o, o ∈ ([] : List Ob) → o.clean = true) ∧ (∀ o, some o ∈ la → o.clean = true) ∧ la.length ≤ as.length := by exact ⟨rfl, by simp, by simp [Ob.clean, AV.cleanL, AV.clean, C.free], by simp⟩) : CallMK P f args hin as l K st none := L_callm2 h hc k
end
section
variable {P : Program} {T : Tab} {N : Nat} {Q Q' : Exit → St → Prop} {st st' : St} {sc : SC} {f : FuncId} {fn : Func} {rv : List ResultVar} {res : AV}
theorem XA (g : Good P T) {args : List AV} {hr : List Ob} (hf : P.funcs[f]? = some fn) (h : SW P T N sc (retS T rv res hr) (entry args)) (hok : fnOk T fn = true := by kernel_rfl) (hd : fnData T fn = some (sc, N, rv) := by cbv <;> rfl) (hna : args.length ≤ N := by simp only [List.length]; decide) (hrows : ∀ o, o ∈ hr → ∃ b e sz xs, o = .row b e sz xs := by simp) : AC P f args res hr :=
  AC.walk g hf hd hok hna hrows h
theorem XM (g : Good P T) {args : List AV} {hin : List Ob} {la : List (Option Ob)} {lr : List Ob} (hf : P.funcs[f]? = some fn) (h : SW P T N sc (retM T rv res la lr) ⟨fun d => args.getD d (.tup []), hA hin⟩)
    (hok : fnOk T fn = true := by kernel_rfl) (hd : fnData T fn = some (sc, N, rv) := by cbv <;> rfl) (hna : args.length ≤ N := by simp only [List.length]; decide) : MC P f args hin res la lr := MC.walk g hf hd hok hna h
theorem Xto {st : St} (L : List (Nat × AV)) (H : List (Id × Ob)) (hH : leHl (toW st [] H) st.h [] H) (hL : leSl (toW st [] H) st.t L) (hnd : (H.map fun p => ren [] p.1).Nodup := by simp [ren]) (ha : ∀ p, p ∈ H → ∀ q, p.1 = .a q → ren [] p.1 = p.1 := by simp [ren]) : Wk st ⟨sl L, hl H⟩ :=
  Wk.to L H [] hH hnd hL ha
end
section
variable {T : Tab} {st : St} {rv : List ResultVar} {res : AV} {hr : List Ob} {p : Prop} {xs : List AV}
theorem Xrp (hle : (outW st [] []).le res (resOf xs)) (h : resL T st rv = some (p, xs) := by simp only [Ty.isAgg, go_sem, optI, Option.getD_some, Option.getD_none, Int.reduceToNat, reduceIte, Nat.reduceEqDiff, Nat.reduceAdd, Nat.reduceMul, Nat.reduceSub, Nat.reduceLT, Nat.reduceLeDiff, reduceCtorEq] <;> rfl) (hp : p := by simp) : retS T rv res [] .ret st := ret_plain h hp hle
theorem Xrb {b b' : Bool} (e : b = b') (h : resL T st rv = some (p, [vB b']) := by simp only [Ty.isAgg, go_sem, optI, Option.getD_some, Option.getD_none, Int.reduceToNat, reduceIte, Nat.reduceEqDiff, Nat.reduceAdd, Nat.reduceMul, Nat.reduceSub, Nat.reduceLT, Nat.reduceLeDiff, reduceCtorEq] <;> rfl) (hp : p := by simp) : retS T rv (vB b) [] .ret st := ret_bool h hp e
theorem Xri {b b' : Int} (e : b = b') (h : resL T st rv = some (p, [vI b']) := by simp only [Ty.isAgg, go_sem, optI, Option.getD_some, Option.getD_none, Int.reduceToNat, reduceIte, Nat.reduceEqDiff, Nat.reduceAdd, Nat.reduceMul, Nat.reduceSub, Nat.reduceLT, Nat.reduceLeDiff, reduceCtorEq] <;> rfl) (hp : p := by simp) : retS T rv (vI b) [] .ret st := ret_int h hp e
theorem Xrs {b b' : List UInt8} (e : b = b') (h : resL T st rv = some (p, [vS b']) := by simp only [Ty.isAgg, go_sem, optI, Option.getD_some, Option.getD_none, Int.reduceToNat, reduceIte, Nat.reduceEqDiff, Nat.reduceAdd, Nat.reduceMul, Nat.reduceSub, Nat.reduceLT, Nat.reduceLeDiff, reduceCtorEq] <;> rfl) (hp : p := by simp) : retS T rv (vS b) [] .ret st := ret_str h hp e
theorem Xro {i : Id} {o o' : Ob} (hoo : (outW st [i] [o]).leO o o') (hle : (outW st [i] [o]).le res (resOf xs)) (h : resL T st rv = some (p, xs) := by simp only [Ty.isAgg, go_sem, optI, Option.getD_some, Option.getD_none, Int.reduceToNat, reduceIte, Nat.reduceEqDiff, Nat.reduceAdd, Nat.reduceMul, Nat.reduceSub, Nat.reduceLT, Nat.reduceLeDiff, reduceCtorEq] <;> rfl) (hp : p := by simp) (ho : st.h i = some o' := by simp only [go_sem, optI, Option.getD_some, Option.getD_none, Int.reduceToNat, reduceIte, Nat.reduceEqDiff, Nat.reduceAdd, Nat.reduceMul, Nat.reduceSub, Nat.reduceLT, Nat.reduceLeDiff, reduceCtorEq] <;> rfl) : retS T rv res [o] .ret st := ret_one h hp ho hoo hle
theorem Xrm {o o' : Ob} (hoo : (outM st [] [some o] []).leO o o') (hle : (outM st [] [some o] []).le res (resOf xs)) (h : resL T st rv = some (p, xs) := by simp only [Ty.isAgg, go_sem, optI, Option.getD_some, Option.getD_none, Int.reduceToNat, reduceIte, Nat.reduceEqDiff, Nat.reduceAdd, Nat.reduceMul, Nat.reduceSub, Nat.reduceLT, Nat.reduceLeDiff, reduceCtorEq] <;> rfl) (hp : p := by simp) (ho : st.h (.a 0) = some o' := by simp only [go_sem, optI, Option.getD_some, Option.getD_none, Int.reduceToNat, reduceIte, Nat.reduceEqDiff, Nat.reduceAdd, Nat.reduceMul, Nat.reduceSub, Nat.reduceLT, Nat.reduceLeDiff, reduceCtorEq] <;> rfl) : retM T rv res [some o] [] .ret st := by
  simp only [retM, h]
  refine ⟨hp, [], rfl, .nil, fun j k hj => by simp at hj, fun k o1 hk => ?_, fun j o i hj => by simp at hj, hle⟩
  cases k with
  | zero => simp at hk; subst hk; exact ⟨o', ho, hoo⟩
  | succ k => simp at hk
theorem Xr0 (hle : (outM st [] [] []).le res (resOf xs)) (h : resL T st rv = some (p, xs) := by simp only [Ty.isAgg, go_sem, optI, Option.getD_some, Option.getD_none, Int.reduceToNat, reduceIte, Nat.reduceEqDiff, Nat.reduceAdd, Nat.reduceMul, Nat.reduceSub, Nat.reduceLT, Nat.reduceLeDiff, reduceCtorEq] <;> rfl) (hp : p := by simp) : retM T rv res [] [] .ret st := by
  simp only [retM, h]
  exact ⟨hp, [], rfl, .nil, fun j k hj => by simp at hj, fun k o hk => by simp at hk, fun j o i hj => by simp at hj, hle⟩
theorem Xr1 {i : Id} {o o' : Ob} (hoo : (outM st [i] [] [o]).leO o o') (hle : (outM st [i] [] [o]).le res (resOf xs)) (h : resL T st rv = some (p, xs) := by simp only [Ty.isAgg, go_sem, optI, Option.getD_some, Option.getD_none, Int.reduceToNat, reduceIte, Nat.reduceEqDiff, Nat.reduceAdd, Nat.reduceMul, Nat.reduceSub, Nat.reduceLT, Nat.reduceLeDiff, reduceCtorEq] <;> rfl) (hp : p := by simp) (ho : st.h i = some o' := by simp only [go_sem, optI, Option.getD_some, Option.getD_none, Int.reduceToNat, reduceIte, Nat.reduceEqDiff, Nat.reduceAdd, Nat.reduceMul, Nat.reduceSub, Nat.reduceLT, Nat.reduceLeDiff, reduceCtorEq] <;> rfl) : retM T rv res [] [o] .ret st := by
  simp only [retM, h]
  refine ⟨hp, [i], rfl, by simp, fun j k hj => by simp, fun k o1 hk => by simp at hk, fun j o1 i1 hj hi => ?_, hle⟩
  cases j with
  | zero => simp only [List.getElem?_cons_zero, Option.some.injEq] at hj hi; subst hj; subst hi; exact ⟨o', ho, hoo⟩
  | succ j => simp at hj
theorem Xr11 {i : Id} {q q' o o' : Ob} (hqq : (outM st [i] [some q] [o]).leO q q') (hoo : (outM st [i] [some q] [o]).leO o o') (hle : (outM st [i] [some q] [o]).le res (resOf xs)) (h : resL T st rv = some (p, xs) := by simp only [Ty.isAgg, go_sem, optI, Option.getD_some, Option.getD_none, Int.reduceToNat, reduceIte, Nat.reduceEqDiff, Nat.reduceAdd, Nat.reduceMul, Nat.reduceSub, Nat.reduceLT, Nat.reduceLeDiff, reduceCtorEq] <;> rfl) (hp : p := by simp)
    (hq : st.h (.a 0) = some q' := by simp only [go_sem, optI, Option.getD_some, Option.getD_none, Int.reduceToNat, reduceIte, Nat.reduceEqDiff, Nat.reduceAdd, Nat.reduceMul, Nat.reduceSub, Nat.reduceLT, Nat.reduceLeDiff, reduceCtorEq] <;> rfl) (ho : st.h i = some o' := by simp only [go_sem, optI, Option.getD_some, Option.getD_none, Int.reduceToNat, reduceIte, Nat.reduceEqDiff, Nat.reduceAdd, Nat.reduceMul, Nat.reduceSub, Nat.reduceLT, Nat.reduceLeDiff, reduceCtorEq] <;> rfl) (hne : ∀ k, i ≠ .a k := by simp) : retM T rv res [some q] [o] .ret st := by
  simp only [retM, h]
  refine ⟨hp, [i], rfl, by simp, fun j k hj => ?_, fun k o1 hk => ?_, fun j o1 i1 hj hi => ?_, hle⟩
  · cases j with
    | zero => simp only [List.getElem?_cons_zero, Option.some.injEq] at hj; exact absurd hj (hne k)
    | succ j => simp at hj
  · cases k with
    | zero => simp at hk; subst hk; exact ⟨q', hq, hqq⟩
    | succ k => simp at hk
  · cases j with
    | zero => simp only [List.getElem?_cons_zero, Option.some.injEq] at hj hi; subst hj; subst hi; exact ⟨o', ho, hoo⟩
    | succ j => simp at hj
end
/-- names that are not of these are forgotten -/
def cutV (is : List Id) : AV → AV
  | .own i => if i ∈ is then .own i else .dead
  | .vw i lo n => if i ∈ is then .vw i lo n else .dead
  | .ptr i o => if i ∈ is then .ptr i o else .dead
  | .ept i n o => if i ∈ is then .ept i n o else .dead
  | .rx i y => if i ∈ is then .rx i y else .dead
  | .rg i y => if i ∈ is then .rg i y else .dead
  | .rp i y => if i ∈ is then .rp i y else .dead
  | x => x
def hlo : List (Id × Option Ob) → Hp
  | [], _ => none
  | (k, x) :: r, i => if i = k then x else hlo r i
theorem hlo_c (k : Id) (x : Option Ob) (r : List (Id × Option Ob)) (i : Id) : hlo ((k, x) :: r) i = if i = k then x else hlo r i := rfl
theorem hlo_n (i : Id) : hlo [] i = none := rfl
theorem hlo_map (is : List Id) (f : Id → Option Ob) (i : Id) : hlo (is.map fun i => (i, f i)) i = if i ∈ is then f i else none := by
  induction is with
  | nil => rfl
  | cons k r ih =>
    simp only [List.map_cons, hlo, List.mem_cons]
    by_cases e : i = k
    · subst e; simp
    · simp [e, ih]
theorem cutV_c (is : List Id) (b : Bool) (x : C) : cutV is (.c b x) = .c b x := rfl
theorem cutV_nil (is : List Id) : cutV is .nil = .nil := rfl
theorem cutV_dead (is : List Id) : cutV is .dead = .dead := rfl
theorem cutV_ip (is : List Id) (b : Bool) (x : List C) : cutV is (.ip b x) = .ip b x := rfl
theorem cutV_own (is : List Id) (i : Id) : cutV is (.own i) = if i ∈ is then .own i else .dead := rfl
theorem cutV_vw (is : List Id) (i : Id) (lo n : Nat) : cutV is (.vw i lo n) = if i ∈ is then .vw i lo n else .dead := rfl
theorem cutV_ptr (is : List Id) (i : Id) (o : Nat) : cutV is (.ptr i o) = if i ∈ is then .ptr i o else .dead := rfl
theorem cutV_rx (is : List Id) (i : Id) (y : C) : cutV is (.rx i y) = if i ∈ is then .rx i y else .dead := rfl
theorem cutV_rg (is : List Id) (i : Id) (y : C) : cutV is (.rg i y) = if i ∈ is then .rg i y else .dead := rfl
theorem cutV_rp (is : List Id) (i : Id) (y : List C) : cutV is (.rp i y) = if i ∈ is then .rp i y else .dead := rfl
theorem cutV_ept (is : List Id) (i : Id) (n o : Nat) : cutV is (.ept i n o) = if i ∈ is then .ept i n o else .dead := rfl
/-- slots and objects that are not asked for any more are forgotten -/
theorem Xtr {P : Program} {T : Tab} {N : Nat} {y : SC} {Q : Exit → St → Prop} {t : Nat → AV} {h : Hp} (ks : List Nat) (is : List Id)
    (k : SW P T N y Q ⟨sl (ks.map fun k => (k, (t k).on (cutV is))), hlo (is.map fun i => (i, (h i).map (Ob.on (cutV is))))⟩) : SW P T N y Q ⟨t, h⟩ := by
  refine SW.weak k ?_
  rintro Γ a w ⟨S, ν, q⟩
  have hh : ∀ i o, hlo (is.map fun i => (i, (h i).map (Ob.on (cutV is)))) i = some o → i ∈ is ∧ ∃ o0, h i = some o0 ∧ o = Ob.on (cutV is) o0 := by
    intro i o hi
    rw [hlo_map] at hi
    split at hi
    · rename_i hm
      obtain ⟨o0, h1, h2⟩ := Option.map_eq_some_iff.1 hi
      exact ⟨hm, o0, h1, h2.symm⟩
    · cases hi
  have hs : ∀ i, (hlo (is.map fun i => (i, (h i).map (Ob.on (cutV is)))) i).isSome = true → (h i).isSome = true := by
    intro i hi
    obtain ⟨o, ho⟩ := Option.isSome_iff_exists.1 hi
    obtain ⟨_, o0, h1, _⟩ := hh i o ho
    rw [h1]; rfl
  have hin : ∀ i o, i ∈ is → h i = some o → hlo (is.map fun i => (i, (h i).map (Ob.on (cutV is)))) i = some (Ob.on (cutV is) o) := by
    intro i o hm hi
    rw [hlo_map, if_pos hm, hi]; rfl
  have hg : ∀ x v, x.leaf = true → VR S Γ.B ν h w x v → VR S Γ.B ν (hlo (is.map fun i => (i, (h i).map (Ob.on (cutV is))))) w (cutV is x) v := by
    intro x v hl hv
    cases hv with
    | c hk => exact .c hk
    | agg => cases hl
    | tup => cases hl
    | own hk =>
      simp only [cutV]; split
      · rename_i hm; exact .own (hin _ _ hm hk)
      · exact .dead
    | vw hk hle hv =>
      simp only [cutV]; split
      · rename_i hm; exact .vw (hin _ _ hm hk) hle hv
      · exact .dead
    | nil => exact .nil
    | ptr hk hν =>
      simp only [cutV]; split
      · rename_i hm; exact .ptr (hin _ _ hm hk) hν
      · exact .dead
    | ept hk hν hn =>
      simp only [cutV]; split
      · rename_i hm; exact .ept (hin _ _ hm hk) hν hn
      · exact .dead
    | ip u hs hb hu hi => exact .ip u hs hb hu hi
    | fn => cases hl
    | rx hk qq =>
      simp only [cutV]; split
      · rename_i hm; exact .rx (hin _ _ hm hk) qq
      · exact .dead
    | rg hk qq =>
      simp only [cutV]; split
      · rename_i hm; exact .rg (hin _ _ hm hk) qq
      · exact .dead
    | rp hk hs hb qq =>
      simp only [cutV]; split
      · rename_i hm; exact .rp (hin _ _ hm hk) hs hb qq
      · exact .dead
    | dead => exact .dead
  have hreg : ∀ i, hlo (is.map fun i => (i, (h i).map (Ob.on (cutV is)))) i = some .reg → h i = some .reg := by
    intro i hi
    obtain ⟨_, o0, h1, h2⟩ := hh i _ hi
    cases o0 with
    | box => cases h2
    | row => cases h2
    | reg => exact h1
  refine ⟨S, ν, q.defers, q.size, q.s0, q.s1, q.fr, ⟨fun i cs hi => ?_, fun i bor e sz xs hi => ?_, fun i hi => q.ok.reg i (hreg i hi), fun i j b hij hi hj => q.ok.sep i j b hij (hs i hi) (hs j hj), fun i b hi => q.ok.out i b (hs i hi), q.ok.lt⟩,
    fun i b hi => q.mine i b (hs i hi), fun k hk => q.came k (hs _ hk), q.um, fun k hk => q.kp k (hreg _ hk), q.lay, fun d => ?_⟩
  · obtain ⟨_, o0, h1, h2⟩ := hh i _ hi
    cases o0 with
    | row => cases h2
    | reg => cases h2
    | box cs0 =>
      obtain rfl := Ob.box.inj h2
      obtain ⟨b, us, TT, hv, hw, hsz, hc⟩ := q.ok.box i cs0 h1
      refine ⟨b, us, TT, hv, hw, by rw [hsz, AV.onL_map, List.length_map], fun n x u hx hu => ?_⟩
      rw [AV.onL_map, List.getElem?_map] at hx
      obtain ⟨y, hy, rfl⟩ := Option.map_eq_some_iff.1 hx
      exact ⟨(hc n y u hy hu).1.on hg, (hc n y u hy hu).2⟩
  · obtain ⟨_, o0, h1, h2⟩ := hh i _ hi
    cases o0 with
    | box => cases h2
    | reg => cases h2
    | row b0 e0 sz0 xs0 =>
      obtain ⟨rfl, rfl, rfl, rfl⟩ := Ob.row.inj h2
      exact q.ok.row i _ _ _ _ h1
  · have : ∀ (l : List Nat), sl (l.map fun k => (k, (t k).on (cutV is))) d = .dead ∨ sl (l.map fun k => (k, (t k).on (cutV is))) d = (t d).on (cutV is) := by
      intro l
      induction l with
      | nil => exact .inl rfl
      | cons k r ih =>
        simp only [List.map_cons, sl]
        split
        · rename_i e; subst e; exact .inr rfl
        · exact ih
    show VR S Γ.B ν _ w (sl (ks.map fun k => (k, (t k).on (cutV is))) d) _
    rcases this ks with e | e
    · rw [e]; exact .dead
    · rw [e]; exact (q.t d).on hg
attribute [go_sem] hlo_c hlo_n cutV_c cutV_nil cutV_dead cutV_ip cutV_rx cutV_rg cutV_rp cutV_own cutV_vw cutV_ptr cutV_ept List.mem_cons List.not_mem_nil or_false false_or Id.a.injEq
attribute [go_sem] leHl leSl toW ren Wn.leO Wn.le Wn.cw Wn.leL exists_eq_left' Ob.row.injEq Ob.box.injEq AV.own.injEq Option.isSome_some
end Go.Proofs.YtoemclhjcbcjaaaGreat.AB
