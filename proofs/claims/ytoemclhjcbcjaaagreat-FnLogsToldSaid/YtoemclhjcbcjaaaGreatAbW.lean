/- The contract of a function out of its text. -/
import Derived.Test.YtoemclhjcbcjaaaGreatAbV
namespace Go.Proofs.YtoemclhjcbcjaaaGreat.AB
open Go
set_option linter.unusedVariables false
set_option linter.unusedSimpArgs false

/-- one of a function's results -/
def res1 (T : Tab) (st : St) : ResultVar → Option (Prop × AV)
  | .tmp t => some (True, st.t t)
  | .cell a t => match T.at t, readAt st (st.t a) with
    | some i, some xs => if i.u.isAgg then some (i.size ≤ xs.length, .agg (xs.take i.size)) else some (0 < xs.length, xs.getD 0 .dead)
    | _, _ => none
def resL (T : Tab) (st : St) : List ResultVar → Option (Prop × List AV)
  | [] => some (True, [])
  | r :: l => match res1 T st r, resL T st l with
    | some (p, x), some (q, xs) => some (p ∧ q, x :: xs)
    | _, _ => none
def resOf : List AV → AV
  | [x] => x
  | xs => .tup xs

/-- how names go: the j-th row that is handed back is this one here -/
def idsTo (ids : List Id) : Id → Id
  | .r j => ids.getD j (.r j)
  | i => i
/-- the results, with less said of them -/
def outW (st : St) (ids : List Id) (hr : List Ob) : Wn := ⟨idsTo ids, st.h, hrOf hr⟩

/-- what a function's end must come to -/
def retS (T : Tab) (rv : List ResultVar) (res : AV) (hr : List Ob) : Exit → St → Prop
  | .normal, st | .ret, st => match resL T st rv with
    | some (p, xs) => p ∧ ∃ ids : List Id, ids.length = hr.length ∧ ids.Nodup ∧ (∀ (j : Nat) (o : Ob) (i : Id), hr[j]? = some o → ids[j]? = some i → ∃ o', st.h i = some o' ∧ (outW st ids hr).leO o o') ∧ (outW st ids hr).le res (resOf xs)
    | none => False
  | _, _ => False

/-- the slots at the beginning -/
def entry (args : List AV) : St := ⟨fun d => args.getD d (.tup []), hempty⟩

section
variable {P : Program} {T : Tab} {Γ : Gm} {S : Nat → Prop} {ν : Id → Value} {st : St} {a : Act} {w : World}

theorem res1_ok (hT : Tab.ok P T = true) (k : RepW Γ S ν st a w) {r : ResultVar} {p : Prop} {x : AV} (h : res1 T st r = some (p, x)) (hp : p) :
    ∃ v, (match r with | .tmp t => pure (a.tmps.getD t undef) | .cell ad t => do loadVar t (← asAddr (a.tmps.getD ad undef)) : Sem Value).run P w = .ok v w ∧ VR S Γ.B ν st.h w x v := by
  cases r with
  | tmp t =>
    simp only [res1, Option.some.injEq, Prod.mk.injEq] at h
    obtain ⟨-, rfl⟩ := h
    exact ⟨_, rfl, k.t t⟩
  | cell ad t =>
    simp only [res1] at h
    split at h
    · rename_i i xs hi hx
      have hti := Tab.at_ok hT hi
      obtain ⟨adr, he, us, hl, hc, hv⟩ := leads_of (x := .tmp ad) k hx
      have he' : a.tmps.getD ad undef = .pointer (some adr) := he
      have hund := und_some (tyOk_of hti)
      have hagg := run_isAgg w hund.1
      rw [hund.2] at hagg
      split at h
      · rename_i hg
        simp only [Option.some.injEq, Prod.mk.injEq] at h
        obtain ⟨rfl, rfl⟩ := h
        obtain ⟨j, z, hj, hjs, _⟩ := info_of hti
        have hload := run_loadAgg (P := P) (w := w) (t := t) (ad := adr) (us := us.take i.size) (by rw [hagg, hg]) (by rw [run_size w hj, hjs]) (by simp; omega) (fun j u hu => by
          rw [List.getElem?_take] at hu
          split at hu
          · exact hc j u hu
          · cases hu)
        refine ⟨.agg (us.take i.size).toArray, ?_, .agg (by simp [hl]) (fun j x u hx hu => ?_) (fun u hu => ?_)⟩
        · simp only [he']
          simpa [Instr.loadAt, Instr.sureAddr, asAddr] using hload
        · rw [List.getElem?_take] at hx hu
          split at hx
          · rename_i hlt; rw [if_pos hlt] at hu; exact (hv j x u hx hu).1
          · cases hx
        · obtain ⟨j, hj, rfl⟩ := List.getElem_of_mem hu
          rw [List.getElem_take]
          have h1 : j < us.length := by simp at hj; omega
          exact (hv j _ _ (List.getElem?_eq_getElem (by omega)) (List.getElem?_eq_getElem h1)).2
      · rename_i hg
        simp only [Option.some.injEq, Prod.mk.injEq] at h
        obtain ⟨rfl, rfl⟩ := h
        have hlt : 0 < us.length := by rw [hl]; exact hp
        have hu : us[0]? = some us[0] := List.getElem?_eq_getElem hlt
        have hcell := hc 0 _ hu
        rw [show adr.add 0 = adr from by simp [Addr.add]] at hcell
        have hload := run_load1 (P := P) (t := t) (by rw [hagg]; simpa using hg) hcell
        have hx0 : xs[0]? = some (xs.getD 0 .dead) := by rw [List.getElem?_eq_getElem hp, List.getD_eq_getElem?_getD, List.getElem?_eq_getElem hp]; rfl
        refine ⟨us[0], ?_, (hv 0 _ _ hx0 hu).1⟩
        simp only [he']
        simpa [Instr.loadAt, Instr.sureAddr, asAddr] using hload
    · cases h

theorem resL_ok (hT : Tab.ok P T = true) (k : RepW Γ S ν st a w) : ∀ {l : List ResultVar} {p : Prop} {xs : List AV}, resL T st l = some (p, xs) → p →
    ∃ vs : List Value, (l.mapM (fun r => match r with | .tmp t => pure (a.tmps.getD t undef) | .cell ad t => do loadVar t (← asAddr (a.tmps.getD ad undef))) : Sem (List Value)).run P w = .ok vs w ∧ xs.length = vs.length ∧
      ∀ (i : Nat) (x : AV) (u : Value), xs[i]? = some x → vs[i]? = some u → VR S Γ.B ν st.h w x u
  | [], p, xs, h, hp => by
    simp only [resL, Option.some.injEq, Prod.mk.injEq] at h
    obtain ⟨-, rfl⟩ := h
    exact ⟨[], by simp, rfl, fun i x u hx => by simp at hx⟩
  | r :: l, p, xs, h, hp => by
    simp only [resL] at h
    split at h
    · rename_i p1 x p2 xs' h1 h2
      simp only [Option.some.injEq, Prod.mk.injEq] at h
      obtain ⟨rfl, rfl⟩ := h
      obtain ⟨v, hv, hvr⟩ := res1_ok hT k h1 hp.1
      obtain ⟨vs, hvs, hl, hk⟩ := resL_ok hT k h2 hp.2
      refine ⟨v :: vs, ?_, by simp [hl], fun i x u hx hu => ?_⟩
      · rw [List.mapM_cons, Sem.run_bind, hv, Result.andThen_ok, Sem.run_bind, hvs, Result.andThen_ok, Sem.run_pure]
      · cases i with
        | zero => simp only [List.getElem?_cons_zero, Option.some.injEq] at hx hu; subst hx; subst hu; exact hvr
        | succ i => exact hk i x u (by simpa using hx) (by simpa using hu)
    · cases h

theorem results_ok (hT : Tab.ok P T = true) (k : RepW Γ S ν st a w) {fn : Func} {p : Prop} {xs : List AV} (h : resL T st fn.results.toList = some (p, xs)) (hp : p) :
    ∃ v, (results fn a.tmps).run P w = .ok v w ∧ VR S Γ.B ν st.h w (resOf xs) v := by
  obtain ⟨vs, h1, hl, hk⟩ := resL_ok hT k h hp
  have hrun : (results fn a.tmps).run P w = .ok (if h : vs.toArray.size = 1 then vs.toArray[0] else .tuple vs.toArray) w := by
    unfold results
    rw [Sem.run_bind]
    have : (fn.results.mapM (fun r => match r with | .tmp t => pure (a.tmps.getD t undef) | .cell ad t => do loadVar t (← asAddr (a.tmps.getD ad undef))) : Sem (Array Value)).run P w = .ok vs.toArray w := by
      rw [Array.mapM_eq_mapM_toList, Sem.run_map, h1]; rfl
    exact (congrArg (fun r : Result (Array Value) => r.andThen fun vs w' => (pure (if h : vs.size = 1 then vs[0] else Value.tuple vs) : Sem Value).run P w') this).trans rfl
  rw [hrun]
  cases vs with
  | nil =>
    obtain rfl : xs = [] := List.length_eq_zero_iff.1 hl
    exact ⟨.tuple #[], by simp, .tup (us := []) rfl (fun i x u hx => by simp at hx)⟩
  | cons v vs =>
    cases vs with
    | nil =>
      obtain ⟨x, rfl⟩ := List.length_eq_one_iff.1 hl
      exact ⟨v, by simp, hk 0 x v rfl rfl⟩
    | cons v' vs =>
      match xs, hl, hk with
      | x :: x' :: xs, hl, hk =>
        exact ⟨.tuple (v :: v' :: vs).toArray, by simp, .tup hl (fun i y u hy hu => hk i y u hy hu)⟩

theorem run_enter {f : FuncId} {fn : Func} {vs : Array Value} (hf : P.funcs[f]? = some fn) (hn : fn.name ≠ "runtime.NumGoroutine") (hb : fn.body.isNone = false) : (callFunc f vs).run P w = .ok (.enter f vs) w := by
  have hb' : fn.body ≠ none := fun e => by rw [e] at hb; cases hb
  simp [callFunc, hf, hn, hb']

/-- THE CONTRACT OUT OF THE TEXT -/
theorem AC.intro (g : Good P T) {f : FuncId} {fn : Func} {body : Code} {sc : SC} {args : List AV} {res : AV} {hr : List Ob} (hf : P.funcs[f]? = some fn) (hn : fn.name ≠ "runtime.NumGoroutine") (hb : fn.body = some body)
    (hc : comp T body = some sc) (hok : codeOk T fn.ntmps body = true) (hna : args.length ≤ fn.ntmps) (hrows : ∀ o, o ∈ hr → ∃ b e sz xs, o = .row b e sz xs)
    (h : SW P T fn.ntmps sc (retS T fn.results.toList res hr) (entry args)) : AC P f args res hr := by
  refine ⟨hrows, fun w S B ν vs hlt hlay hl hvr => .inl ⟨run_enter hf hn (by rw [hb]; rfl), ?_⟩⟩
  let Γ : Gm := ⟨w, S, B, fun _ => False, fn.ntmps, fun _ => undef⟩
  have hrep : Rep Γ (entry args) { tmps := vs ++ Array.replicate (fn.ntmps - vs.size) undef, defers := [] } w := by
    refine ⟨S, fun _ => undef, rfl, by simp only [Array.size_append, Array.size_replicate]; show _ = fn.ntmps; omega, fun b hb => hb, fun b hb => .inl hb, Fr.refl _ _, ⟨fun i cs hi => (by cases hi), fun i b e sz xs hi => (by cases hi), fun i hi => (by cases hi), fun i j b _ hi => (by cases hi), fun i b hi => (by cases hi), hlt⟩,
      fun i b hi => (by cases hi), fun k hi => (by cases hi), fun b hb => .inl hb, fun k hi => (by cases hi), hlay, fun d => ?_⟩
    show VR S B _ hempty w (args.getD d (.tup [])) _
    by_cases hd : d < args.length
    · have h1 : args[d]? = some args[d] := List.getElem?_eq_getElem hd
      have h2 : vs[d]? = some (vs[d]'(by omega)) := Array.getElem?_eq_getElem (by omega)
      have h3 : (vs ++ Array.replicate (fn.ntmps - vs.size) undef)[d]? = some (vs[d]'(by omega)) := by rw [Array.getElem?_append_left (by omega), h2]
      simp only [List.getD_eq_getElem?_getD, Array.getD_eq_getD_getElem?, h1, h3, Option.getD_some]
      exact (hvr d _ _ h1 h2).mono (fun _ q => q) (fun _ q => q) (fun i cs hi => (by cases hi)) (fun i b e sz xs hi => (by cases hi)) (fun i hi => (by cases hi)) (fun _ _ => rfl)
    · have h1 : args[d]? = none := List.getElem?_eq_none (by omega)
      have h3 : (vs ++ Array.replicate (fn.ntmps - vs.size) undef)[d]?.getD undef = undef := by
        rw [Array.getElem?_append_right (by omega)]
        simp only [Array.getElem?_replicate]
        split <;> rfl
      simp only [List.getD_eq_getElem?_getD, Array.getD_eq_getD_getElem?, h1, h3, Option.getD_none]
      exact .tup (us := []) rfl (fun i x u hx => by simp at hx)
  refine calls_of_wp hf hb (wp_mono (h body hc hok Γ _ w rfl hrep) (fun e a' w' ⟨st', hq, S', ν', k⟩ => ?_))
  have fin : retS T fn.results.toList res hr .ret st' → a'.defers = [] ∧ ∃ v, (results fn a'.tmps).run P w' = .ok v w' ∧ ∃ v', Ending.returned v = .returned v' ∧ ∃ S' ν', CPost S B w hr res S' ν' v' w' := by
    intro hq
    simp only [retS] at hq
    split at hq
    · rename_i p xs hres
      obtain ⟨hp, ids, hil, hnd, hrow, hle⟩ := hq
      obtain ⟨v, hv, hvr'⟩ := results_ok g.tab k hres hp
      refine ⟨k.defers, v, hv, v, rfl, (outW st' ids hr).stay ν' S', fun i => ν' (idsTo ids i), ?_⟩
      have hh : ∀ i o', (outW st' ids hr).h' i = some o' → ∃ o, (outW st' ids hr).h ((outW st' ids hr).ρ i) = some o ∧ (outW st' ids hr).leO o' o := by
        intro i o' hi
        cases i with
        | r j =>
          have hj : hr[j]? = some o' := hi
          have hlt : j < ids.length := by rw [hil]; exact (List.getElem?_eq_some_iff.1 hj).1
          obtain ⟨o, ho, hle⟩ := hrow j o' _ hj (List.getElem?_eq_getElem hlt)
          refine ⟨o, ?_, hle⟩
          show st'.h (ids.getD j (.r j)) = some o
          rw [List.getD_eq_getElem?_getD, List.getElem?_eq_getElem hlt]; exact ho
        | s => cases hi
        | a => cases hi
      have hget : ∀ j, (hrOf hr (.r j)).isSome = true → ∃ hlt : j < ids.length, idsTo ids (.r j) = ids[j] := by
        intro j hj
        obtain ⟨o', ho'⟩ := Option.isSome_iff_exists.1 hj
        have hlt : j < ids.length := by rw [hil]; exact (List.getElem?_eq_some_iff.1 (show hr[j]? = some o' from ho')).1
        refine ⟨hlt, ?_⟩
        show ids.getD j (.r j) = _
        rw [List.getD_eq_getElem?_getD, List.getElem?_eq_getElem hlt]; rfl
      have hw := k.weak (W := outW st' ids hr) (t' := fun _ => .dead) rfl (fun d => by simp only [Wn.le]) hh (fun i j hi hj he => by
        cases i with
        | r p =>
          cases j with
          | r q =>
            obtain ⟨h1, e1⟩ := hget p hi
            obtain ⟨h2, e2⟩ := hget q hj
            have he' : ids[p] = ids[q] := by rw [← e1, ← e2]; exact he
            have := (List.getElem_inj hnd).1 he'
            rw [this]
          | s => cases hj
          | a => cases hj
        | s => cases hi
        | a => cases hi) (fun q hq => by cases hq)
      have hval := VR.weak (W := outW st' ids hr) (S := S') (B := B) (ν := ν') (w := w') (by exact k.ok) hh (y := resOf xs) (v := v) (by exact hvr') hle
      refine ⟨⟨hw.fr.os, hw.fr.tape, hw.fr.output, hw.fr.size, fun b hb hx => hw.fr.keep b hb (fun q => q)⟩, hw.s0, fun b hb => ?_, hw.ok, fun i b hi hb => ?_, hw.um, hval⟩
      · rcases hw.s1 b hb with h | h | h
        · exact .inl h
        · exact .inr h
        · exact h.elim
      · exact (hw.mine i b hi hb).resolve_right (fun q => q)
    · exact hq.elim
  cases e with
  | normal => exact fin hq
  | ret => exact fin hq
  | exit => exact hq.elim
  | goto => exact hq.elim
  | panic => exact hq.elim
  | outgrown => exact hq.elim
/-- how names go where objects were handed in -/
def outM (st : St) (ids : List Id) (la : List (Option Ob)) (lr : List Ob) : Wn := ⟨idsTo ids, st.h, hAR la lr⟩

/-- what such a function's end must come to -/
def retM (T : Tab) (rv : List ResultVar) (res : AV) (la : List (Option Ob)) (lr : List Ob) : Exit → St → Prop
  | .normal, st | .ret, st => match resL T st rv with
    | some (p, xs) => p ∧ ∃ ids : List Id, ids.length = lr.length ∧ ids.Nodup ∧ (∀ (j k : Nat), ids[j]? = some (.a k) → (la[k]?).join = none) ∧
        (∀ (k : Nat) (o : Ob), (la[k]?).join = some o → ∃ o', st.h (.a k) = some o' ∧ (outM st ids la lr).leO o o') ∧
        (∀ (j : Nat) (o : Ob) (i : Id), lr[j]? = some o → ids[j]? = some i → ∃ o', st.h i = some o' ∧ (outM st ids la lr).leO o o') ∧ (outM st ids la lr).le res (resOf xs)
    | none => False
  | _, _ => False

/-- THE CONTRACT OUT OF THE TEXT, of a function that may write what it is handed -/
theorem MC.intro (g : Good P T) {f : FuncId} {fn : Func} {body : Code} {sc : SC} {args : List AV} {hin : List Ob} {res : AV} {la : List (Option Ob)} {lr : List Ob} (hf : P.funcs[f]? = some fn) (hn : fn.name ≠ "runtime.NumGoroutine") (hb : fn.body = some body)
    (hc : comp T body = some sc) (hok : codeOk T fn.ntmps body = true) (hna : args.length ≤ fn.ntmps)
    (h : SW P T fn.ntmps sc (retM T fn.results.toList res la lr) ⟨fun d => args.getD d (.tup []), hA hin⟩) : MC P f args hin res la lr := by
  intro w S B ν vs hin_ok hlay hl hvr
  refine .inl ⟨run_enter hf hn (by rw [hb]; rfl), ?_⟩
  let X : Nat → Prop := blksOf (hA hin) ν
  let Γ : Gm := ⟨w, S, B, X, fn.ntmps, ν⟩
  have hrep : Rep Γ ⟨fun d => args.getD d (.tup []), hA hin⟩ { tmps := vs ++ Array.replicate (fn.ntmps - vs.size) undef, defers := [] } w := by
    refine ⟨S, ν, rfl, by simp only [Array.size_append, Array.size_replicate]; show _ = fn.ntmps; omega, fun b hb => hb, fun b hb => .inl hb, Fr.refl _ _, hin_ok,
      fun i b hi hb => .inr ⟨i, hi, hb⟩, fun k hi => rfl, fun b hb => .inl hb, fun k hi => .same (fun _ _ => rfl), hlay, fun d => ?_⟩
    show VR S B _ (hA hin) w (args.getD d (.tup [])) _
    by_cases hd : d < args.length
    · have h1 : args[d]? = some args[d] := List.getElem?_eq_getElem hd
      have h2 : vs[d]? = some (vs[d]'(by omega)) := Array.getElem?_eq_getElem (by omega)
      have h3 : (vs ++ Array.replicate (fn.ntmps - vs.size) undef)[d]? = some (vs[d]'(by omega)) := by rw [Array.getElem?_append_left (by omega), h2]
      simp only [List.getD_eq_getElem?_getD, Array.getD_eq_getD_getElem?, h1, h3, Option.getD_some]
      exact hvr d _ _ h1 h2
    · have h1 : args[d]? = none := List.getElem?_eq_none (by omega)
      have h3 : (vs ++ Array.replicate (fn.ntmps - vs.size) undef)[d]?.getD undef = undef := by
        rw [Array.getElem?_append_right (by omega)]
        simp only [Array.getElem?_replicate]
        split <;> rfl
      simp only [List.getD_eq_getElem?_getD, Array.getD_eq_getD_getElem?, h1, h3, Option.getD_none]
      exact .tup (us := []) rfl (fun i x u hx => by simp at hx)
  refine calls_of_wp hf hb (wp_mono (h body hc hok Γ _ w rfl hrep) (fun e a' w' ⟨st', hq, S', ν', k⟩ => ?_))
  have fin : retM T fn.results.toList res la lr .ret st' → a'.defers = [] ∧ ∃ v, (results fn a'.tmps).run P w' = .ok v w' ∧ ∃ v', Ending.returned v = .returned v' ∧ ∃ S' ν', MPost S B ν (hA hin) w (hAR la lr) res S' ν' v' w' := by
    intro hq
    simp only [retM] at hq
    split at hq
    · rename_i p xs hres
      obtain ⟨hp, ids, hil, hnd, hna, hla, hlr, hle⟩ := hq
      obtain ⟨v, hv, hvr'⟩ := results_ok g.tab k hres hp
      refine ⟨k.defers, v, hv, v, rfl, (outM st' ids la lr).stay ν' S', fun i => ν' (idsTo ids i), ?_⟩
      have hget : ∀ j, j < lr.length → ∃ hlt : j < ids.length, idsTo ids (.r j) = ids[j] := by
        intro j hj
        have hlt : j < ids.length := by omega
        refine ⟨hlt, ?_⟩
        show ids.getD j (.r j) = _
        rw [List.getD_eq_getElem?_getD, List.getElem?_eq_getElem hlt]; rfl
      have hrlt : ∀ j, (hAR la lr (.r j)).isSome = true → j < lr.length := by
        intro j hj
        obtain ⟨o', ho'⟩ := Option.isSome_iff_exists.1 hj
        exact (List.getElem?_eq_some_iff.1 (show lr[j]? = some o' from ho')).1
      have hh : ∀ i o', (outM st' ids la lr).h' i = some o' → ∃ o, (outM st' ids la lr).h ((outM st' ids la lr).ρ i) = some o ∧ (outM st' ids la lr).leO o' o := by
        intro i o' hi
        cases i with
        | r j =>
          have hj : lr[j]? = some o' := hi
          obtain ⟨hlt, he⟩ := hget j (List.getElem?_eq_some_iff.1 hj).1
          obtain ⟨o, ho, hle⟩ := hlr j o' _ hj (List.getElem?_eq_getElem hlt)
          refine ⟨o, ?_, hle⟩
          show st'.h (idsTo ids (.r j)) = some o
          rw [he]; exact ho
        | s => cases hi
        | a q =>
          obtain ⟨o, ho, hle⟩ := hla q o' hi
          exact ⟨o, ho, hle⟩
      have hw := k.weak (W := outM st' ids la lr) (t' := fun _ => .dead) rfl (fun d => by simp only [Wn.le]) hh (fun i j hi hj he => by
        cases i with
        | r p =>
          obtain ⟨h1, e1⟩ := hget p (hrlt p hi)
          cases j with
          | r q =>
            obtain ⟨h2, e2⟩ := hget q (hrlt q hj)
            have he' : ids[p] = ids[q] := by rw [← e1, ← e2]; exact he
            have := (List.getElem_inj hnd).1 he'
            rw [this]
          | s => cases hj
          | a q =>
            have he' : ids[p]? = some (.a q) := by rw [List.getElem?_eq_getElem h1, ← e1]; exact congrArg some he
            have := hna p q he'
            have hj' : ((la[q]?).join).isSome = true := hj
            rw [this] at hj'; cases hj'
        | a p =>
          cases j with
          | r q =>
            obtain ⟨h2, e2⟩ := hget q (hrlt q hj)
            have he' : ids[q]? = some (.a p) := by rw [List.getElem?_eq_getElem h2, ← e2]; exact congrArg some he.symm
            have := hna q p he'
            have hj' : ((la[p]?).join).isSome = true := hi
            rw [this] at hj'; cases hj'
          | s => cases hj
          | a q => exact he
        | s => cases hi) (fun q hq => rfl)
      have hval := VR.weak (W := outM st' ids la lr) (S := S') (B := B) (ν := ν') (w := w') (by exact k.ok) hh (y := resOf xs) (v := v) (by exact hvr') hle
      exact ⟨hw.fr, hw.s0, hw.s1, hw.ok, hw.mine, fun q hq => hw.came q hq, hw.um, hw.kp, hval⟩
    · exact hq.elim
  cases e with
  | normal => exact fin hq
  | ret => exact fin hq
  | exit => exact hq.elim
  | goto => exact hq.elim
  | panic => exact hq.elim
  | outgrown => exact hq.elim
end
end Go.Proofs.YtoemclhjcbcjaaaGreat.AB
