/- Regions whose operations come in any order. -/
import Derived.Test.YtoemclhjcbcjaaaGreatAbR
namespace Go.Proofs.YtoemclhjcbcjaaaGreat.AB
open Go
set_option linter.unusedVariables false
set_option linter.unusedSimpArgs false

theorem cst1_all (Q : Id → Prop) (v : Value) : (cst1 v).all Q := by
  unfold cst1
  split
  · simp only [AV.all]
  · split <;> simp only [AV.all]
theorem cst_all (Q : Id → Prop) (v : Value) : (cst v).all Q := by
  unfold cst
  split
  · split
    · simp only [AV.all]
      refine AV.allL_iff.2 (fun x hx => ?_)
      obtain ⟨u, _, rfl⟩ := List.mem_map.1 hx
      exact cst1_all Q u
    · simp only [AV.all]
  · simp only [AV.all]
  · exact cst1_all Q _

/-- what slots speak of is there -/
def Live (st : St) : Prop := (∀ d, (st.t d).all fun i => (st.h i).isSome = true) ∧ ∀ i cs, st.h i = some (.box cs) → AV.allL (fun i => (st.h i).isSome = true) cs

theorem RepW.live {Γ : Gm} {S : Nat → Prop} {ν : Id → Value} {st : St} {a : Act} {w : World} (k : RepW Γ S ν st a w) : Live st := by
  refine ⟨fun d => (k.t d).all, fun i cs hi => AV.allL_iff.2 fun x hx => ?_⟩
  obtain ⟨b, us, T, _, _, hsz, hc⟩ := k.ok.box i cs hi
  obtain ⟨j, hj⟩ := List.mem_iff_getElem?.1 hx
  have hlt : j < us.size := by rw [hsz]; exact (List.getElem?_eq_some_iff.1 hj).1
  exact (hc j x _ hj (Array.getElem?_eq_getElem hlt)).1.all

theorem Live.evalO {st : St} (h : Live st) (x : Operand) : (AB.evalO st x).all fun i => (st.h i).isSome = true := by
  cases x with
  | tmp t => exact h.1 t
  | const v => exact cst_all _ v
  | global g => simp only [AB.evalO, AV.all]
  | func f => simp only [AB.evalO, AV.all, AV.allL]

theorem AV.all_top {Q : Id → Prop} {x : AV} {i : Id} (h : x.all Q) (ht : x.top = some i) : Q i := by
  cases x <;> simp only [AV.top, reduceCtorEq, Option.some.injEq] at ht <;> subst ht <;> simpa only [AV.all] using h

def St.adv (st : St) (d : Nat) (x : AV) (obs : List Ob) : St := ⟨upd st.t d x, hputs st.h d 0 obs⟩

def SOp.does (P : Program) (so : SOp) (d : Nat) (st : St) (x : AV) (obs : List Ob) : Prop :=
  hfree st.h d 0 obs ∧ (if so.isCall then ∃ f xs, so.callOf st = some (f, xs) ∧ CalledR P f st.h xs d x obs
  else ∃ p ob, qf st d so = some (p, x, ob) ∧ p ∧ obs = ob.toList)


def GOp.does (P : Program) (g : GOp) (d : Nat) (st : St) (x : AV) (obs : List Ob) : Prop :=
  match g.guard with
  | none => g.op.does P d st x obs
  | some (t, w) => match st.t t with
    | .c _ (.v (.bool b)) => (b = w ∧ g.op.does P d st x obs) ∨ (b ≠ w ∧ x = .tup [] ∧ obs = [])
    | .tup [] => x = .tup [] ∧ obs = []
    | _ => False


structure Ext (st st' : St) (R : List Nat) : Prop where
  t : ∀ d, d ∈ R → st'.t d = st.t d
  h : ∀ i o, st.h i = some o → st'.h i = some o

section
variable {P : Program} {st st' : St} {d e : Nat} {so : SOp} {g : GOp} {x y : AV} {obs q : List Ob} {K : St → Prop}

theorem SOp.sem_does (hq : so.quiet = true) : so.sem P (some d) st K ↔ ∃ x obs, so.does P d st x obs ∧ K (st.adv d x obs) := by
  simp only [SOp.quiet, Bool.and_eq_true, Bool.not_eq_true'] at hq
  obtain ⟨hq, hqm⟩ := hq
  unfold SOp.sem SOp.does
  rw [hqm]
  cases hc : so.isCall with
  | true =>
    simp only [if_true]
    constructor
    · rintro ⟨f, xs, h0, x, obs, h1, h2, h3⟩
      exact ⟨x, obs, ⟨h2, f, xs, h0, h1⟩, h3⟩
    · rintro ⟨x, obs, ⟨h2, f, xs, h0, h1⟩, h3⟩
      exact ⟨f, xs, h0, x, obs, h1, h2, h3⟩
  | false =>
    simp only [Bool.false_eq_true, if_false]
    simp only [oneF, hq.1, hq.2, if_false, Bool.false_eq_true]
    cases hf : qf st d so with
    | none =>
      simp only [reduceCtorEq, false_and, exists_false, and_false]
    | some r =>
      obtain ⟨p, x, ob⟩ := r
      cases ob with
      | none =>
        simp only [Option.some.injEq, Prod.mk.injEq]
        constructor
        · rintro ⟨hp, hK⟩
          exact ⟨x, [], ⟨by simp [hfree], p, none, ⟨rfl, rfl, rfl⟩, hp, rfl⟩, hK⟩
        · rintro ⟨x', obs, ⟨_, p', ob', ⟨rfl, rfl, rfl⟩, hp, rfl⟩, hK⟩
          exact ⟨hp, hK⟩
      | some ob =>
        simp only [Option.some.injEq, Prod.mk.injEq]
        constructor
        · rintro ⟨⟨hp, hf⟩, hK⟩
          exact ⟨x, [ob], ⟨by simp [hfree, hf], p, some ob, ⟨rfl, rfl, rfl⟩, hp, rfl⟩, hK⟩
        · rintro ⟨x', obs, ⟨hf, p', ob', ⟨rfl, rfl, rfl⟩, hp, rfl⟩, hK⟩
          simp only [Option.toList, hfree, and_true] at hf
          exact ⟨⟨hp, hf⟩, hK⟩

theorem GOp.sem_does (hq : g.op.quiet = true) (hd : g.dst = some d) : g.sem P st K ↔ ∃ x obs, g.does P d st x obs ∧ K (st.adv d x obs) := by
  have hskip : g.skip st = st.adv d (.tup []) [] := by simp [GOp.skip, hd, St.adv, hputs]
  have hsk : K (g.skip st) ↔ ∃ x obs, (x = .tup [] ∧ obs = []) ∧ K (st.adv d x obs) := by
    rw [hskip]
    constructor
    · exact fun h => ⟨_, _, ⟨rfl, rfl⟩, h⟩
    · rintro ⟨_, _, ⟨rfl, rfl⟩, h⟩; exact h
  unfold GOp.sem GOp.does
  rw [hd]
  cases hg : g.guard with
  | none => exact SOp.sem_does hq
  | some tw =>
    obtain ⟨t, w⟩ := tw
    simp only
    generalize st.t t = z
    split
    · rename_i bo b
      rw [SOp.sem_does hq]
      constructor
      · rintro ⟨h1, h2⟩
        by_cases hb : b = w
        · obtain ⟨x, obs, h3, h4⟩ := h1 hb
          exact ⟨x, obs, Or.inl ⟨hb, h3⟩, h4⟩
        · obtain ⟨x, obs, h3, h4⟩ := hsk.1 (h2 hb)
          exact ⟨x, obs, Or.inr ⟨hb, h3⟩, h4⟩
      · rintro ⟨x, obs, h3, h4⟩
        rcases h3 with ⟨hb, h3⟩ | ⟨hb, h3⟩
        · exact ⟨fun _ => ⟨x, obs, h3, h4⟩, fun hn => absurd hb hn⟩
        · exact ⟨fun hn => absurd hn hb, fun _ => hsk.2 ⟨x, obs, h3, h4⟩⟩
    · exact hsk
    · rename_i hn1 hn2
      refine ⟨fun h => h.elim, fun ⟨x, obs, h, _⟩ => ?_⟩
      revert h
      split
      · rename_i b heq; exact fun _ => hn1 _ b rfl
      · rename_i heq; exact fun _ => hn2 rfl
      · exact id

theorem hfree_iff (h : Hp) (d : Nat) : ∀ (hr : List Ob) (j : Nat), hfree h d j hr ↔ ∀ q, j ≤ q → q < j + hr.length → h (.s d q) = none
  | [], j => by simp [hfree]; omega
  | o :: r, j => by
    simp only [hfree, hfree_iff h d r, List.length_cons]
    constructor
    · rintro ⟨h1, h2⟩ q h3 h4
      by_cases e : q = j
      · subst e; exact h1
      · exact h2 q (by omega) (by omega)
    · intro h1
      exact ⟨h1 j (by omega) (by omega), fun q h2 h3 => h1 q (by omega) (by omega)⟩

theorem Ext.agr (h : Ext st st' g.reads) {x : Operand} (hx : x ∈ g.op.opds) : evalO st' x = evalO st x := by
  cases x with
  | tmp t => exact h.t t (by unfold GOp.reads; exact List.mem_append.2 (.inr (List.mem_filterMap.2 ⟨_, hx, rfl⟩)))
  | const v => rfl
  | global g => rfl
  | func f => rfl

theorem lendC_mono {h h' : Hp} (hh : ∀ i o, h i = some o → h' i = some o) {x : AV} {c : C} (hx : lendC h x = some c) : lendC h' x = some c := by
  cases x <;> simp only [lendC, reduceCtorEq] at hx ⊢ <;> try exact hx
  case own i =>
    cases hi : h i with
    | none => rw [hi] at hx; cases hx
    | some o => rw [hh i o hi]; rw [hi] at hx; exact hx
  case vw i lo n =>
    cases hi : h i with
    | none => rw [hi] at hx; cases hx
    | some o => rw [hh i o hi]; rw [hi] at hx; exact hx
theorem lendL_mono {h h' : Hp} (hh : ∀ i o, h i = some o → h' i = some o) : ∀ {xs : List AV} {cs : List C}, lendL h xs = some cs → lendL h' xs = some cs
  | [], cs, hx => hx
  | x :: xs, cs, hx => by
    simp only [lendL] at hx ⊢
    split at hx
    · rename_i c0 cs0 h1 h2
      rw [lendC_mono hh h1, lendL_mono hh h2]; exact hx
    · cases hx

theorem lendL_congr {h h' : Hp} : ∀ {xs : List AV}, (∀ x, x ∈ xs → lendC h x = lendC h' x) → lendL h xs = lendL h' xs
  | [], _ => rfl
  | x :: xs, hx => by simp only [lendL]; rw [hx x (by simp), lendL_congr (fun y hy => hx y (by simp [hy]))]
theorem lendC_live {h h' : Hp} (hh : ∀ i o, h i = some o → h' i = some o) {x : AV} (hx : x.all fun i => (h i).isSome = true) : lendC h' x = lendC h x := by
  cases x <;> simp only [lendC]
  case own i =>
    simp only [AV.all] at hx
    obtain ⟨o, ho⟩ := Option.isSome_iff_exists.1 hx
    rw [ho, hh i o ho]
  case vw i lo n =>
    simp only [AV.all] at hx
    obtain ⟨o, ho⟩ := Option.isSome_iff_exists.1 hx
    rw [ho, hh i o ho]

theorem lend_mono {h h' : Hp} (hh : ∀ i o, h i = some o → h' i = some o) (x : AV) (hx : x.leaf = true) : lend h x = lend h' x ∨ lend h x = .dead := by
  cases x <;> simp only [lend, true_or]
  case own i =>
    cases hi : h i with
    | none => exact .inr rfl
    | some o => rw [hh i o hi]; exact .inl rfl
  case vw i lo n =>
    cases hi : h i with
    | none => exact .inr rfl
    | some o => rw [hh i o hi]; exact .inl rfl
  case ept i n o =>
    cases hi : h i with
    | none => exact .inr rfl
    | some o => rw [hh i o hi]; exact .inl rfl
  case ptr i o =>
    cases hi : h i with
    | none => exact .inr rfl
    | some ob =>
      rw [hh i ob hi]
      cases ob with
      | row => exact .inl rfl
      | reg => exact .inl rfl
      | box cs =>
        simp only
        cases hl : lendL h (cs.drop o) with
        | none => exact .inr rfl
        | some ys => rw [lendL_mono hh hl]; exact .inl rfl

  case rx i x =>
    cases hi : h i with
    | none => exact .inr rfl
    | some o => rw [hh i o hi]; exact .inl rfl

theorem AC.args {f : FuncId} {xs ys : List AV} {res : AV} {hr : List Ob} (h : AC P f xs res hr) (hl : xs.length = ys.length)
    (hv : ∀ (i : Nat) (x y : AV), xs[i]? = some x → ys[i]? = some y → ∀ (S B : Nat → Prop) (ν : Id → Value) (w : World) (v : Value), VR S B ν hempty w y v → VR S B ν hempty w x v) : AC P f ys res hr := by
  refine ⟨h.1, fun w S B ν vs hb hy hn hvr => h.2 w S B ν vs hb hy (hl.trans hn) (fun i x v hx hv' => ?_)⟩
  have hi : i < ys.length := by rw [← hl]; exact (List.getElem?_eq_some_iff.1 hx).1
  exact hv i x _ hx (List.getElem?_eq_getElem hi) S B ν w v (hvr i _ v (List.getElem?_eq_getElem hi) hv')

theorem lendAll_ac {f : FuncId} {h h' : Hp} {xs : List AV} {res : AV}
    (hg : ∀ x, x ∈ xs → ∀ (S B : Nat → Prop) (ν : Id → Value) (w : World) (v : Value), VR S B ν hempty w (x.on (lend h')) v → VR S B ν hempty w (x.on (lend h)) v)
    (hac : AC P f (lendAll h xs) res obs) : AC P f (lendAll h' xs) res obs := by
  refine hac.args (by simp [lendAll]) (fun i x y hx hy S B ν w v hv => ?_)
  simp only [lendAll, List.getElem?_map] at hx hy
  obtain ⟨o, ho, rfl⟩ := Option.map_eq_some_iff.1 hx
  obtain ⟨o', ho', rfl⟩ := Option.map_eq_some_iff.1 hy
  obtain rfl := Option.some.inj (ho.symm.trans ho')
  exact hg o (List.mem_of_getElem? ho) S B ν w v hv

theorem called_ext {f : FuncId} {h h' : Hp} {xs : List AV} {res : AV}
    (hg : ∀ x, x ∈ xs → ∀ (S B : Nat → Prop) (ν : Id → Value) (w : World) (v : Value), VR S B ν hempty w (x.on (lend h')) v → VR S B ν hempty w (x.on (lend h)) v)
    (hc : Called P f h xs res obs) : Called P f h' xs res obs := by
  rcases hc with ⟨h1, h2⟩ | ⟨β, h1⟩
  · exact .inl ⟨lendAll_ac hg h1, h2⟩
  · exact .inr ⟨β, h1⟩

theorem calledR_ext {f : FuncId} {h h' : Hp} {xs : List AV}
    (hg : ∀ x, x ∈ xs → ∀ (S B : Nat → Prop) (ν : Id → Value) (w : World) (v : Value), VR S B ν hempty w (x.on (lend h')) v → VR S B ν hempty w (x.on (lend h)) v)
    (hc : CalledR P f h xs d x obs) : CalledR P f h' xs d x obs := by
  rcases hc with ⟨res, h1, h2⟩ | ⟨res, h1, h2⟩
  · exact .inl ⟨res, called_ext hg h1, h2⟩
  · exact .inr ⟨res, lendAll_ac hg h1, h2⟩

theorem callOf_ext (hc : g.op.isCall = true) (he : ∀ x, x ∈ g.op.opds → evalO st' x = evalO st x) : g.op.callOf st' = g.op.callOf st := by
  cases hgo : g.op <;> rw [hgo] at hc he <;> simp only [SOp.isCall, reduceCtorEq] at hc
  case call f xs =>
    simp only [SOp.opds] at he
    simp only [SOp.callOf, List.map_congr_left he]

theorem callOf_live (hl : Live st) {f : Nat} {xs : List AV} (h : so.callOf st = some (f, xs)) : ∀ x, x ∈ xs → x.all fun i => (st.h i).isSome = true := by
  cases so <;> simp only [SOp.callOf, reduceCtorEq, Option.some.injEq, Prod.mk.injEq] at h
  case call f xs =>
    obtain ⟨rfl, rfl⟩ := h
    intro x hx
    obtain ⟨o, _, rfl⟩ := List.mem_map.1 hx
    exact hl.evalO o
  case callm f xs =>
    obtain ⟨rfl, rfl⟩ := h
    intro x hx
    obtain ⟨o, _, rfl⟩ := List.mem_map.1 hx
    exact hl.evalO o
  case callv y xs =>
    split at h
    · rename_i f' caps hy
      simp only [Option.some.injEq, Prod.mk.injEq] at h
      obtain ⟨rfl, rfl⟩ := h
      intro x hx
      rcases List.mem_append.1 hx with hx | hx
      · obtain ⟨o, _, rfl⟩ := List.mem_map.1 hx
        exact hl.evalO o
      · have := hl.evalO y
        rw [hy] at this
        simp only [AV.all] at this
        exact AV.allL_iff.1 this x hx
    · cases h

theorem SOp.does_fwd (hx : Ext st st' g.reads) (hf : hfree st'.h d 0 obs) (h : g.op.does P d st x obs) : g.op.does P d st' x obs := by
  refine ⟨hf, ?_⟩
  have h := h.2
  cases hc : g.op.isCall with
  | true =>
    rw [hc, if_pos rfl] at h
    rw [if_pos rfl]
    obtain ⟨f, xs, h0, h1⟩ := h
    refine ⟨f, xs, (callOf_ext hc (fun z hz => hx.agr hz)).trans h0, calledR_ext (fun z hz S B ν w v hv => ?_) h1⟩
    exact VR.on2 (fun u hu => lend_mono hx.h u hu) _ hv
  | false =>
    rw [hc, if_neg (by simp)] at h
    rw [if_neg (by simp)]
    obtain ⟨p, ob, h1, h2, h3⟩ := h
    exact ⟨p, ob, qf_ext (fun z hz => ⟨hx.agr hz, fun i o _ hi => hx.h i o hi⟩) h1, h2, h3⟩

theorem SOp.does_bwd (hl : Live st) (hx : Ext st st' g.reads) (h : g.op.does P d st' x obs) : g.op.does P d st x obs := by
  have hnone : ∀ i, st'.h i = none → st.h i = none := by
    intro i hi
    cases hs : st.h i with
    | none => rfl
    | some o => rw [hx.h i o hs] at hi; cases hi
  refine ⟨(hfree_iff _ _ _ _).2 (fun q h1 h2 => hnone _ ((hfree_iff _ _ _ _).1 h.1 q h1 h2)), ?_⟩
  have h := h.2
  cases hc : g.op.isCall with
  | true =>
    rw [hc, if_pos rfl] at h
    rw [if_pos rfl]
    obtain ⟨f, xs, h0, h1⟩ := h
    rw [callOf_ext hc (fun z hz => hx.agr hz)] at h0
    refine ⟨f, xs, h0, calledR_ext (fun z hz S B ν w v hv => ?_) h1⟩
    rw [AV.on_congr (Q := fun i => (st.h i).isSome = true) (g := lend st'.h) (g' := lend st.h) (fun u hu hq => ?_) _ (callOf_live hl h0 z hz)]
    · exact hv
    · cases u <;> simp only [lend]
      case own i =>
        simp only [AV.all] at hq
        obtain ⟨o, ho⟩ := Option.isSome_iff_exists.1 hq
        rw [ho, hx.h i o ho]
      case vw i lo n =>
        simp only [AV.all] at hq
        obtain ⟨o, ho⟩ := Option.isSome_iff_exists.1 hq
        rw [ho, hx.h i o ho]
      case ept i n oo =>
        simp only [AV.all] at hq
        obtain ⟨o, ho⟩ := Option.isSome_iff_exists.1 hq
        rw [ho, hx.h i o ho]
      case ptr i oo =>
        simp only [AV.all] at hq
        obtain ⟨o, ho⟩ := Option.isSome_iff_exists.1 hq
        rw [ho, hx.h i o ho]
        cases o with
        | row => rfl
        | reg => rfl
        | box cs =>
          simp only
          rw [lendL_congr (h := st'.h) (h' := st.h) (fun u hu => lendC_live hx.h (AV.allL_iff.1 (hl.2 i cs ho) u (List.mem_of_mem_drop hu)))]
      case rx i y =>
        simp only [AV.all] at hq
        obtain ⟨o, ho⟩ := Option.isSome_iff_exists.1 hq
        rw [ho, hx.h i o ho]
  | false =>
    rw [hc, if_neg (by simp)] at h
    rw [if_neg (by simp)]
    obtain ⟨p, ob, h1, h2, h3⟩ := h
    refine ⟨p, ob, qf_ext (fun z hz => ⟨(hx.agr hz).symm, fun i o ht hi => ?_⟩) h1, h2, h3⟩
    rw [hx.agr hz] at ht
    have := AV.all_top (hl.evalO z) ht
    obtain ⟨o', ho'⟩ := Option.isSome_iff_exists.1 this
    rw [hx.h i o' ho'] at hi
    rw [ho', hi]

theorem guard_same (hx : Ext st st' g.reads) {t : Nat} {w : Bool} (hg : g.guard = some (t, w)) : st'.t t = st.t t :=
  hx.t t (by unfold GOp.reads; rw [hg]; simp)

theorem GOp.does_fwd (hx : Ext st st' g.reads) (hf : hfree st'.h d 0 obs) (h : g.does P d st x obs) : g.does P d st' x obs := by
  unfold GOp.does at h ⊢
  cases hg : g.guard with
  | none => rw [hg] at h; exact SOp.does_fwd hx hf h
  | some tw =>
    obtain ⟨t, w⟩ := tw
    rw [hg] at h
    simp only at h ⊢
    rw [guard_same hx hg]
    split at h
    · exact h.imp (fun q => ⟨q.1, SOp.does_fwd hx hf q.2⟩) id
    · exact h
    · exact h.elim

theorem GOp.does_bwd (hl : Live st) (hx : Ext st st' g.reads) (h : g.does P d st' x obs) : g.does P d st x obs := by
  unfold GOp.does at h ⊢
  cases hg : g.guard with
  | none => rw [hg] at h; exact SOp.does_bwd hl hx h
  | some tw =>
    obtain ⟨t, w⟩ := tw
    rw [hg] at h
    simp only at h ⊢
    rw [guard_same hx hg] at h
    split at h
    · exact h.imp (fun q => ⟨q.1, SOp.does_bwd hl hx q.2⟩) id
    · exact h
    · exact h.elim

theorem GOp.does_free (h : g.does P d st x obs) : hfree st.h d 0 obs := by
  unfold GOp.does at h
  split at h
  · exact h.1
  · split at h
    · rcases h with h | ⟨_, _, rfl⟩
      · exact h.2.1
      · simp [hfree]
    · obtain ⟨_, rfl⟩ := h; simp [hfree]
    · exact h.elim

theorem adv_ext (hf : hfree st.h d 0 obs) {R : List Nat} (hd : d ∉ R) : Ext st (st.adv d x obs) R := by
  refine ⟨fun e he => upd_ne _ _ (fun q => hd (q ▸ he)), fun i o hi => ?_⟩
  show hputs st.h d 0 obs i = some o
  rw [hputs_get]
  cases i with
  | s d' q =>
    simp only
    rw [if_neg, hi]
    rintro ⟨rfl, h1, h2⟩
    rw [(hfree_iff _ _ _ _).1 hf q h1 h2] at hi
    cases hi
  | a k => exact hi
  | r k => exact hi

theorem adv_free (hde : d ≠ e) : hfree (st.adv d x obs).h e 0 q ↔ hfree st.h e 0 q := by
  simp only [hfree_iff]
  have : ∀ j, (st.adv d x obs).h (.s e j) = st.h (.s e j) := by
    intro j
    show hputs st.h d 0 obs _ = _
    rw [hputs_get]
    simp only
    rw [if_neg]
    rintro ⟨rfl, _⟩
    exact hde rfl
  simp only [this]

theorem adv_comm (hde : d ≠ e) : (st.adv d x obs).adv e y q = (st.adv e y q).adv d x obs := by
  unfold St.adv
  congr 1
  · funext k
    simp only [upd]
    by_cases h1 : k = e
    · subst h1
      simp [hde.symm]
    · simp [h1]
  · funext i
    simp only [hputs_get]
    cases i with
    | s d' j =>
      simp only
      by_cases h1 : d' = e
      · subst h1
        have : ¬ d' = d := fun h => hde h.symm
        simp [this]
      · simp [h1]
    | a k => rfl
    | r k => rfl

theorem GOp.apart_spec {g k : GOp} (h : g.apart k = true) : ∃ d e, g.dst = some d ∧ k.dst = some e ∧ g.op.quiet = true ∧ k.op.quiet = true ∧ d ≠ e ∧ e ∉ g.reads ∧ d ∉ k.reads := by
  unfold GOp.apart at h
  simp only [Bool.and_eq_true] at h
  obtain ⟨⟨h1, h2⟩, h3⟩ := h
  split at h3
  · rename_i d e hd he
    simp only [Bool.and_eq_true, bne_iff_ne, ne_eq, Bool.not_eq_true', List.contains_eq_mem, decide_eq_false_iff_not] at h3
    exact ⟨d, e, hd, he, h1, h2, h3.1.1, h3.1.2, h3.2⟩
  · cases h3

theorem semL_pull_go (hl : Live st) (hq : g.op.quiet = true) (hd : g.dst = some d) : ∀ (pre post : List GOp) (s1 : St), (∀ p, p ∈ pre → p.apart g = true) → Ext st s1 g.reads →
    semL P (pre ++ g :: post) s1 K → ∃ x obs, g.does P d st x obs ∧ hfree s1.h d 0 obs ∧ semL P (pre ++ post) (s1.adv d x obs) K
  | [], post, s1, _, hx, h => by
    obtain ⟨x, obs, h1, h2⟩ := (GOp.sem_does hq hd).1 h
    exact ⟨x, obs, GOp.does_bwd hl hx h1, GOp.does_free h1, h2⟩
  | p :: pre, post, s1, hp, hx, h => by
    obtain ⟨e, d', he, hd', hqp, _, hne, h1, h2⟩ := GOp.apart_spec (hp p (by simp))
    obtain rfl : d = d' := Option.some.inj (hd.symm.trans hd')
    obtain ⟨y, q, h3, h4⟩ := (GOp.sem_does hqp he).1 h
    have hx2 : Ext s1 (s1.adv e y q) g.reads := adv_ext (GOp.does_free h3) h2
    obtain ⟨x, obs, h5, h6, h7⟩ := semL_pull_go hl hq hd pre post (s1.adv e y q) (fun p' hp' => hp p' (by simp [hp']))
      ⟨fun t ht => (hx2.t t ht).trans (hx.t t ht), fun i o hi => hx2.h i o (hx.h i o hi)⟩ h4
    have hf : hfree s1.h d 0 obs := (adv_free hne).1 h6
    refine ⟨x, obs, h5, hf, ?_⟩
    have hx3 : Ext s1 (s1.adv d x obs) p.reads := adv_ext hf h1
    refine (GOp.sem_does hqp he).2 ⟨y, q, GOp.does_fwd hx3 ((adv_free (Ne.symm hne)).2 (GOp.does_free h3)) h3, ?_⟩
    rw [adv_comm (Ne.symm hne)]
    exact h7

theorem semL_pull {pre post : List GOp} (hl : Live st) (hp : ∀ p, p ∈ pre → p.apart g = true) (h : semL P (pre ++ g :: post) st K) : g.sem P st fun st' => semL P (pre ++ post) st' K := by
  cases pre with
  | nil => exact h
  | cons p pre =>
    obtain ⟨e, d, he, hd, hqp, hq, _⟩ := GOp.apart_spec (hp p (by simp))
    obtain ⟨x, obs, h1, _, h2⟩ := semL_pull_go hl hq hd (p :: pre) post st hp ⟨fun _ _ => rfl, fun _ _ h => h⟩ h
    exact (GOp.sem_does hq hd).2 ⟨x, obs, h1, h2⟩
end
end Go.Proofs.YtoemclhjcbcjaaaGreat.AB
