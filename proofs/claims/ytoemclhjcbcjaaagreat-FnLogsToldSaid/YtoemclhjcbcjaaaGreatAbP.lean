/- An operation without a guard: what it makes of a state, and that the model does so. -/
import Derived.Test.YtoemclhjcbcjaaaGreatAbOm
namespace Go.Proofs.YtoemclhjcbcjaaaGreat.AB
open Go
set_option linter.unusedVariables false
set_option linter.unusedSimpArgs false

def SOp.callOf (st : St) : SOp → Option (Nat × List AV)
  | .call f xs => some (f, xs.map (evalO st))
  | .callm f xs => some (f, xs.map (evalO st))
  | .callv x xs => match evalO st x with
    | .fn f caps => some (f, xs.map (evalO st) ++ caps)
    | _ => none
  | _ => none

/-- the arguments as they are lent -/
def lendAll (h : Hp) (xs : List AV) : List AV := xs.map fun x => x.on (lend h)

def keepAll (β : Bool) (xs : List AV) : List AV := xs.map fun x => x.on (keep β)

/-- of what a state lends a callee, or of what may be handed on, the callee hands this back -/
def Called (P : Program) (f : FuncId) (h : Hp) (xs : List AV) (res : AV) (hr : List Ob) : Prop :=
  (AC P f (lendAll h xs) res hr ∧ res.clean = true ∧ ∀ o, o ∈ hr → o.clean = true) ∨ ∃ β, AC P f (keepAll β xs) res hr

/-- what is read through new blocks alone lies in a region of its own -/
def toR (i : Id) : AV → AV
  | .c b x => match b, x with
    | _, .v s => .c false (.v s)
    | false, .sl xs => .rx i (.sl xs)
    | _, _ => .dead
  | .nil => .nil
  | _ => .dead

/-- the same, or what comes is a region -/
def CalledR (P : Program) (f : FuncId) (h : Hp) (xs : List AV) (d : Nat) (x : AV) (obs : List Ob) : Prop :=
  (∃ res, Called P f h xs res obs ∧ x = res.on (toS d)) ∨ ∃ res, AC P f (lendAll h xs) res [] ∧ x = res.on (toR (.s d 0)) ∧ obs = [.reg]

/-- a call that may write what it is handed; or not -/
def SemM (P : Program) (so : SOp) (dst : Option Nat) (st : St) (K : St → Prop) : Prop :=
  ∃ st1, Wk st st1 ∧ ∃ f ys, so.callOf st1 = some (f, ys) ∧
    ((∃ res hr, Called P f st1.h ys res hr ∧ (match dst with
      | none => K st1
      | some d => hfree st1.h d 0 hr ∧ K ⟨upd st1.t d (res.on (toS d)), hputs st1.h d 0 hr⟩)) ∨
    ∃ (as : List Id) (obs : List Ob) (res : AV) (la : List (Option Ob)) (lr : List Ob), as.map st1.h = obs.map some ∧ as.Nodup ∧ MC P f (ys.map (AV.on (lendM st1.h as))) (obs.map (Ob.on (inM as))) res la lr ∧
      (res.clean = true ∧ (∀ o, o ∈ lr → o.clean = true) ∧ (∀ o, some o ∈ la → o.clean = true) ∧ la.length ≤ as.length) ∧ (match dst with
        | none => lr = [] ∧ K ⟨fun q => (st1.t q).on (kilM as la), hM st1.h as 0 la lr⟩
        | some d => (∀ q, q < lr.length → st1.h (.s d q) = none) ∧ K ⟨upd (fun q => (st1.t q).on (kilM as la)) d (res.on (bkM as d)), hM st1.h as d la lr⟩))

/-- an operation that is no call -/
def oneF (st : St) (dst : Option Nat) (so : SOp) : Option (Prop × St) :=
  if so.isStore then (match dst with
    | none => wf st none so
    | some _ => none)
  else if so.isApp then wf st dst so
  else match dst with
    | none => none
    | some d => match qf st d so with
      | some (p, x, none) => some (p, st.give d x none)
      | some (p, x, some ob) => some (p ∧ st.h (.s d 0) = none, st.give d x (some ob))
      | none => none

/-- what an operation without a guard makes of a state -/
def SOp.sem (P : Program) (dst : Option Nat) (so : SOp) (st : St) (K : St → Prop) : Prop :=
  if so.isCall then ∃ f xs, so.callOf st = some (f, xs) ∧ (match dst with
    | none => (∃ res hr, Called P f st.h xs res hr) ∧ K st
    | some d => ∃ x obs, CalledR P f st.h xs d x obs ∧ hfree st.h d 0 obs ∧ K ⟨upd st.t d x, hputs st.h d 0 obs⟩)
  else if so.isCallM then SemM P so dst st K
  else match oneF st dst so with
    | some (p, st') => p ∧ K st'
    | none => False

section
variable {P : Program} {Γ : Gm} {f : Nat} {xs : List Operand} {op : Op} {S : Nat → Prop} {ν : Id → Value} {st : St} {a : Act} {w : World} {o : Oper} {T : Tab} {so : SOp} {p : Prop}

theorem SOp.sem_mono {dst : Option Nat} {so : SOp} {st : St} {K K' : St → Prop} (h : so.sem P dst st K) (hk : ∀ st, K st → K' st) : so.sem P dst st K' := by
  unfold SOp.sem at h ⊢
  split at h
  · rename_i hc
    rw [if_pos hc]
    obtain ⟨f, xs, h0, h⟩ := h
    refine ⟨f, xs, h0, ?_⟩
    cases dst with
    | none => exact ⟨h.1, hk _ h.2⟩
    | some d =>
      obtain ⟨x, obs, h1, h2, h3⟩ := h
      exact ⟨x, obs, h1, h2, hk _ h3⟩
  · rename_i hc
    rw [if_neg hc]
    split at h
    · rename_i hc2
      rw [if_pos hc2]
      obtain ⟨st1, h0, f, ys, h1, h2⟩ := h
      refine ⟨st1, h0, f, ys, h1, ?_⟩
      rcases h2 with ⟨res, hr, h3, h4⟩ | ⟨as, obs, res, la, lr, h3, h4, h5, h6, h7⟩
      · refine .inl ⟨res, hr, h3, ?_⟩
        cases dst with
        | none => exact hk _ h4
        | some d => exact ⟨h4.1, hk _ h4.2⟩
      · refine .inr ⟨as, obs, res, la, lr, h3, h4, h5, h6, ?_⟩
        cases dst with
        | none => exact ⟨h7.1, hk _ h7.2⟩
        | some d => exact ⟨h7.1, hk _ h7.2⟩
    · rename_i hc2
      rw [if_neg hc2]
      split at h
      · exact ⟨h.1, hk _ h.2⟩
      · exact h.elim

theorem call_wp {f : Nat} {vs : Array Value} {c : Call} {R : Value → World → Prop} {K : Act → World → Prop} {Q : Exit → Act → World → Prop} (ho : o.op = .call c) (hx : execOp a.eval o = callFunc f vs)
    (h : Into P f vs w R) (hk : ∀ v w', R v w' → K (a.put o.dst v) w') : o.wp P a w K Q := by
  unfold Oper.wp
  rw [hx]
  rcases h with ⟨h1, h2⟩ | ⟨v, w', h1, h2⟩
  · rw [h1]
    refine h2.mono (fun e w' q => ?_)
    obtain ⟨v, rfl, hR⟩ := q
    exact hk v w' hR
  · rw [h1]; exact hk v w' h2

def notCall : Option SOp → Bool
  | none => true
  | some so => !so.isCall && !so.isCallM

theorem notCall_map {α : Type} (f : α → SOp) (h : ∀ x, (!(f x).isCall && !(f x).isCallM) = true) (x : Option α) : notCall (x.map f) = true := by
  cases x with
  | none => rfl
  | some x => exact h x

theorem notCall_op (T : Tab) (op : Op) (h : ∀ c, op ≠ .call c) : notCall (compOp T op) = true := by
  cases op
  case call c => exact absurd rfl (h c)
  all_goals (unfold compOp; simp only)
  case makeFunc fn first caps => unfold compFn; (repeat' split) <;> rfl
  all_goals first
    | rfl
    | exact notCall_map _ (fun _ => rfl) _
    | exact notCall_map _ (fun p => by split <;> rfl) _
    | ((repeat' split) <;> first | rfl | exact notCall_map _ (fun _ => rfl) _)

/-- a call's operands -/
theorem call_op (hc : compOp T op = some so) (h : (so.isCall || so.isCallM) = true) : ∃ c : Call, op = .call c ∧
    ((∃ f, c.callee = .value (.func f) ∧ (so = .call f c.args.toList ∨ so = .callm f c.args.toList)) ∨ ∃ x, c.callee = .value x ∧ so = .callv x c.args.toList) := by
  by_cases hcall : ∃ c, op = .call c
  · obtain ⟨c, rfl⟩ := hcall
    refine ⟨c, rfl, ?_⟩
    have h1 : compCall T c = some so := hc
    obtain ⟨callee, args, argTypes⟩ := c
    unfold compCall at h1
    simp only at h1
    cases callee with
    | builtin b =>
      simp only at h1
      have : notCall (compB T b args.toList argTypes.toList) = true := by
        unfold compB
        (repeat' split) <;> first | rfl | exact notCall_map _ (fun _ => rfl) _
      rw [h1] at this
      simp only [notCall, Bool.and_eq_true, Bool.not_eq_true'] at this
      rw [this.1, this.2] at h; cases h
    | value fn =>
      cases fn with
      | func g =>
        refine .inl ⟨g, rfl, ?_⟩
        simp only at h1
        split at h1
        · exact .inr (Option.some.inj h1).symm
        · exact .inl (Option.some.inj h1).symm
      | tmp t => exact .inr ⟨_, rfl, (Option.some.inj h1).symm⟩
      | const t => exact .inr ⟨_, rfl, (Option.some.inj h1).symm⟩
      | global t => exact .inr ⟨_, rfl, (Option.some.inj h1).symm⟩
    | invoke => simp at h1
  · have := notCall_op T op (fun c e => hcall ⟨c, e⟩)
    rw [hc] at this
    simp only [notCall, Bool.and_eq_true, Bool.not_eq_true'] at this
    rw [this.1, this.2] at h; cases h

/-- what a call's operands stand for -/
theorem call_args (k : RepW Γ S ν st a w) (hc : compOp T o.op = some so) (h : (so.isCall || so.isCallM) = true) {f : Nat} {ys : List AV} (hy : so.callOf st = some (f, ys)) :
    ∃ c vs, o.op = .call c ∧ execOp a.eval o = callFunc f vs ∧ ys.length = vs.size ∧ ∀ (i : Nat) (x : AV) (v : Value), ys[i]? = some x → vs[i]? = some v → VR S Γ.B ν st.h w x v := by
  have hargs : ∀ (xs : Array Operand) (i : Nat) (x : AV) (v : Value), (xs.toList.map (evalO st))[i]? = some x → (xs.map a.eval)[i]? = some v → VR S Γ.B ν st.h w x v := by
    intro xs i x v hx hv
    rw [List.getElem?_map] at hx
    obtain ⟨q, hq, rfl⟩ := Option.map_eq_some_iff.1 hx
    rw [Array.getElem?_map] at hv
    obtain ⟨q', hq', rfl⟩ := Option.map_eq_some_iff.1 hv
    rw [Array.getElem?_toList] at hq
    obtain rfl := Option.some.inj (hq.symm.trans hq')
    exact evalO_ok k q
  obtain ⟨c, hop, ⟨g, hcal, hso⟩ | ⟨x, hcal, rfl⟩⟩ := call_op hc h
  · obtain ⟨rfl, rfl⟩ : g = f ∧ c.args.toList.map (evalO st) = ys := by
      rcases hso with rfl | rfl <;> simpa [SOp.callOf] using hy
    refine ⟨c, c.args.map a.eval, hop, ?_, by simp, hargs _⟩
    simp [execOp, hop, resolve, hcal, Deferred.ofValue, Act.eval, invoke]
  · simp only [SOp.callOf] at hy
    split at hy
    · rename_i f' caps hx
      simp only [Option.some.injEq, Prod.mk.injEq] at hy
      obtain ⟨rfl, rfl⟩ := hy
      have hv := evalO_is k hx
      generalize hve : a.eval x = v at hv
      cases hv with
      | fn hl hk =>
        rename_i us
        refine ⟨c, c.args.map a.eval ++ us.toArray, hop, ?_, by simp [hl], fun i y u hy hu => ?_⟩
        · simp [execOp, hop, resolve, hcal, hve, Deferred.ofValue, invoke]
        · by_cases hi : i < c.args.size
          · rw [List.getElem?_append_left (by simpa using hi)] at hy
            rw [Array.getElem?_append_left (by simpa using hi)] at hu
            exact hargs _ i y u hy hu
          · rw [List.getElem?_append_right (by simp; omega)] at hy
            rw [Array.getElem?_append_right (by simp; omega)] at hu
            simp only [List.length_map, Array.length_toList, Array.size_map] at hy hu
            exact hk _ y u hy (by simpa using hu)
    · cases hy

/-- what is lent is read by leave alone -/
def isLent : AV → Prop
  | .c b x => match x with
    | .v _ => True
    | .sl _ => b = true
  | .ip b _ => b = true
  | .dead => True
  | _ => False
theorem lend_true (h : Hp) (x : AV) : isLent (lend h x) := by
  cases x
  case c b x => cases x <;> first | trivial | rfl
  case own i => simp only [lend]; split <;> first | trivial | rfl
  case vw i lo n => simp only [lend]; split <;> first | trivial | rfl
  case ptr i o => simp only [lend]; split <;> first | trivial | rfl | (split <;> first | trivial | rfl)
  case ept i n o => simp only [lend]; split <;> first | trivial | rfl
  case rx i x => simp only [lend]; split <;> first | trivial | (cases x <;> first | trivial | rfl)
  all_goals first | trivial | rfl
theorem lend_far {S B S' B' : Nat → Prop} {ν : Id → Value} {h : Hp} {w : World} {x : AV} {v : Value} (hto : ∀ b, rd S B true b → rd S' B' true b) (k : VR S B ν h w x v) (hx : isLent x) : VR S' B' ν h w x v := by
  cases k with
  | c hk =>
    rename_i b x
    cases x with
    | v s => exact .c hk.v_any
    | sl xs =>
      obtain rfl : b = true := hx
      exact .c (hk.mono hto (fun _ _ => rfl))
  | ip u hs hb hu hi =>
    rename_i b xs a
    obtain rfl : b = true := hx
    exact .ip u hs (hto _ hb) hu (fun j c hj => (hi j c hj).mono hto (fun _ _ => rfl))
  | dead => exact .dead
  | agg => exact hx.elim
  | tup => exact hx.elim
  | own => exact hx.elim
  | vw => exact hx.elim
  | nil => exact hx.elim
  | ptr => exact hx.elim
  | ept => exact hx.elim
  | fn => exact hx.elim
  | rx => exact hx.elim
  | rg => exact hx.elim
  | rp => exact hx.elim

open Classical in
/-- a call whose answer is read through new blocks alone: they are a region -/
theorem RepW.region (k : RepW Γ S ν st a w) {B' : Nat → Prop} {res : AV} {S' : Nat → Prop} {ν' : Id → Value} {v : Value} {w' : World} (h : CPost (fun _ => False) B' w [] res S' ν' v w') {d : Nat} (hd : d < Γ.N) (hf : st.h (.s d 0) = none) :
    ∃ S2 ν2, RepW Γ S2 ν2 ⟨upd st.t d (res.on (toR (.s d 0))), hputs st.h d 0 [.reg]⟩ (a.put (some d) v) w' := by
  let l : List Value := ((List.range w'.heap.size).filter fun b => decide (S' b)).map fun b => .pointer (some ⟨b, 0, none⟩)
  let ν2 : Id → Value := hupd ν (.s d 0) (.agg l.toArray)
  have hl : ∀ b, fb (.agg l.toArray) b ↔ S' b := by
    intro b
    simp only [fb, l, List.mem_map, List.mem_filter, List.mem_range, decide_eq_true_eq, Value.pointer.injEq, Option.some.injEq, Addr.mk.injEq, and_true]
    constructor
    · rintro ⟨b', ⟨_, h2⟩, rfl⟩; exact h2
    · intro hb; exact ⟨b, ⟨h.ok.lt b (.inl hb), hb⟩, rfl⟩
  have hnewb : ∀ b, S' b → w.heap.size ≤ b := fun b hb => (h.s1 b hb).resolve_left (fun q => q)
  have hh : hputs st.h d 0 [.reg] = hupd st.h (.s d 0) (some .reg) := rfl
  have hne : ∀ i o', st.h i = some o' → i ≠ .s d 0 := fun i o' hi e => by rw [e, hf] at hi; cases hi
  have honly : ∀ i, st.h i = none → (hupd st.h (.s d 0) (some .reg) i).isSome = true → i = .s d 0 := fun i h1 h2 => by
    by_cases e : i = .s d 0
    · exact e
    · rw [hupd_ne _ _ e, h1] at h2; cases h2
  rw [hh]
  have kg : RepW Γ S ν2 ⟨st.t, hupd st.h (.s d 0) (some .reg)⟩ a w' := by
    refine k.grow (S' := S) h.fr (fun _ q => q) (fun _ q => .inl q) (fun b hb => Nat.lt_of_lt_of_le (k.ok.lt b (.inl hb)) h.fr.size) (fun _ q => .inl q) (fun i o' hi => by rw [hupd_ne _ _ (hne i o' hi)]; exact ⟨hi, hupd_ne _ _ (hne i o' hi)⟩) (fun i h1 h2 => ?_) (fun i j b hij h1 h2 h3 h4 => absurd ((honly i h1 h3).trans (honly j h2 h4).symm) hij) (fun i cs h1 h2 => ?_) (fun i bor e sz xs h1 h2 => ?_) (fun i h1 h2 => ?_)
    · obtain rfl := honly i h1 h2
      refine ⟨fun q => by simp, fun b hb => ?_⟩
      have hb : fb (hupd ν (.s d 0) (.agg l.toArray) (.s d 0)) b := hb
      rw [hupd_same] at hb
      have := hnewb b ((hl b).1 hb)
      exact ⟨this, fun q => by have := k.ok.lt b (.inl q); omega⟩
    · obtain rfl := honly i h1 (by rw [h2]; rfl)
      rw [hupd_same] at h2; cases h2
    · obtain rfl := honly i h1 (by rw [h2]; rfl)
      rw [hupd_same] at h2; cases h2
    · obtain rfl := honly i h1 (by rw [h2]; rfl)
      have e : ν2 (.s d 0) = .agg l.toArray := hupd_same _ _ _
      rw [e]
      exact ⟨⟨_, rfl⟩, fun b hb => (h.um b ((hl b).1 hb)).resolve_left (fun q => q)⟩
  refine ⟨S, ν2, kg.put hd (h.val.on (fun x u hx hv => ?_))⟩
  cases hv with
  | c hk =>
    rename_i b x
    cases x with
    | v s => cases b <;> exact .c hk.v_any
    | sl xs =>
      cases b with
      | true => exact .dead
      | false =>
        refine .rx (hupd_same _ _ _) ?_
        have e : ν2 (.s d 0) = .agg l.toArray := hupd_same _ _ _
        rw [e]
        exact hk.mono (fun b hb => (hl b).2 (hb.resolve_right (fun q => by cases q.1))) (fun _ _ => rfl)
  | agg => cases hx
  | tup => cases hx
  | own hk => exact .dead
  | vw => exact .dead
  | nil => exact .nil
  | ptr => exact .dead
  | ept => exact .dead
  | ip => exact .dead
  | fn => cases hx
  | rx => exact .dead
  | rg => exact .dead
  | rp => exact .dead
  | dead => exact .dead

/-- an operation without a guard -/
theorem SOp.sound (hT : Tab.ok P T = true) (hTp : T.plain = true) (hc : compOp T o.op = some so) (hd : ∀ d, o.dst = some d → d < Γ.N) {K : St → Prop} (h : so.sem P o.dst st K) (k : Rep Γ st a w) {Q : Exit → Act → World → Prop} :
    o.wp P a w (fun a' w' => ∃ st', K st' ∧ Rep Γ st' a' w') Q := by
  obtain ⟨S, ν, k⟩ := k
  unfold SOp.sem at h
  cases hcall : so.isCall with
  | true =>
    rw [hcall, if_pos rfl] at h
    obtain ⟨f, ys, hy, h⟩ := h
    obtain ⟨c, vs, hop, hex, hlen, hvs⟩ := call_args k hc (by rw [hcall]; rfl) hy
    have hlend : ∀ (i : Nat) (x : AV) (v : Value), (lendAll st.h ys)[i]? = some x → vs[i]? = some v → VR S (lentB Γ ν st.h) ν hempty w x v := fun i x v hx hv => by
      rw [lendAll, List.getElem?_map] at hx
      obtain ⟨q, hq, rfl⟩ := Option.map_eq_some_iff.1 hx
      exact lend_ok k.ok (hvs i q v hq hv)
    have hlt : ∀ b, lentB Γ ν st.h b → b < w.heap.size := fun b hb => by
      rcases hb with hb | ⟨i, hi, hb⟩
      · exact k.ok.lt b (.inr hb)
      · exact k.ok.blk_lt hi hb
    have plain : ∀ {res hr}, Called P f st.h ys res hr → (∀ v w', (∃ S' ν', CPost S Γ.B w hr res S' ν' v w') → (∀ o, o ∈ hr → ∃ b e sz xs, o = .row b e sz xs) → ∃ st', K st' ∧ Rep Γ st' (a.put o.dst v) w') →
        o.wp P a w (fun a' w' => ∃ st', K st' ∧ Rep Γ st' a' w') Q := by
      intro res hr hac hput
      rcases hac with ⟨hac, hcl, hch⟩ | ⟨β, hac⟩
      · refine call_wp hop hex (hac.2 w S (lentB Γ ν st.h) ν _ (fun b hb => hb.elim (fun q => k.ok.lt b (.inl q)) (hlt b)) (k.lay.mono (fun b hb => hb.imp id .inl) (fun _ _ => rfl)) (by simp [lendAll, hlen]) hlend) (fun v w' hR => ?_)
        obtain ⟨S', ν', hpost⟩ := hR
        exact hput v w' ⟨S', ν', hpost.clean hac.1 (fun b hb => .inl hb) hcl hch⟩ hac.1
      · refine call_wp hop hex (hac.2 w S Γ.B ν _ (fun b hb => k.ok.lt b hb) k.lay (by simp [keepAll, hlen]) (fun i x v hx hv => ?_)) (fun v w' hR => hput v w' hR hac.1)
        rw [keepAll, List.getElem?_map] at hx
        obtain ⟨q, hq, rfl⟩ := Option.map_eq_some_iff.1 hx
        exact keep_ok β (hvs i q v hq hv)
    cases hdst : o.dst with
    | none =>
      rw [hdst] at h
      obtain ⟨⟨res, hr, hac⟩, hK⟩ := h
      refine plain hac (fun v w' hR hrows => ?_)
      obtain ⟨S', ν', hpost⟩ := hR
      obtain ⟨S2, ν2, k2⟩ := k.called_none hpost
      exact ⟨_, hK, S2, ν2, by rw [hdst]; exact k2.put_none v⟩
    | some d =>
      rw [hdst] at h
      obtain ⟨x, obs, hR, hf, hK⟩ := h
      rcases hR with ⟨res, hac, rfl⟩ | ⟨res, hac, rfl, rfl⟩
      · refine plain hac (fun v w' hR hrows => ?_)
        obtain ⟨S', ν', hpost⟩ := hR
        obtain ⟨S2, ν2, k2⟩ := k.called hrows hpost (hd d hdst) hf
        exact ⟨_, hK, S2, ν2, by rw [hdst]; exact k2⟩
      · -- what comes lies in new blocks alone
        let B' : Nat → Prop := fun b => S b ∨ lentB Γ ν st.h b
        have hto : ∀ b, rd S (lentB Γ ν st.h) true b → rd (fun _ => False) B' true b := fun b hb => .inr ⟨rfl, hb.imp (fun q => q) (fun q => q.2)⟩
        refine call_wp hop hex (hac.2 w (fun _ => False) B' ν _ (fun b hb => ?_) (k.lay.mono (fun b hb => .inr (hb.imp id .inl)) (fun _ _ => rfl)) (by simp [lendAll, hlen]) (fun i x v hx hv => ?_)) (fun v w' hR => ?_)
        · rcases hb with hb | hb | hb
          · exact hb.elim
          · exact k.ok.lt b (.inl hb)
          · exact hlt b hb
        · rw [lendAll, List.getElem?_map] at hx
          obtain ⟨q, hq, rfl⟩ := Option.map_eq_some_iff.1 hx
          exact (hvs i q v hq hv).on (fun x v hl hv => lend_far hto (lend_leaf k.ok (fun _ _ h => h) ν hempty hl hv) (lend_true _ _))
        · obtain ⟨S', ν', hpost⟩ := hR
          obtain ⟨S2, ν2, k2⟩ := k.region hpost (hd d hdst) (by simpa [hfree] using hf)
          exact ⟨_, hK, S2, ν2, by rw [hdst]; exact k2⟩
  | false =>
    rw [hcall, if_neg (by simp)] at h
    cases hcm : so.isCallM with
    | true =>
      rw [hcm, if_pos rfl] at h
      obtain ⟨st1, hwk, f, ys, hy, h⟩ := h
      obtain ⟨S1, ν1, k⟩ := hwk Γ a w ⟨S, ν, k⟩
      obtain ⟨c, vs, hop, hex, hlen, hvs⟩ := call_args k hc (by rw [hcm]; simp) hy
      rcases h with ⟨res, hr, hac, h2⟩ | ⟨as, obs, res, la, lr, h3, h4, h5, ⟨h6, h6b, h6c, h6d⟩, h7⟩
      · have hput : ∀ v w', (∃ S' ν', CPost S1 Γ.B w hr res S' ν' v w') → (∀ o, o ∈ hr → ∃ b e sz xs, o = .row b e sz xs) → ∃ st', K st' ∧ Rep Γ st' (a.put o.dst v) w' := by
          intro v w' hR hrows
          obtain ⟨S', ν', hpost⟩ := hR
          cases hdst : o.dst with
          | none =>
            rw [hdst] at h2
            obtain ⟨S2, ν2, k2⟩ := k.called_none hpost
            exact ⟨_, h2, S2, ν2, k2.put_none v⟩
          | some d =>
            rw [hdst] at h2
            obtain ⟨hf, hK⟩ := h2
            obtain ⟨S2, ν2, k2⟩ := k.called hrows hpost (hd d hdst) hf
            exact ⟨_, hK, S2, ν2, k2⟩
        rcases hac with ⟨hac, hcl, hch⟩ | ⟨β, hac⟩
        · refine call_wp hop hex (hac.2 w S1 (lentB Γ ν1 st1.h) ν1 _ (fun b hb => ?_) (k.lay.mono (fun b hb => hb.imp id .inl) (fun _ _ => rfl)) (by simp [lendAll, hlen]) (fun i x v hx hv => ?_)) (fun v w' hR => ?_)
          · rcases hb with hb | hb | ⟨i, hi, hb⟩
            · exact k.ok.lt b (.inl hb)
            · exact k.ok.lt b (.inr hb)
            · exact k.ok.blk_lt hi hb
          · rw [lendAll, List.getElem?_map] at hx
            obtain ⟨q, hq, rfl⟩ := Option.map_eq_some_iff.1 hx
            exact lend_ok k.ok (hvs i q v hq hv)
          · obtain ⟨S', ν', hpost⟩ := hR
            exact hput v w' ⟨S', ν', hpost.clean hac.1 (fun b hb => .inl hb) hcl hch⟩ hac.1
        · refine call_wp hop hex (hac.2 w S1 Γ.B ν1 _ (fun b hb => k.ok.lt b hb) k.lay (by simp [keepAll, hlen]) (fun i x v hx hv => ?_)) (fun v w' hR => hput v w' hR hac.1)
          rw [keepAll, List.getElem?_map] at hx
          obtain ⟨q, hq, rfl⟩ := Option.map_eq_some_iff.1 hx
          exact keep_ok β (hvs i q v hq hv)
      · refine call_wp hop hex (h5 w S1 _ _ _ (in_ok k.ok h3 h4) (k.lay.mono (fun b hb => hb.imp id .inl) (fun _ _ => rfl)) (by simp [hlen]) (fun i x v hx hv => ?_)) (fun v w' hR => ?_)
        · rw [List.getElem?_map] at hx
          obtain ⟨q, hq, rfl⟩ := Option.map_eq_some_iff.1 hx
          exact (hvs i q v hq hv).on (fun x v hl hv => arg_leaf k.ok h3 hl hv)
        · obtain ⟨S', ν', hpost⟩ := hR
          cases hdst : o.dst with
          | none =>
            rw [hdst] at h7
            obtain ⟨rfl, h7⟩ := h7
            obtain ⟨S2, ν2, k2, _⟩ := k.mcalled (d := 0) h3 h4 hpost h6 h6b h6c h6d (fun q hq => by simp at hq)
            exact ⟨_, h7, S2, ν2, k2.put_none v⟩
          | some d =>
            rw [hdst] at h7
            obtain ⟨S2, ν2, k2, hv2⟩ := k.mcalled (d := d) h3 h4 hpost h6 h6b h6c h6d h7.1
            exact ⟨_, h7.2, S2, ν2, k2.put (hd d hdst) hv2⟩
    | false =>
    rw [hcm, if_neg (by simp)] at h
    cases ho : oneF st o.dst so with
    | none => rw [ho] at h; exact h.elim
    | some q =>
      obtain ⟨p, st'⟩ := q
      rw [ho] at h
      obtain ⟨hp, hK⟩ := h
      unfold oneF at ho
      have writes : ∀ {p st'}, wf st o.dst so = some (p, st') → p → ((∃ n x v, so = .store n x v) → o.dst = none) → K st' → o.wp P a w (fun a' w' => ∃ st', K st' ∧ Rep Γ st' a' w') Q := by
        intro p st' hq hp hn hK
        obtain ⟨n, w', S', ν', hr, hcase⟩ := w_sound hT hTp hc hq hp hd hn k
        unfold Oper.wp
        rw [hr]
        rcases hcase with ⟨v, rfl, k'⟩ | ⟨rfl, k'⟩
        · exact ⟨_, hK, S', ν', k'⟩
        · exact ⟨_, hK, S', ν', k'⟩
      by_cases hs : so.isStore = true
      · rw [if_pos hs] at ho
        cases hdst : o.dst with
        | none => rw [hdst] at ho; exact writes (by rw [hdst]; exact ho) hp (fun _ => hdst) hK
        | some d => rw [hdst] at ho; cases ho
      · rw [if_neg hs] at ho
        by_cases ha : so.isApp = true
        · rw [if_pos ha] at ho
          exact writes ho hp (fun ⟨_, _, _, q⟩ => by subst q; exact absurd rfl hs) hK
        · rw [if_neg ha] at ho
          cases hdst : o.dst with
          | none => rw [hdst] at ho; cases ho
          | some d =>
            rw [hdst] at ho
            have quiet : ∀ {p x ob}, qf st d so = some (p, x, ob) → p → (ob.isSome = true → st.h (.s d 0) = none) → K (st.give d x ob) → o.wp P a w (fun a' w' => ∃ st', K st' ∧ Rep Γ st' a' w') Q := by
              intro p x ob hq hp hf hK
              obtain ⟨v, w', S', ν', hr, k'⟩ := q_sound hT hTp hc hq hp hf k (hd d hdst)
              unfold Oper.wp
              rw [hr]
              exact ⟨_, hK, S', ν', by rw [hdst]; exact k'⟩
            cases hq : qf st d so with
            | none => simp only [hq] at ho; cases ho
            | some r =>
              obtain ⟨p0, x, ob⟩ := r
              cases ob with
              | none =>
                simp only [hq, Option.some.injEq, Prod.mk.injEq] at ho
                obtain ⟨rfl, rfl⟩ := ho
                exact quiet hq hp (fun q => by cases q) hK
              | some ob =>
                simp only [hq, Option.some.injEq, Prod.mk.injEq] at ho
                obtain ⟨rfl, rfl⟩ := ho
                exact quiet hq hp.1 (fun _ => hp.2) hK
end
end Go.Proofs.YtoemclhjcbcjaaaGreat.AB
