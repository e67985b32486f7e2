/- An operation without a guard: what it makes of a state, and that the model does so. -/
import Derived.Test.YtjhffgbjiigpfaaAbO
namespace Go.Proofs.Ytjhffgbjiigpfaa.AB
open Go
set_option linter.unusedVariables false
set_option linter.unusedSimpArgs false

def SOp.isStore : SOp → Bool
  | .store .. => true
  | _ => false
def SOp.isApp : SOp → Bool
  | .app .. => true
  | _ => false
def SOp.callOf : SOp → Option (Nat × List Operand)
  | .call f xs => some (f, xs)
  | _ => none

/-- the arguments as they are lent -/
def lendAll (st : St) (xs : List Operand) : List AV := xs.map fun x => (evalO st x).on (lend st.h)

def keepAll (β : Bool) (st : St) (xs : List Operand) : List AV := xs.map fun x => (evalO st x).on (keep β)

/-- of what a state lends a callee, or of what may be handed on, the callee hands this back -/
def Called (P : Program) (f : FuncId) (st : St) (xs : List Operand) (res : AV) (hr : List Ob) : Prop :=
  (AC P f (lendAll st xs) res hr ∧ res.clean = true ∧ ∀ o, o ∈ hr → o.clean = true) ∨ ∃ β, AC P f (keepAll β st xs) res hr

/-- an operation that is no call -/
def oneF (st : St) (dst : Option Nat) (so : SOp) : Option (Prop × St) :=
  if so.isStore then (match dst with
    | none => wf st none so
    | some _ => none)
  else if so.isApp then wf st dst so
  else match dst with
    | none => none
    | some d => match qf st d so with
      | some (p, x, none) => some (p, st.give d x none)
      | some (p, x, some ob) => some (p ∧ st.h (.s d 0) = none, st.give d x (some ob))
      | none => none

/-- what an operation without a guard makes of a state -/
def SOp.sem (P : Program) (dst : Option Nat) (so : SOp) (st : St) (K : St → Prop) : Prop :=
  match so.callOf with
  | some (f, xs) => ∃ res hr, Called P f st xs res hr ∧ (match dst with
    | none => False
    | some d => hfree st.h d 0 hr ∧ K ⟨upd st.t d (res.on (toS d)), hputs st.h d 0 hr⟩)
  | none => match oneF st dst so with
    | some (p, st') => p ∧ K st'
    | none => False

section
variable {P : Program} {Γ : Gm} {f : Nat} {xs : List Operand} {op : Op} {S : Nat → Prop} {ν : Id → Value} {st : St} {a : Act} {w : World} {o : Oper} {T : Tab} {so : SOp} {p : Prop}

theorem SOp.sem_mono {dst : Option Nat} {so : SOp} {st : St} {K K' : St → Prop} (h : so.sem P dst st K) (hk : ∀ st, K st → K' st) : so.sem P dst st K' := by
  unfold SOp.sem at h ⊢
  split at h
  · obtain ⟨res, hr, h1, h2⟩ := h
    refine ⟨res, hr, h1, ?_⟩
    cases dst with
    | none => exact h2
    | some d => exact ⟨h2.1, hk _ h2.2⟩
  · split at h
    · exact ⟨h.1, hk _ h.2⟩
    · exact h.elim

theorem call_wp {f : Nat} {xs : Array Operand} {ts : Array TypeId} {R : Value → World → Prop} {K : Act → World → Prop} {Q : Exit → Act → World → Prop} (ho : o.op = .call { callee := .value (.func f), args := xs, argTypes := ts })
    (h : Into P f (xs.map a.eval) w R) (hk : ∀ v w', R v w' → K (a.put o.dst v) w') : o.wp P a w K Q := by
  have hex : execOp a.eval o = callFunc f (xs.map a.eval) := by
    simp [execOp, ho, resolve, Deferred.ofValue, Act.eval, invoke]
  unfold Oper.wp
  rw [hex]
  rcases h with ⟨h1, h2⟩ | ⟨v, w', h1, h2⟩
  · rw [h1]
    refine h2.mono (fun e w' q => ?_)
    obtain ⟨v, rfl, hR⟩ := q
    exact hk v w' hR
  · rw [h1]; exact hk v w' h2

def notCall : Option SOp → Bool
  | none => true
  | some so => so.callOf.isNone

theorem notCall_map {α : Type} (f : α → SOp) (h : ∀ x, (f x).callOf.isNone = true) (x : Option α) : notCall (x.map f) = true := by
  cases x with
  | none => rfl
  | some x => exact h x

theorem notCall_op (T : Tab) (op : Op) (h : ∀ c, op ≠ .call c) : notCall (compOp T op) = true := by
  cases op
  case call c => exact absurd rfl (h c)
  all_goals (unfold compOp; simp only)
  case makeFunc fn first caps => unfold compFn; (repeat' split) <;> rfl
  all_goals first
    | rfl
    | exact notCall_map _ (fun _ => rfl) _
    | exact notCall_map _ (fun p => by split <;> rfl) _
    | ((repeat' split) <;> first | rfl | exact notCall_map _ (fun _ => rfl) _)

theorem notCall_call (c : Call) (h : (compCall T c).bind SOp.callOf = some (f, xs)) : c.callee = .value (.func f) ∧ c.args.toList = xs := by
  obtain ⟨callee, args, argTypes⟩ := c
  unfold compCall at h
  simp only at h
  cases callee with
  | builtin b =>
    simp only at h
    have : notCall (compB T b args.toList argTypes.toList) = true := by
      unfold compB
      (repeat' split) <;> first | rfl | exact notCall_map _ (fun _ => rfl) _
    revert this h
    cases compB T b args.toList argTypes.toList with
    | none => intro h; cases h
    | some so => intro h h2; simp only [notCall, Option.isNone_iff_eq_none] at h2; simp only [Option.bind_some] at h; rw [h2] at h; cases h
  | value fn =>
    cases fn with
    | func g =>
      simp only [Option.bind_some, SOp.callOf, Option.some.injEq, Prod.mk.injEq] at h
      exact ⟨by rw [h.1], h.2⟩
    | _ => simp at h
  | _ => simp at h

theorem call_op (hc : compOp T op = some so) (h : so.callOf = some (f, xs)) : ∃ args ts, op = .call { callee := .value (.func f), args := args, argTypes := ts } ∧ xs = args.toList := by
  by_cases hcall : ∃ c, op = .call c
  · obtain ⟨c, rfl⟩ := hcall
    have h1 : compCall T c = some so := hc
    have h2 := notCall_call (T := T) (f := f) (xs := xs) c (by rw [h1]; exact h)
    obtain ⟨callee, args, argTypes⟩ := c
    obtain ⟨rfl, rfl⟩ := h2
    exact ⟨args, argTypes, rfl, rfl⟩
  · have := notCall_op T op (fun c e => hcall ⟨c, e⟩)
    rw [hc] at this
    simp only [notCall, Option.isNone_iff_eq_none] at this
    rw [this] at h; cases h

/-- an operation without a guard -/
theorem SOp.sound (hT : Tab.ok P T = true) (hTp : T.plain = true) (hc : compOp T o.op = some so) (hd : ∀ d, o.dst = some d → d < Γ.N) {K : St → Prop} (h : so.sem P o.dst st K) (k : Rep Γ st a w) {Q : Exit → Act → World → Prop} :
    o.wp P a w (fun a' w' => ∃ st', K st' ∧ Rep Γ st' a' w') Q := by
  obtain ⟨S, ν, k⟩ := k
  unfold SOp.sem at h
  cases hcall : so.callOf with
  | some fx =>
    obtain ⟨f, xs⟩ := fx
    rw [hcall] at h
    obtain ⟨res, hr, hac, h2⟩ := h
    obtain ⟨args, ts, hop, rfl⟩ := call_op hc hcall
    cases hdst : o.dst with
    | none => rw [hdst] at h2; exact h2.elim
    | some d =>
      rw [hdst] at h2
      obtain ⟨hf, hK⟩ := h2
      have hput : ∀ v w', (∃ S' ν', CPost S Γ.B w hr res S' ν' v w') → (∀ o, o ∈ hr → ∃ b e sz xs, o = .row b e sz xs) → ∃ st', K st' ∧ Rep Γ st' (a.put o.dst v) w' := by
        intro v w' hR hrows
        obtain ⟨S', ν', hpost⟩ := hR
        obtain ⟨S2, ν2, k2⟩ := k.called hrows hpost (hd d hdst) hf
        exact ⟨_, hK, S2, ν2, by rw [hdst]; exact k2⟩
      rcases hac with ⟨hac, hcl, hch⟩ | ⟨β, hac⟩
      · refine call_wp hop (hac.2 w S (lentB Γ ν st.h) ν _ (fun b hb => ?_) (by simp [lendAll]) (fun i x v hx hv => ?_)) (fun v w' hR => ?_)
        · rcases hb with hb | hb | ⟨i, hi, hb⟩
          · exact k.ok.lt b (.inl hb)
          · exact k.ok.lt b (.inr hb)
          · exact k.ok.blk_lt hi hb
        · rw [lendAll, List.getElem?_map] at hx
          obtain ⟨q, hq, rfl⟩ := Option.map_eq_some_iff.1 hx
          rw [Array.getElem?_map] at hv
          obtain ⟨q', hq', rfl⟩ := Option.map_eq_some_iff.1 hv
          rw [Array.getElem?_toList] at hq
          obtain rfl := Option.some.inj (hq.symm.trans hq')
          exact lend_ok k.ok (evalO_ok k q)
        · obtain ⟨S', ν', hpost⟩ := hR
          exact hput v w' ⟨S', ν', hpost.clean hac.1 (fun b hb => .inl hb) hcl hch⟩ hac.1
      · refine call_wp hop (hac.2 w S Γ.B ν _ (fun b hb => k.ok.lt b hb) (by simp [keepAll]) (fun i x v hx hv => ?_)) (fun v w' hR => hput v w' hR hac.1)
        rw [keepAll, List.getElem?_map] at hx
        obtain ⟨q, hq, rfl⟩ := Option.map_eq_some_iff.1 hx
        rw [Array.getElem?_map] at hv
        obtain ⟨q', hq', rfl⟩ := Option.map_eq_some_iff.1 hv
        rw [Array.getElem?_toList] at hq
        obtain rfl := Option.some.inj (hq.symm.trans hq')
        exact keep_ok β (evalO_ok k q)
  | none =>
    rw [hcall] at h
    simp only at h
    cases ho : oneF st o.dst so with
    | none => rw [ho] at h; exact h.elim
    | some q =>
      obtain ⟨p, st'⟩ := q
      rw [ho] at h
      obtain ⟨hp, hK⟩ := h
      unfold oneF at ho
      have writes : ∀ {p st'}, wf st o.dst so = some (p, st') → p → ((∃ n x v, so = .store n x v) → o.dst = none) → K st' → o.wp P a w (fun a' w' => ∃ st', K st' ∧ Rep Γ st' a' w') Q := by
        intro p st' hq hp hn hK
        obtain ⟨n, w', S', ν', hr, hcase⟩ := w_sound hT hTp hc hq hp hd hn k
        unfold Oper.wp
        rw [hr]
        rcases hcase with ⟨v, rfl, k'⟩ | ⟨rfl, k'⟩
        · exact ⟨_, hK, S', ν', k'⟩
        · exact ⟨_, hK, S', ν', k'⟩
      by_cases hs : so.isStore = true
      · rw [if_pos hs] at ho
        cases hdst : o.dst with
        | none => rw [hdst] at ho; exact writes (by rw [hdst]; exact ho) hp (fun _ => hdst) hK
        | some d => rw [hdst] at ho; cases ho
      · rw [if_neg hs] at ho
        by_cases ha : so.isApp = true
        · rw [if_pos ha] at ho
          exact writes ho hp (fun ⟨_, _, _, q⟩ => by subst q; exact absurd rfl hs) hK
        · rw [if_neg ha] at ho
          cases hdst : o.dst with
          | none => rw [hdst] at ho; cases ho
          | some d =>
            rw [hdst] at ho
            have quiet : ∀ {p x ob}, qf st d so = some (p, x, ob) → p → (ob.isSome = true → st.h (.s d 0) = none) → K (st.give d x ob) → o.wp P a w (fun a' w' => ∃ st', K st' ∧ Rep Γ st' a' w') Q := by
              intro p x ob hq hp hf hK
              obtain ⟨v, w', S', ν', hr, k'⟩ := q_sound hT hTp hc hq hp hf k (hd d hdst)
              unfold Oper.wp
              rw [hr]
              exact ⟨_, hK, S', ν', by rw [hdst]; exact k'⟩
            cases hq : qf st d so with
            | none => simp only [hq] at ho; cases ho
            | some r =>
              obtain ⟨p0, x, ob⟩ := r
              cases ob with
              | none =>
                simp only [hq, Option.some.injEq, Prod.mk.injEq] at ho
                obtain ⟨rfl, rfl⟩ := ho
                exact quiet hq hp (fun q => by cases q) hK
              | some ob =>
                simp only [hq, Option.some.injEq, Prod.mk.injEq] at ho
                obtain ⟨rfl, rfl⟩ := ho
                exact quiet hq hp.1 (fun _ => hp.2) hK
end
end Go.Proofs.Ytjhffgbjiigpfaa.AB
