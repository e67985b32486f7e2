/- Rules for walks through a text; states as lists. -/
import Derived.Test.YtoemclhjcbcjaaaGreatAbW
namespace Go.Proofs.YtoemclhjcbcjaaaGreat.AB
open Go
set_option linter.unusedVariables false
set_option linter.unusedSimpArgs false

/-- a number, a truth value, a text -/
abbrev vI (n : Int) : AV := .c false (.v (.int .i64 n))
abbrev vB (b : Bool) : AV := .c false (.v (.bool b))
abbrev vS (l : List UInt8) : AV := .c false (.v (.string ⟨l.toArray⟩))
abbrev cI (n : Int) : C := .v (.int .i64 n)
abbrev cB (b : Bool) : C := .v (.bool b)
abbrev cS (l : List UInt8) : C := .v (.string ⟨l.toArray⟩)

theorem sb_mk (l : List UInt8) : sb ⟨l.toArray⟩ = l := rfl

theorem upd_app {β : Type} (f : Nat → β) (d : Nat) (x : β) (k : Nat) : upd f d x k = if k = d then x else f k := rfl
theorem hupd_app {β : Type} (f : Id → β) (d : Id) (x : β) (k : Id) : hupd f d x k = if k = d then x else f k := rfl

/-- slots as a list -/
def sl : List (Nat × AV) → Nat → AV
  | [], _ => .dead
  | (k, x) :: r, n => if n = k then x else sl r n
def hl : List (Id × Ob) → Hp
  | [], _ => none
  | (k, x) :: r, i => if i = k then some x else hl r i
/-- names turned -/
def ren : List (Id × Id) → Id → Id
  | [], i => i
  | (k, j) :: r, i => if i = k then j else ren r i
def toW (st : St) (R : List (Id × Id)) (H : List (Id × Ob)) : Wn := ⟨ren R, st.h, hl H⟩

def leSl (W : Wn) (t : Nat → AV) : List (Nat × AV) → Prop
  | [] => True
  | (k, x) :: r => W.le x (t k) ∧ leSl W t r
def leHl (W : Wn) (h : Hp) (R : List (Id × Id)) : List (Id × Ob) → Prop
  | [] => True
  | (i, o) :: r => (∃ o', h (ren R i) = some o' ∧ W.leO o o') ∧ leHl W h R r

theorem hl_mem : ∀ {H : List (Id × Ob)} {i : Id} {o : Ob}, hl H i = some o → (i, o) ∈ H
  | (k, x) :: r, i, o, h => by
    simp only [hl] at h
    split at h
    · rename_i e; cases h; subst e; simp
    · exact List.mem_cons_of_mem _ (hl_mem h)
theorem hl_key : ∀ {H : List (Id × Ob)} {p : Id × Ob}, p ∈ H → (hl H p.1).isSome = true
  | (k, x) :: r, p, h => by
    simp only [hl]
    split
    · rfl
    · rename_i hne
      rcases List.mem_cons.1 h with rfl | h
      · exact absurd rfl hne
      · exact hl_key h

theorem toW_gone {st : St} {R : List (Id × Id)} {H : List (Id × Ob)} {j : Id} : (toW st R H).gone j ↔ ∀ p, p ∈ H → ren R p.1 ≠ j := by
  constructor
  · intro h p hp
    exact h p.1 (hl_key hp)
  · intro h i hi
    obtain ⟨o, ho⟩ := Option.isSome_iff_exists.1 hi
    exact h _ (hl_mem ho)

theorem leSl_all {W : Wn} {t : Nat → AV} : ∀ {L : List (Nat × AV)}, leSl W t L → ∀ d, W.le (sl L d) (t d)
  | [], _, d => by simp only [sl, Wn.le]
  | (k, x) :: r, h, d => by
    simp only [sl]
    split
    · rename_i e; subst e; exact h.1
    · exact leSl_all h.2 d
theorem leHl_all {W : Wn} {h : Hp} {R : List (Id × Id)} : ∀ {H : List (Id × Ob)}, leHl W h R H → ∀ i o, hl H i = some o → ∃ o', h (ren R i) = some o' ∧ W.leO o o'
  | [], _, i, o, hi => by cases hi
  | (k, x) :: r, hh, i, o, hi => by
    simp only [hl] at hi
    split at hi
    · rename_i e; subst e; cases hi; exact hh.1
    · exact leHl_all hh.2 i o hi

theorem nodup_inj {α β : Type} {f : α → β} : ∀ {l : List α}, (l.map f).Nodup → ∀ a b, a ∈ l → b ∈ l → f a = f b → a = b
  | x :: l, hn, a, b, ha, hb, he => by
    simp only [List.map_cons, List.nodup_cons, List.mem_map, not_exists, not_and] at hn
    cases ha with
    | head =>
      cases hb with
      | head => rfl
      | tail _ hb => exact absurd he.symm (hn.1 b hb)
    | tail _ ha =>
      cases hb with
      | head => exact absurd he (hn.1 a ha)
      | tail _ hb => exact nodup_inj hn.2 a b ha hb he

/-- a state, with less said of it, as lists -/
theorem Wk.to {st : St} (L : List (Nat × AV)) (H : List (Id × Ob)) (R : List (Id × Id)) (hH : leHl (toW st R H) st.h R H) (hnd : (H.map fun p => ren R p.1).Nodup) (hL : leSl (toW st R H) st.t L)
    (ha : ∀ p, p ∈ H → ∀ q, p.1 = .a q → ren R p.1 = p.1) : Wk st ⟨sl L, hl H⟩ := by
  refine Wk.mk (toW st R H) rfl (leSl_all hL) (leHl_all hH) (fun i j hi hj he => ?_) (fun q hq => ?_)
  · obtain ⟨o, ho⟩ := Option.isSome_iff_exists.1 hi
    obtain ⟨o', ho'⟩ := Option.isSome_iff_exists.1 hj
    have := nodup_inj hnd _ _ (hl_mem ho) (hl_mem ho') he
    exact congrArg Prod.fst this
  · obtain ⟨o, ho⟩ := Option.isSome_iff_exists.1 hq
    exact ha _ (hl_mem ho) q rfl

section
variable {P : Program} {T : Tab} {N : Nat} {Q Q' : Exit → St → Prop} {st st' : St} {sc x y z : SC} {d : Bool} {l : List GOp}

/-- a region, and what follows -/
theorem SW.step (g : Good P T) (h : ∀ K : St → Prop, (∀ st', SW P T N y Q st' → K st') → semL P l st K) : SW P T N (.seq (.ops false l) y) Q st :=
  .seq (.ops g (h _ fun st' h' => ⟨st', Wk.refl _, h'⟩))
/-- a region whose operations come in several orders, and what follows -/
theorem SW.step2 (g : Good P T) {ls : List (List GOp)} (hls : ordsL l = ls) (h : ∀ K : St → Prop, (∀ st', SW P T N y Q st' → K st') → semO P ls st K) : SW P T N (.seq (.ops true l) y) Q st :=
  .seq (.ops2 g (hls ▸ h _ fun st' h' => ⟨st', Wk.refl _, h'⟩))

theorem SW.seqK (h : ∀ K : St → Prop, (∀ st' st0, Wk st' st0 → SW P T N y Q st0 → K st') → SW P T N x (thenS K Q) st) : SW P T N (.seq x y) Q st :=
  .seq (h _ fun st' st0 h1 h2 => ⟨st0, h1, h2⟩)

/-- what stands in between -/
theorem SW.cut (R : St → Prop) (h : SW P T N x (thenS (fun st' => ∃ st0, Wk st' st0 ∧ R st0) Q) st) (k : ∀ st, R st → SW P T N y Q st) : SW P T N (.seq x y) Q st :=
  .seq (h.mono fun e st1 q => ⟨st1, Wk.refl _, by
    cases e with
    | normal => obtain ⟨st0, h1, h2⟩ := q; exact ⟨st0, h1, k _ h2⟩
    | exit => exact q
    | goto => exact q
    | ret => exact q
    | panic => exact q
    | outgrown => exact q⟩)

theorem SW.condT {c : Operand} {bo : Bool} (hb : evalO st c = .c bo (.v (.bool true))) (h : SW P T N x Q st) : SW P T N (.cond c x y) Q st := .cond hb (fun _ => h) (fun e => by cases e)
theorem SW.condF {c : Operand} {bo : Bool} (hb : evalO st c = .c bo (.v (.bool false))) (h : SW P T N y Q st) : SW P T N (.cond c x y) Q st := .cond hb (fun e => by cases e) (fun _ => h)
theorem SW.to (h : SW P T N sc Q st) (hq : ∀ e st, Q e st → Q' e st) : SW P T N sc Q' st := h.mono fun e st q => ⟨st, Wk.refl _, hq e st q⟩
theorem SW.retT {K : St → Prop} (h : Q .ret st) : thenS K Q .ret st := h
theorem SW.retB {id : Nat} (h : Q .ret st) : blockS id Q .ret st := h
theorem SW.exitT {K : St → Prop} {id : Nat} (h : Q (.exit id) st) : thenS K Q (.exit id) st := h
theorem SW.exitB {id : Nat} (h : Q .normal st) : blockS id Q (.exit id) st := by simp only [blockS, if_true]; exact h
theorem SW.exitN {id id' : Nat} (hne : (id' == id) = false) (h : Q (.exit id') st) : blockS id Q (.exit id') st := by
  have : ¬ id' = id := by simpa using hne
  simp only [blockS, if_neg this]; exact h
theorem SW.normB {id : Nat} (h : Q .normal st) : blockS id Q .normal st := h
theorem SW.seq_skip (h : SW P T N y Q st) : SW P T N (.seq .skip y) Q st := .seq (.skip ⟨st, Wk.refl _, h⟩)
theorem SW.seq_ret (h : Q .ret st) : SW P T N (.seq .ret y) Q st := .seq (.ret h)
theorem SW.seq_exit {id : Nat} (h : Q (.exit id) st) : SW P T N (.seq (.exit id) y) Q st := .seq (.exit h)

end

section
variable {P : Program} {st : St} {K : St → Prop} {d : Option Nat} {so : SOp} {t : Nat} {w b bo : Bool} {g : GOp} {l : List GOp} {n i j m : Nat} {x y z : Operand} {vs : List Value} {lo hi : Option Operand} {q : Bool} {o : BinOp} {u : UnOp}
  {k : IntKind} {ks : List Kd} {xs : List Operand} {ps : List (Nat × Nat × Operand)}

/-- what a guard says -/
def gv : AV → Option (Option Bool)
  | .c _ (.v (.bool b)) => some (some b)
  | .tup [] => some none
  | _ => none
theorem gv_some {x : AV} {b : Bool} (h : gv x = some (some b)) : ∃ bo, x = .c bo (.v (.bool b)) := by
  unfold gv at h
  split at h <;> simp at h
  subst h
  exact ⟨_, rfl⟩
theorem gv_none {x : AV} (h : gv x = some none) : x = .tup [] := by
  unfold gv at h
  split at h <;> simp at h
  rfl

theorem L_nil : semL P [] st K = K st := rfl
theorem L_want (h : gv (st.t t) = some (some w)) : semL P (⟨d, so, some (t, w)⟩ :: l) st K = semL P (⟨d, so, none⟩ :: l) st K := by
  obtain ⟨bo, h⟩ := gv_some h
  simp [semL, GOp.sem, h]
theorem L_not (h : gv (st.t t) = some (some (!w))) : semL P (⟨d, so, some (t, w)⟩ :: l) st K = semL P l (GOp.skip ⟨d, so, none⟩ st) K := by
  obtain ⟨bo, h⟩ := gv_some h
  simp [semL, GOp.sem, h, GOp.skip]
theorem L_wantT (h : gv (st.t t) = some (some true)) : semL P (⟨d, so, some (t, true)⟩ :: l) st K = semL P (⟨d, so, none⟩ :: l) st K := L_want h
theorem L_wantF (h : gv (st.t t) = some (some false)) : semL P (⟨d, so, some (t, false)⟩ :: l) st K = semL P (⟨d, so, none⟩ :: l) st K := L_want h
theorem L_notT (h : gv (st.t t) = some (some false)) : semL P (⟨d, so, some (t, true)⟩ :: l) st K = semL P l (GOp.skip ⟨d, so, none⟩ st) K := L_not h
theorem L_notF (h : gv (st.t t) = some (some true)) : semL P (⟨d, so, some (t, false)⟩ :: l) st K = semL P l (GOp.skip ⟨d, so, none⟩ st) K := L_not h
theorem L_undef (h : gv (st.t t) = some none) : semL P (⟨d, so, some (t, w)⟩ :: l) st K = semL P l (GOp.skip ⟨d, so, none⟩ st) K := by
  have h := gv_none h
  simp [semL, GOp.sem, h, GOp.skip]
theorem skip_some : GOp.skip ⟨some n, so, none⟩ st = ⟨upd st.t n (.tup []), st.h⟩ := rfl
theorem skip_none : GOp.skip ⟨none, so, none⟩ st = st := rfl
/-- a guard that is not yet known: both ways -/
theorem L_split (b : Bool) (h : gv (st.t t) = some (some b)) (h1 : b = true → semL P (⟨d, so, some (t, w)⟩ :: l) st K) (h2 : b = false → semL P (⟨d, so, some (t, w)⟩ :: l) st K) : semL P (⟨d, so, some (t, w)⟩ :: l) st K := by
  cases b
  · exact h2 rfl
  · exact h1 rfl
/-- a call of these arguments: what it hands back goes into a slot, or nowhere -/
def CallK (P : Program) (f : FuncId) (args : List AV) (l : List GOp) (K : St → Prop) (st : St) (dst : Option Nat) : Prop :=
  ∃ res hr, AC P f args res hr ∧ (res.clean = true ∧ ∀ o, o ∈ hr → o.clean = true) ∧ (match dst with
    | none => semL P l st K
    | some n => hfree st.h n 0 hr ∧ semL P l ⟨upd st.t n (res.on (toS n)), hputs st.h n 0 hr⟩ K)
theorem L_call0 {f : FuncId} {args : List AV} (ha : lendAll st.h (xs.map (evalO st)) = args) (h : CallK P f args l K st d) : semL P (⟨d, .call f xs, none⟩ :: l) st K := by
  obtain ⟨res, hr, h1, h2, h3⟩ := h
  refine ⟨f, _, rfl, ?_⟩
  cases d with
  | none => exact ⟨⟨res, hr, .inl ⟨ha ▸ h1, h2⟩⟩, h3⟩
  | some n => exact ⟨_, hr, .inl ⟨res, .inl ⟨ha ▸ h1, h2⟩, rfl⟩, h3⟩
/-- what is handed back is a region -/
theorem L_callr {f : FuncId} {args : List AV} {res : AV} (ha : lendAll st.h (xs.map (evalO st)) = args) (h : AC P f args res []) (hf : st.h (.s n 0) = none)
    (k : semL P l ⟨upd st.t n (res.on (toR (.s n 0))), hupd st.h (.s n 0) (some .reg)⟩ K) : semL P (⟨some n, .call f xs, none⟩ :: l) st K :=
  ⟨f, _, rfl, _, [.reg], .inr ⟨res, ha ▸ h, rfl, rfl⟩, by simp [hfree, hf], k⟩
theorem L_callv0 {f : FuncId} {caps args : List AV} (hx : evalO st x = .fn f caps) (ha : lendAll st.h (xs.map (evalO st) ++ caps) = args) (h : CallK P f args l K st d) : semL P (⟨d, .callv x xs, none⟩ :: l) st K := by
  obtain ⟨res, hr, h1, h2, h3⟩ := h
  refine ⟨st, Wk.refl st, f, xs.map (evalO st) ++ caps, by simp only [SOp.callOf, hx], .inl ⟨res, hr, .inl ⟨ha ▸ h1, h2⟩, ?_⟩⟩
  cases d <;> exact h3
/-- a call that may write, of objects that are named -/
def CallMK (P : Program) (f : FuncId) (args : List AV) (hin : List Ob) (as : List Id) (l : List GOp) (K : St → Prop) (st : St) (dst : Option Nat) : Prop :=
  ∃ res la lr, MC P f args hin res la lr ∧ (res.clean = true ∧ (∀ o, o ∈ lr → o.clean = true) ∧ (∀ o, some o ∈ la → o.clean = true) ∧ la.length ≤ as.length) ∧ (match dst with
    | none => lr = [] ∧ semL P l ⟨fun q => (st.t q).on (kilM as la), hM st.h as 0 la lr⟩ K
    | some d => (∀ q, q < lr.length → st.h (.s d q) = none) ∧ semL P l ⟨upd (fun q => (st.t q).on (kilM as la)) d (res.on (bkM as d)), hM st.h as d la lr⟩ K)
/-- the same, of one object -/
theorem L_callmo (i : Id) {f : FuncId} {args : List AV} {o o1 : Ob} (ho : st.h i = some o) (ha : (xs.map (evalO st)).map (AV.on (lendM st.h [i])) = args) (hi : Ob.on (inM [i]) o = o1)
    (h : CallMK P f args [o1] [i] l K st d) : semL P (⟨d, .callm f xs, none⟩ :: l) st K := by
  obtain ⟨res, la, lr, h1, h2, h3⟩ := h
  refine ⟨st, Wk.refl st, f, _, rfl, .inr ⟨[i], [o], res, la, lr, by simp [ho], by simp, ?_, h2, ?_⟩⟩
  · rw [ha]; simp only [List.map_cons, List.map_nil, hi]; exact h1
  · cases d <;> exact h3
theorem L_callm0 (as : List Id) {f : FuncId} {args : List AV} {obs hin : List Ob} (hobs : as.map st.h = obs.map some) (hnd : as.Nodup) (ha : (xs.map (evalO st)).map (AV.on (lendM st.h as)) = args) (hi : obs.map (Ob.on (inM as)) = hin)
    (h : CallMK P f args hin as l K st d) : semL P (⟨d, .callm f xs, none⟩ :: l) st K := by
  obtain ⟨res, la, lr, h1, h2, h3⟩ := h
  refine ⟨st, Wk.refl st, f, _, rfl, .inr ⟨as, obs, res, la, lr, hobs, hnd, ?_, h2, ?_⟩⟩
  · rw [ha, hi]; exact h1
  · cases d <;> exact h3
/-- the same, behind a word less -/
theorem L_callw {st' : St} (hw : Wk st st') {f : FuncId} (h : semL P (⟨d, .callm f xs, none⟩ :: l) st' K) : semL P (⟨d, .callm f xs, none⟩ :: l) st K := by
  obtain ⟨st1, h1, h2⟩ := h
  exact ⟨st1, hw.trans h1, h2⟩
theorem L_callm1 {f : FuncId} {args : List AV} {hin : List Ob} {as : List Id} {res : AV} {la : List (Option Ob)} {lr : List Ob} (h : MC P f args hin res la lr)
    (hc : res.clean = true ∧ (∀ o, o ∈ lr → o.clean = true) ∧ (∀ o, some o ∈ la → o.clean = true) ∧ la.length ≤ as.length) (hf : ∀ q, q < lr.length → st.h (.s n q) = none)
    (k : semL P l ⟨upd (fun q => (st.t q).on (kilM as la)) n (res.on (bkM as n)), hM st.h as n la lr⟩ K) : CallMK P f args hin as l K st (some n) := ⟨res, la, lr, h, hc, hf, k⟩
theorem L_callm2 {f : FuncId} {args : List AV} {hin : List Ob} {as : List Id} {res : AV} {la : List (Option Ob)} (h : MC P f args hin res la [])
    (hc : res.clean = true ∧ (∀ o, o ∈ ([] : List Ob) → o.clean = true) ∧ (∀ o, some o ∈ la → o.clean = true) ∧ la.length ≤ as.length)
    (k : semL P l ⟨fun q => (st.t q).on (kilM as la), hM st.h as 0 la []⟩ K) : CallMK P f args hin as l K st none := ⟨res, la, [], h, hc, rfl, k⟩
theorem L_call1 {f : FuncId} {args : List AV} {res : AV} {hr : List Ob} (h : AC P f args res hr) (hc : res.clean = true ∧ ∀ o, o ∈ hr → o.clean = true) (hf : hfree st.h n 0 hr) (k : semL P l ⟨upd st.t n (res.on (toS n)), hputs st.h n 0 hr⟩ K) :
    CallK P f args l K st (some n) := ⟨res, hr, h, hc, hf, k⟩
theorem L_call2 {f : FuncId} {args : List AV} {res : AV} {hr : List Ob} (h : AC P f args res hr) (hc : res.clean = true ∧ ∀ o, o ∈ hr → o.clean = true) (k : semL P l st K) :
    CallK P f args l K st none := ⟨res, hr, h, hc, k⟩
/-- a call by a contract that may hand back what was only lent -/
theorem L_callb (β : Bool) {f : FuncId} {args : List AV} {res : AV} {hr : List Ob} (h : AC P f args res hr) (ha : keepAll β (xs.map (evalO st)) = args) (hf : hfree st.h n 0 hr)
    (k : semL P l ⟨upd st.t n (res.on (toS n)), hputs st.h n 0 hr⟩ K) : semL P (⟨some n, .call f xs, none⟩ :: l) st K := ⟨f, _, rfl, _, hr, .inl ⟨res, .inr ⟨β, ha ▸ h⟩, rfl⟩, hf, k⟩

/-- what is told of an operation that only reads and makes, and of those behind it -/
def contQ (P : Program) (l : List GOp) (K : St → Prop) (st : St) (n : Nat) : Option (Prop × AV × Option Ob) → Prop
  | some (p, x, none) => p ∧ semL P l ⟨upd st.t n x, st.h⟩ K
  | some (p, x, some ob) => p ∧ st.h (.s n 0) = none ∧ semL P l ⟨upd st.t n x, hupd st.h (.s n 0) (some ob)⟩ K
  | none => False
def contW (P : Program) (l : List GOp) (K : St → Prop) : Option (Prop × St) → Prop
  | some (p, st) => p ∧ semL P l st K
  | none => False
theorem L_quiet (h1 : so.isStore = false) (h2 : so.isApp = false) (h3 : so.isCall = false) (h4 : so.isCallM = false := by rfl) : semL P (⟨some n, so, none⟩ :: l) st K = contQ P l K st n (qf st n so) := by
  simp only [semL, GOp.sem, SOp.sem, h3, h4, oneF, h1, h2, if_false, Bool.false_eq_true]
  cases qf st n so with
  | none => rfl
  | some r =>
    obtain ⟨p, x, ob⟩ := r
    cases ob <;> simp [contQ, St.give, and_assoc]
theorem L_store : semL P (⟨none, .store n x y, none⟩ :: l) st K = contW P l K (wf st none (.store n x y)) := by
  simp only [semL, GOp.sem, SOp.sem, SOp.isCall, SOp.isCallM, oneF, SOp.isStore, if_true, if_false, Bool.false_eq_true]
  cases wf st none (.store n x y) with
  | none => rfl
  | some r => rfl
theorem L_app : semL P (⟨d, .app i j m x y, none⟩ :: l) st K = contW P l K (wf st d (.app i j m x y)) := by
  simp only [semL, GOp.sem, SOp.sem, SOp.isCall, SOp.isCallM, oneF, SOp.isStore, SOp.isApp, if_true, if_false, Bool.false_eq_true]
  cases wf st d (.app i j m x y) with
  | none => rfl
  | some r => rfl
theorem L_mv : semL P (⟨some n, .mv x, none⟩ :: l) st K = contQ P l K st n (qf st n (.mv x)) := L_quiet rfl rfl rfl
theorem L_pick : semL P (⟨some n, .pick x y z, none⟩ :: l) st K = contQ P l K st n (qf st n (.pick x y z)) := L_quiet rfl rfl rfl
theorem L_box : semL P (⟨some n, .box x, none⟩ :: l) st K = contQ P l K st n (qf st n (.box x)) := L_quiet rfl rfl rfl
theorem L_zbox : semL P (⟨some n, .zbox vs, none⟩ :: l) st K = contQ P l K st n (qf st n (.zbox vs)) := L_quiet rfl rfl rfl
theorem L_load1 : semL P (⟨some n, .load1 x, none⟩ :: l) st K = contQ P l K st n (qf st n (.load1 x)) := L_quiet rfl rfl rfl
theorem L_loadn : semL P (⟨some n, .loadn i x, none⟩ :: l) st K = contQ P l K st n (qf st n (.loadn i x)) := L_quiet rfl rfl rfl
theorem L_fad : semL P (⟨some n, .fad x i, none⟩ :: l) st K = contQ P l K st n (qf st n (.fad x i)) := L_quiet rfl rfl rfl
theorem L_fld1 : semL P (⟨some n, .fld1 x i, none⟩ :: l) st K = contQ P l K st n (qf st n (.fld1 x i)) := L_quiet rfl rfl rfl
theorem L_fldn : semL P (⟨some n, .fldn x i j, none⟩ :: l) st K = contQ P l K st n (qf st n (.fldn x i j)) := L_quiet rfl rfl rfl
theorem L_iad : semL P (⟨some n, .iad x y i, none⟩ :: l) st K = contQ P l K st n (qf st n (.iad x y i)) := L_quiet rfl rfl rfl
theorem L_iada : semL P (⟨some n, .iada x y i j, none⟩ :: l) st K = contQ P l K st n (qf st n (.iada x y i j)) := L_quiet rfl rfl rfl
theorem L_sidx : semL P (⟨some n, .sidx x y, none⟩ :: l) st K = contQ P l K st n (qf st n (.sidx x y)) := L_quiet rfl rfl rfl
theorem L_aidx : semL P (⟨some n, .aidx x y i, none⟩ :: l) st K = contQ P l K st n (qf st n (.aidx x y i)) := L_quiet rfl rfl rfl
theorem L_sls : semL P (⟨some n, .sls x lo hi, none⟩ :: l) st K = contQ P l K st n (qf st n (.sls x lo hi)) := L_quiet rfl rfl rfl
theorem L_slc : semL P (⟨some n, .slc x lo hi i, none⟩ :: l) st K = contQ P l K st n (qf st n (.slc x lo hi i)) := L_quiet rfl rfl rfl
theorem L_bin : semL P (⟨some n, .bin q o x y, none⟩ :: l) st K = contQ P l K st n (qf st n (.bin q o x y)) := L_quiet rfl rfl rfl
theorem L_eqa : semL P (⟨some n, .eqa q ks x y, none⟩ :: l) st K = contQ P l K st n (qf st n (.eqa q ks x y)) := L_quiet rfl rfl rfl
theorem L_un : semL P (⟨some n, .un u x, none⟩ :: l) st K = contQ P l K st n (qf st n (.un u x)) := L_quiet rfl rfl rfl
theorem L_cvi : semL P (⟨some n, .cvi k x, none⟩ :: l) st K = contQ P l K st n (qf st n (.cvi k x)) := L_quiet rfl rfl rfl
theorem L_cvss : semL P (⟨some n, .cvss x, none⟩ :: l) st K = contQ P l K st n (qf st n (.cvss x)) := L_quiet rfl rfl rfl
theorem L_cvbs : semL P (⟨some n, .cvbs x, none⟩ :: l) st K = contQ P l K st n (qf st n (.cvbs x)) := L_quiet rfl rfl rfl
theorem L_cvsb : semL P (⟨some n, .cvsb i x, none⟩ :: l) st K = contQ P l K st n (qf st n (.cvsb i x)) := L_quiet rfl rfl rfl
theorem L_mks : semL P (⟨some n, .mks i j m vs x, none⟩ :: l) st K = contQ P l K st n (qf st n (.mks i j m vs x)) := L_quiet rfl rfl rfl
theorem L_bsl : semL P (⟨some n, .bsl i j m xs, none⟩ :: l) st K = contQ P l K st n (qf st n (.bsl i j m xs)) := L_quiet rfl rfl rfl
theorem L_bld : semL P (⟨some n, .bld vs ps, none⟩ :: l) st K = contQ P l K st n (qf st n (.bld vs ps)) := L_quiet rfl rfl rfl
theorem L_ext : semL P (⟨some n, .ext x i, none⟩ :: l) st K = contQ P l K st n (qf st n (.ext x i)) := L_quiet rfl rfl rfl
theorem L_lens : semL P (⟨some n, .lens x, none⟩ :: l) st K = contQ P l K st n (qf st n (.lens x)) := L_quiet rfl rfl rfl
theorem L_len : semL P (⟨some n, .len x, none⟩ :: l) st K = contQ P l K st n (qf st n (.len x)) := L_quiet rfl rfl rfl
theorem L_mx : semL P (⟨some n, .mx x y, none⟩ :: l) st K = contQ P l K st n (qf st n (.mx x y)) := L_quiet rfl rfl rfl
theorem L_mn : semL P (⟨some n, .mn x y, none⟩ :: l) st K = contQ P l K st n (qf st n (.mn x y)) := L_quiet rfl rfl rfl
theorem L_mkf : semL P (⟨some n, .mkf i xs, none⟩ :: l) st K = contQ P l K st n (qf st n (.mkf i xs)) := L_quiet rfl rfl rfl
theorem L_nilc : semL P (⟨some n, .nilc x, none⟩ :: l) st K = contQ P l K st n (qf st n (.nilc x)) := L_quiet rfl rfl rfl

theorem evalO_tmp (t : Nat) : evalO st (.tmp t) = st.t t := rfl
theorem evalO_int (k : IntKind) (m : Int) : evalO st (.const (.int k m)) = .c false (.v (.int k m)) := rfl
theorem evalO_bool (b : Bool) : evalO st (.const (.bool b)) = .c false (.v (.bool b)) := rfl
theorem evalO_str (b : ByteArray) : evalO st (.const (.string b)) = .c false (.v (.string b)) := rfl
theorem evalO_nil : evalO st (.const (.slice none 0 0)) = .nil := rfl
theorem evalO_func (f : Nat) : evalO st (.func f) = .fn f [] := rfl
end
end Go.Proofs.YtoemclhjcbcjaaaGreat.AB
