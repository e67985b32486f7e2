/- A function's text over states; loops by what stays true; the contract of a function out of its text. -/
import Derived.Test.YtoemclhjcbcjaaaGreatAbUd
namespace Go.Proofs.YtoemclhjcbcjaaaGreat.AB
open Go
set_option linter.unusedVariables false
set_option linter.unusedSimpArgs false

theorem Wk.refl (st : St) : Wk st st := fun _ _ _ h => h
theorem Wk.trans {a b c : St} (h : Wk a b) (k : Wk b c) : Wk a c := fun Γ x w q => k Γ x w (h Γ x w q)

theorem Wk.mk {st : St} {t' : Nat → AV} (W : Wn) (hW : W.h = st.h) (ht : ∀ d, W.le (t' d) (st.t d)) (hh : ∀ i o', W.h' i = some o' → ∃ o, W.h (W.ρ i) = some o ∧ W.leO o' o)
    (hinj : ∀ i j, (W.h' i).isSome = true → (W.h' j).isSome = true → W.ρ i = W.ρ j → i = j) (ha : ∀ q, (W.h' (.a q)).isSome = true → W.ρ (.a q) = .a q) : Wk st ⟨t', W.h'⟩ :=
  fun _ _ _ ⟨_, _, k⟩ => ⟨_, _, k.weak hW ht hh hinj ha⟩

/-- a slice that is not there is a slice of one's own, without elements -/
theorem Wk.nil {st : St} {d e sz : Nat} {i : Id} (hd : st.t d = .nil) (hi : st.h i = none) (hsz : 0 < sz) (hia : ∀ q, i ≠ .a q) : Wk st ⟨upd st.t d (.own i), hupd st.h i (some (.row false e sz []))⟩ := by
  rintro Γ a w ⟨S, ν, k⟩
  let ν' : Id → Value := fun j => if j = i then .slice none 0 0 else ν j
  have hne : ∀ j o, st.h j = some o → j ≠ i := fun j o hj e => by rw [e, hi] at hj; cases hj
  have hν : ∀ j, j ≠ i → ν' j = ν j := fun j hj => if_neg hj
  have hνi : ν' i = .slice none 0 0 := if_pos rfl
  have hnew : ∀ j, st.h j = none → (hupd st.h i (some (.row false e sz [])) j).isSome = true → j = i := by
    intro j h1 h2
    by_cases q : j = i
    · exact q
    · rw [hupd_ne _ _ q, h1] at h2; cases h2
  have kg : RepW Γ S ν' ⟨st.t, hupd st.h i (some (.row false e sz []))⟩ a w := by
    refine k.grow (S' := S) (Fr.refl _ w) (fun _ q => q) (fun _ q => .inl q) (fun b q => k.ok.lt b (.inl q)) (fun _ q => .inl q) (fun j o hj => ⟨by rw [hupd_ne _ _ (hne j o hj)]; exact hj, hν j (hne j o hj)⟩) (fun j h1 h2 => ?_) (fun j l b hjl h1 h2 h3 h4 hb => ?_) (fun j cs h1 h2 => ?_) (fun j bor e' sz' xs h1 h2 => ?_) (fun j h1 h2 => ?_)
    · obtain rfl := hnew j h1 h2
      exact ⟨hia, fun b hb => by rw [hνi] at hb; cases hb⟩
    · exact absurd ((hnew j h1 h3).trans (hnew l h2 h4).symm) hjl
    · obtain rfl := hnew j h1 (by rw [h2]; rfl)
      rw [hupd_same] at h2; cases h2
    · obtain rfl := hnew j h1 (by rw [h2]; rfl)
      rw [hupd_same] at h2
      cases h2
      exact ⟨hsz, fun r hr => by simp at hr, [], by rw [hνi]; exact ⟨by simp, .inl ⟨rfl, rfl⟩⟩, fun n r o c hr => by simp at hr⟩
    · obtain rfl := hnew j h1 (by rw [h2]; rfl)
      rw [hupd_same] at h2; cases h2
  refine ⟨S, ν', kg.defers, kg.size, kg.s0, kg.s1, kg.fr, kg.ok, kg.mine, kg.came, kg.um, kg.kp, kg.lay, fun q => ?_⟩
  by_cases hq : q = d
  · subst hq
    have h1 := k.t q
    rw [hd] at h1
    have h2 : VR S Γ.B ν' (hupd st.h i (some (.row false e sz []))) w (.own i) (ν' i) := .own (hupd_same _ _ _)
    rw [hνi] at h2
    show VR S Γ.B ν' _ w (upd st.t q (.own i) q) _
    rw [upd_same]
    generalize a.tmps.getD q undef = v at h1
    cases h1
    exact h2
  · show VR S Γ.B ν' _ w (upd st.t d (.own i) q) _
    rw [upd_ne _ _ hq]
    exact kg.t q

/-- operations stand in order where any order may come; slots are there -/
def codeOk (T : Tab) (N : Nat) : Code → Bool
  | .region _ ops draw => match compL T ops ops.toList with
    | none => false
    | some gs => gs.all (·.within N) && (!draw || (if useB ops gs draw then Region.noSelect ops && (permOk gs.length (order3 ops gs) && chk3 ops gs gs.length (order3 ops gs)) else if someB gs then ordB2 (depsOf ops) gs else ordB (depsOf ops) gs))
  | .seq a b => codeOk T N a && codeOk T N b
  | .cond _ a b => codeOk T N a && codeOk T N b
  | .block _ b => codeOk T N b
  | .loop b => codeOk T N b
  | _ => true

def thenS (K : St → Prop) (Q : Exit → St → Prop) : Exit → St → Prop
  | .normal, st => K st
  | e, st => Q e st
def blockS (id : Nat) (Q : Exit → St → Prop) : Exit → St → Prop
  | .exit id', st => if id' = id then Q .normal st else Q (.exit id') st
  | e, st => Q e st

/-- from a state on, the text comes to what Q says -/
def SW (P : Program) (T : Tab) (N : Nat) (sc : SC) (Q : Exit → St → Prop) (st : St) : Prop :=
  ∀ code, comp T code = some sc → codeOk T N code = true → ∀ Γ a w, Γ.N = N → Rep Γ st a w → code.wp P (fun e a' w' => ∃ st', Q e st' ∧ Rep Γ st' a' w') a w

/-- what is asked of a program once -/
structure Good (P : Program) (T : Tab) : Prop where
  tab : Tab.ok P T = true
  plain : T.plain = true
  mixed : P.follows .mixedOrders = true


/-- which text it was -/
def SC.of (T : Tab) (code : Code) : SC → Prop
  | .skip => code = .skip
  | .ops two l => ∃ id ops draw gs, code = .region id ops draw ∧ compL T ops ops.toList = some gs ∧ two = (draw && someB gs) ∧ l = orderOf ops gs draw
  | .seq a b => ∃ c d, code = .seq c d ∧ comp T c = some a ∧ comp T d = some b
  | .cond o a b => ∃ c d, code = .cond o c d ∧ comp T c = some a ∧ comp T d = some b
  | .block id b => ∃ c, code = .block id c ∧ comp T c = some b
  | .loop b => ∃ c, code = .loop c ∧ comp T c = some b
  | .exit id => code = .exit id
  | .ret => code = .ret
theorem comp_inv {T : Tab} {code : Code} {sc : SC} (hc : comp T code = some sc) : sc.of T code := by
  unfold comp at hc
  split at hc
  · cases hc; rfl
  · obtain ⟨l, hl, rfl⟩ := Option.map_eq_some_iff.1 hc
    exact ⟨_, _, _, _, rfl, hl, rfl, rfl⟩
  · split at hc
    · rename_i h1 h2; cases hc; exact ⟨_, _, rfl, h1, h2⟩
    · cases hc
  · split at hc
    · rename_i h1 h2; cases hc; exact ⟨_, _, rfl, h1, h2⟩
    · cases hc
  · obtain ⟨l, hl, rfl⟩ := Option.map_eq_some_iff.1 hc
    exact ⟨_, rfl, hl⟩
  · obtain ⟨l, hl, rfl⟩ := Option.map_eq_some_iff.1 hc
    exact ⟨_, rfl, hl⟩
  · cases hc; rfl
  · cases hc; rfl
  · cases hc

section
variable {P : Program} {T : Tab} {N : Nat} {Q Q' : Exit → St → Prop} {st st' : St} {sc x y : SC}

theorem SW.weak (h : SW P T N sc Q st') (k : Wk st st') : SW P T N sc Q st := fun code hc hok Γ a w hN hr => h code hc hok Γ a w hN (k Γ a w hr)

theorem SW.mono (h : SW P T N sc Q st) (hq : ∀ e st, Q e st → ∃ st', Wk st st' ∧ Q' e st') : SW P T N sc Q' st := by
  intro code hc hok Γ a w hN hr
  refine wp_mono (h code hc hok Γ a w hN hr) (fun e a' w' ⟨st1, h1, h2⟩ => ?_)
  obtain ⟨st2, h3, h4⟩ := hq e st1 h1
  exact ⟨st2, h4, h3 _ _ _ h2⟩

theorem SW.skip (h : Q .normal st) : SW P T N .skip Q st := by
  intro code hc hok Γ a w hN hr
  obtain rfl := comp_inv hc
  exact wp_skip ⟨st, h, hr⟩

theorem SW.exit {id : Nat} (h : Q (.exit id) st) : SW P T N (.exit id) Q st := by
  intro code hc hok Γ a w hN hr
  obtain rfl := comp_inv hc
  exact wp_exit ⟨st, h, hr⟩

theorem SW.ret (h : Q .ret st) : SW P T N .ret Q st := by
  intro code hc hok Γ a w hN hr
  obtain rfl := comp_inv hc
  exact wp_ret ⟨st, h, hr⟩

theorem useB_some {ops : Array Oper} {gs : List GOp} {draw : Bool} (h : someB gs = true) : useB ops gs draw = false := by
  unfold someB at h
  simp only [Bool.and_eq_true, List.all_eq_true, Bool.not_eq_true'] at h
  have h1 : gs.any (·.op.isCallM) = false := by rw [List.any_eq_false]; exact fun g hg => by simp [(h.1 g hg).2]
  have h2 : gs.any (·.op.isCall) = false := by rw [List.any_eq_false]; exact fun g hg => by simp [(h.1 g hg).1]
  unfold useB mixB
  rw [h1, h2]; simp
theorem SW.ops {l : List GOp} (g : Good P T) (h : semL P l st (Q .normal)) : SW P T N (.ops false l) Q st := by
  intro code hc hok Γ a w hN hr
  obtain ⟨id, ops, draw, gs, rfl, hgs, hdr, hl⟩ := comp_inv hc
  simp only [codeOk, hgs, Bool.and_eq_true] at hok
  have hw : ∀ q, q ∈ gs → q.within Γ.N = true := fun q hq => by rw [hN]; exact List.all_eq_true.1 hok.1 q hq
  cases draw with
  | false =>
    have : useB ops gs false = false := rfl
    rw [orderOf, this] at hl
    simp only [Bool.false_eq_true, if_false] at hl
    subst hl
    exact region_sound g.tab g.plain hgs hw h hr (fun a' w' st' h1 h2 => ⟨st', h1, h2⟩)
  | true =>
    cases hu : useB ops gs true with
    | true =>
      rw [orderOf, hu, if_pos rfl] at hl
      subst hl
      have h3 := hok.2
      rw [hu] at h3
      simp only [Bool.not_true, Bool.false_or, if_true, Bool.and_eq_true] at h3
      exact region_any3 g.mixed g.tab g.plain hgs hw h3.1 h3.2.1 h3.2.2 h hr (fun a' w' st' h1 h2 => ⟨st', h1, h2⟩)
    | false =>
      rw [orderOf, hu] at hl
      simp only [Bool.false_eq_true, if_false] at hl
      subst hl
      have hs : someB l = false := by simpa using hdr
      have hB : ordB (depsOf ops) l = true := by simpa [hs, hu] using hok.2
      exact region_any g.mixed g.tab g.plain hgs hw hB h hr (fun a' w' st' h1 h2 => ⟨st', h1, h2⟩)
theorem SW.ops2 {l : List GOp} (g : Good P T) (h : semO P (ordsL l) st (Q .normal)) : SW P T N (.ops true l) Q st := by
  intro code hc hok Γ a w hN hr
  obtain ⟨id, ops, draw, gs, rfl, hgs, hdr, hl⟩ := comp_inv hc
  simp only [codeOk, hgs, Bool.and_eq_true] at hok
  have hw : ∀ q, q ∈ gs → q.within Γ.N = true := fun q hq => by rw [hN]; exact List.all_eq_true.1 hok.1 q hq
  have hd : draw = true ∧ someB gs = true := by
    have := hdr.symm
    simpa using this
  obtain ⟨rfl, hs⟩ := hd
  have hu : useB ops gs true = false := useB_some hs
  rw [orderOf, hu] at hl
  simp only [Bool.false_eq_true, if_false] at hl
  subst hl
  have h2 : ordB2 (depsOf ops) l = true := by simpa [hs, hu] using hok.2
  exact region_any2 g.mixed g.tab g.plain hgs hw h2 h hr (fun a' w' st' h1 h2 => ⟨st', h1, h2⟩)

theorem SW.seq (h : SW P T N x (thenS (fun st' => ∃ st0, Wk st' st0 ∧ SW P T N y Q st0) Q) st) : SW P T N (.seq x y) Q st := by
  intro code hc hok Γ a w hN hr
  · obtain ⟨c, d, rfl, hx, hy⟩ := comp_inv hc
    · skip
      simp only [codeOk, Bool.and_eq_true] at hok
      refine wp_seq (wp_mono (h c hx hok.1 Γ a w hN hr) (fun e a' w' ⟨st1, h1, h2⟩ => ?_))
      cases e with
      | normal =>
        obtain ⟨st0, h3, h4⟩ := h1
        exact h4 d hy hok.2 Γ a' w' hN (h3 _ _ _ h2)
      | exit => exact ⟨st1, h1, h2⟩
      | goto => exact ⟨st1, h1, h2⟩
      | ret => exact ⟨st1, h1, h2⟩
      | panic => exact ⟨st1, h1, h2⟩
      | outgrown => exact ⟨st1, h1, h2⟩

theorem SW.cond {c : Operand} {bo b : Bool} (hb : evalO st c = .c bo (.v (.bool b))) (ht : b = true → SW P T N x Q st) (hf : b = false → SW P T N y Q st) : SW P T N (.cond c x y) Q st := by
  intro code hc hok Γ a w hN hr
  · obtain ⟨p, q, rfl, hx, hy⟩ := comp_inv hc
    · skip
      simp only [codeOk, Bool.and_eq_true] at hok
      obtain ⟨S, ν, k⟩ := hr
      have := (evalO_v k hb).1
      exact wp_cond_split this (fun e => ht e p hx hok.1 Γ a w hN ⟨S, ν, k⟩) (fun e => hf e q hy hok.2 Γ a w hN ⟨S, ν, k⟩)

theorem SW.block {id : Nat} (h : SW P T N x (blockS id Q) st) : SW P T N (.block id x) Q st := by
  intro code hc hok Γ a w hN hr
  · obtain ⟨p, rfl, hq⟩ := comp_inv hc
    refine wp_block (wp_mono (h p hq hok Γ a w hN hr) (fun e a' w' ⟨st1, h1, h2⟩ => ?_))
    cases e with
    | exit id2 =>
      simp only [blockS] at h1
      simp only [Exit.inBlock]
      split at h1
      · rename_i e; rw [if_pos e]; exact ⟨st1, h1, h2⟩
      · rename_i e; rw [if_neg e]; exact ⟨st1, h1, h2⟩
    | normal => exact ⟨st1, h1, h2⟩
    | goto => exact ⟨st1, h1, h2⟩
    | ret => exact ⟨st1, h1, h2⟩
    | panic => exact ⟨st1, h1, h2⟩
    | outgrown => exact ⟨st1, h1, h2⟩

theorem least {p : Nat → Prop} (h : ∃ n, p n) : ∃ n, p n ∧ ∀ m, p m → n ≤ m := by
  obtain ⟨n, hn⟩ := h
  induction n using Nat.strongRecOn with
  | _ n ih =>
    by_cases hm : ∃ m, m < n ∧ p m
    · obtain ⟨m, hlt, hp⟩ := hm
      exact ih m hlt hp
    · exact ⟨n, hn, fun m hp => Nat.le_of_not_lt fun hlt => hm ⟨m, hlt, hp⟩⟩

open Classical in
theorem SW.loop (I : Nat → St → Prop) {n : Nat} (h0 : I n st) (hr : ∀ n st, I n st → SW P T N x (thenS (fun st' => ∃ m st0, m < n ∧ Wk st' st0 ∧ I m st0) Q) st) : SW P T N (.loop x) Q st := by
  intro code hc hok Γ a w hN hrep
  · obtain ⟨p, rfl, hq⟩ := comp_inv hc
    let J : Nat → Act → World → Prop := fun n a w => ∃ st, I n st ∧ Rep Γ st a w
    let μ : Act → World → Nat := fun a w => if h : ∃ n, J n a w then (least h).choose else 0
    refine wp_loop (fun a w => ∃ n, J n a w) μ ⟨n, st, h0, hrep⟩ (fun a w hI => ?_)
    have hμ : μ a w = (least hI).choose := dif_pos hI
    obtain ⟨st1, h1, h2⟩ := (least hI).choose_spec.1
    refine wp_mono (hr _ st1 h1 p hq hok Γ a w hN h2) (fun e a' w' ⟨st2, h3, h4⟩ => ?_)
    cases e with
    | normal =>
      obtain ⟨m, st0, hlt, hwk, hI0⟩ := h3
      have hJ : J m a' w' := ⟨st0, hI0, hwk _ _ _ h4⟩
      have he : ∃ n, J n a' w' := ⟨m, hJ⟩
      refine ⟨he, ?_⟩
      have h5 : μ a' w' = (least he).choose := dif_pos he
      rw [hμ, h5]
      exact Nat.lt_of_le_of_lt ((least he).choose_spec.2 m hJ) hlt
    | exit => exact ⟨st2, h3, h4⟩
    | goto => exact ⟨st2, h3, h4⟩
    | ret => exact ⟨st2, h3, h4⟩
    | panic => exact ⟨st2, h3, h4⟩
    | outgrown => exact ⟨st2, h3, h4⟩

end
end Go.Proofs.YtoemclhjcbcjaaaGreat.AB
