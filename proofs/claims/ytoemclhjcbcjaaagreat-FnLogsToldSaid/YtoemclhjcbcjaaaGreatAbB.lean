/- The state of a call under way, and how it moves: a slot is written, memory comes, a cell of one's own is written, an element, an append. -/
import Derived.Test.YtoemclhjcbcjaaaGreatAbLay
namespace Go.Proofs.YtoemclhjcbcjaaaGreat.AB
open Go

/-- nothing that was there has turned, but for the blocks of X -/
structure Fr (X : Nat → Prop) (w w' : World) : Prop where
  os : w'.os = w.os
  tape : w'.tape = w.tape
  output : w'.output = w.output
  size : w.heap.size ≤ w'.heap.size
  keep : ∀ b, b < w.heap.size → ¬ X b → w'.heap[b]? = w.heap[b]?

theorem Fr.refl (X : Nat → Prop) (w : World) : Fr X w w := ⟨rfl, rfl, rfl, Nat.le_refl _, fun _ _ _ => rfl⟩
/-- on from there: what turns later is of X, or came later -/
theorem Fr.trans {X Y : Nat → Prop} {w w1 w2 : World} (h : Fr X w w1) (k : Fr Y w1 w2) (hY : ∀ b, Y b → w.heap.size ≤ b ∨ X b) : Fr X w w2 :=
  ⟨k.os.trans h.os, k.tape.trans h.tape, k.output.trans h.output, Nat.le_trans h.size k.size,
    fun b hb hx => (k.keep b (Nat.lt_of_lt_of_le hb h.size) (fun y => (hY b y).elim (fun q => absurd hb (by omega)) hx)).trans (h.keep b hb hx)⟩

structure St where
  t : Nat → AV
  h : Hp

def upd {β : Type} (f : Nat → β) (d : Nat) (x : β) : Nat → β := fun k => if k = d then x else f k
def hupd {β : Type} (f : Id → β) (i : Id) (x : β) : Id → β := fun k => if k = i then x else f k

theorem upd_same {β : Type} (f : Nat → β) (d : Nat) (x : β) : upd f d x d = x := by simp [upd]
theorem upd_ne {β : Type} (f : Nat → β) {d k : Nat} (x : β) (h : k ≠ d) : upd f d x k = f k := by simp [upd, h]
theorem hupd_same {β : Type} (f : Id → β) (d : Id) (x : β) : hupd f d x d = x := by simp [hupd]
theorem hupd_ne {β : Type} (f : Id → β) {d k : Id} (x : β) (h : k ≠ d) : hupd f d x k = f k := by simp [hupd, h]

/-- a call under way: the world when it began, what stayed and what was lent then, what it may write, how many slots it has, where what came in by address lies -/
structure Gm where
  w0 : World
  S0 : Nat → Prop
  B : Nat → Prop
  X : Nat → Prop
  N : Nat
  νa : Id → Value

structure RepW (Γ : Gm) (S : Nat → Prop) (ν : Id → Value) (st : St) (a : Act) (w : World) : Prop where
  defers : a.defers = []
  size : a.tmps.size = Γ.N
  s0 : ∀ b, Γ.S0 b → S b
  s1 : ∀ b, S b → Γ.S0 b ∨ Γ.w0.heap.size ≤ b ∨ Γ.X b
  fr : Fr Γ.X Γ.w0 w
  ok : HOK S Γ.B ν st.h w
  mine : ∀ i b, (st.h i).isSome = true → fb (ν i) b → Γ.w0.heap.size ≤ b ∨ Γ.X b
  came : ∀ k, (st.h (.a k)).isSome = true → ν (.a k) = Γ.νa (.a k)
  um : ∀ b, S b → Γ.S0 b ∨ unmk w b
  kp : ∀ k, st.h (.a k) = some .reg → KP (fb (Γ.νa (.a k))) Γ.w0 w
  lay : Lay (fun b => S b ∨ Γ.B b) w
  t : ∀ d, VR S Γ.B ν st.h w (st.t d) (a.tmps.getD d undef)

def Rep (Γ : Gm) (st : St) (a : Act) (w : World) : Prop := ∃ S ν, RepW Γ S ν st a w

section
variable {Γ : Gm} {S : Nat → Prop} {ν : Id → Value} {st : St} {a : Act} {w : World}

/-- a slot is written -/
theorem RepW.put (k : RepW Γ S ν st a w) {d : Nat} {x : AV} {v : Value} (hd : d < Γ.N) (hx : VR S Γ.B ν st.h w x v) : RepW Γ S ν ⟨upd st.t d x, st.h⟩ (a.put (some d) v) w := by
  refine ⟨k.defers, by simp [Act.put, k.size], k.s0, k.s1, k.fr, k.ok, k.mine, k.came, k.um, k.kp, k.lay, fun e => ?_⟩
  by_cases he : e = d
  · subst he
    have hlt : e < a.tmps.size := by rw [k.size]; exact hd
    simp only [upd_same, Act.put, Array.getD_eq_getD_getElem?, Array.getElem?_setIfInBounds, if_true, hlt]
    exact hx
  · have : (a.put (some d) v).tmps.getD e undef = a.tmps.getD e undef := by
      simp only [Act.put, Array.getD_eq_getD_getElem?, Array.getElem?_setIfInBounds]
      rw [if_neg (fun q => he q.symm)]
    show VR S Γ.B ν st.h w (upd st.t d _ e) _
    rw [this, upd_ne _ _ he]
    exact k.t e

/-- nothing is written -/
theorem RepW.put_none (k : RepW Γ S ν st a w) (v : Value) : RepW Γ S ν st (a.put none v) w := k

/-- a slot is forgotten -/
theorem RepW.forget (k : RepW Γ S ν st a w) {d : Nat} (v : Value) : RepW Γ S ν ⟨upd st.t d .dead, st.h⟩ (a.put (some d) v) w := by
  refine ⟨k.defers, by simp [Act.put, k.size], k.s0, k.s1, k.fr, k.ok, k.mine, k.came, k.um, k.kp, k.lay, fun e => ?_⟩
  by_cases he : e = d
  · subst he
    show VR S Γ.B ν st.h w (upd st.t e _ e) _
    rw [upd_same]; exact .dead
  · have : (a.put (some d) v).tmps.getD e undef = a.tmps.getD e undef := by
      simp only [Act.put, Array.getD_eq_getD_getElem?, Array.getElem?_setIfInBounds]
      rw [if_neg (fun q => he q.symm)]
    show VR S Γ.B ν st.h w (upd st.t d _ e) _
    rw [this, upd_ne _ _ he]
    exact k.t e

theorem RepW.lt_s0 (k : RepW Γ S ν st a w) {b : Nat} (h : S b ∨ Γ.B b) : b < w.heap.size := k.ok.lt b h

/-- memory comes: what was there is as it was -/
theorem RepW.grow (k : RepW Γ S ν st a w) {S' : Nat → Prop} {ν' : Id → Value} {h' : Hp} {w' : World} (hf : Fr (fun _ => False) w w')
    (hS : ∀ b, S b → S' b) (hS' : ∀ b, S' b → S b ∨ w.heap.size ≤ b) (hlt : ∀ b, S' b → b < w'.heap.size) (hum : ∀ b, S' b → S b ∨ unmk w' b)
    (hold : ∀ i o, st.h i = some o → h' i = some o ∧ ν' i = ν i)
    (hnew : ∀ i, st.h i = none → (h' i).isSome = true → (∀ q, i ≠ .a q) ∧ ∀ b, fb (ν' i) b → w.heap.size ≤ b ∧ ¬ S' b)
    (hsep : ∀ i j b, i ≠ j → st.h i = none → st.h j = none → (h' i).isSome = true → (h' j).isSome = true → fb (ν' i) b → ¬ fb (ν' j) b)
    (hbox : ∀ i cs, st.h i = none → h' i = some (.box cs) → ∃ b us T, ν' i = .pointer (some ⟨b, 0, none⟩) ∧ w'.heap[b]? = some (.cells us T (0, 0)) ∧ us.size = cs.length ∧
      (∀ (j : Nat) (x : AV) (u : Value), cs[j]? = some x → us[j]? = some u → VR S' Γ.B ν' h' w' x u ∧ u.oneCell' = true))
    (hrow : ∀ i bor e sz xs, st.h i = none → h' i = some (.row bor e sz xs) → 0 < sz ∧ (∀ r, r ∈ xs → r.length = sz) ∧ ∃ us, World.ownsM w' 0 e sz (ν' i) xs.length us ∧
      (∀ (n : Nat) (r : List C) (o : Nat) (c : C), xs[n]? = some r → r[o]? = some c → ∃ u, us[n * sz + o]? = some u ∧ u.oneCell' = true ∧ Im (rd S' Γ.B bor) w' u c))
    (hreg : ∀ i, st.h i = none → h' i = some .reg → (∃ l, ν' i = .agg l) ∧ ∀ b, fb (ν' i) b → unmk w' b) :
    RepW Γ S' ν' ⟨st.t, h'⟩ a w' := by
  have hsame : ∀ b, b < w.heap.size → w'.heap[b]? = w.heap[b]? := fun b hb => hf.keep b hb (fun q => q)
  have hrdw : ∀ bor b, rd S Γ.B bor b → w'.heap[b]? = w.heap[b]? := fun bor b hb => hsame b (k.ok.lt b (hb.imp id (fun q => q.2)))
  have hrds : ∀ bor b, rd S Γ.B bor b → rd S' Γ.B bor b := fun bor b hb => hb.imp (hS b) id
  have mono : ∀ x v, VR S Γ.B ν st.h w x v → VR S' Γ.B ν' h' w' x v := fun x v q =>
    q.mono hS (fun _ q => q) (fun i cs hi => ⟨⟨cs, (hold i _ hi).1⟩, (hold i _ hi).2⟩) (fun i bor e sz xs hi => hold i _ hi) (fun i hi => ⟨(hold i _ hi).1, (hold i _ hi).2, fun b hb => hsame b (k.ok.blk_lt (by rw [hi]; rfl) hb)⟩) (fun b hb => hsame b (k.ok.lt b hb))
  have hkeeprow : ∀ i bor e sz xs us, st.h i = some (.row bor e sz xs) → World.ownsM w 0 e sz (ν i) xs.length us → World.ownsM w' 0 e sz (ν i) xs.length us := by
    intro i bor e sz xs us hi ho
    refine ⟨ho.1, ?_⟩
    rcases ho.2 with hn | ⟨g, cap, cur, hv, h0, ⟨fz, hg, hfz⟩, rest⟩
    · exact .inl hn
    · exact .inr ⟨g, cap, cur, hv, h0, ⟨fz, (hsame g (Array.getElem?_eq_some_iff.1 hg).1).trans hg, hfz⟩, rest⟩
  refine ⟨k.defers, k.size, fun b hb => hS b (k.s0 b hb), fun b hb => (hS' b hb).elim (k.s1 b) (fun q => .inr (.inl (Nat.le_trans k.fr.size q))), k.fr.trans hf (fun b q => q.elim), ?_, ?_, ?_, fun b hb => ?_, fun q hi => ?_, k.lay.mono (fun b hb => hb.imp (hS b) id) (fun b hb => hsame b (k.ok.lt b hb)), fun d => mono _ _ (k.t d)⟩
  · refine ⟨?_, ?_, ?_, ?_, ?_, ?_⟩
    · intro i cs hi
      cases hst : st.h i with
      | none => exact hbox i cs hst hi
      | some o =>
        obtain ⟨h1, h2⟩ := hold i o hst
        obtain rfl : o = .box cs := Option.some.inj (h1.symm.trans hi)
        obtain ⟨b, us, T, hv, hw, hsz, hc⟩ := k.ok.box i cs hst
        exact ⟨b, us, T, h2.trans hv, (hsame b (Array.getElem?_eq_some_iff.1 hw).1).trans hw, hsz, fun j x u hx hu => ⟨mono _ _ (hc j x u hx hu).1, (hc j x u hx hu).2⟩⟩
    · intro i bor e sz xs hi
      cases hst : st.h i with
      | none => exact hrow i bor e sz xs hst hi
      | some o =>
        obtain ⟨h1, h2⟩ := hold i o hst
        obtain rfl : o = .row bor e sz xs := Option.some.inj (h1.symm.trans hi)
        obtain ⟨h0, hl, us, ho, hc⟩ := k.ok.row i bor e sz xs hst
        refine ⟨h0, hl, us, by rw [h2]; exact hkeeprow i bor e sz xs us hst ho, fun n r o c hr hcc => ?_⟩
        obtain ⟨u, hu, h1, hi⟩ := hc n r o c hr hcc
        exact ⟨u, hu, h1, hi.mono (hrds bor) (hrdw bor)⟩
    · intro i hi
      cases hst : st.h i with
      | none => exact hreg i hst hi
      | some o =>
        obtain ⟨h1, h2⟩ := hold i o hst
        obtain rfl : o = .reg := Option.some.inj (h1.symm.trans hi)
        have hs : (st.h i).isSome = true := by rw [hst]; rfl
        rw [h2]
        exact ⟨(k.ok.reg i hst).1, fun b hb => (k.ok.um hs hb).same (hsame b (k.ok.blk_lt hs hb))⟩
    · intro i j b hij hi hj hb hb'
      cases hsi : st.h i with
      | none =>
        cases hsj : st.h j with
        | none => exact hsep i j b hij hsi hsj hi hj hb hb'
        | some o =>
          have := k.ok.blk_lt (i := j) (b := b) (by rw [hsj]; rfl) (by rw [← (hold j o hsj).2]; exact hb')
          have := ((hnew i hsi hi).2 b hb).1
          omega
      | some o =>
        have e1 := (hold i o hsi).2
        cases hsj : st.h j with
        | none =>
          have := k.ok.blk_lt (i := i) (b := b) (by rw [hsi]; rfl) (by rw [← e1]; exact hb)
          have := ((hnew j hsj hj).2 b hb').1
          omega
        | some o' => exact k.ok.sep i j b hij (by rw [hsi]; rfl) (by rw [hsj]; rfl) (by rw [← e1]; exact hb) (by rw [← (hold j o' hsj).2]; exact hb')
    · intro i b hi hb
      cases hsi : st.h i with
      | none =>
        refine ⟨((hnew i hsi hi).2 b hb).2, fun q => ?_⟩
        have := k.ok.lt b (.inr q)
        have := ((hnew i hsi hi).2 b hb).1
        omega
      | some o =>
        have e1 := (hold i o hsi).2
        rw [e1] at hb
        have := k.ok.blk_lt (i := i) (b := b) (by rw [hsi]; rfl) hb
        have ho := k.ok.out i b (by rw [hsi]; rfl) hb
        exact ⟨fun q => (hS' b q).elim ho.1 (by omega), ho.2⟩
    · intro b hb
      exact hb.elim (hlt b) (fun q => Nat.lt_of_lt_of_le (k.ok.lt b (.inr q)) hf.size)
  · intro i b hi hb
    cases hsi : st.h i with
    | none => exact .inl (Nat.le_trans k.fr.size ((hnew i hsi hi).2 b hb).1)
    | some o => exact k.mine i b (by rw [hsi]; rfl) (by rw [← (hold i o hsi).2]; exact hb)
  · intro q hi
    cases hsi : st.h (.a q) with
    | none => exact absurd rfl ((hnew _ hsi hi).1 q)
    | some o => rw [(hold _ o hsi).2]; exact k.came q (by rw [hsi]; rfl)
  · rcases hum b hb with h | h
    · exact (k.um b h).imp id (fun q => q.same (hsame b (k.ok.lt b (.inl h))))
    · exact .inr h
  · have hi : h' (.a q) = some .reg := hi
    cases hsi : st.h (.a q) with
    | none => exact absurd rfl ((hnew _ hsi (by rw [hi]; rfl)).1 q)
    | some o =>
      have h1 := (hold _ o hsi).1
      rw [hi] at h1
      obtain rfl : Ob.reg = o := Option.some.inj h1
      refine (k.kp q hsi).trans (.same fun b hb => hsame b (k.ok.blk_lt (i := .a q) (by rw [hsi]; rfl) ?_))
      rw [k.came q (by rw [hsi]; rfl)]; exact hb

/-- only draws lie between -/
theorem RepW.drawn (k : RepW Γ S ν st a w) {w' : World} (hh : w'.heap = w.heap) (ho : w'.os = w.os) (ht : w'.tape = w.tape) (hp : w'.output = w.output) : RepW Γ S ν st a w' :=
  k.grow (S' := S) (ν' := ν) (h' := st.h) (w' := w') ⟨ho, ht, hp, by rw [hh]; exact Nat.le_refl _, fun b _ _ => by rw [hh]⟩ (fun _ q => q) (fun _ q => .inl q) (fun b q => by rw [hh]; exact k.ok.lt b (.inl q)) (fun _ q => .inl q)
    (fun i o q => ⟨q, rfl⟩) (fun i h1 h2 => by rw [h1] at h2; cases h2) (fun i j b _ h1 _ h2 => by rw [h1] at h2; cases h2) (fun i cs h1 h2 => by rw [h1] at h2; cases h2) (fun i _ _ _ _ h1 h2 => by rw [h1] at h2; cases h2) (fun i h1 h2 => by rw [h1] at h2; cases h2)

end
end Go.Proofs.YtoemclhjcbcjaaaGreat.AB
