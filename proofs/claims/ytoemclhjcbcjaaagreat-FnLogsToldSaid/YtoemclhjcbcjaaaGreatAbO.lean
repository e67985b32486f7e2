/- Calls by contract; an operation behind its guard; a list of operations. -/
import Derived.Test.YtoemclhjcbcjaaaGreatAbN
namespace Go.Proofs.YtoemclhjcbcjaaaGreat.AB
open Go
set_option linter.unusedVariables false
set_option linter.unusedSimpArgs false

/-- rows that are handed back -/
def hrOf (hr : List Ob) : Hp := fun i => match i with
  | .r j => hr[j]?
  | _ => none

theorem Im.v_any {S S' : Nat → Prop} {w w' : World} {v : Value} {s : Value} (h : Im S w v (.v s)) : Im S' w' v (.v s) := by
  cases h with
  | v h => exact .v h

/-- what a call comes to: what it hands back, and the rows that come with it; nothing else turns -/
structure CPost (S B : Nat → Prop) (w : World) (hr : List Ob) (res : AV) (S' : Nat → Prop) (ν' : Id → Value) (v : Value) (w' : World) : Prop where
  fr : Fr (fun _ => False) w w'
  s0 : ∀ b, S b → S' b
  s1 : ∀ b, S' b → S b ∨ w.heap.size ≤ b
  ok : HOK S' B ν' (hrOf hr) w'
  fresh : ∀ i b, (hrOf hr i).isSome = true → fb (ν' i) b → w.heap.size ≤ b
  um : ∀ b, S' b → S b ∨ unmk w' b
  val : VR S' B ν' (hrOf hr) w' res v

def Into (P : Program) (f : FuncId) (vs : Array Value) (w : World) (R : Value → World → Prop) : Prop :=
  ((callFunc f vs).run P w = .ok (.enter f vs) w ∧ Calls P f vs w fun e w' => ∃ v, e = .returned v ∧ R v w') ∨ ∃ v w', (callFunc f vs).run P w = .ok (.value v) w' ∧ R v w'

/-- THE CONTRACT of a function that writes nothing that is not its own: of arguments that read so it hands back this -/
def AC (P : Program) (f : FuncId) (args : List AV) (res : AV) (hr : List Ob) : Prop :=
  (∀ o, o ∈ hr → ∃ b e sz xs, o = .row b e sz xs) ∧
  ∀ (w : World) (S B : Nat → Prop) (ν : Id → Value) (vs : Array Value), (∀ b, S b ∨ B b → b < w.heap.size) → Lay (fun b => S b ∨ B b) w → args.length = vs.size →
    (∀ (i : Nat) (x : AV) (v : Value), args[i]? = some x → vs[i]? = some v → VR S B ν hempty w x v) →
    Into P f vs w fun v w' => ∃ S' ν', CPost S B w hr res S' ν' v w'

/-- what a cell reads as -/
def lendC (h : Hp) : AV → Option C
  | .c _ x => some x
  | .own i => match h i with
    | some (.row _ _ _ xs) => some (.sl xs)
    | _ => none
  | .vw i lo n => match h i with
    | some (.row _ _ _ xs) => some (.sl ((xs.drop lo).take n))
    | _ => none
  | .nil => some (.sl [])
  | _ => none
def lendL (h : Hp) : List AV → Option (List C)
  | [] => some []
  | x :: r => match lendC h x, lendL h r with
    | some c, some cs => some (c :: cs)
    | _, _ => none

/-- as it is lent to a callee -/
def lend (h : Hp) : AV → AV
  | .c b x => match x with
    | .v s => .c false (.v s)
    | .sl xs => .c true (.sl xs)
  | .own i => match h i with
    | some (.row _ _ _ xs) => .c true (.sl xs)
    | _ => .dead
  | .vw i lo n => match h i with
    | some (.row _ _ _ xs) => .c true (.sl ((xs.drop lo).take n))
    | _ => .dead
  | .nil => .c true (.sl [])
  | .ip _ xs => .ip true xs
  | .rx i x => match h i with
    | some .reg => .c true x
    | _ => .dead
  | .ptr i o => match h i with
    | some (.box cs) => match lendL h (cs.drop o) with
      | some ys => .ip true ys
      | none => .dead
    | _ => .dead
  | .ept i n o => match h i with
    | some (.row _ _ _ xs) => .ip true ((xs.getD n []).drop o)
    | _ => .dead
  | _ => .dead

/-- as it is handed to a callee that may hand back parts of it -/
def keep (β : Bool) : AV → AV
  | .c b x => match x with
    | .v s => .c false (.v s)
    | .sl xs => if (!b || β) = true then .c β (.sl xs) else .dead
  | .nil => .c β (.sl [])
  | .ip b xs => if (!b || β) = true then .ip β xs else .dead
  | _ => .dead

/-- nothing in it is only lent -/
def C.free (b : Bool) : C → Bool
  | .v _ => true
  | .sl _ => !b
mutual
def AV.clean : AV → Bool
  | .c b x => C.free b x
  | .ip b _ => !b
  | .agg xs => AV.cleanL xs
  | .tup xs => AV.cleanL xs
  | .fn _ xs => AV.cleanL xs
  | _ => true
def AV.cleanL : List AV → Bool
  | [] => true
  | x :: xs => AV.clean x && AV.cleanL xs
end
def Ob.clean : Ob → Bool
  | .row b _ _ _ => !b
  | .box cs => AV.cleanL cs
  | .reg => true

theorem AV.cleanL_iff : ∀ {xs : List AV}, AV.cleanL xs = true ↔ ∀ x, x ∈ xs → x.clean = true
  | [] => by simp [AV.cleanL]
  | x :: xs => by simp [AV.cleanL, AV.cleanL_iff (xs := xs)]

theorem VR.clean {S B B' : Nat → Prop} {ν : Id → Value} {h : Hp} {w : World} (hrow : ∀ i bor e sz xs, h i = some (.row bor e sz xs) → bor = false) {x : AV} {v : Value} (k : VR S B ν h w x v) : x.clean = true → VR S B' ν h w x v := by
  have hrd : ∀ b, rd S B false b → rd S B' false b := fun b hb => hb.elim .inl (fun q => by cases q.1)
  induction k with
  | c hk =>
    rename_i bor x v
    intro hc
    cases x with
    | v s => exact .c (.v_any hk)
    | sl xs =>
      simp only [AV.clean, C.free, Bool.not_eq_true'] at hc
      subst hc
      exact .c (hk.mono hrd (fun _ _ => rfl))
  | agg hl _ h1 ih => exact fun hc => .agg hl (fun i x u hx hu => ih i x u hx hu (AV.cleanL_iff.1 (by simpa only [AV.clean] using hc) x (List.mem_of_getElem? hx))) h1
  | tup hl _ ih => exact fun hc => .tup hl (fun i x u hx hu => ih i x u hx hu (AV.cleanL_iff.1 (by simpa only [AV.clean] using hc) x (List.mem_of_getElem? hx)))
  | own k => exact fun _ => .own k
  | vw k hle hv =>
    obtain rfl := hrow _ _ _ _ _ k
    exact fun _ => .vw k hle (hv.imp (fun q => q.mono hrd (fun _ _ => rfl)) id)
  | nil => exact fun _ => .nil
  | ptr k hv => exact fun _ => .ptr k hv
  | ept k hv hn => exact fun _ => .ept k hv hn
  | ip u hs hS hu hi =>
    intro hc
    simp only [AV.clean, Bool.not_eq_true'] at hc
    subst hc
    exact .ip u hs (hrd _ hS) hu (fun j c hj => (hi j c hj).mono hrd (fun _ _ => rfl))
  | fn hl _ ih => exact fun hc => .fn hl (fun i x u hx hu => ih i x u hx hu (AV.cleanL_iff.1 (by simpa only [AV.clean] using hc) x (List.mem_of_getElem? hx)))
  | rx k q => exact fun _ => .rx k q
  | rg k q => exact fun _ => .rg k q
  | rp k hs hb q => exact fun _ => .rp k hs hb q
  | dead => exact fun _ => .dead

theorem CPost.clean {S B B' : Nat → Prop} {w w' : World} {hr : List Ob} {res : AV} {S' : Nat → Prop} {ν' : Id → Value} {v : Value} (h : CPost S B w hr res S' ν' v w') (hrows : ∀ o, o ∈ hr → ∃ b e sz xs, o = .row b e sz xs)
    (hB : ∀ b, B' b → B b) (hc : res.clean = true) (hh : ∀ o, o ∈ hr → o.clean = true) : CPost S B' w hr res S' ν' v w' := by
  have hrow : ∀ i bor e sz xs, hrOf hr i = some (.row bor e sz xs) → bor = false := by
    intro i bor e sz xs hi
    cases i with
    | r j => have := hh _ (List.mem_of_getElem? (show hr[j]? = some _ from hi)); simpa [Ob.clean] using this
    | s => cases hi
    | a => cases hi
  have hrd : ∀ b, rd S' B false b → rd S' B' false b := fun b hb => hb.elim .inl (fun q => by cases q.1)
  refine ⟨h.fr, h.s0, h.s1, ⟨fun i cs hi => ?_, fun i bor e sz xs hi => ?_, h.ok.reg, h.ok.sep, fun i b hi hb => ?_, fun b hb => ?_⟩, h.fresh, h.um, h.val.clean hrow hc⟩
  · cases i with
    | r j => obtain ⟨_, _, _, _, he⟩ := hrows _ (List.mem_of_getElem? (show hr[j]? = some _ from hi)); cases he
    | s => cases hi
    | a => cases hi
  · obtain rfl := hrow _ _ _ _ _ hi
    obtain ⟨h0, hl, us, hown, hcells⟩ := h.ok.row _ _ _ _ _ hi
    refine ⟨h0, hl, us, hown, fun n r o c hr' hcc => ?_⟩
    obtain ⟨u, hu, h1, him⟩ := hcells n r o c hr' hcc
    exact ⟨u, hu, h1, him.mono hrd (fun _ _ => rfl)⟩
  · have := h.ok.out i b hi hb
    exact ⟨this.1, fun q => this.2 (hB b q)⟩
  · exact h.ok.lt b (hb.imp id (hB b))

/-- a result's rows under the slot's own name -/
def toS (d : Nat) : AV → AV
  | .own (.r j) => .own (.s d j)
  | .vw (.r j) lo n => .vw (.s d j) lo n
  | .ept (.r j) n o => .ept (.s d j) n o
  | .own _ => .dead
  | .vw _ _ _ => .dead
  | .ept _ _ _ => .dead
  | .ptr _ _ => .dead
  | .rx _ _ => .dead
  | .rg _ _ => .dead
  | .rp _ _ => .dead
  | x => x

def hputs (h : Hp) (d : Nat) : Nat → List Ob → Hp
  | _, [] => h
  | j, o :: r => hputs (hupd h (.s d j) (some o)) d (j + 1) r
def hfree (h : Hp) (d : Nat) : Nat → List Ob → Prop
  | _, [] => True
  | j, _ :: r => h (.s d j) = none ∧ hfree h d (j + 1) r

theorem hputs_get (d : Nat) : ∀ (hr : List Ob) (h : Hp) (j : Nat) (i : Id), hputs h d j hr i = match i with
    | .s d' q => if d' = d ∧ j ≤ q ∧ q < j + hr.length then hr[q - j]? else h (.s d' q)
    | i => h i
  | [], h, j, i => by cases i <;> simp [hputs]; omega
  | o :: r, h, j, i => by
    simp only [hputs]
    rw [hputs_get d r]
    cases i with
    | a k => simp [hupd]
    | r k => simp [hupd]
    | s d' q =>
      simp only [List.length_cons]
      by_cases h1 : d' = d ∧ j + 1 ≤ q ∧ q < j + 1 + r.length
      · rw [if_pos h1, if_pos (by omega)]
        rw [show q - j = (q - (j + 1)) + 1 by omega, List.getElem?_cons_succ]
      · rw [if_neg h1]
        by_cases h2 : d' = d ∧ q = j
        · obtain ⟨rfl, rfl⟩ := h2
          rw [hupd_same, if_pos (by omega)]; simp
        · rw [hupd_ne _ _ (by simp; omega), if_neg (by omega)]

theorem hfree_get (d : Nat) : ∀ (hr : List Ob) (h : Hp) (j : Nat), hfree h d j hr → ∀ q, j ≤ q → q < j + hr.length → h (.s d q) = none
  | [], h, j, _, q, h1, h2 => by simp at h2; omega
  | o :: r, h, j, hf, q, h1, h2 => by
    simp only [hfree] at hf
    by_cases e : q = j
    · subst e; exact hf.1
    · exact hfree_get d r h (j + 1) hf.2 q (by omega) (by simp at h2; omega)

section
variable {P : Program} {Γ : Gm} {S : Nat → Prop} {ν : Id → Value} {st : St} {a : Act} {w : World} {o : Oper} {T : Tab} {so : SOp} {p : Prop}

/-- blocks of rows of one's own, lent -/
def lentB (Γ : Gm) (ν : Id → Value) (h : Hp) (b : Nat) : Prop := Γ.B b ∨ ∃ i, (h i).isSome = true ∧ fb (ν i) b

theorem lendC_ok (ok : HOK S Γ.B ν st.h w) {h0 : Hp} (hsub : ∀ i o, h0 i = some o → st.h i = some o) {x : AV} {v : Value} {c : C} (k : VR S Γ.B ν st.h w x v) (hx : lendC h0 x = some c) : Im (rd S (lentB Γ ν h0) true) w v c := by
  have hrd : ∀ bor b, rd S Γ.B bor b → rd S (lentB Γ ν h0) true b := fun bor b hb => hb.imp id (fun q => ⟨rfl, .inl q.2⟩)
  cases k with
  | c hk => obtain rfl := Option.some.inj hx; exact hk.mono (hrd _) (fun _ _ => rfl)
  | agg => cases hx
  | tup => cases hx
  | own hk =>
    rename_i i bor e sz xs
    simp only [lendC] at hx
    split at hx
    · rename_i b' e' sz' xs' h1
      have h2 := hsub _ _ h1
      rw [hk] at h2
      obtain ⟨rfl, rfl, rfl, rfl⟩ := Ob.row.inj (Option.some.inj h2)
      obtain rfl := Option.some.inj hx
      refine (ok.im hk).mono (fun b hb => ?_) (fun _ _ => rfl)
      rcases hb with hb | hb
      · exact hrd _ b hb
      · exact .inr ⟨rfl, .inr ⟨_, by rw [h1]; rfl, hb⟩⟩
    · cases hx
  | vw hk hle hv =>
    simp only [lendC] at hx
    split at hx
    · rename_i b' e' sz' xs' h1
      have h2 := hsub _ _ h1
      have hk' := hk
      rw [hk] at h2
      obtain ⟨rfl, rfl, rfl, rfl⟩ := Ob.row.inj (Option.some.inj h2)
      obtain rfl := Option.some.inj hx
      refine (ok.vw (.vw hk hle hv) hk').1.mono (fun b hb => ?_) (fun _ _ => rfl)
      rcases hb with hb | hb
      · exact hrd _ b hb
      · exact .inr ⟨rfl, .inr ⟨_, by rw [h1]; rfl, hb⟩⟩
    · cases hx
  | nil => obtain rfl := Option.some.inj hx; exact .nil
  | ptr => cases hx
  | ept => cases hx
  | ip => cases hx
  | fn => cases hx
  | rx => cases hx
  | rg => cases hx
  | rp => cases hx
  | dead => cases hx

theorem lendL_get {h : Hp} : ∀ {xs : List AV} {cs : List C}, lendL h xs = some cs → ∀ (j : Nat) (c : C), cs[j]? = some c → ∃ x, xs[j]? = some x ∧ lendC h x = some c
  | [], cs, hx, j, c, hc => by simp only [lendL, Option.some.injEq] at hx; subst hx; simp at hc
  | x :: xs, cs, hx, j, c, hc => by
    simp only [lendL] at hx
    split at hx
    · rename_i c0 cs0 h1 h2
      obtain rfl := Option.some.inj hx
      cases j with
      | zero => simp at hc; subst hc; exact ⟨x, rfl, h1⟩
      | succ j => exact lendL_get h2 j c (by simpa using hc)
    · cases hx

theorem lend_leaf (ok : HOK S Γ.B ν st.h w) {h0 : Hp} (hsub : ∀ i o, h0 i = some o → st.h i = some o) (ν1 : Id → Value) (h1 : Hp) {x : AV} {v : Value} (hl : x.leaf = true) (hv : VR S Γ.B ν st.h w x v) : VR S (lentB Γ ν h0) ν1 h1 w (lend h0 x) v := by
  have hrd : ∀ bor b, rd S Γ.B bor b → rd S (lentB Γ ν h0) true b := fun bor b hb => hb.imp id (fun q => ⟨rfl, .inl q.2⟩)
  cases hv with
  | c hk =>
    rename_i b x
    cases x with
    | v s => obtain ⟨rfl, hs⟩ := hk.scal_eq; exact .c (.v hs)
    | sl xs => exact .c (hk.mono (hrd _) (fun _ _ => rfl))
  | agg => cases hl
  | tup => cases hl
  | own hk =>
    rename_i i bor e sz xs
    simp only [lend]
    split
    · rename_i h2
      exact .c (lendC_ok ok hsub (.own hk) (by simp only [lendC, h2]))
    · exact .dead
  | vw hk hle hv =>
    simp only [lend]
    split
    · rename_i h2
      exact .c (lendC_ok ok hsub (.vw hk hle hv) (by simp only [lendC, h2]))
    · exact .dead
  | nil => exact .c .nil
  | ptr hk hν =>
    rename_i i o b cs
    simp only [lend]
    split
    · rename_i cs0 h2
      have h3 := hsub _ _ h2
      rw [hk] at h3
      obtain rfl := Ob.box.inj (Option.some.inj h3)
      split
      · rename_i ys hys
        obtain ⟨b', us, TT, hν', hw, hsz, hc⟩ := ok.box i _ hk
        rw [hν] at hν'
        simp only [Value.pointer.injEq, Option.some.injEq, Addr.mk.injEq, and_true] at hν'
        subst hν'
        have hlive : lentB Γ ν h0 b := .inr ⟨i, by rw [h2]; rfl, by rw [hν]; rfl⟩
        have hat : ∀ (j : Nat) (c : C), ys[j]? = some c → ∃ u, us[o + j]? = some u ∧ Im (rd S (lentB Γ ν h0) true) w u c := by
          intro j c hj
          obtain ⟨x, hx, hxc⟩ := lendL_get hys j c hj
          rw [List.getElem?_drop] at hx
          have hlt : o + j < us.size := by rw [hsz]; exact (List.getElem?_eq_some_iff.1 hx).1
          have hu : us[o + j]? = some us[o + j] := Array.getElem?_eq_getElem hlt
          exact ⟨_, hu, lendC_ok ok hsub (hc _ _ _ hx hu).1 hxc⟩
        refine .ip (fun j => us.getD (o + j) undef) rfl (.inr ⟨rfl, hlive⟩) (fun j c hj => ?_) (fun j c hj => ?_)
        · obtain ⟨u, hu, _⟩ := hat j c hj
          rw [addr_add, cell_of_row w _ _ us TT (0, 0) hw, Array.getD_eq_getD_getElem?, hu]; rfl
        · obtain ⟨u, hu, him⟩ := hat j c hj
          rw [Array.getD_eq_getD_getElem?, hu]; exact him
      · exact .dead
    · exact .dead
  | ept hk hν hn =>
    rename_i i n o e sz b m cap bor xss
    simp only [lend]
    split
    rotate_left
    · exact .dead
    rename_i h2
    have h3 := hsub _ _ h2
    rw [hk] at h3
    obtain ⟨rfl, rfl, rfl, rfl⟩ := Ob.row.inj (Option.some.inj h3)
    obtain ⟨h0, hl, us, hown, hc⟩ := ok.row i _ _ _ _ hk
    have hr : xss[n]? = some xss[n] := List.getElem?_eq_getElem hn
    have hgd : xss.getD n [] = xss[n] := by simp [List.getD_eq_getElem?_getD, hr]
    rw [hgd]
    have hcell : ∀ j u, us[j]? = some u → w.cell? ((⟨b, 0, none⟩ : Addr).add j) = some u := hown.cells (by rw [hν]; rfl)
    refine .ip (fun j => us.getD (n * sz + (o + j)) undef) rfl (.inr ⟨rfl, .inr ⟨i, by rw [h2]; rfl, by rw [hν]; rfl⟩⟩) (fun j c hj => ?_) (fun j c hj => ?_)
    · rw [List.getElem?_drop] at hj
      obtain ⟨u, hu, _, _⟩ := hc n _ _ _ hr hj
      have := hcell _ _ hu
      rw [addr_add, List.getD_eq_getElem?_getD, hu]
      rw [addr_add] at this
      simpa [Nat.add_assoc] using this
    · rw [List.getElem?_drop] at hj
      obtain ⟨u, hu, _, him⟩ := hc n _ _ _ hr hj
      rw [List.getD_eq_getElem?_getD, hu]
      exact him.mono (hrd _) (fun _ _ => rfl)
  | ip u hs hb hu hi => exact .ip u hs (hrd _ _ hb) hu (fun j c hj => (hi j c hj).mono (hrd _) (fun _ _ => rfl))
  | fn => cases hl
  | rx hk q =>
    rename_i i x
    simp only [lend]
    split
    · rename_i h2
      exact .c (q.mono (fun b hb => .inr ⟨rfl, .inr ⟨i, by rw [h2]; rfl, hb⟩⟩) (fun _ _ => rfl))
    · exact .dead
  | rg => exact .dead
  | rp => exact .dead
  | dead => exact .dead

theorem lend_ok (ok : HOK S Γ.B ν st.h w) {x : AV} {v : Value} (k : VR S Γ.B ν st.h w x v) : VR S (lentB Γ ν st.h) ν hempty w (x.on (lend st.h)) v :=
  k.on (fun _ _ hl hv => lend_leaf ok (fun _ _ h => h) ν hempty hl hv)

theorem keep_ok (β : Bool) {x : AV} {v : Value} (k : VR S Γ.B ν st.h w x v) : VR S Γ.B ν hempty w (x.on (keep β)) v := by
  refine k.on (fun x v hl hv => ?_)
  have hrd : ∀ b bor, (!bor || β) = true → rd S Γ.B bor b → rd S Γ.B β b := fun b bor hb hr => hr.imp id (fun q => ⟨by rw [q.1] at hb; simpa using hb, q.2⟩)
  cases hv with
  | c hk =>
    rename_i b x
    cases x with
    | v s => exact .c (.v_any hk)
    | sl xs =>
      simp only [keep]
      split
      · rename_i hb; exact .c (hk.mono (fun b' => hrd b' _ hb) (fun _ _ => rfl))
      · exact .dead
  | agg => cases hl
  | tup => cases hl
  | own hk => exact .dead
  | vw hk hle hv => exact .dead
  | nil => exact .c .nil
  | ptr => exact .dead
  | ept => exact .dead
  | ip u hs hb hu hi =>
    simp only [keep]
    split
    · rename_i hbb; exact .ip u hs (hrd _ _ hbb hb) hu (fun j c hj => (hi j c hj).mono (fun b' => hrd b' _ hbb) (fun _ _ => rfl))
    · exact .dead
  | fn => cases hl
  | rx => exact .dead
  | rg => exact .dead
  | rp => exact .dead
  | dead => exact .dead

/-- what a call hands back, in the caller's state -/
theorem RepW.called (k : RepW Γ S ν st a w) {hr : List Ob} {res : AV} {S' : Nat → Prop} {ν' : Id → Value} {v : Value} {w' : World} (hrows : ∀ o, o ∈ hr → ∃ b e sz xs, o = .row b e sz xs) (h : CPost S Γ.B w hr res S' ν' v w') {d : Nat} (hd : d < Γ.N) (hf : hfree st.h d 0 hr) :
    ∃ S2 ν2, RepW Γ S2 ν2 ⟨upd st.t d (res.on (toS d)), hputs st.h d 0 hr⟩ (a.put (some d) v) w' := by
  let ν2 : Id → Value := fun i => match i with
    | .s d' q => if d' = d ∧ q < hr.length then ν' (.r q) else ν (.s d' q)
    | i => ν i
  have hfg := hfree_get d hr st.h 0 hf
  have hget := hputs_get d hr st.h 0
  have hold : ∀ i o', st.h i = some o' → hputs st.h d 0 hr i = some o' ∧ ν2 i = ν i := by
    intro i o' hi
    rw [hget i]
    cases i with
    | a q => exact ⟨hi, rfl⟩
    | r q => exact ⟨hi, rfl⟩
    | s d' q =>
      have hn : ¬ (d' = d ∧ q < hr.length) := by
        rintro ⟨rfl, hq⟩
        rw [hfg q (Nat.zero_le _) (by omega)] at hi; cases hi
      simp only [Nat.zero_le, true_and, Nat.zero_add, ν2]
      rw [if_neg hn, if_neg hn]; exact ⟨hi, rfl⟩
  have hnew : ∀ i o', st.h i = none → hputs st.h d 0 hr i = some o' → ∃ q, i = .s d q ∧ hr[q]? = some o' ∧ ν2 i = ν' (.r q) := by
    intro i o' h1 h2
    rw [hget i] at h2
    cases i with
    | a q => exact absurd (h1.symm.trans h2) (by simp)
    | r q => exact absurd (h1.symm.trans h2) (by simp)
    | s d' q =>
      simp only [Nat.zero_le, true_and, Nat.zero_add, Nat.sub_zero] at h2
      by_cases hc : d' = d ∧ q < hr.length
      · rw [if_pos hc] at h2
        obtain ⟨rfl, hq⟩ := hc
        exact ⟨q, rfl, h2, by simp [ν2, hq]⟩
      · rw [if_neg hc, h1] at h2; cases h2
  have hrq : ∀ q o', hr[q]? = some o' → hrOf hr (.r q) = some o' := fun q o' hq => hq
  have hBlt : ∀ b, Γ.B b → b < w.heap.size := fun b hb => k.ok.lt b (.inr hb)
  have toSB : ∀ bor b, rd S' Γ.B bor b → rd S' Γ.B bor b := fun bor b hb => hb
  have hvr : VR S' Γ.B ν2 (hputs st.h d 0 hr) w' (res.on (toS d)) v := by
    refine h.val.on (fun x u hl hx => ?_)
    have hrow : ∀ q b e sz xs, hrOf hr (.r q) = some (.row b e sz xs) → hputs st.h d 0 hr (.s d q) = some (.row b e sz xs) ∧ ν2 (.s d q) = ν' (.r q) := by
      intro q b e sz xs hq
      have hq' : hr[q]? = some (.row b e sz xs) := hq
      have hlt : q < hr.length := (List.getElem?_eq_some_iff.1 hq').1
      rw [hget]
      simp only [Nat.zero_le, true_and, Nat.zero_add, Nat.sub_zero, hlt, if_true, ν2]
      exact ⟨hq', trivial⟩
    cases hx with
    | c hk => exact .c (hk.mono (toSB _) (fun _ _ => rfl))
    | agg => cases hl
    | tup => cases hl
    | own hk =>
      rename_i i b e sz xs
      cases i with
      | r q => obtain ⟨h1, h2⟩ := hrow q b e sz xs hk; rw [← h2]; exact .own h1
      | s => exact .dead
      | a => exact .dead
    | vw hk hle hv =>
      rename_i i b e sz lo n xs
      cases i with
      | r q =>
        obtain ⟨h1, h2⟩ := hrow q b e sz xs hk
        refine .vw h1 hle (hv.imp (fun z => z.mono (toSB _) (fun _ _ => rfl)) (fun z => ?_))
        rw [h2]; exact z
      | s => exact .dead
      | a => exact .dead
    | nil => exact .nil
    | ptr => exact .dead
    | ept hk hv hn =>
      rename_i i n o e sz b m cap bor xs
      cases i with
      | r q => obtain ⟨h1, h2⟩ := hrow q bor e sz xs hk; exact .ept h1 (h2.trans hv) hn
      | s => exact .dead
      | a => exact .dead
    | ip f hs hb hu hi => exact .ip f hs (toSB _ _ hb) hu (fun j c hj => (hi j c hj).mono (toSB _) (fun _ _ => rfl))
    | fn => cases hl
    | rx hk q => exact .dead
    | rg => exact .dead
    | rp => exact .dead
    | dead => exact .dead
  have kg : RepW Γ S' ν2 ⟨st.t, hputs st.h d 0 hr⟩ a w' := by
    refine k.grow (S' := S') h.fr h.s0 h.s1 (fun b hb => h.ok.lt b (.inl hb)) h.um hold (fun i h1 h2 => ?_) (fun i j b hij h1 h2 h3 h4 hb hb' => ?_) (fun i cs h1 h2 => ?_) (fun i bor e sz xs h1 h2 => ?_) (fun i h1 h2 => ?_)
    · obtain ⟨o', ho'⟩ := Option.isSome_iff_exists.1 h2
      obtain ⟨q, rfl, hq, hν⟩ := hnew i o' h1 ho'
      refine ⟨fun z => by simp, fun b hb => ?_⟩
      rw [hν] at hb
      have hs : (hrOf hr (.r q)).isSome = true := by rw [hrq q o' hq]; rfl
      exact ⟨h.fresh _ b hs hb, (h.ok.out _ b hs hb).1⟩
    · obtain ⟨o1, ho1⟩ := Option.isSome_iff_exists.1 h3
      obtain ⟨o2, ho2⟩ := Option.isSome_iff_exists.1 h4
      obtain ⟨q1, rfl, hq1, hν1⟩ := hnew i o1 h1 ho1
      obtain ⟨q2, rfl, hq2, hν2⟩ := hnew j o2 h2 ho2
      rw [hν1] at hb
      rw [hν2] at hb'
      exact h.ok.sep (.r q1) (.r q2) b (by intro e; injection e with e; subst e; exact hij rfl) (by rw [hrq q1 o1 hq1]; rfl) (by rw [hrq q2 o2 hq2]; rfl) hb hb'
    · obtain ⟨q, rfl, hq, hν⟩ := hnew i _ h1 h2
      obtain ⟨_, _, _, _, he⟩ := hrows _ (List.mem_of_getElem? hq)
      cases he
    · obtain ⟨q, rfl, hq, hν⟩ := hnew i _ h1 h2
      obtain ⟨h0, hl, us, hown, hc⟩ := h.ok.row (.r q) _ _ _ _ (hrq q _ hq)
      refine ⟨h0, hl, us, by rw [hν]; exact hown, fun n r oo c hr' hcc => ?_⟩
      obtain ⟨u, hu, h1, him⟩ := hc n r oo c hr' hcc
      exact ⟨u, hu, h1, him.mono (toSB _) (fun _ _ => rfl)⟩
    · obtain ⟨q, rfl, hq, hν⟩ := hnew i _ h1 h2
      obtain ⟨_, _, _, _, he⟩ := hrows _ (List.mem_of_getElem? hq)
      cases he
  exact ⟨S', ν2, kg.put hd hvr⟩

/-- the same, of a call whose answer nobody takes -/
theorem RepW.called_none (k : RepW Γ S ν st a w) {hr : List Ob} {res : AV} {S' : Nat → Prop} {ν' : Id → Value} {v : Value} {w' : World} (h : CPost S Γ.B w hr res S' ν' v w') :
    ∃ S2 ν2, RepW Γ S2 ν2 st a w' :=
  ⟨S', ν, k.grow (S' := S') (ν' := ν) (h' := st.h) h.fr h.s0 h.s1 (fun b hb => h.ok.lt b (.inl hb)) h.um (fun i o q => ⟨q, rfl⟩) (fun i h1 h2 => by rw [h1] at h2; cases h2) (fun i j b _ h1 _ h2 => by rw [h1] at h2; cases h2)
    (fun i cs h1 h2 => by rw [h1] at h2; cases h2) (fun i _ _ _ _ h1 h2 => by rw [h1] at h2; cases h2) (fun i h1 h2 => by rw [h1] at h2; cases h2)⟩

end
end Go.Proofs.YtoemclhjcbcjaaaGreat.AB
