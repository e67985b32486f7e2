/- Operations that write what is one's own: a variable's cells, an element, an append. -/
import Derived.Test.YtoemclhjcbcjaaaGreatAbK
namespace Go.Proofs.YtoemclhjcbcjaaaGreat.AB
open Go
set_option linter.unusedVariables false
set_option linter.unusedSimpArgs false

/-- views of a row die -/
def killV (i : Id) : AV → AV
  | .vw j lo n => if j = i then .dead else .vw j lo n
  | x => x
/-- behind an append to a row: what was it is a part of it -/
def oldV (i : Id) (n : Nat) : AV → AV
  | .own j => if j = i then .vw i 0 n else .own j
  | .ept j m o => if j = i then .dead else .ept j m o
  | x => x

/-- behind a write into a region: what was read out of it is of that shape, no more -/
def unX (i : Id) : AV → AV
  | .rx j x => if j = i then .rg j x else .rx j x
  | x => x

def St.on (g : AV → AV) (st : St) : St := ⟨fun d => (st.t d).on g, fun i => (st.h i).map (Ob.on g)⟩

def layC (cs : List C) (o : Nat) (xs : List C) : List C := cs.take o ++ xs ++ cs.drop (o + xs.length)

/-- what is read as the elements of a slice -/
def srcOf (st : St) : AV → Option (Prop × Bool × List (List C))
  | .c b (.sl ys) => some (True, b, ys)
  | .own i => match st.h i with
    | some (.row b _ _ xs) => some (True, b, xs)
    | _ => none
  | .vw i lo n => match st.h i with
    | some (.row b _ _ xs) => some (∀ r, r ∈ xs → ∀ c, c ∈ r → C.scal c = true, b, (xs.drop lo).take n)
    | _ => none
  | .nil => some (True, false, [])
  | _ => none

/-- a state behind an operation that writes -/
def wf (st : St) (d : Option Nat) : SOp → Option (Prop × St)
  | .store n x v => match evalO st x with
    | .ptr i o => match st.h i, (evalO st v).cells with
      | some (.box cs), some xs => some (xs.length = n ∧ o + n ≤ cs.length, ⟨st.t, hupd st.h i (some (.box (layAt cs o xs)))⟩)
      | _, _ => none
    | .ept i m o => match st.h i, (evalO st v).stays with
      | some (.row b e sz rs), some (b', ys) => some (ys.length = n ∧ o + n ≤ sz,
          ⟨(st.on (killV i)).t, hupd (st.on (killV i)).h i (some (.row (b || b') e sz (rs.set m (layC (rs.getD m []) o ys))))⟩)
      | _, _ => none
    | .rp i xs => match st.h i, evalO st v, xs with
      | some .reg, .c _ (.v s), .v s0 :: _ => some (n = 1 ∧ sameK s s0 = true, st.on (unX i))
      | _, _, _ => none
    | _ => none
  | .app e sz bytes s x => match d with
    | none => none
    | some d => match evalO st s, srcOf st (evalO st x) with
      | .own (.s d' j'), some (p, b', ys) => match st.h (.s d' j') with
        | some (.row b e' sz' xs) => some (p ∧ e' = e ∧ sz' = sz ∧ (∀ r, r ∈ ys → r.length = sz) ∧ (xs.length + ys.length) * bytes ≤ 140737488355328 ∧ xs.length + ys.length ≤ 9223372036854775807,
            ⟨upd (st.on (oldV (.s d' j') xs.length)).t d (.own (.s d' j')), hupd (st.on (oldV (.s d' j') xs.length)).h (.s d' j') (some (.row (b || b') e sz (xs ++ ys)))⟩)
        | _ => none
      | .nil, some (p, b', ys) => some (st.h (.s d 0) = none ∧ p ∧ 0 < sz ∧ (∀ r, r ∈ ys → r.length = sz) ∧ ys.length * bytes ≤ 140737488355328 ∧ ys.length ≤ 9223372036854775807,
          ⟨upd st.t d (.own (.s d 0)), hupd st.h (.s d 0) (some (.row b' e sz ys))⟩)
      | _, _ => none
  | _ => none

section
variable {P : Program} {Γ : Gm} {S : Nat → Prop} {ν : Id → Value} {st : St} {a : Act} {w : World} {o : Oper} {T : Tab} {so : SOp} {p : Prop}

theorem on_id_L {g : AV → AV} (hg : ∀ x, g x = x) : ∀ (x : AV), x.on g = x := by
  intro x
  have : ∀ n (x : AV), SizeOf.sizeOf x ≤ n → x.on g = x := by
    intro n
    induction n with
    | zero => intro x h; cases x <;> simp at h
    | succ n ih =>
      intro x h
      have hl : ∀ xs : List AV, SizeOf.sizeOf xs ≤ n → AV.onL g xs = xs := by
        intro xs
        induction xs with
        | nil => intro _; rfl
        | cons y ys ihy =>
          intro hs
          simp only [List.cons.sizeOf_spec] at hs
          simp only [AV.onL]
          rw [ih y (by omega), ihy (by omega)]
      cases x <;> simp only [AV.on, hg]
      · rw [hl _ (by simp at h; omega)]
      · rw [hl _ (by simp at h; omega)]
      · rw [hl _ (by simp at h; omega)]
  exact this _ x (Nat.le_refl _)

def id' : AV → AV := fun x => x
theorem id'_on (x : AV) : x.on id' = x := on_id_L (fun _ => rfl) x
theorem id'_onL (xs : List AV) : AV.onL id' xs = xs := by
  induction xs with
  | nil => rfl
  | cons x xs ih => simp only [AV.onL]; rw [id'_on, ih]

def Writes (P : Program) (Γ : Gm) (a : Act) (w : World) (s : Sem Next) (d : Option Nat) (st' : St) : Prop :=
  ∃ n w' S' ν', s.run P w = .ok n w' ∧ ((∃ v, n = .value v ∧ RepW Γ S' ν' st' (a.put d v) w') ∨ (n = .skip ∧ RepW Γ S' ν' st' (a.put d undef) w'))

theorem box_unique (k : RepW Γ S ν st a w) {i : Id} {cs : List AV} (hi : st.h i = some (.box cs)) {b : Nat} (hν : ν i = .pointer (some ⟨b, 0, none⟩)) :
    ∃ us T, w.heap[b]? = some (.cells us T (0, 0)) ∧ us.size = cs.length ∧ ∀ (j : Nat) (x : AV) (u : Value), cs[j]? = some x → us[j]? = some u → VR S Γ.B ν st.h w x u ∧ u.oneCell' = true := by
  obtain ⟨b', us, T, hν', hw, hsz, hc⟩ := k.ok.box i cs hi
  rw [hν] at hν'
  simp only [Value.pointer.injEq, Option.some.injEq, Addr.mk.injEq, and_true] at hν'
  subst hν'
  exact ⟨us, T, hw, hsz, hc⟩

/-- stores into a row no cell of which is barred -/
theorem run_storeCells_atM (P : Program) (g o : Nat) (t : TypeId) (fz : Nat × Nat) : ∀ (vs : List Value) (i : Nat) (cur : Array Value) (w : World), w.heap[g]? = some (.cells cur t fz) → (fz = (0, 0) ∨ cur.size ≤ fz.1) → o + i + vs.length ≤ cur.size → (∀ v ∈ vs, v.oneCell' = true) →
    (storeCells ⟨g, o, none⟩ vs i).run P w = .ok () (w.setRow g (cur.toList.take (o + i) ++ vs ++ cur.toList.drop (o + i + vs.length)).toArray)
  | [], i, cur, w, hg, _, _, _ => by
    simp only [storeCells, List.append_nil, List.length_nil, Nat.add_zero, List.take_append_drop, Array.toArray_toList]
    rw [setRow_self w g cur t fz hg]
    rfl
  | v :: rest, i, cur, w, hg, hfz, hl, h1 => by
    have hi : o + i < cur.size := by simp at hl; omega
    have hadd : (⟨g, o, none⟩ : Addr).add i = ⟨g, o + i, none⟩ := by unfold Addr.add; split <;> simp_all
    have hcell : w.cell? ⟨g, o + i, none⟩ = some cur[o + i] := by simp [World.cell?, hg, hi]
    have hfro : w.frozen? ⟨g, o + i, none⟩ = false := by
      obtain ⟨lo, hi'⟩ := fz
      simp only [World.frozen?, hg, Bool.and_eq_false_iff, decide_eq_false_iff_not]
      rcases hfz with h | h
      · simp only [Prod.mk.injEq] at h
        right; omega
      · simp only at h
        left; omega
    have hst : (store ((⟨g, o, none⟩ : Addr).add i) v).run P w = .ok () (w.setRow g (cur.setIfInBounds (o + i) v)) := by
      rw [hadd, run_store P w _ v _ (h1 v (by simp)), hcell]
      simp [hfro, setCell_eq_setRow w g (o + i) cur t fz v hg]
    have ih := run_storeCells_atM P g o t fz rest (i + 1) (cur.setIfInBounds (o + i) v) (w.setRow g (cur.setIfInBounds (o + i) v)) (setRow_heap w g cur _ t _ hg) (by simpa using hfz) (by simp at hl ⊢; omega) (fun x hx => h1 x (by simp [hx]))
    simp only [storeCells, Sem.run_bind, hst, Result.andThen_ok, ih, setRow_setRow]
    congr 3
    have e := list_seg_step cur.toList (o + i) v rest (by simp at hl ⊢; omega)
    simpa [Array.toList_setIfInBounds, Nat.add_assoc] using e
theorem run_append_roomM (w : World) (t ty e : TypeId) (i : TypeInfo) (ht : P.underlying t = some (.slice e)) (hi : P.info? e = some i)
    (g sLen sCap : Nat) (cur : Array Value) (fz : Nat × Nat) (hg : w.heap[g]? = some (.cells cur e fz)) (hfz : fz = (0, 0) ∨ cur.size ≤ fz.1)
    (a : Addr) (m c : Nat) (news : List Value) (hl : news.length = m * i.size) (hnews : ∀ j u, news[j]? = some u → w.cell? (a.add j) = some u) (h1 : ∀ u ∈ news, u.oneCell' = true)
    (hroom : sLen + m ≤ sCap) (hfit : sLen * i.size + news.length ≤ cur.size) :
    (Builtin.append_ #[t, t] ty #[.slice (some ⟨g, 0, none⟩) sLen sCap, .slice (some a) m c]).run P w =
      .ok (.slice (some ⟨g, 0, none⟩) (sLen + m) sCap) (w.setRow g (cur.toList.take (sLen * i.size) ++ news ++ cur.toList.drop (sLen * i.size + news.length)).toArray) := by
  have hf := run_firstCells_some (P := P) w i.size m a m c news hl hnews
  have hst := run_storeCells_atM P g (sLen * i.size) e fz news 0 cur w hg hfz (by simpa using hfit) h1
  simp only [Nat.add_zero] at hst
  simp [Builtin.append_, run_underlying ht, sizeOf, typeInfo, hi, Builtin.lenOf, hroom, hf, Addr.add_lit, hst]

theorem run_storeAt {t : TypeId} {i : TI} {b off : Nat} {us : Array Value} {TT : Nat} {v : Value} {vs : List Value} {fz : Nat × Nat} (hi : tiOk P t i = true) (hv : v.cells = vs.toArray) (hl : vs.length = i.size)
    (hw : w.heap[b]? = some (.cells us TT fz)) (hfz : fz = (0, 0) ∨ us.size ≤ fz.1) (hfit : off + vs.length ≤ us.size) (h1 : ∀ u, u ∈ vs → u.oneCell' = true) :
    (Instr.storeAt t (.pointer (some ⟨b, off, none⟩)) v).run P w = .ok () (w.setRow b (us.toList.take off ++ vs ++ us.toList.drop (off + vs.length)).toArray) := by
  obtain ⟨j, z, hj, hjs, _⟩ := info_of hi
  have hst := run_storeCells_atM P b off TT fz vs 0 us w hw hfz (by simpa using hfit) h1
  simp only [Nat.add_zero] at hst
  simp only [Instr.storeAt, Instr.sureAddr, storeVar, Sem.run_bind, Sem.run_pure, Result.andThen_ok, run_size w hj, hv, hjs]
  rw [if_neg (by simp [hl])]
  exact hst

theorem w_store_box {t : TypeId} {i : TI} {x v : Operand} {id : Id} {off : Nat} {cs xs : List AV} {d : Option Nat} (ho : o.op = .store t x v) (hi : tiOk P t i = true) (hx : evalO st x = .ptr id off) (hid : st.h id = some (.box cs))
    (hv : (evalO st v).cells = some xs) (hl : xs.length = i.size) (hle : off + i.size ≤ cs.length) (hd : d = none) (k : RepW Γ S ν st a w) :
    Writes P Γ a w (execOp a.eval o) d ⟨st.t, hupd st.h id (some (.box (layAt cs off xs)))⟩ := by
  subst hd
  have hxv := evalO_is k hx
  obtain ⟨vs, hvs, hvl, hvc⟩ := (evalO_ok k v).cells k.ok hv
  generalize hve : a.eval x = u at hxv
  cases hxv with
  | ptr hk hν =>
    rename_i b cs'
    obtain ⟨us, TT, hw, hsz, hc⟩ := box_unique k hid hν
    have h1 : ∀ u, u ∈ vs → u.oneCell' = true := fun u hu => by
      obtain ⟨q, hq, rfl⟩ := List.getElem_of_mem hu
      exact (hvc q _ _ (List.getElem?_eq_getElem (by omega)) (List.getElem?_eq_getElem hq)).2
    have hrun := run_storeAt (P := P) (w := w) hi hvs (by omega) hw (.inl rfl) (off := off) (by omega) h1
    have hlive : (st.h id).isSome = true := by rw [hid]; rfl
    have hcells : Cells S Γ ν st w cs us.toList := ⟨by simp [hsz], fun j x u hx hu => hc j x u hx (by simpa using hu)⟩
    have hlay := hcells.lay ⟨hvl, hvc⟩ (off := off) (by omega)
    have hother : ∀ q, q ≠ b → (w.setRow b (us.toList.take off ++ vs ++ us.toList.drop (off + vs.length)).toArray).heap[q]? = w.heap[q]? := fun q hq => setRow_other w b q _ hq
    have hbb : fb (ν id) b := by rw [hν]; exact rfl
    have hmono : ∀ x u, VR S Γ.B ν st.h w x u → VR S Γ.B ν (hupd st.h id (some (.box (layAt cs off xs)))) (w.setRow b (us.toList.take off ++ vs ++ us.toList.drop (off + vs.length)).toArray) x u := by
      intro x u q
      refine q.mono (fun _ q => q) (fun _ q => q) (fun j cs1 hj => ⟨?_, rfl⟩) (fun j bor e sz xs1 hj => ⟨?_, rfl⟩) (fun j hj => ⟨?_, rfl, fun c hc => hother c ?_⟩) (fun c hc => hother c ?_)
      · by_cases e : j = id
        · exact ⟨_, by rw [e, hupd_same]⟩
        · exact ⟨cs1, by rw [hupd_ne _ _ e]; exact hj⟩
      · have e : j ≠ id := fun e => by rw [e, hid] at hj; cases hj
        rw [hupd_ne _ _ e]; exact hj
      · have e : j ≠ id := fun e => by rw [e, hid] at hj; cases hj
        rw [hupd_ne _ _ e]; exact hj
      · intro e; subst e
        exact k.ok.sep j id c (fun e => by rw [e, hid] at hj; cases hj) (by rw [hj]; rfl) hlive hc hbb
      · intro e; subst e
        have := k.ok.out id c hlive hbb
        exact hc.elim this.1 this.2
    refine ⟨.skip, w.setRow b (us.toList.take off ++ vs ++ us.toList.drop (off + vs.length)).toArray, S, ν, ?_, .inr ⟨rfl, ?_⟩⟩
    · simp only [execOp, ho, hve]
      simp [hrun]
    · have hk' : RepW Γ S ν ⟨fun d => (st.t d).on id', hupd st.h id (some (.box (layAt cs off xs)))⟩ a (w.setRow b (us.toList.take off ++ vs ++ us.toList.drop (off + vs.length)).toArray) := by
        refine k.turn (i0 := id) (o' := .box (layAt cs off xs)) (g := id') (S' := S) (ν' := ν) hlive ⟨rfl, rfl, rfl, by simp, fun q hq hn => hother q (fun e => hn (by rw [e]; exact hbb))⟩ (fun j hj => ?_) (hupd_same _ _ _) (fun _ _ => rfl) (.inr rfl)
          (fun _ q => q) (fun _ q => .inl q) (fun c hc => by have := k.ok.lt c (.inl hc); simpa using this) (fun _ q => .inl q) (fun c hc => ⟨.inl hc, (k.ok.out id c hlive hc).1⟩) (fun x v _ q => hmono x v q) (fun cs1 e => ?_) (fun bor e sz xs1 e1 => by cases e1) (fun e => by cases e)
        · rw [hupd_ne _ _ hj]
          cases h : st.h j with
          | none => rfl
          | some o => cases o <;> simp [Ob.on, id'_onL]
        · obtain rfl := Ob.box.inj e
          refine ⟨b, _, TT, hν, setRow_heap w b us _ TT (0, 0) hw, by have := hlay.1; simp at this ⊢; omega, fun j x u hx hu => ?_⟩
          have := hlay.2 j x u hx (by simpa using hu)
          exact ⟨hmono _ _ this.1, this.2⟩
      have e : (fun d => (st.t d).on id') = st.t := funext fun d => id'_on _
      rw [e] at hk'
      exact hk'

theorem VR.killV {S B S' B' : Nat → Prop} {ν : Id → Value} {h h' : Hp} {w w' : World} {i0 : Id} {x : AV} {v : Value} (hx : x.leaf = true) (k : VR S B ν h w x v)
    (hS : ∀ b, S b → S' b) (hB : ∀ b, B b → B' b)
    (hbox : ∀ i cs, h i = some (.box cs) → ∃ cs', h' i = some (.box cs'))
    (hrow : ∀ i bor e sz xs, h i = some (.row bor e sz xs) → i ≠ i0 → h' i = some (.row bor e sz xs))
    (hrow0 : ∀ bor e sz xs, h i0 = some (.row bor e sz xs) → ∃ bor' xs', h' i0 = some (.row bor' e sz xs') ∧ xs'.length = xs.length)
    (hreg : ∀ i, h i = some .reg → h' i = some .reg ∧ ∀ b, fb (ν i) b → w'.heap[b]? = w.heap[b]?)
    (hw : ∀ b, S b ∨ B b → w'.heap[b]? = w.heap[b]?) : VR S' B' ν h' w' (killV i0 x) v := by
  have hrd : ∀ bor b, rd S B bor b → rd S' B' bor b := fun bor b hb => hb.elim (fun q => .inl (hS b q)) (fun q => .inr ⟨q.1, hB b q.2⟩)
  have hrw : ∀ bor b, rd S B bor b → w'.heap[b]? = w.heap[b]? := fun bor b hb => hb.elim (fun q => hw b (.inl q)) (fun q => hw b (.inr q.2))
  cases k with
  | c k => exact .c (k.mono (hrd _) (hrw _))
  | agg => cases hx
  | tup => cases hx
  | own k =>
    rename_i i bor e sz xs
    by_cases hi : i = i0
    · subst hi
      obtain ⟨bor', xs', h1, _⟩ := hrow0 _ _ _ _ k
      exact .own h1
    · exact .own (hrow _ _ _ _ _ k hi)
  | vw k hle hv =>
    simp only [AB.killV]
    split
    · exact .dead
    · rename_i hi
      exact .vw (hrow _ _ _ _ _ k hi) hle (hv.imp (fun q => q.mono (hrd _) (hrw _)) id)
  | nil => exact .nil
  | ptr k hv => obtain ⟨cs', h1⟩ := hbox _ _ k; exact .ptr h1 hv
  | ept k hv hn =>
    rename_i i n o e sz b m cap bor xs
    by_cases hi : i = i0
    · subst hi
      obtain ⟨bor', xs', h1, h2⟩ := hrow0 _ _ _ _ k
      exact .ept h1 hv (by omega)
    · exact .ept (hrow _ _ _ _ _ k hi) hv hn
  | ip u hs hb hu hi =>
    exact .ip u hs (hrd _ _ hb) (fun j c hj => (World.cell?_of_block (by rw [add_block]; exact hrw _ _ hb)).trans (hu j c hj)) (fun j c hj => (hi j c hj).mono (hrd _) (hrw _))
  | fn => cases hx
  | rx k q =>
    obtain ⟨h1, h3⟩ := hreg _ k
    exact .rx h1 (q.mono (fun _ q => q) h3)
  | rg k q =>
    obtain ⟨h1, h3⟩ := hreg _ k
    obtain ⟨x', l, q⟩ := q
    exact .rg h1 ⟨x', l, q.mono (fun _ q => q) h3⟩
  | rp k hs hb q =>
    obtain ⟨h1, h3⟩ := hreg _ k
    refine .rp h1 hs hb (fun j c hj => ?_)
    obtain ⟨u, c', h4, l, h5⟩ := q j c hj
    exact ⟨u, c', (World.cell?_of_block (by rw [add_block]; exact h3 _ hb)).trans h4, l, h5.mono (fun _ q => q) h3⟩
  | dead => exact .dead

theorem set_get {α : Type} {l : List α} {m n : Nat} {x y : α} (h : (l.set m x)[n]? = some y) : (n = m ∧ y = x ∧ m < l.length) ∨ (n ≠ m ∧ l[n]? = some y) := by
  rw [List.getElem?_set] at h
  split at h
  · rename_i e
    split at h
    · rename_i hlt; exact .inl ⟨e.symm, (Option.some.inj h).symm, hlt⟩
    · cases h
  · rename_i e; exact .inr ⟨fun q => e q.symm, h⟩

theorem layC_get {cs ys : List C} {off : Nat} (hle : off + ys.length ≤ cs.length) {q : Nat} {c : C} (h : (layC cs off ys)[q]? = some c) :
    (off ≤ q ∧ q < off + ys.length ∧ ys[q - off]? = some c) ∨ ((q < off ∨ off + ys.length ≤ q) ∧ cs[q]? = some c) := by
  unfold layC at h
  by_cases c1 : q < off
  · rw [List.append_assoc, List.getElem?_append_left (by simp; omega), List.getElem?_take, if_pos c1] at h
    exact .inr ⟨.inl c1, h⟩
  · by_cases c2 : q < off + ys.length
    · rw [List.append_assoc, List.getElem?_append_right (by simp; omega), List.getElem?_append_left (by simp; omega)] at h
      have e1 : (cs.take off).length = off := by simp; omega
      rw [e1] at h
      exact .inl ⟨by omega, c2, h⟩
    · rw [List.getElem?_append_right (by simp; omega), List.getElem?_drop] at h
      have e1 : (cs.take off ++ ys).length = off + ys.length := by simp; omega
      rw [e1] at h
      exact .inr ⟨.inr (by omega), by rw [← h]; congr 1; omega⟩

theorem lay_get {us vs : List Value} {off : Nat} (hle : off + vs.length ≤ us.length) (q : Nat) :
    (us.take off ++ vs ++ us.drop (off + vs.length))[q]? = if off ≤ q ∧ q < off + vs.length then vs[q - off]? else us[q]? := by
  by_cases c1 : q < off
  · rw [if_neg (by omega), List.append_assoc, List.getElem?_append_left (by simp; omega), List.getElem?_take, if_pos c1]
  · by_cases c2 : q < off + vs.length
    · rw [if_pos ⟨by omega, c2⟩, List.append_assoc, List.getElem?_append_right (by simp; omega), List.getElem?_append_left (by simp; omega)]
      have e1 : (us.take off).length = off := by simp; omega
      rw [e1]
    · rw [if_neg (by omega), List.getElem?_append_right (by simp; omega), List.getElem?_drop]
      have e1 : (us.take off ++ vs).length = off + vs.length := by simp; omega
      rw [e1]; congr 1; omega

theorem w_store_row {t : TypeId} {i : TI} {x v : Operand} {id : Id} {m off : Nat} {b b' : Bool} {e sz : Nat} {rs : List (List C)} {ys : List C} {d : Option Nat} (ho : o.op = .store t x v) (hi : tiOk P t i = true) (hx : evalO st x = .ept id m off)
    (hid : st.h id = some (.row b e sz rs)) (hv : (evalO st v).stays = some (b', ys)) (hl : ys.length = i.size) (hle : off + i.size ≤ sz) (hd : d = none) (k : RepW Γ S ν st a w) :
    Writes P Γ a w (execOp a.eval o) d ⟨(st.on (killV id)).t, hupd (st.on (killV id)).h id (some (.row (b || b') e sz (rs.set m (layC (rs.getD m []) off ys))))⟩ := by
  subst hd
  have hxv := evalO_is k hx
  have hst := stays_ok k.ok (evalO_ok k v) hv
  obtain ⟨vs, hvs⟩ : ∃ vs : List Value, (a.eval v).cells = vs.toArray := ⟨(a.eval v).cells.toList, by simp⟩
  rw [hvs] at hst
  simp only [List.toList_toArray] at hst
  obtain ⟨hvl, hv1, hvc⟩ := hst
  generalize hve : a.eval x = u at hxv
  cases hxv with
  | ept hk hν hn =>
    rename_i e' sz' g mm cap bor' xs'
    rw [hid] at hk
    obtain ⟨rfl, rfl, rfl, rfl⟩ := Ob.row.inj (Option.some.inj hk)
    obtain ⟨h0, hrl, us, hown, hc⟩ := k.ok.row id _ _ _ _ hid
    rcases hown.2 with ⟨hv0, _⟩ | ⟨g', cap', cur, hv', hz, ⟨fz, hg, hfz⟩, hnc, hcm, hcs, htake⟩
    · rw [hν] at hv0; cases hv0
    · rw [hν] at hv'
      simp only [Value.slice.injEq, Option.some.injEq, Addr.mk.injEq, and_true] at hv'
      obtain ⟨rfl, rfl, rfl⟩ := hv'
      have hlive : (st.h id).isSome = true := by rw [hid]; rfl
      have hbb : fb (ν id) g := by rw [hν]; exact rfl
      have hmul : (m + 1) * sz ≤ rs.length * sz := Nat.mul_le_mul_right _ hn
      have hmul2 : rs.length * sz ≤ cap * sz := Nat.mul_le_mul_right _ hnc
      rw [Nat.add_mul] at hmul
      have hfit : m * sz + off + vs.length ≤ cur.size := by omega
      have hrun := run_storeAt (P := P) (w := w) hi hvs (by omega) hg hfz (off := m * sz + off) (by omega) hv1
      have hother : ∀ q, q ≠ g → (w.setRow g (cur.toList.take (m * sz + off) ++ vs ++ cur.toList.drop (m * sz + off + vs.length)).toArray).heap[q]? = w.heap[q]? := fun q hq => setRow_other w g q _ hq
      have hrm : rs[m]? = some rs[m] := List.getElem?_eq_getElem hn
      have hgd : rs.getD m [] = rs[m] := by simp [List.getD_eq_getElem?_getD, hrm]
      have hrml : (rs[m]).length = sz := hrl _ (List.getElem_mem hn)
      rw [hgd]
      refine ⟨.skip, w.setRow g (cur.toList.take (m * sz + off) ++ vs ++ cur.toList.drop (m * sz + off + vs.length)).toArray, S, ν, ?_, .inr ⟨rfl, ?_⟩⟩
      · simp only [execOp, ho, hve]
        simp [hrun]
      · refine k.turn (i0 := id) (o' := .row (b || b') e sz (rs.set m (layC rs[m] off ys))) (g := killV id) (S' := S) (ν' := ν) hlive ⟨rfl, rfl, rfl, by simp, fun q hq hn => hother q (fun e => hn (by rw [e]; exact hbb))⟩
          (fun j hj => by rw [hupd_ne _ _ hj]; rfl) (hupd_same _ _ _) (fun _ _ => rfl) (.inr rfl) (fun _ q => q) (fun _ q => .inl q) (fun c hc => by have := k.ok.lt c (.inl hc); simpa using this) (fun _ q => .inl q)
          (fun c hc => ⟨.inl hc, (k.ok.out id c hlive hc).1⟩) (fun x v hx q => ?_) (fun cs1 e => by cases e) (fun bor2 e2 sz2 xs2 h2 => ?_) (fun e => by cases e)
        · refine q.killV hx (fun _ q => q) (fun _ q => q) (fun j cs hj => ?_) (fun j bor e1 sz1 xs1 hj hne => ?_) (fun bor e1 sz1 xs1 hj => ?_) (fun j hj => ⟨?_, fun c hc => hother c ?_⟩) (fun c hc => hother c ?_)
          · have hne : j ≠ id := fun e => by rw [e, hid] at hj; cases hj
            exact ⟨_, by rw [hupd_ne _ _ hne]; show (st.h j).map _ = _; rw [hj]; rfl⟩
          · rw [hupd_ne _ _ hne]; show (st.h j).map _ = _; rw [hj]; rfl
          · rw [hid] at hj
            obtain ⟨rfl, rfl, rfl, rfl⟩ := Ob.row.inj (Option.some.inj hj)
            exact ⟨_, _, hupd_same _ _ _, by simp⟩
          · have hne : j ≠ id := fun e => by rw [e, hid] at hj; cases hj
            rw [hupd_ne _ _ hne]; show (st.h j).map _ = _; rw [hj]; rfl
          · intro e; subst e
            exact k.ok.sep j id c (fun e => by rw [e, hid] at hj; cases hj) (by rw [hj]; rfl) hlive hc hbb
          · intro e; subst e
            have := k.ok.out id c hlive hbb
            exact hc.elim this.1 this.2
        · obtain ⟨rfl, rfl, rfl, rfl⟩ := Ob.row.inj h2
          refine ⟨h0, fun r hr => ?_, us.take (m * sz + off) ++ vs ++ us.drop (m * sz + off + vs.length), ⟨?_, .inr ⟨g, cap, _, by rw [List.length_set]; exact hν, Nat.zero_le _, ⟨fz, setRow_heap w g cur _ _ fz hg, hfz.imp (fun q => q) (fun q => by simp only [List.size_toArray, List.length_append, List.length_take, List.length_drop, Array.length_toList]; omega)⟩, by simpa using hnc, hcm, ?_, ?_⟩⟩, fun n r oo c hr hcc => ?_⟩
          · rcases List.mem_or_eq_of_mem_set hr with h | rfl
            · exact hrl r h
            · simp only [layC, List.length_append, List.length_take, List.length_drop, hrml]; omega
          · have := hown.1
            simp only [List.length_append, List.length_take, List.length_drop, List.length_set, this]; omega
          · simp only [List.size_toArray, List.length_append, List.length_take, List.length_drop, Array.length_toList]; omega
          · rw [List.length_set]
            have hul : us.length = rs.length * sz := hown.1
            have hcl : cap * sz ≤ cur.toList.length := by rw [Array.length_toList]; exact hcs
            apply List.ext_getElem?
            intro q
            rw [List.getElem?_take]
            by_cases hq : q < rs.length * sz
            · rw [if_pos hq]
              show (cur.toList.take (m * sz + off) ++ vs ++ cur.toList.drop (m * sz + off + vs.length))[q]? = _
              rw [lay_get (by omega), lay_get (by omega)]
              split
              · rfl
              · rw [← htake, List.getElem?_take, if_pos hq]
            · rw [if_neg hq]
              symm
              apply List.getElem?_eq_none
              simp only [List.length_append, List.length_take, List.length_drop, hul]; omega
          · have hul : us.length = rs.length * sz := hown.1
            have himm : ∀ {u c}, Im (rd S Γ.B b) w u c → Im (rd S Γ.B (b || b')) (w.setRow g (cur.toList.take (m * sz + off) ++ vs ++ cur.toList.drop (m * sz + off + vs.length)).toArray) u c := fun him =>
              him.mono (fun q => rd_or q) (fun q hq => hother q (fun e => by
                subst e
                have := k.ok.out id q hlive hbb
                exact hq.elim this.1 (fun r => this.2 r.2)))
            have himm' : ∀ {u c}, Im (rd S Γ.B b') w u c → Im (rd S Γ.B (b || b')) (w.setRow g (cur.toList.take (m * sz + off) ++ vs ++ cur.toList.drop (m * sz + off + vs.length)).toArray) u c := fun him =>
              him.mono (fun q => rd_or' q) (fun q hq => hother q (fun e => by
                subst e
                have := k.ok.out id q hlive hbb
                exact hq.elim this.1 (fun r => this.2 r.2)))
            rcases set_get hr with ⟨rfl, rfl, _⟩ | ⟨hne, hr'⟩
            · have hoo : oo < sz := by
                have := (List.getElem?_eq_some_iff.1 hcc).1
                simp only [layC, List.length_append, List.length_take, List.length_drop, hrml] at this; omega
              rcases layC_get (by omega) hcc with ⟨q1, q2, q3⟩ | ⟨q1, q3⟩
              · have hlt : oo - off < vs.length := by omega
                refine ⟨vs[oo - off], ?_, hv1 _ (List.getElem_mem hlt), himm' (hvc _ _ _ q3 (List.getElem?_eq_getElem hlt))⟩
                rw [lay_get (by omega), if_pos (by omega), show n * sz + oo - (n * sz + off) = oo - off by omega]
                exact List.getElem?_eq_getElem hlt
              · obtain ⟨u, hu, hu1, him⟩ := hc n _ oo c hrm q3
                refine ⟨u, ?_, hu1, himm him⟩
                rw [lay_get (by omega), if_neg (by omega)]; exact hu
            · obtain ⟨u, hu, hu1, him⟩ := hc n r oo c hr' hcc
              refine ⟨u, ?_, hu1, himm him⟩
              have hoo : oo < sz := by rw [← hrl r (List.mem_of_getElem? hr')]; exact (List.getElem?_eq_some_iff.1 hcc).1
              rw [lay_get (by omega), if_neg ?_]
              · exact hu
              · intro hcon
                have : n < m ∨ m < n := by omega
                rcases this with h | h
                · have : (n + 1) * sz ≤ m * sz := Nat.mul_le_mul_right _ h
                  rw [Nat.add_mul] at this; omega
                · have : (m + 1) * sz ≤ n * sz := Nat.mul_le_mul_right _ h
                  rw [Nat.add_mul] at this; omega

/-- one cell is written -/
structure OneSet (w w' : World) (g o : Nat) (x y : Value) : Prop where
  old : w.cell? ⟨g, o, none⟩ = some x
  new : w'.cell? ⟨g, o, none⟩ = some y
  oth : ∀ a : Addr, a.spot = none → a ≠ ⟨g, o, none⟩ → w'.cell? a = w.cell? a
theorem OneSet.at {F : Nat → Prop} {w w' : World} {g o : Nat} {x y : Value} (h : OneSet w w' g o x y) (hy : scal y = true) (hk : sameK y x = true) (hs : scal x = true) (kp : KP F w w') {a : Addr} (ha : a.spot = none) {u : Value} {c : C} (hu : w.cell? a = some u) (hi : Im F w u c) :
    ∃ u' c', w'.cell? a = some u' ∧ Like c' c ∧ Im F w' u' c' := by
  by_cases e : a = ⟨g, o, none⟩
  · subst e
    obtain rfl := Option.some.inj (h.old.symm.trans hu)
    obtain ⟨_, rfl⟩ : True ∧ c = .v x := by
      cases hi with
      | v => exact ⟨trivial, rfl⟩
      | nil => cases hs
      | sl => cases hs
    exact ⟨y, .v y, h.new, .v hk, .v hy⟩
  · obtain ⟨c', l, q⟩ := kp u c hi
    exact ⟨u, c', (h.oth a ha e).trans hu, l, q⟩
theorem OneSet.kp {F : Nat → Prop} {w w' : World} {g o : Nat} {x y : Value} (h : OneSet w w' g o x y) (hy : scal y = true) (hk : sameK y x = true) (hsx : scal x = true) : KP F w w' := by
  intro v c him
  induction him with
  | v h => exact ⟨_, .v (sameK.refl h), .v h⟩
  | nil => exact ⟨_, (Im.nil (S := F) (w := w)).like, .nil⟩
  | sl u hs hS hn hc hm hz hu hi ih =>
    rename_i a n cap sz xs
    have key : ∀ i r j c, xs[i]? = some r → r[j]? = some c → ∃ u' c', w'.cell? (a.add (i * sz + j)) = some u' ∧ Like c' c ∧ Im F w' u' c' := by
      intro i r j c hr hj
      have hne : xs ≠ [] := fun e => by rw [e] at hr; simp at hr
      have hsp : (a.add (i * sz + j)).spot = none := by have := hs hne; unfold Addr.add; split <;> first | exact this | rfl
      by_cases e : a.add (i * sz + j) = ⟨g, o, none⟩
      · have h1 := hu i r j c hr hj
      
        rw [e] at h1 ⊢
        have h2 := hi i r j c hr hj
        rw [← Option.some.inj (h.old.symm.trans h1)] at h2
        have h3 : c = .v x := by
          cases h2 with
          | v => rfl
          | nil => cases hsx
          | sl => cases hsx
        subst h3
        exact ⟨y, .v y, h.new, .v hk, .v hy⟩
      · obtain ⟨c', l, q⟩ := ih i r j c hr hj
        exact ⟨_, c', (h.oth _ hsp e).trans (hu i r j c hr hj), l, q⟩
    open Classical in
    let f : Nat → Nat → C → C := fun i j c => if h : ∃ c', Like c' c ∧ Im F w' ((w'.cell? (a.add (i * sz + j))).getD undef) c' then h.choose else default
    have hf : ∀ i r j c, xs[i]? = some r → r[j]? = some c → Like (f i j c) c ∧ Im F w' ((w'.cell? (a.add (i * sz + j))).getD undef) (f i j c) := by
      intro i r j c hr hj
      obtain ⟨u', c', h1, h2, h3⟩ := key i r j c hr hj
      have hex : ∃ c', Like c' c ∧ Im F w' ((w'.cell? (a.add (i * sz + j))).getD undef) c' := ⟨c', h2, by rw [h1]; exact h3⟩
      simp only [f, dif_pos hex]
      exact hex.choose_spec
    let ys : List (List C) := xs.mapIdx fun i r => r.mapIdx fun j c => f i j c
    have hys : ∀ (i : Nat) (s : List C), ys[i]? = some s → ∃ r, xs[i]? = some r ∧ s = r.mapIdx fun j c => f i j c := by
      intro i s hs
      simp only [ys, List.getElem?_mapIdx] at hs
      obtain ⟨r, hr, rfl⟩ := Option.map_eq_some_iff.1 hs
      exact ⟨r, hr, rfl⟩
    have hcell : ∀ (i : Nat) (s : List C) (j : Nat) (c : C), ys[i]? = some s → s[j]? = some c → ∃ r d, xs[i]? = some r ∧ r[j]? = some d ∧ c = f i j d := by
      intro i s j c hi' hj
      obtain ⟨r, hr, rfl⟩ := hys i s hi'
      rw [List.getElem?_mapIdx] at hj
      obtain ⟨d, hd, rfl⟩ := Option.map_eq_some_iff.1 hj
      exact ⟨r, d, hr, hd, rfl⟩
    have hlen : ys.length = xs.length := by simp [ys]
    have hne : ys ≠ [] → xs ≠ [] := fun h e => h (List.eq_nil_of_length_eq_zero (by rw [hlen, e]; rfl))
    refine ⟨.sl ys, .sl hlen (fun i s r hs hr => ?_) (fun i s r j c d hs hr hc hd => ?_), .sl (sz := sz) (fun k => (w'.cell? (a.add k)).getD undef) (fun q => hs (hne q)) (fun q => hS (hne q)) (hlen.trans hn) hc hm (fun s hs => ?_) (fun i s j c hs hc => ?_) (fun i s j c hs hc => ?_)⟩
    · obtain ⟨r', hr', rfl⟩ := hys i s hs
      rw [hr] at hr'
      obtain rfl := Option.some.inj hr'
      simp
    · obtain ⟨r', d', hr', hd', rfl⟩ := hcell i s j c hs hc
      rw [hr] at hr'
      obtain rfl := Option.some.inj hr'
      rw [hd] at hd'
      obtain rfl := Option.some.inj hd'
      exact (hf i r j d hr hd).1
    · obtain ⟨i, hi⟩ := List.mem_iff_getElem?.1 hs
      obtain ⟨r', hr', rfl⟩ := hys i s hi
      simpa using hz r' (List.mem_of_getElem? hr')
    · obtain ⟨r', d', hr', hd', rfl⟩ := hcell i s j c hs hc
      obtain ⟨u', _, h1, _⟩ := key i r' j d' hr' hd'
      rw [h1]; rfl
    · obtain ⟨r', d', hr', hd', rfl⟩ := hcell i s j c hs hc
      exact (hf i r' j d' hr' hd').2

theorem w_store_reg {t : TypeId} {i : TI} {x v : Operand} {id : Id} {xs : List C} {b : Bool} {s s0 : Value} {d : Option Nat} (ho : o.op = .store t x v) (hi : tiOk P t i = true) (hx : evalO st x = .rp id (.v s0 :: xs))
    (hid : st.h id = some .reg) (hv : evalO st v = .c b (.v s)) (hl : i.size = 1) (hk : sameK s s0 = true) (hd : d = none) (k : RepW Γ S ν st a w) :
    Writes P Γ a w (execOp a.eval o) d (st.on (unX id)) := by
  subst hd
  have hxv := evalO_is k hx
  obtain ⟨hse, hss⟩ := evalO_v k hv
  generalize hve : a.eval x = u at hxv
  cases hxv with
  | rp hk' hs hb qr =>
    rename_i ad
    obtain ⟨u0, c0, hc0, hl0, hi0⟩ := qr 0 _ rfl
    rw [show ad.add 0 = ad from by simp [Addr.add]] at hc0
    obtain ⟨g, off, sp⟩ := ad
    obtain rfl : sp = none := hs
    obtain ⟨x0, rfl, hkx⟩ : ∃ x0, c0 = .v x0 ∧ sameK x0 s0 = true := by cases hl0 with | v h => exact ⟨_, rfl, h⟩
    obtain ⟨rfl, hs0⟩ := hi0.scal_eq
    obtain ⟨cur, e, fz, hg, hfz⟩ := (k.ok.reg id hid).2 g hb
    have hoff : cur[off]? = some u0 := by rw [← cell_of_row w g off cur e fz hg]; exact hc0
    have hlt : off < cur.size := (Array.getElem?_eq_some_iff.1 hoff).1
    have hcells : s.cells = [s].toArray := by cases s <;> first | rfl | cases hss
    have hrun := run_storeAt (P := P) (w := w) hi hcells (by simpa using hl.symm) hg hfz (off := off) (by simp; omega) (by simpa using scal_one hss)
    have hks : sameK s u0 = true := sameK.trans' hk hkx
    have hone : OneSet w (w.setRow g (cur.toList.take off ++ [s] ++ cur.toList.drop (off + 1)).toArray) g off u0 s := by
      have hnew := setRow_heap w g cur (cur.toList.take off ++ [s] ++ cur.toList.drop (off + 1)).toArray e fz hg
      refine ⟨hc0, ?_, fun a ha hne => ?_⟩
      · rw [cell_of_row _ _ _ _ _ _ hnew]
        simp [List.getElem?_append, Nat.min_eq_left (Nat.le_of_lt hlt)]
      · by_cases hgb : a.block = g
        · obtain ⟨g', o', sp'⟩ := a
          obtain rfl : sp' = none := ha
          obtain rfl : g' = g := hgb
          have hoo : o' ≠ off := fun e => hne (by rw [e])
          rw [cell_of_row _ _ _ _ _ _ hnew, cell_of_row _ _ _ _ _ _ hg]
          have := lay_get (us := cur.toList) (vs := [s]) (off := off) (by simp; omega) o'
          simp only [List.length_cons, List.length_nil, Nat.zero_add] at this
          simp only [List.getElem?_toArray, this]
          rw [if_neg (by omega)]; simp
        · exact World.cell?_of_block (setRow_other w g a.block _ hgb)
    have hkp : KP (fb (ν id)) w (w.setRow g (cur.toList.take off ++ [s] ++ cur.toList.drop (off + 1)).toArray) := hone.kp hss hks hs0
    have hlive : (st.h id).isSome = true := by rw [hid]; rfl
    have hother : ∀ q, q ≠ g → (w.setRow g (cur.toList.take off ++ [s] ++ cur.toList.drop (off + 1)).toArray).heap[q]? = w.heap[q]? := fun q hq => setRow_other w g q _ hq
    refine ⟨.skip, w.setRow g (cur.toList.take off ++ [s] ++ cur.toList.drop (off + 1)).toArray, S, ν, ?_, .inr ⟨rfl, ?_⟩⟩
    · simp only [execOp, ho, hve, hse]
      simp only [List.length_cons, List.length_nil, Nat.zero_add] at hrun
      simp [hrun]
    · refine k.turn (i0 := id) (o' := .reg) (g := unX id) (S' := S) (ν' := ν) hlive ⟨rfl, rfl, rfl, by simp, fun q hq hn => hother q (fun e => hn (by rw [e]; exact hb))⟩
        (fun j hj => rfl) (by show (st.h id).map _ = _; rw [hid]; rfl) (fun _ _ => rfl) (.inr rfl) (fun _ q => q) (fun _ q => .inl q) (fun c hc => by have := k.ok.lt c (.inl hc); simpa using this) (fun _ q => .inl q)
        (fun c hc => ⟨.inl hc, (k.ok.out id c hlive hc).1⟩) (fun x v hx hvx => ?_) (fun cs1 e => by cases e) (fun bor2 e2 sz2 xs2 h2 => by cases h2) (fun _ => ⟨fun c hc => ?_, hid, rfl, hkp⟩)
      · have hat : ∀ {i o}, st.h i = some o → (st.h i).map (Ob.on (unX id)) = some (o.on (unX id)) := fun h => by rw [h]; rfl
        have hrdw : ∀ bor q, rd S Γ.B bor q → (w.setRow g (cur.toList.take off ++ [s] ++ cur.toList.drop (off + 1)).toArray).heap[q]? = w.heap[q]? := fun bor q2 hq => hother q2 (fun e => by
          subst e
          have := k.ok.out id q2 hlive hb
          exact hq.elim this.1 (fun r => this.2 r.2))
        have hregw : ∀ {i}, st.h i = some .reg → i ≠ id → ∀ q, fb (ν i) q → (w.setRow g (cur.toList.take off ++ [s] ++ cur.toList.drop (off + 1)).toArray).heap[q]? = w.heap[q]? := fun {i} hi hne q2 hq => hother q2 (fun e => by
          subst e
          exact k.ok.sep i id q2 hne (by rw [hi]; rfl) hlive hq hb)
        cases hvx with
        | c hk => exact .c (hk.mono (fun _ q => q) (hrdw _))
        | agg => cases hx
        | tup => cases hx
        | own hk => exact .own (hat hk)
        | vw hk hle hv => exact .vw (hat hk) hle (hv.imp (fun q => q.mono (fun _ q => q) (hrdw _)) (fun q => q))
        | nil => exact .nil
        | ptr hk hv => exact .ptr (hat hk) hv
        | ept hk hv hn => exact .ept (hat hk) hv hn
        | ip u hs hb hu hi => exact .ip u hs hb (fun j c hj => (World.cell?_of_block (by rw [add_block]; exact hrdw _ _ hb)).trans (hu j c hj)) (fun j c hj => (hi j c hj).mono (fun _ q => q) (hrdw _))
        | fn => cases hx
        | rx hk q =>
          rename_i i1 x1
          simp only [unX]
          split
          · rename_i e; subst e
            exact .rg (hat hk) (hkp _ _ q)
          · rename_i e
            exact .rx (hat hk) (q.mono (fun _ q => q) (hregw hk e))
        | rg hk q =>
          rename_i i1 x1
          obtain ⟨x', l, q⟩ := q
          by_cases e : i1 = id
          · subst e
            obtain ⟨x2, l2, q2⟩ := hkp _ _ q
            exact .rg (hat hk) ⟨x2, l2.trans l, q2⟩
          · exact .rg (hat hk) ⟨x', l, q.mono (fun _ q => q) (hregw hk e)⟩
        | rp hk hs2 hb2 q =>
          rename_i i1 xs1 a1
          refine .rp (hat hk) hs2 hb2 (fun j c hj => ?_)
          obtain ⟨u, c', h4, l, h5⟩ := q j c hj
          by_cases e : i1 = id
          · subst e
            obtain ⟨u2, c2, h6, l2, h7⟩ := hone.at hss hks hs0 hkp (a := a1.add j) (by unfold Addr.add; split <;> first | exact hs2 | rfl) h4 h5
            exact ⟨u2, c2, h6, l2.trans l, h7⟩
          · exact ⟨u, c', (World.cell?_of_block (by rw [add_block]; exact hregw hk e _ hb2)).trans h4, l, h5.mono (fun _ q => q) (hregw hk e)⟩
        | dead => exact .dead
      · by_cases e : c = g
        · subst e
          exact ⟨_, _, _, setRow_heap w c cur _ e fz hg, hfz.imp (fun q => q) (fun q => by simp only [List.size_toArray, List.length_append, List.length_take, List.length_drop, Array.length_toList, List.length_cons, List.length_nil]; omega)⟩
        · exact ((k.ok.reg id hid).2 c hc).same (hother c e)
end
end Go.Proofs.YtoemclhjcbcjaaaGreat.AB
