/- What an operation makes of the slots is what the model makes of their values: first part, helpers and the operations that draw nothing and make nothing. -/
import Derived.Test.YtoemclhjcbcjaaaGreatAbE
namespace Go.Proofs.YtoemclhjcbcjaaaGreat.AB
open Go

section types
variable {P : Program}

theorem Tab.at_ok {T : Tab} (h : Tab.ok P T = true) {t : Nat} {i : TI} (ht : T.at t = some i) : tiOk P t i = true := by
  obtain ⟨L, M⟩ := T
  unfold Tab.ok at h
  unfold Tab.at at ht
  simp only at h ht
  induction L with
  | nil => cases ht
  | cons p r ih =>
    simp only [List.all_cons, Bool.and_eq_true] at h
    simp only [atL] at ht
    split at ht
    · rename_i e; subst e; obtain rfl := Option.some.inj ht; exact h.1
    · exact ih h.2 ht

theorem tyOk_of {t : Nat} {i : TI} (h : tiOk P t i = true) : tyOk P t i.u = true := by
  unfold tiOk at h; rw [Bool.and_eq_true] at h; exact h.1
theorem info_of {t : Nat} {i : TI} (h : tiOk P t i = true) : ∃ j z, P.info? t = some j ∧ j.size = i.size ∧ j.bytes = i.bytes ∧ j.zero = some z ∧ z.cells.toList = i.zero ∧ ((z matches .agg _) = i.u.isAgg) := by
  unfold tiOk at h; rw [Bool.and_eq_true] at h
  have h2 := h.2
  cases hj : P.info? t with
  | none => rw [hj] at h2; cases h2
  | some j =>
    rw [hj] at h2
    simp only [Bool.and_eq_true, beq_iff_eq] at h2
    cases hz : j.zero with
    | none => rw [hz] at h2; simp at h2
    | some z => rw [hz] at h2; simp only [Bool.and_eq_true, beq_iff_eq] at h2; exact ⟨j, z, rfl, h2.1.1.1, h2.1.1.2, hz, valsEq_eq h2.1.2.1, h2.1.2.2⟩
theorem eqk_of {t : Nat} {i : TI} (h : tiOk P t i = true) (hn : i.eqk.isEmpty = false) : flatK P 20 t = some i.eqk ∧ P.eqGuardType P.depth t = false ∧ aggOf P t = true := by
  unfold tiOk at h; rw [Bool.and_eq_true] at h
  have h2 := h.2
  cases hj : P.info? t with
  | none => rw [hj] at h2; cases h2
  | some j =>
    rw [hj] at h2
    simp only [Bool.and_eq_true, eqkOk, hn, Bool.false_or, beq_iff_eq, Bool.not_eq_true'] at h2
    exact ⟨h2.2.1.1, h2.2.1.2, h2.2.2⟩
theorem und_int {t : Nat} {k : IntKind} (h : tyOk P t (.int k) = true) : P.underlying t = some (.int k) := by
  simp only [tyOk] at h; split at h <;> simp_all
theorem und_bool {t : Nat} (h : tyOk P t .bool = true) : P.underlying t = some .bool := by simp only [tyOk] at h; split at h <;> simp_all
theorem und_str {t : Nat} (h : tyOk P t .str = true) : P.underlying t = some .string := by simp only [tyOk] at h; split at h <;> simp_all
theorem und_slice {t e : Nat} (h : tyOk P t (.slice e) = true) : P.underlying t = some (.slice e) := by simp only [tyOk] at h; split at h <;> simp_all
theorem und_arr {t n e : Nat} (h : tyOk P t (.arr n e) = true) : P.underlying t = some (.array n e) ∧ (P.info? e).isSome = true ∧ (P.underlying e).isSome = true := by
  simp only [tyOk] at h; split at h <;> simp_all
theorem und_struct {t : Nat} {fs : List (Nat × Nat × Bool)} (h : tyOk P t (.struct fs) = true) : ∃ gs, P.underlying t = some (.struct gs) ∧
    gs.toList.map (fun f => (f.offset, sizeAt P f.type, aggOf P f.type)) = fs ∧ ∀ f, f ∈ gs.toList → (P.info? f.type).isSome = true ∧ (P.underlying f.type).isSome = true ∧ sizeAt P f.type ≠ 0 := by
  simp only [tyOk] at h
  split at h
  · rename_i gs hg
    simp only [Bool.and_eq_true, beq_iff_eq, List.all_eq_true, bne_iff_ne] at h
    exact ⟨gs, hg, h.1, fun f hf => ⟨(h.2 f hf).1.1, (h.2 f hf).1.2, (h.2 f hf).2⟩⟩
  · cases h

variable (w : World)
theorem run_und {t : Nat} {d : TypeDesc} (h : P.underlying t = some d) : (underlying t).run P w = .ok d w := by
  exact run_underlying h w
theorem run_size {t : Nat} {j : TypeInfo} (h : P.info? t = some j) : (sizeOf t).run P w = .ok j.size w := by
  simp [sizeOf, typeInfo, h]
theorem run_isAgg {t : Nat} (h : (P.underlying t).isSome = true) : (isAgg t).run P w = .ok (aggOf P t) w := by
  obtain ⟨d, hd⟩ := Option.isSome_iff_exists.1 h
  simp only [isAgg, Sem.run_bind, run_und w hd, Result.andThen_ok, aggOf, hd]
  cases d <;> rfl
theorem und_some {t : Nat} {u : Ty} (h : tyOk P t u = true) : (P.underlying t).isSome = true ∧ aggOf P t = u.isAgg := by
  unfold aggOf
  cases u <;> (simp only [tyOk] at h; split at h <;> simp_all [Ty.isAgg])
end types

theorem scal_one {v : Value} (h : scal v = true) : v.oneCell' = true := by cases v <;> first | rfl | cases h

theorem Im.one' {S : Nat → Prop} {w : World} {v : Value} {c : C} (k : Im S w v c) : v.oneCell' = true := by
  cases k with
  | v hs => exact scal_one hs
  | nil => rfl
  | sl => rfl

section reps
variable {S B : Nat → Prop} {ν : Id → Value} {h : Hp} {w : World}

theorem VR.cst1 (v : Value) : VR S B ν h w (cst1 v) v := by
  unfold AB.cst1
  split
  · exact .nil
  · split
    · rename_i hs; exact .c (.v hs)
    · exact .dead

theorem VR.cst (v : Value) : VR S B ν h w (cst v) v := by
  unfold AB.cst
  split
  · rename_i cs
    split
    · rename_i hall
      obtain ⟨l⟩ := cs
      refine .agg (by simp) (fun i x u hx hu => ?_) (fun u hu => by simpa using List.all_eq_true.1 hall u hu)
      rw [List.getElem?_map] at hx
      obtain ⟨y, hy, rfl⟩ := Option.map_eq_some_iff.1 hx
      obtain rfl := Option.some.inj (hy.symm.trans hu)
      exact VR.cst1 _
    · exact .dead
  · exact .dead
  · exact VR.cst1 v

/-- what stands in one cell is the value of one cell -/
theorem VR.one (ok : HOK S B ν h w) {x : AV} {v : Value} (k : VR S B ν h w x v) (hx : x.one = true) : v.oneCell' = true := by
  cases k with
  | c k => cases k with
    | v hs => exact scal_one hs
    | nil => rfl
    | sl => rfl
  | agg => cases hx
  | tup => cases hx
  | own k =>
    obtain ⟨_, _, us, ho, _⟩ := ok.row _ _ _ _ _ k
    rcases ho.2 with ⟨hv, _⟩ | ⟨_, _, _, hv, _⟩ <;> rw [hv] <;> rfl
  | vw k hle hv => rcases hv with hv | ⟨_, _, _, _, _, rfl, _⟩ <;> first | exact hv.one' | rfl
  | nil => rfl
  | ptr => rfl
  | ept => rfl
  | ip => rfl
  | fn => rfl
  | rx k q => exact q.one'
  | rg k q => obtain ⟨x', l, q⟩ := q; exact q.one'
  | rp => rfl
  | dead => cases hx

theorem VR.cells (ok : HOK S B ν h w) {x : AV} {v : Value} {xs : List AV} (k : VR S B ν h w x v) (hx : x.cells = some xs) :
    ∃ us : List Value, v.cells = us.toArray ∧ xs.length = us.length ∧ ∀ (i : Nat) (x : AV) (u : Value), xs[i]? = some x → us[i]? = some u → VR S B ν h w x u ∧ u.oneCell' = true := by
  have single : x.one = true → x.cells = some [x] → ∃ us : List Value, v.cells = us.toArray ∧ xs.length = us.length ∧ ∀ (i : Nat) (x : AV) (u : Value), xs[i]? = some x → us[i]? = some u → VR S B ν h w x u ∧ u.oneCell' = true := by
    intro h1 h2
    obtain rfl : [x] = xs := Option.some.inj (h2.symm.trans hx)
    have hone := k.one ok h1
    refine ⟨[v], by cases v <;> first | rfl | (simp [Value.oneCell'] at hone), rfl, fun i y u hy hu => ?_⟩
    cases i with
    | zero => simp at hy hu; subst hy; subst hu; exact ⟨k, hone⟩
    | succ i => simp at hy
  cases k with
  | agg hl k h1 =>
    obtain rfl := Option.some.inj hx
    exact ⟨_, rfl, hl, fun i x u hx hu => ⟨k i x u hx hu, h1 u (List.mem_of_getElem? hu)⟩⟩
  | tup => cases hx
  | dead => cases hx
  | c => exact single rfl rfl
  | own => exact single rfl rfl
  | vw => exact single rfl rfl
  | nil => exact single rfl rfl
  | ptr => exact single rfl rfl
  | ept => exact single rfl rfl
  | ip => exact single rfl rfl
  | fn => exact single rfl rfl
  | rx => exact single rfl rfl
  | rg => exact single rfl rfl
  | rp => exact single rfl rfl

theorem Im.scal_eq {S : Nat → Prop} {v s : Value} (k : Im S w v (.v s)) : v = s ∧ scal s = true := by cases k with | v h => exact ⟨rfl, h⟩
theorem VR.scal_eq {b : Bool} {v s : Value} (k : VR S B ν h w (.c b (.v s)) v) : v = s ∧ scal s = true := by cases k with | c k => exact k.scal_eq

/-- what is read out of memory that stays or is lent -/
theorem VR.cvC {b : Bool} {c : C} {v : Value} (k : Im (rd S B b) w v c) : VR S B ν h w (cvC b c) v := by
  cases c with
  | v s => obtain ⟨rfl, hs⟩ := k.scal_eq; exact .c (.v hs)
  | sl xs => exact .c k

end reps

/-- the next state, with what has been made -/
def St.give (st : St) (d : Nat) (x : AV) : Option Ob → St
  | none => ⟨upd st.t d x, st.h⟩
  | some o => ⟨upd st.t d x, hupd st.h (.s d 0) (some o)⟩

section
variable {P : Program} {Γ : Gm} {S : Nat → Prop} {ν : Id → Value} {st : St} {a : Act} {w : World}

def Gives (P : Program) (Γ : Gm) (a : Act) (w : World) (s : Sem Next) (d : Nat) (st' : St) : Prop :=
  ∃ v w' S' ν', s.run P w = .ok (.value v) w' ∧ RepW Γ S' ν' st' (a.put (some d) v) w'

theorem evalO_ok (k : RepW Γ S ν st a w) (x : Operand) : VR S Γ.B ν st.h w (evalO st x) (a.eval x) := by
  cases x with
  | tmp t => exact k.t t
  | const v => exact VR.cst v
  | global g => exact .dead
  | func f => exact .fn (us := []) rfl (fun i x u hx _ => by simp at hx)

theorem evalO_is (k : RepW Γ S ν st a w) {x : Operand} {y : AV} (hx : evalO st x = y) : VR S Γ.B ν st.h w y (a.eval x) := hx ▸ evalO_ok k x

theorem evalO_v (k : RepW Γ S ν st a w) {x : Operand} {b : Bool} {s : Value} (hx : evalO st x = .c b (.v s)) : a.eval x = s ∧ scal s = true := (evalO_is k hx).scal_eq

theorem Gives.pure (k : RepW Γ S ν st a w) {s : Sem Next} {d : Nat} (hd : d < Γ.N) {x : AV} {v : Value} (hr : s.run P w = .ok (.value v) w) (hx : VR S Γ.B ν st.h w x v) :
    Gives P Γ a w s d (st.give d x none) := ⟨v, w, S, ν, hr, k.put hd hx⟩

/-- a new row that nobody will write: content from the start -/
theorem Gives.stay (k : RepW Γ S ν st a w) {s : Sem Next} {d : Nat} (hd : d < Γ.N) {us : Array Value} {T sz n : Nat} {b : Bool} {xs : List (List C)} {w' : World}
    (hr : s.run P w = .ok (.value (.slice (some ⟨w.heap.size, 0, none⟩) n n)) w') (hw : w'.heap = w.heap.push (.cells us T (0, 0))) (hos : w'.os = w.os) (htp : w'.tape = w.tape) (hout : w'.output = w.output)
    (hl : ∀ r, r ∈ xs → r.length = sz) (hn : xs.length = n) (hm : n ≤ maxLen)
    (hcc : ∀ (m : Nat) (r : List C) (o : Nat) (c : C), xs[m]? = some r → r[o]? = some c → ∃ u, us[m * sz + o]? = some u ∧ u.oneCell' = true ∧ Im (rd S Γ.B b) w u c) : Gives P Γ a w s d (st.give d (.c b (.sl xs)) none) := by
  have hnew : w'.heap[w.heap.size]? = some (.cells us T (0, 0)) := by rw [hw]; simp
  have hsz : w'.heap.size = w.heap.size + 1 := by rw [hw]; simp
  have hsame : ∀ b, b < w.heap.size → w'.heap[b]? = w.heap[b]? := fun b hb => by rw [hw, Array.getElem?_push, if_neg (by omega)]
  have k1 : RepW Γ (fun q => S q ∨ q = w.heap.size) ν ⟨st.t, st.h⟩ a w' := by
    refine k.grow (S' := fun q => S q ∨ q = w.heap.size) ⟨hos, htp, hout, by omega, fun b hb _ => hsame b hb⟩ (fun _ q => .inl q) (fun b q => q.imp id (fun e => by omega)) (fun b q => ?_) (fun b q => q.imp id (fun e => ?_)) (fun i o q => ⟨q, rfl⟩) ?_ ?_ ?_ ?_ ?_
    · rcases q with q | q
      · have := k.ok.lt b (.inl q); omega
      · omega
    · subst e; exact ⟨us, T, (0, 0), hnew, .inl rfl⟩
    · intro i h1 h2; rw [h1] at h2; cases h2
    · intro i j b _ h1 _ h3; rw [h1] at h3; cases h3
    · intro i cs h1 h2; rw [h1] at h2; cases h2
    · intro i bor e sz xs h1 h2; rw [h1] at h2; cases h2
    · intro i h1 h2; rw [h1] at h2; cases h2
  refine ⟨_, w', (fun q => S q ∨ q = w.heap.size), ν, hr, ?_⟩
  have := k1.put (d := d) (x := .c b (.sl xs)) (v := .slice (some ⟨w.heap.size, 0, none⟩) n n) hd (.c (.sl (sz := sz) (fun i => us.getD i undef) (fun _ => rfl) (fun _ => .inl (.inr rfl)) hn (Nat.le_refl _) hm hl (fun i r j c h1 h2 => ?_) (fun i r j c h1 h2 => ?_)))
  · exact this
  · obtain ⟨u, hu, _, _⟩ := hcc i r j c h1 h2
    have hadd : (⟨w.heap.size, 0, none⟩ : Addr).add (i * sz + j) = ⟨w.heap.size, i * sz + j, none⟩ := by unfold Addr.add; split <;> simp_all
    rw [hadd, cell_of_row w' _ _ us T (0, 0) hnew, hu, Array.getD_eq_getD_getElem?, hu]; rfl
  · obtain ⟨u, hu, _, hi⟩ := hcc i r j c h1 h2
    rw [Array.getD_eq_getD_getElem?, hu]
    exact hi.mono (fun b q => q.imp .inl id) (fun b q => hsame b (k.ok.lt b (q.imp id (fun z => z.2))))
/-- a new variable, or a new row: one block comes -/
theorem Gives.new (k : RepW Γ S ν st a w) {s : Sem Next} {d : Nat} (hd : d < Γ.N) {o : Ob} {v : Value} {us : Array Value} {T : Nat} {fz : Nat × Nat} {w' : World}
    (hr : s.run P w = .ok (.value v) w') (hw : w'.heap = w.heap.push (.cells us T fz)) (hos : w'.os = w.os) (htp : w'.tape = w.tape) (hout : w'.output = w.output)
    (hfree : st.h (.s d 0) = none)
    (hv : (v = .pointer (some ⟨w.heap.size, 0, none⟩) ∧ fz = (0, 0) ∧ ∃ cs, o = .box cs ∧ us.size = cs.length ∧ ∀ (j : Nat) (x : AV) (u : Value), cs[j]? = some x → us[j]? = some u → VR S Γ.B ν st.h w x u ∧ u.oneCell' = true) ∨
      (∃ bor sz xs n cap, v = .slice (some ⟨w.heap.size, 0, none⟩) n cap ∧ (fz = (0, 0) ∨ us.size ≤ fz.1) ∧ o = .row bor T sz xs ∧ 0 < sz ∧ (∀ r, r ∈ xs → r.length = sz) ∧ n = xs.length ∧ n ≤ cap ∧ cap ≤ maxLen ∧ us.size = cap * sz ∧
        (∀ (m : Nat) (r : List C) (o : Nat) (c : C), xs[m]? = some r → r[o]? = some c → ∃ u, us[m * sz + o]? = some u ∧ u.oneCell' = true ∧ Im (rd S Γ.B bor) w u c)))
    {x : AV} (hx : (x = .ptr (.s d 0) 0 ∧ ∃ cs, o = .box cs) ∨ (x = .own (.s d 0) ∧ ∃ bor T sz xs, o = .row bor T sz xs)) : Gives P Γ a w s d (st.give d x (some o)) := by
  have hbv : ∀ b, fb v b → w.heap.size = b := by rcases hv with ⟨rfl, _⟩ | ⟨_, _, _, _, _, rfl, _⟩ <;> exact fun _ q => q
  have hnew : w'.heap[w.heap.size]? = some (.cells us T fz) := by rw [hw]; simp
  have hsz : w'.heap.size = w.heap.size + 1 := by rw [hw]; simp
  have hsame : ∀ b, b < w.heap.size → w'.heap[b]? = w.heap[b]? := fun b hb => by rw [hw, Array.getElem?_push, if_neg (by omega)]
  have hrdw : ∀ bor b, rd S Γ.B bor b → w'.heap[b]? = w.heap[b]? := fun bor b hb => hsame b (k.ok.lt b (hb.imp id (fun q => q.2)))
  have hne : ∀ i o', st.h i = some o' → i ≠ .s d 0 := fun i o' hi e => by rw [e, hfree] at hi; cases hi
  have hupdo : ∀ i o', st.h i = some o' → hupd st.h (.s d 0) (some o) i = some o' ∧ hupd ν (.s d 0) v i = ν i := fun i o' hi => by
    rw [hupd_ne _ _ (hne i o' hi), hupd_ne _ _ (hne i o' hi)]; exact ⟨hi, rfl⟩
  have hmono : ∀ x u, VR S Γ.B ν st.h w x u → VR S Γ.B (hupd ν (.s d 0) v) (hupd st.h (.s d 0) (some o)) w' x u := fun x u q =>
    q.mono (fun _ q => q) (fun _ q => q) (fun i cs hi => ⟨⟨cs, (hupdo i _ hi).1⟩, (hupdo i _ hi).2⟩) (fun i bor e sz xs hi => hupdo i _ hi) (fun i hi => ⟨(hupdo i _ hi).1, (hupdo i _ hi).2, fun b hb => hsame b (k.ok.blk_lt (by rw [hi]; rfl) hb)⟩) (fun b hb => hsame b (k.ok.lt b hb))
  have honly : ∀ i, st.h i = none → (hupd st.h (.s d 0) (some o) i).isSome = true → i = .s d 0 := fun i h1 h2 => by
    by_cases e : i = .s d 0
    · exact e
    · rw [hupd_ne _ _ e, h1] at h2; cases h2
  have k1 : RepW Γ S (hupd ν (.s d 0) v) ⟨st.t, hupd st.h (.s d 0) (some o)⟩ a w' := by
    refine k.grow (S' := S) ⟨hos, htp, hout, by omega, fun b hb _ => hsame b hb⟩ (fun _ q => q) (fun _ q => .inl q) (fun b q => by have := k.ok.lt b (.inl q); omega) (fun _ q => .inl q) hupdo ?_ ?_ ?_ ?_ ?_
    · intro i h1 h2
      obtain rfl := honly i h1 h2
      refine ⟨fun q => by simp, fun b hb => ?_⟩
      rw [hupd_same] at hb
      obtain rfl := hbv b hb
      exact ⟨Nat.le_refl _, fun q => by have := k.ok.lt _ (.inl q); omega⟩
    · intro i j b hij h1 h2 h3 h4
      exact absurd ((honly i h1 h3).trans (honly j h2 h4).symm) hij
    · intro i cs h1 h2
      obtain rfl := honly i h1 (by rw [h2]; rfl)
      rw [hupd_same] at h2
      rcases hv with ⟨rfl, rfl, cs', rfl, hl, hc⟩ | ⟨_, _, _, _, _, _, _, rfl, _⟩
      · obtain rfl := Ob.box.inj (Option.some.inj h2)
        exact ⟨_, us, T, hupd_same _ _ _, hnew, hl, fun j x u hx hu => ⟨hmono _ _ (hc j x u hx hu).1, (hc j x u hx hu).2⟩⟩
      · cases h2
    · intro i bor e sz xs h1 h2
      obtain rfl := honly i h1 (by rw [h2]; rfl)
      rw [hupd_same] at h2
      rcases hv with ⟨_, _, cs', rfl, _⟩ | ⟨bor', sz', xs', n, cap, rfl, hfz, rfl, h0, hl, rfl, hc, hm, hus, hcc⟩
      · cases h2
      · obtain ⟨rfl, rfl, rfl, rfl⟩ := Ob.row.inj (Option.some.inj h2)
        refine ⟨h0, hl, us.toList.take (xs'.length * sz'), ⟨?_, .inr ⟨w.heap.size, cap, us, hupd_same _ _ _, Nat.zero_le _, ⟨fz, hnew, hfz⟩, hc, hm, Nat.le_of_eq hus.symm, rfl⟩⟩, fun m r o c hr ho => ?_⟩
        · have h9 : xs'.length * sz' ≤ cap * sz' := Nat.mul_le_mul_right _ hc
          have h8 : us.toList.length = cap * sz' := by rw [Array.length_toList, hus]
          rw [List.length_take, h8, Nat.min_eq_left h9]
        · obtain ⟨u, hu, h1, hi⟩ := hcc m r o c hr ho
          have hlt : m * sz' + o < xs'.length * sz' := by
            have h1 : m < xs'.length := (List.getElem?_eq_some_iff.1 hr).1
            have h2 : o < sz' := by rw [← hl r (List.mem_of_getElem? hr)]; exact (List.getElem?_eq_some_iff.1 ho).1
            have h3 : (m + 1) * sz' ≤ xs'.length * sz' := Nat.mul_le_mul_right _ h1
            rw [Nat.add_mul] at h3; omega
          refine ⟨u, ?_, h1, hi.mono (fun _ q => q) (hrdw _)⟩
          rw [List.getElem?_take, if_pos hlt]
          simpa using hu
    · intro i h1 h2
      obtain rfl := honly i h1 (by rw [h2]; rfl)
      rw [hupd_same] at h2
      rcases hx with ⟨_, cs', rfl⟩ | ⟨_, _, _, _, _, rfl⟩ <;> cases h2
  refine ⟨v, w', S, hupd ν (.s d 0) v, hr, ?_⟩
  have := k1.put (d := d) (x := x) (v := v) hd ?_
  · exact this
  · rcases hv with ⟨rfl, _, cs', rfl, _⟩ | ⟨bor', sz', xs', n, cap, rfl, _, rfl, _⟩
    · rcases hx with ⟨rfl, _⟩ | ⟨_, _, _, _, _, hq⟩
      · exact .ptr (hupd_same _ _ _) (hupd_same _ _ _)
      · cases hq
    · rcases hx with ⟨_, cs, hq⟩ | ⟨rfl, _⟩
      · cases hq
      · have := VR.own (S := S) (B := Γ.B) (ν := hupd ν (.s d 0) (.slice (some ⟨w.heap.size, 0, none⟩) n cap)) (w := w') (i := .s d 0) (hupd_same st.h (.s d 0) (some (.row bor' T sz' xs')))
        rwa [hupd_same] at this
end
end Go.Proofs.YtoemclhjcbcjaaaGreat.AB
