/- What an operation makes of the slots is what the model makes of their values: operations that read, compute, and make new memory. -/
import Derived.Test.YtoemclhjcbcjaaaGreatAbF
import Derived.Laws.Concat
namespace Go.Proofs.YtoemclhjcbcjaaaGreat.AB
open Go
set_option linter.unusedVariables false
set_option linter.unusedSimpArgs false

section
variable {P : Program} {Γ : Gm} {S : Nat → Prop} {ν : Id → Value} {st : St} {a : Act} {w : World} {o : Oper} {T : Tab} {so : SOp} {d : Nat} {p : Prop} {y : AV} {ob : Option Ob}

/-- the run of an operation that comes to a value -/
theorem run_v {s : Sem Value} {v : Value} {w' : World} (h : s.run P w = .ok v w') : (do pure (Next.value (← s)) : Sem Next).run P w = .ok (.value v) w' := by
  simp [h]

theorem q_mv {x : Operand} (ho : o.op = .move x ∨ o.op = .assign x) (k : RepW Γ S ν st a w) (hd : d < Γ.N) : Gives P Γ a w (execOp a.eval o) d (st.give d (evalO st x) none) := by
  refine .pure k hd (v := a.eval x) ?_ (evalO_ok k x)
  rcases ho with ho | ho <;> simp [execOp, ho]

theorem q_pick {c x y : Operand} {b t : Bool} (ho : o.op = .pick c x y) (hc : evalO st c = .c b (.v (.bool t))) (k : RepW Γ S ν st a w) (hd : d < Γ.N) :
    Gives P Γ a w (execOp a.eval o) d (st.give d (if t then evalO st x else evalO st y) none) := by
  refine .pure k hd (v := if t then a.eval x else a.eval y) ?_ (by cases t <;> exact evalO_ok k _)
  have := (evalO_v k hc).1
  simp [execOp, ho, this, asBool]

theorem q_box {e : TypeId} {x : Operand} {cs : List AV} (ho : o.op = .box e x) (hx : (evalO st x).cells = some cs) (k : RepW Γ S ν st a w) (hd : d < Γ.N) (hf : st.h (.s d 0) = none) :
    Gives P Γ a w (execOp a.eval o) d (st.give d (.ptr (.s d 0) 0) (some (.box cs))) := by
  obtain ⟨us, hus, hl, hc⟩ := (evalO_ok k x).cells k.ok hx
  refine .new k hd (v := .pointer (some ⟨w.heap.size, 0, none⟩)) (us := us.toArray) (T := e) (fz := (0, 0)) (w' := w.alloc (.cells us.toArray e)) ?_ rfl rfl rfl rfl hf
    (.inl ⟨rfl, rfl, cs, rfl, by simp [hl], fun j x u hx hu => hc j x u hx (by simpa using hu)⟩) (.inl ⟨rfl, cs, rfl⟩)
  simp only [execOp, ho]
  refine run_v ?_
  simp [Instr.box, newVar, newRow, hus]

theorem q_alloc {e : TypeId} {i : TI} (ho : o.op = .alloc e) (hi : tiOk P e i = true) (hz : i.zero.all (·.oneCell') = true) (k : RepW Γ S ν st a w) (hd : d < Γ.N) (hf : st.h (.s d 0) = none) :
    Gives P Γ a w (execOp a.eval o) d (st.give d (.ptr (.s d 0) 0) (some (.box (i.zero.map cst1)))) := by
  obtain ⟨j, z, hj, _, _, hz1, hz2, _⟩ := info_of hi
  refine .new k hd (v := .pointer (some ⟨w.heap.size, 0, none⟩)) (us := z.cells) (T := e) (fz := (0, 0)) (w' := w.alloc (.cells z.cells e)) ?_ rfl rfl rfl rfl hf
    (.inl ⟨rfl, rfl, _, rfl, by rw [← hz2]; simp, fun j x u hx hu => ?_⟩) (.inl ⟨rfl, _, rfl⟩)
  · simp only [execOp, ho]
    refine run_v ?_
    simp [Instr.alloc, zeroValue, typeInfo, hj, hz1, newVar, newRow]
  · rw [List.getElem?_map, ← hz2] at hx
    obtain ⟨q, hq, rfl⟩ := Option.map_eq_some_iff.1 hx
    rw [Array.getElem?_toList] at hq
    obtain rfl := Option.some.inj (hq.symm.trans hu)
    exact ⟨VR.cst1 _, List.all_eq_true.1 hz _ (by rw [← hz2]; exact Array.mem_toList_iff.2 (Array.mem_of_getElem? hu))⟩

theorem run_loadAgg {t : TypeId} {n : Nat} {ad : Addr} {us : List Value} (hagg : (isAgg t).run P w = .ok true w) (hsz : (sizeOf t).run P w = .ok n w) (hl : us.length = n)
    (hc : ∀ j u, us[j]? = some u → w.cell? (ad.add j) = some u) : (Instr.loadAt t (.pointer (some ad))).run P w = .ok (.agg us.toArray) w := by
  have := run_loadCells_list (P := P) (w := w) ad us hc
  simp only [Instr.loadAt, Instr.sureAddr, loadVar, Sem.run_bind, Sem.run_pure, Result.andThen_ok, hagg, if_true, hsz, ← hl]
  simp [this]

theorem run_load1 {t : TypeId} {ad : Addr} {u : Value} (hagg : (isAgg t).run P w = .ok false w) (hc : w.cell? ad = some u) : (Instr.loadAt t (.pointer (some ad))).run P w = .ok u w := by
  simp only [Instr.loadAt, Instr.sureAddr, loadVar, Sem.run_bind, Sem.run_pure, Result.andThen_ok, hagg]
  simp [hc]

theorem addr_add (b o j : Nat) : (⟨b, o, none⟩ : Addr).add j = ⟨b, o + j, none⟩ := by unfold Addr.add; split <;> simp_all

/-- the cells that an address of the slots leads to -/
inductive Leads (S : Nat → Prop) (Γ : Gm) (ν : Id → Value) (st : St) (w : World) (ad : Addr) (xs : List AV) : Prop
  | mk (us : List Value) (hl : us.length = xs.length) (hc : ∀ j u, us[j]? = some u → w.cell? (ad.add j) = some u)
      (hv : ∀ (j : Nat) (x : AV) (u : Value), xs[j]? = some x → us[j]? = some u → VR S Γ.B ν st.h w x u ∧ u.oneCell' = true)

theorem leads_rp {i : Id} {xs : List C} {v : Value} (hv : VR S Γ.B ν st.h w (.rp i xs) v) : ∃ ad, v = .pointer (some ad) ∧ Leads S Γ ν st w ad (xs.map (rgC i)) := by
  cases hv with
  | rp hi hs hb q =>
    rename_i ad
    refine ⟨ad, rfl, .mk ((List.range xs.length).map fun j => (w.cell? (ad.add j)).getD undef) (by simp) (fun j u hu => ?_) (fun j y u hy hu => ?_)⟩
    · rw [List.getElem?_map] at hu
      obtain ⟨n, hn, rfl⟩ := Option.map_eq_some_iff.1 hu
      obtain ⟨h1, h2⟩ := List.getElem?_eq_some_iff.1 hn
      rw [List.getElem_range] at h2
      subst h2
      obtain ⟨u, c', h3, _⟩ := q j _ (List.getElem?_eq_getElem (by simpa using h1))
      rw [h3]; rfl
    · rw [List.getElem?_map] at hy hu
      obtain ⟨c, hc, rfl⟩ := Option.map_eq_some_iff.1 hy
      obtain ⟨n, hn, rfl⟩ := Option.map_eq_some_iff.1 hu
      obtain ⟨h1, h2⟩ := List.getElem?_eq_some_iff.1 hn
      rw [List.getElem_range] at h2
      subst h2
      obtain ⟨u, c', h3, hl, him⟩ := q j _ hc
      rw [h3, Option.getD_some]
      refine ⟨?_, him.one'⟩
      cases c with
      | v s => exact .dead
      | sl ys => exact .rg hi ⟨c', hl, him⟩

theorem leads_of (k : RepW Γ S ν st a w) {x : Operand} {xs : List AV} (h : readAt st (evalO st x) = some xs) : ∃ ad, a.eval x = .pointer (some ad) ∧ Leads S Γ ν st w ad xs := by
  have hv := evalO_ok k x
  revert h hv
  generalize a.eval x = v
  cases evalO st x <;> simp only [readAt, reduceCtorEq, false_implies]
  case ptr i o =>
    intro h hv
    cases hv with
    | ptr hi hν =>
      rw [hi] at h
      obtain rfl := Option.some.inj h
      obtain ⟨b', us, TT, hν', hw, hsz, hc⟩ := k.ok.box i _ hi
      rw [hν] at hν'
      simp only [Value.pointer.injEq, Option.some.injEq, Addr.mk.injEq, and_true] at hν'
      subst hν'
      refine ⟨_, rfl, .mk (us.toList.drop o) (by simp [hsz]) (fun j u hu => ?_) (fun j x u hx hu => ?_)⟩
      · rw [List.getElem?_drop, Array.getElem?_toList] at hu
        rw [addr_add, cell_of_row w _ _ us TT (0, 0) hw]
        exact hu
      · rw [List.getElem?_drop] at hx hu
        rw [Array.getElem?_toList] at hu
        exact hc _ _ _ hx hu
  case ept i n o =>
    intro h hv
    cases hv with
    | ept hi hν hn =>
      rename_i e sz b m cap bor xss
      rw [hi] at h
      obtain rfl := Option.some.inj h
      obtain ⟨h0, hl, us, hown, hc⟩ := k.ok.row i _ _ _ _ hi
      have hr : xss[n]? = some xss[n] := List.getElem?_eq_getElem hn
      have hrl := hl _ (List.getElem_mem hn)
      have hgd : xss.getD n [] = xss[n] := by simp [List.getD_eq_getElem?_getD, hr]
      rw [hgd]
      have hcell : ∀ j u, us[j]? = some u → w.cell? ((⟨b, 0, none⟩ : Addr).add j) = some u := hown.cells (by rw [hν]; rfl)
      refine ⟨_, rfl, .mk ((us.drop (n * sz + o)).take (sz - o)) ?_ (fun j u hu => ?_) (fun j x u hx hu => ?_)⟩
      · have hus := hown.1
        have h3 : (n + 1) * sz ≤ xss.length * sz := Nat.mul_le_mul_right _ hn
        rw [Nat.add_mul] at h3
        simp only [List.length_take, List.length_drop, List.length_map, hrl, hus]
        omega
      · rw [List.getElem?_take] at hu
        split at hu
        · rw [List.getElem?_drop] at hu
          have := hcell _ _ hu
          rw [addr_add] at this ⊢
          simpa [Nat.add_assoc] using this
        · cases hu
      · rw [List.getElem?_take] at hu
        split at hu
        · rw [List.getElem?_drop] at hu
          rw [List.getElem?_map, List.getElem?_drop] at hx
          obtain ⟨c, hcc, rfl⟩ := Option.map_eq_some_iff.1 hx
          obtain ⟨u', hu', h1, him⟩ := hc n _ _ _ hr hcc
          rw [← Nat.add_assoc] at hu'
          obtain rfl := Option.some.inj (hu.symm.trans hu')
          exact ⟨VR.cvC him, h1⟩
        · cases hu
  case rp i xs =>
    intro h hv
    obtain rfl := Option.some.inj h
    exact leads_rp hv
  case ip b xs =>
    intro h hv
    cases hv with
    | ip u hs hb hu hi =>
      obtain rfl := Option.some.inj h
      refine ⟨_, rfl, .mk ((List.range xs.length).map u) (by simp) (fun j v hv => ?_) (fun j x v hx hv => ?_)⟩
      · rw [List.getElem?_map] at hv
        obtain ⟨q, hq, rfl⟩ := Option.map_eq_some_iff.1 hv
        obtain ⟨hlt, rfl⟩ : j < xs.length ∧ j = q := by
          obtain ⟨h1, h2⟩ := List.getElem?_eq_some_iff.1 hq
          rw [List.getElem_range] at h2
          exact ⟨by simpa using h1, h2⟩
        exact hu j _ (List.getElem?_eq_getElem hlt)
      · rw [List.getElem?_map] at hv hx
        obtain ⟨q, hq, rfl⟩ := Option.map_eq_some_iff.1 hv
        obtain ⟨c, hc, rfl⟩ := Option.map_eq_some_iff.1 hx
        obtain ⟨hlt, rfl⟩ : j < xs.length ∧ j = q := by
          obtain ⟨h1, h2⟩ := List.getElem?_eq_some_iff.1 hq
          rw [List.getElem_range] at h2
          exact ⟨by simpa using h1, h2⟩
        exact ⟨VR.cvC (hi j c hc), (hi j c hc).one'⟩

theorem q_load1 {t : TypeId} {i : TI} {x : Operand} {xs : List AV} (ho : o.op = .load t x) (hi : tiOk P t i = true) (hg : i.u.isAgg = false) (hx : readAt st (evalO st x) = some xs) {y : AV} (hy : xs[0]? = some y)
    (k : RepW Γ S ν st a w) (hd : d < Γ.N) : Gives P Γ a w (execOp a.eval o) d (st.give d y none) := by
  obtain ⟨ad, he, us, hl, hc, hv⟩ := leads_of k hx
  have hlt : 0 < us.length := by rw [hl]; exact (List.getElem?_eq_some_iff.1 hy).1
  have hu : us[0]? = some us[0] := List.getElem?_eq_getElem hlt
  have hcell := hc 0 _ hu
  rw [show ad.add 0 = ad from by simp [Addr.add]] at hcell
  refine .pure k hd (v := us[0]) ?_ (hv 0 y _ hy hu).1
  simp only [execOp, ho, he]
  refine run_v (run_load1 ?_ hcell)
  have := und_some (tyOk_of hi)
  rw [run_isAgg w this.1, this.2, hg]

theorem q_loadn {t : TypeId} {i : TI} {x : Operand} {xs : List AV} (ho : o.op = .load t x) (hi : tiOk P t i = true) (hg : i.u.isAgg = true) (hx : readAt st (evalO st x) = some xs) (hn : i.size ≤ xs.length)
    (k : RepW Γ S ν st a w) (hd : d < Γ.N) : Gives P Γ a w (execOp a.eval o) d (st.give d (.agg (xs.take i.size)) none) := by
  obtain ⟨ad, he, us, hl, hc, hv⟩ := leads_of k hx
  obtain ⟨j, z, hj, hjs, _⟩ := info_of hi
  refine .pure k hd (v := .agg (us.take i.size).toArray) ?_ (.agg (by simp [hl]) (fun j x u hx hu => ?_) (fun u hu => ?_))
  · simp only [execOp, ho, he]
    refine run_v (run_loadAgg ?_ (by rw [run_size w hj, hjs]) (by simp; omega) (fun j u hu => ?_))
    · have := und_some (tyOk_of hi)
      rw [run_isAgg w this.1, this.2, hg]
    · rw [List.getElem?_take] at hu
      split at hu
      · exact hc j u hu
      · cases hu
  · rw [List.getElem?_take] at hx hu
    split at hx
    · rename_i hlt; rw [if_pos hlt] at hu; exact (hv j x u hx hu).1
    · cases hx
  · obtain ⟨j, hj, rfl⟩ := List.getElem_of_mem hu
    rw [List.getElem_take]
    have h1 : j < us.length := by simp at hj; omega
    exact (hv j _ _ (List.getElem?_eq_getElem (by omega)) (List.getElem?_eq_getElem h1)).2

theorem field_run {gs : Array Field} {t f off n : Nat} {g : Bool} {fs : List (Nat × Nat × Bool)} (hu : P.underlying t = some (.struct gs)) (hm : gs.toList.map (fun f => (f.offset, sizeAt P f.type, aggOf P f.type)) = fs)
    (hf : fs[f]? = some (off, n, g)) : ∃ fd, gs[f]? = some fd ∧ fd ∈ gs.toList ∧ fd.offset = off ∧ sizeAt P fd.type = n ∧ aggOf P fd.type = g := by
  rw [← hm, List.getElem?_map] at hf
  obtain ⟨fd, hfd, he⟩ := Option.map_eq_some_iff.1 hf
  simp only [Prod.mk.injEq] at he
  exact ⟨fd, by simpa using hfd, List.mem_of_getElem? hfd, he.1, he.2.1, he.2.2⟩

/-- an address, a number of cells on -/
def onBy (off : Nat) : AV → Option AV
  | .ptr i o => some (.ptr i (o + off))
  | .ept i n o => some (.ept i n (o + off))
  | .ip b xs => some (.ip b (xs.drop off))
  | .rp i xs => some (.rp i (xs.drop off))
  | _ => none

theorem onBy_ok (k : RepW Γ S ν st a w) {x : Operand} {y : AV} {off : Nat} (hy : onBy off (evalO st x) = some y) : ∃ ad, a.eval x = .pointer (some ad) ∧ VR S Γ.B ν st.h w y (.pointer (some (ad.add off))) := by
  have hv := evalO_ok k x
  revert hy hv
  generalize a.eval x = v
  cases evalO st x <;> simp only [onBy, reduceCtorEq, false_implies]
  case ptr i o =>
    intro h hv
    obtain rfl := Option.some.inj h
    cases hv with
    | ptr hi hν => exact ⟨_, rfl, by rw [addr_add]; exact .ptr hi hν⟩
  case ept i n o =>
    intro h hv
    obtain rfl := Option.some.inj h
    cases hv with
    | ept hi hν hn => exact ⟨_, rfl, by rw [addr_add, Nat.add_assoc]; exact .ept hi hν hn⟩
  case ip b xs =>
    intro h hv
    obtain rfl := Option.some.inj h
    cases hv with
    | ip u hs hb hu0 hi =>
      rename_i ad
      refine ⟨_, rfl, .ip (fun j => u (off + j)) (by unfold Addr.add; split <;> simp_all) (by rw [add_block]; exact hb) (fun j c hj => ?_) (fun j c hj => ?_)⟩
      · rw [List.getElem?_drop] at hj
        have := hu0 _ _ hj
        rw [show (ad.add off).add j = ad.add (off + j) from ?_]
        · exact this
        · unfold Addr.add
          by_cases h1 : off = 0
          · by_cases h2 : j = 0 <;> simp [h1, h2]
          · by_cases h2 : j = 0
            · simp [h1, h2]
            · simp [h1, h2, Nat.add_assoc]
      · rw [List.getElem?_drop] at hj
        exact hi _ _ hj
  case rp i xs =>
    intro h hv
    obtain rfl := Option.some.inj h
    cases hv with
    | rp hi hs hb q =>
      rename_i ad
      refine ⟨_, rfl, .rp hi (by unfold Addr.add; split <;> simp_all) (by rw [add_block]; exact hb) (fun j c hj => ?_)⟩
      rw [List.getElem?_drop] at hj
      have := q _ _ hj
      rw [show (ad.add off).add j = ad.add (off + j) from ?_]
      · exact this
      · unfold Addr.add
        by_cases h1 : off = 0
        · by_cases h2 : j = 0 <;> simp [h1, h2]
        · by_cases h2 : j = 0
          · simp [h1, h2]
          · simp [h1, h2, Nat.add_assoc]

theorem q_fad {t f off n : Nat} {g : Bool} {i : TI} {fs : List (Nat × Nat × Bool)} {x : Operand} (ho : o.op = .fieldAddr t x f) (hi : tiOk P t i = true) (hu : i.u = .struct fs) (hf : fs[f]? = some (off, n, g)) {y : AV}
    (hy : onBy off (evalO st x) = some y) (k : RepW Γ S ν st a w) (hd : d < Γ.N) : Gives P Γ a w (execOp a.eval o) d (st.give d y none) := by
  obtain ⟨ad, he, hv⟩ := onBy_ok k hy
  obtain ⟨gs, hgs, hm, hall⟩ := und_struct (P := P) (t := t) (fs := fs) (by rw [← hu]; exact tyOk_of hi)
  obtain ⟨fd, hfd, hmem, ho1, hs1, ha1⟩ := field_run hgs hm hf
  obtain ⟨hin, hun, hnz⟩ := hall fd hmem
  obtain ⟨j, hj⟩ := Option.isSome_iff_exists.1 hin
  refine .pure k hd ?_ hv
  simp only [execOp, ho, he]
  refine run_v ?_
  have hne : j.size ≠ 0 := by intro e; apply hnz; simp [sizeAt, hj, e]
  simp [Instr.fieldAt, run_und w hgs, hfd, Instr.sureAddr, fieldPlace, run_size w hj, hne, ho1]

theorem q_fld1 {t f off n : Nat} {i : TI} {fs : List (Nat × Nat × Bool)} {x : Operand} {xs : List AV} {y : AV} (ho : o.op = .field t x f) (hi : tiOk P t i = true) (hu : i.u = .struct fs) (hf : fs[f]? = some (off, n, false))
    (hx : evalO st x = .agg xs) (hy : xs[off]? = some y) (k : RepW Γ S ν st a w) (hd : d < Γ.N) : Gives P Γ a w (execOp a.eval o) d (st.give d y none) := by
  have hv := evalO_is k hx
  obtain ⟨gs, hgs, hm, hall⟩ := und_struct (P := P) (t := t) (fs := fs) (by rw [← hu]; exact tyOk_of hi)
  obtain ⟨fd, hfd, hmem, ho1, hs1, ha1⟩ := field_run hgs hm hf
  obtain ⟨hin, hun, hnz⟩ := hall fd hmem
  generalize hve : a.eval x = v at hv
  cases hv with
  | agg hl hk h1 =>
    rename_i us
    have hlt : off < us.length := by rw [← hl]; exact (List.getElem?_eq_some_iff.1 hy).1
    have hue : us[off]? = some us[off] := List.getElem?_eq_getElem hlt
    refine .pure k hd ?_ (hk off y _ hy hue)
    simp only [execOp, ho, hve]
    refine run_v ?_
    simp [Instr.field, run_und w hgs, hfd, asAgg, part, run_isAgg w hun, ha1, ho1, hlt]

theorem q_fldn {t f off n : Nat} {i : TI} {fs : List (Nat × Nat × Bool)} {x : Operand} {xs : List AV} (ho : o.op = .field t x f) (hi : tiOk P t i = true) (hu : i.u = .struct fs) (hf : fs[f]? = some (off, n, true))
    (hx : evalO st x = .agg xs) (k : RepW Γ S ν st a w) (hd : d < Γ.N) : Gives P Γ a w (execOp a.eval o) d (st.give d (.agg ((xs.drop off).take n)) none) := by
  have hv := evalO_is k hx
  obtain ⟨gs, hgs, hm, hall⟩ := und_struct (P := P) (t := t) (fs := fs) (by rw [← hu]; exact tyOk_of hi)
  obtain ⟨fd, hfd, hmem, ho1, hs1, ha1⟩ := field_run hgs hm hf
  obtain ⟨hin, hun, hnz⟩ := hall fd hmem
  obtain ⟨j, hj⟩ := Option.isSome_iff_exists.1 hin
  have hjn : j.size = n := by simpa [sizeAt, hj] using hs1
  generalize hve : a.eval x = v at hv
  cases hv with
  | agg hl hk h1 =>
    rename_i us
    refine .pure k hd (v := .agg ((us.drop off).take n).toArray) ?_ (.agg (by simp [hl]) (fun i x u hx hu => ?_) (fun u hu => h1 u (List.mem_of_mem_drop (List.mem_of_mem_take hu))))
    · simp only [execOp, ho, hve]
      refine run_v ?_
      simp only [Instr.field, run_und w hgs, hfd, asAgg, part, run_isAgg w hun, ha1, ho1, Sem.run_bind, Sem.run_pure, Result.andThen_ok, if_true, run_size w hj, hjn]
      congr 2
      simp [Nat.add_sub_cancel_left]
    · rw [List.getElem?_take] at hx hu
      split at hx
      · rename_i hlt
        rw [if_pos hlt, List.getElem?_drop] at hu
        rw [List.getElem?_drop] at hx
        exact hk _ x u hx hu
      · cases hx

theorem q_ext {x : Operand} {n : Nat} {xs : List AV} {y : AV} (ho : o.op = .extract x n) (hx : evalO st x = .tup xs) (hy : xs[n]? = some y) (k : RepW Γ S ν st a w) (hd : d < Γ.N) :
    Gives P Γ a w (execOp a.eval o) d (st.give d y none) := by
  have hv := evalO_is k hx
  generalize hve : a.eval x = v at hv
  cases hv with
  | tup hl hk =>
    rename_i us
    have hlt : n < us.length := by rw [← hl]; exact (List.getElem?_eq_some_iff.1 hy).1
    have hue : us[n]? = some us[n] := List.getElem?_eq_getElem hlt
    refine .pure k hd ?_ (hk n y _ hy hue)
    simp only [execOp, ho, hve]
    refine run_v ?_
    simp [Instr.extract, hlt]

theorem q_mkf {f : Nat} {first caps : Array Operand} (ho : o.op = .makeFunc (.func f) first caps) (h0 : first.size = 0) (k : RepW Γ S ν st a w) (hd : d < Γ.N) :
    Gives P Γ a w (execOp a.eval o) d (st.give d (.fn f (caps.toList.map (evalO st))) none) := by
  obtain rfl : first = #[] := Array.eq_empty_of_size_eq_zero h0
  refine .pure k hd (v := .func (.func f) #[] (caps.toList.map a.eval).toArray) ?_ (.fn (by simp) (fun i x u hx hu => ?_))
  · simp only [execOp, ho]
    refine run_v ?_
    simp [Instr.makeFunc, ← Array.toList_map]
  · rw [List.getElem?_map] at hx hu
    obtain ⟨q, hq, rfl⟩ := Option.map_eq_some_iff.1 hx
    obtain ⟨q', hq', rfl⟩ := Option.map_eq_some_iff.1 hu
    obtain rfl := Option.some.inj (hq.symm.trans hq')
    exact evalO_ok k q

theorem q_nilc {x : Operand} {y : AV} (ho : o.op = .nilCheck x) (hx : evalO st x = y) (hy : match y with | .ptr _ _ | .ept _ _ _ | .ip _ _ | .fn _ _ | .rp _ _ => True | _ => False) (k : RepW Γ S ν st a w) (hd : d < Γ.N) :
    Gives P Γ a w (execOp a.eval o) d (st.give d y none) := by
  have hv := evalO_is k hx
  refine .pure k hd (v := a.eval x) ?_ hv
  generalize hve : a.eval x = v at hv
  cases hv <;> first | exact hy.elim | (simp [execOp, ho, hve]; done)

theorem q_int2 (mx : Bool) {x y : Operand} {b b' : Bool} {k0 k1 : IntKind} {m n : Int} {ts : Array TypeId}
    (ho : o.op = .call { callee := .builtin (if mx then .max else .min), args := #[x, y], argTypes := ts }) (hx : evalO st x = .c b (.v (.int k0 m))) (hy : evalO st y = .c b' (.v (.int k1 n)))
    (k : RepW Γ S ν st a w) (hd : d < Γ.N) :
    Gives P Γ a w (execOp a.eval o) d (st.give d (.c false (.v (.int k0 (if mx then (if m < n then n else m) else (if n < m then n else m))))) none) := by
  have h1 := (evalO_v k hx).1
  have h2 := (evalO_v k hy).1
  refine .pure k hd ?_ (.c (.v rfl))
  cases mx <;> simp [execOp, ho, resolve, invoke, builtin, h1, h2, Builtin.max_, Builtin.min_, Builtin.max2, Builtin.min2]

end
end Go.Proofs.YtoemclhjcbcjaaaGreat.AB
