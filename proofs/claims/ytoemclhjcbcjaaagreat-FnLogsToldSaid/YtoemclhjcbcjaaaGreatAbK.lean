/- All operations that only read, compute and make: what 'qf' says is what the model does. -/
import Derived.Test.YtoemclhjcbcjaaaGreatAbJ
import Derived.Laws.IdiomStrings
namespace Go.Proofs.YtoemclhjcbcjaaaGreat.AB
open Go
set_option linter.unusedVariables false
set_option linter.unusedSimpArgs false

section
variable {P : Program} {Γ : Gm} {S : Nat → Prop} {ν : Id → Value} {st : St} {a : Act} {w : World} {o : Oper} {T : Tab} {so : SOp} {d : Nat} {p : Prop} {y : AV} {ob : Option Ob}

theorem bytesOf_nums : ∀ {xs : List (List C)} {l : List UInt8}, bytesOf xs = some l → ∃ ns : List Int, xs = ns.map (fun n => [C.v (.int .u8 n)]) ∧ l = ns.map fun n => UInt8.ofNat n.toNat
  | [], l, h => by simp only [bytesOf, Option.some.injEq] at h; subst h; exact ⟨[], rfl, rfl⟩
  | r :: xs, l, h => by
    unfold bytesOf at h
    split at h
    · rename_i heq; cases heq
    · rename_i n r' heq
      obtain ⟨rfl, rfl⟩ := List.cons.inj heq
      obtain ⟨l', hl', rfl⟩ := Option.map_eq_some_iff.1 h
      obtain ⟨ns, rfl, rfl⟩ := bytesOf_nums hl'
      exact ⟨n :: ns, rfl, rfl⟩
    · cases h

theorem push_all : ∀ (ns : List Int) (s : ByteArray), ns.foldl (fun r n => r.push (UInt8.ofNat n.toNat)) s = ⟨(sb s ++ ns.map fun n => UInt8.ofNat n.toNat).toArray⟩
  | [], s => by simp [str_sb]
  | n :: ns, s => by
    simp only [List.foldl_cons, push_all ns]
    congr 2
    simp [sb, ByteArray.push]

theorem im_string {S : Nat → Prop} {v : Value} {xs : List (List C)} {l : List UInt8} (h : Im S w v (.sl xs)) (hl : bytesOf xs = some l) : (Conv.bytesToString v).run P w = .ok (.string ⟨l.toArray⟩) w ∧ ∃ ad n c, v = .slice ad n c := by
  obtain ⟨ns, rfl, rfl⟩ := bytesOf_nums hl
  generalize hxs : ns.map (fun n => [C.v (.int .u8 n)]) = xs at h
  cases h with
  | nil =>
    obtain rfl : ns = [] := by simpa using hxs
    exact ⟨by simp [Conv.bytesToString]; rfl, _, _, _, rfl⟩
  | sl u hs hS hn hc hm hz hu hi =>
    rename_i ad n cap sz
    subst hxs
    refine ⟨?_, _, _, _, rfl⟩
    have hr := run_bytesToString (P := P) w ad n cap ns ?_
    · rw [hr, push_all]; simp [sb]
    · have := run_loadCells_list (P := P) (w := w) ad (ns.map (Value.int .u8)) (fun j v hv => ?_)
      · rwa [List.length_map, ← List.length_map (f := fun n => [C.v (.int .u8 n)]) (as := ns), hn] at this
      · rw [List.getElem?_map] at hv
        obtain ⟨q, hq, rfl⟩ := Option.map_eq_some_iff.1 hv
        have hr : (ns.map (fun n => [C.v (.int .u8 n)]))[j]? = some [C.v (.int .u8 q)] := by rw [List.getElem?_map, hq]; rfl
        have hsz : sz = 1 := (hz _ (List.mem_of_getElem? hr)).symm
        subst hsz
        have h1 := hu j _ 0 _ hr rfl
        have h2 := (hi j _ 0 _ hr rfl).scal_eq.1
        simp only [Nat.mul_one, Nat.add_zero] at h1 h2
        rw [h1, h2]

theorem q_cvbs {s t e : TypeId} {i j i8 : TI} {x : Operand} {l : List UInt8} {S' : Nat → Prop} {xs : List (List C)} (ho : o.op = .convert s t x) (hi : tiOk P s i = true) (hj : tiOk P t j = true) (hu : i.u = .slice e) (hv : j.u = .str)
    (he : tiOk P e i8 = true) (h8 : i8.u = .int .u8) (hx : Im S' w (a.eval x) (.sl xs)) (hl : bytesOf xs = some l) (k : RepW Γ S ν st a w) (hd : d < Γ.N) :
    Gives P Γ a w (execOp a.eval o) d (st.give d (.c false (.v (.string ⟨l.toArray⟩))) none) := by
  obtain ⟨h1, ad, n, c, h2⟩ := im_string (P := P) hx hl
  have e1 := und_slice (P := P) (t := s) (e := e) (by rw [← hu]; exact tyOk_of hi)
  have e2 := und_str (P := P) (t := t) (by rw [← hv]; exact tyOk_of hj)
  have e3 := und_int (P := P) (t := e) (k := .u8) (by rw [← h8]; exact tyOk_of he)
  refine .pure k hd ?_ (.c (.v rfl))
  simp only [execOp, ho]
  refine run_v ?_
  rw [h2] at h1 ⊢
  rw [run_convert_bytes_string w s t e _ _ _ e1 e3 e2]
  exact h1

theorem q_cvsb {s t e : TypeId} {i j i8 : TI} {x : Operand} {b : Bool} {sv : ByteArray} (ho : o.op = .convert s t x) (hi : tiOk P s i = true) (hj : tiOk P t j = true) (hu : i.u = .str) (hv : j.u = .slice e)
    (he : tiOk P e i8 = true) (h8 : i8.u = .int .u8) (hx : evalO st x = .c b (.v (.string sv))) (hlen : (sb sv).length ≤ 140737488355328) (k : RepW Γ S ν st a w) (hd : d < Γ.N) (hf : st.h (.s d 0) = none) :
    Gives P Γ a w (execOp a.eval o) d (st.give d (.own (.s d 0)) (some (.row false e 1 (bytesC (sb sv))))) := by
  have hle := (evalO_v k hx).1
  have e1 := und_str (P := P) (t := s) (by rw [← hu]; exact tyOk_of hi)
  have e2 := und_slice (P := P) (t := t) (e := e) (by rw [← hv]; exact tyOk_of hj)
  have e3 := und_int (P := P) (t := e) (k := .u8) (by rw [← h8]; exact tyOk_of he)
  have hr := run_bytes_of_string (P := P) w s t e sv e1 e2 e3
  have hsz : (sb sv).length = sv.size := Array.length_toList
  have hge := grownCap_ge w sv.size 0 e
  have hle2 := grownCap_le_maxLen w sv.size 0 e (by simp only [maxLen]; omega)
  generalize grownCap w sv.size 0 e = cap at *
  have hrs : (bytesRow sv cap).size = cap := by
    simp only [bytesRow, Array.size_append, Array.size_map, Array.size_replicate]
    have : sv.data.size = sv.size := rfl
    omega
  refine .new k hd (v := .slice (some ⟨w.heap.size, 0, none⟩) sv.size cap) (us := bytesRow sv cap) (T := e) (fz := ((bytesRow sv cap).size, (bytesRow sv cap).size + 1)) (w' := w.drew.alloc (.cells (bytesRow sv cap) e ((bytesRow sv cap).size, (bytesRow sv cap).size + 1))) ?_ rfl rfl rfl rfl hf
    (.inr ⟨false, 1, bytesC (sb sv), sv.size, cap, rfl, .inr (Nat.le_refl _), rfl, by omega, fun r hr => ?_, by simp [bytesC, hsz], hge, hle2, by rw [hrs, Nat.mul_one], fun m r oo c hr hc => ?_⟩) (.inr ⟨rfl, _, _, _, _, rfl⟩)
  · simp only [execOp, ho, hle]
    exact run_v hr
  · obtain ⟨y, _, rfl⟩ := List.mem_map.1 hr; rfl
  · simp only [bytesC, List.getElem?_map] at hr
    obtain ⟨y, hy, rfl⟩ := Option.map_eq_some_iff.1 hr
    cases oo with
    | zero =>
      simp only [List.getElem?_cons_zero, Option.some.injEq] at hc
      subst hc
      have hm : m < sv.data.size := by
        have := (List.getElem?_eq_some_iff.1 hy).1
        rw [hsz] at this; exact this
      refine ⟨_, by rw [Nat.mul_one, Nat.add_zero]; exact bytesRow_at sv cap m hm, rfl, ?_⟩
      have : sv.data[m] = y := by
        have h1 := (List.getElem?_eq_some_iff.1 hy).2
        simpa [sb] using h1
      rw [this]
      exact .v rfl
    | succ oo => simp at hc

theorem getD_some {α : Type} {l : List α} {i : Nat} {x : α} (h : i < l.length) : l[i]? = some (l.getD i x) := by
  rw [List.getD_eq_getElem?_getD, List.getElem?_eq_getElem h]; rfl

def Tab.plain (T : Tab) : Bool := T.rows.all fun p => p.2.zero.all (·.oneCell') && p.2.zero.length == p.2.size
theorem Tab.at_plain2 {T : Tab} (h : T.plain = true) {t : Nat} {i : TI} (ht : T.at t = some i) : (i.zero.all (·.oneCell') && i.zero.length == i.size) = true := by
  obtain ⟨L, M⟩ := T
  unfold Tab.plain at h
  unfold Tab.at at ht
  simp only at h ht
  induction L with
  | nil => cases ht
  | cons p r ih =>
    rw [List.all_cons, Bool.and_eq_true] at h
    simp only [atL] at ht
    split at ht
    · obtain rfl := Option.some.inj ht; exact h.1
    · exact ih h.2 ht

theorem Tab.at_plain {T : Tab} (h : T.plain = true) {t : Nat} {i : TI} (ht : T.at t = some i) : i.zero.all (·.oneCell') = true := by
  have := Tab.at_plain2 h ht; rw [Bool.and_eq_true] at this; exact this.1
theorem Tab.at_len {T : Tab} (h : T.plain = true) {t : Nat} {i : TI} (ht : T.at t = some i) : i.zero.length = i.size := by
  have := Tab.at_plain2 h ht; rw [Bool.and_eq_true] at this; simpa using this.2

theorem fieldOf_ok {t f : Nat} {q : Nat × Nat × Bool} (h : fieldOf T t f = some q) : ∃ i fs, T.at t = some i ∧ i.u = .struct fs ∧ fs[f]? = some q := by
  unfold fieldOf at h
  split at h
  · rename_i i fs hh; exact ⟨_, _, hh, rfl, h⟩
  · cases h

set_option maxHeartbeats 1000000 in
theorem q_sound (hT : Tab.ok P T = true) (hTp : T.plain = true) (hc : compOp T o.op = some so) (hq : qf st d so = some (p, y, ob)) (hp : p) (hf : ob.isSome = true → st.h (.s d 0) = none)
    (k : RepW Γ S ν st a w) (hd : d < Γ.N) : Gives P Γ a w (execOp a.eval o) d (st.give d y ob) := by
  have ok : ∀ {t i}, T.at t = some i → tiOk P t i = true := fun h => Tab.at_ok hT h
  cases hop : o.op <;> rw [hop] at hc <;> simp only [compOp, reduceCtorEq, Option.some.injEq] at hc
  case move x =>
    subst hc
    simp only [qf, Option.some.injEq, Prod.mk.injEq] at hq
    obtain ⟨_, rfl, rfl⟩ := hq
    exact q_mv (.inl hop) k hd
  case assign x =>
    subst hc
    simp only [qf, Option.some.injEq, Prod.mk.injEq] at hq
    obtain ⟨_, rfl, rfl⟩ := hq
    exact q_mv (.inr hop) k hd
  case pick c x z =>
    subst hc
    simp only [qf] at hq
    split at hq
    · rename_i hx
      simp only [Option.some.injEq, Prod.mk.injEq] at hq
      obtain ⟨_, rfl, rfl⟩ := hq
      exact q_pick hop hx k hd
    · cases hq
  case alloc e =>
    split at hc
    · rename_i i hi
      obtain rfl := Option.some.inj hc
      simp only [qf, Option.some.injEq, Prod.mk.injEq] at hq
      obtain ⟨_, rfl, rfl⟩ := hq
      exact q_alloc hop (ok hi) (Tab.at_plain hTp hi) k hd (hf rfl)
    · cases hc
  case box e x =>
    subst hc
    simp only [qf] at hq
    split at hq
    · rename_i cs hx
      simp only [Option.some.injEq, Prod.mk.injEq] at hq
      obtain ⟨_, rfl, rfl⟩ := hq
      exact q_box hop hx k hd (hf rfl)
    · cases hq
  case build t ps =>
    split at hc
    · rename_i fs sz by_ z ek ht
      obtain ⟨qs, hqs, rfl⟩ := Option.map_eq_some_iff.1 hc
      simp only [qf] at hq
      split at hq
      · rename_i p' cs hb
        simp only [Option.some.injEq, Prod.mk.injEq] at hq
        obtain ⟨rfl, rfl, rfl⟩ := hq
        exact q_bld hop (ok ht) (Tab.at_plain hTp ht) (.inl ⟨fs, rfl, hqs⟩) hb hp k hd
      · cases hq
    · rename_i n e sz by_ z ek ht
      split at hc
      · rename_i i hi
        obtain rfl := Option.some.inj hc
        simp only [qf] at hq
        split at hq
        · rename_i p' cs hb
          simp only [Option.some.injEq, Prod.mk.injEq] at hq
          obtain ⟨rfl, rfl, rfl⟩ := hq
          exact q_bld hop (ok ht) (Tab.at_plain hTp ht) (.inr ⟨_, _, _, rfl, ok hi, rfl⟩) hb hp k hd
        · cases hq
      · cases hc
    · cases hc
  case buildSlice t n ps =>
    split at hc
    · rename_i e sz by_ z ek ht
      split at hc
      · rename_i i xs hi hx
        split at hc
        · rename_i hcond
          obtain rfl := Option.some.inj hc
          simp only [qf] at hq
          split at hq
          · rename_i p' b rs hb
            split at hq
            · simp only [Option.some.injEq, Prod.mk.injEq] at hq
              obtain ⟨rfl, rfl, rfl⟩ := hq
              exact q_bslz hop (ok ht) rfl (ok hi) hx hcond.1 hcond.2.1 hcond.2.2 hb hp k hd
            · simp only [Option.some.injEq, Prod.mk.injEq] at hq
              obtain ⟨rfl, rfl, rfl⟩ := hq
              exact q_bsl hop (ok ht) rfl (ok hi) hx hcond.1 hcond.2.1 hcond.2.2 hb hp k hd (hf rfl)
          · cases hq
        · cases hc
      · cases hc
    · cases hc
  case load t x =>
    split at hc
    · rename_i i hi
      split at hc
      · rename_i hg
        obtain rfl := Option.some.inj hc
        simp only [qf] at hq
        split at hq
        · rename_i xs hx
          simp only [Option.some.injEq, Prod.mk.injEq] at hq
          obtain ⟨rfl, rfl, rfl⟩ := hq
          exact q_loadn hop (ok hi) hg hx hp k hd
        · cases hq
      · rename_i hg
        obtain rfl := Option.some.inj hc
        simp only [qf] at hq
        split at hq
        · rename_i xs hx
          simp only [Option.some.injEq, Prod.mk.injEq] at hq
          obtain ⟨rfl, rfl, rfl⟩ := hq
          exact q_load1 hop (ok hi) (by simpa using hg) hx (getD_some hp) k hd
        · cases hq
    · cases hc
  case store t x v =>
    split at hc
    · obtain rfl := Option.some.inj hc; simp [qf] at hq
    · cases hc
  case nilCheck x =>
    subst hc
    simp only [qf] at hq
    split at hq
    · rename_i hx
      simp only [Option.some.injEq, Prod.mk.injEq] at hq
      obtain ⟨_, rfl, rfl⟩ := hq
      exact q_nilc hop hx trivial k hd
    · rename_i hx
      simp only [Option.some.injEq, Prod.mk.injEq] at hq
      obtain ⟨_, rfl, rfl⟩ := hq
      exact q_nilc hop hx trivial k hd
    · rename_i hx
      simp only [Option.some.injEq, Prod.mk.injEq] at hq
      obtain ⟨_, rfl, rfl⟩ := hq
      exact q_nilc hop hx trivial k hd
    · rename_i hx
      simp only [Option.some.injEq, Prod.mk.injEq] at hq
      obtain ⟨_, rfl, rfl⟩ := hq
      exact q_nilc hop hx trivial k hd
    · rename_i hx
      simp only [Option.some.injEq, Prod.mk.injEq] at hq
      obtain ⟨_, rfl, rfl⟩ := hq
      exact q_nilc hop hx trivial k hd
    · cases hq
  case binOp op t x z t' =>
    split at hc
    · rename_i i hi
      split at hc
      · rename_i hg
        split at hc
        · cases hc
        rename_i hek
        have hek' : i.eqk.isEmpty = false := by simpa using hek
        split at hc
        · obtain rfl := Option.some.inj hc
          simp only [qf] at hq
          split at hq
          · rename_i xs ys hx hz
            split at hq
            · rename_i us vs hu hv
              simp only [Option.some.injEq, Prod.mk.injEq] at hq
              obtain ⟨rfl, rfl, rfl⟩ := hq
              exact q_eqa false hop (ok hi) hek' hx hz hu hv hp k hd
            · cases hq
          · cases hq
        · obtain rfl := Option.some.inj hc
          simp only [qf] at hq
          split at hq
          · rename_i xs ys hx hz
            split at hq
            · rename_i us vs hu hv
              simp only [Option.some.injEq, Prod.mk.injEq] at hq
              obtain ⟨rfl, rfl, rfl⟩ := hq
              exact q_eqa true hop (ok hi) hek' hx hz hu hv hp k hd
            · cases hq
          · cases hq
        · cases hc
      · rename_i hg
        obtain rfl := Option.some.inj hc
        simp only [qf] at hq
        split at hq
        · rename_i u u' hx hz
          split at hq
          · rename_i p' v hv
            simp only [Option.some.injEq, Prod.mk.injEq] at hq
            obtain ⟨rfl, rfl, rfl⟩ := hq
            exact q_bin hop (ok hi) (by simpa using hg) hx hz hv hp.1 (fun b hb => by subst hb; simpa using hp.2 rfl) (binV_scal hv) k hd
          · cases hq
        · cases hq
    · cases hc
  case unOp op t x =>
    subst hc
    simp only [qf] at hq
    split at hq
    · rename_i u hx
      split at hq
      · rename_i v hv
        simp only [Option.some.injEq, Prod.mk.injEq] at hq
        obtain ⟨_, rfl, rfl⟩ := hq
        exact q_un hop hx hv k hd
      · cases hq
    · cases hq
  case convert s t x =>
    split at hc
    · rename_i i j hi hj
      split at hc
      · rename_i k0 k1 hu hv
        obtain rfl := Option.some.inj hc
        simp only [qf] at hq
        split at hq
        · rename_i hx
          simp only [Option.some.injEq, Prod.mk.injEq] at hq
          obtain ⟨_, rfl, rfl⟩ := hq
          exact q_cvi hop (ok hi) (ok hj) hu hv hx k hd
        · cases hq
      · rename_i hu hv
        obtain rfl := Option.some.inj hc
        simp only [qf] at hq
        split at hq
        · rename_i hx
          simp only [Option.some.injEq, Prod.mk.injEq] at hq
          obtain ⟨_, rfl, rfl⟩ := hq
          exact q_cvss hop (ok hi) (ok hj) hu hv hx k hd
        · cases hq
      · rename_i e hu hv
        split at hc
        · rename_i sz by_ z ek he
          obtain rfl := Option.some.inj hc
          simp only [qf] at hq
          split at hq
          · rename_i b xs hx
            split at hq
            · rename_i l hl
              simp only [Option.some.injEq, Prod.mk.injEq] at hq
              obtain ⟨_, rfl, rfl⟩ := hq
              have hv' := evalO_is k hx
              cases hv' with
              | c him => exact q_cvbs hop (ok hi) (ok hj) hu hv (ok he) rfl him hl k hd
            · cases hq
          · rename_i id hx
            split at hq
            · rename_i bor e2 sz2 xs hid
              split at hq
              · rename_i l hl
                simp only [Option.some.injEq, Prod.mk.injEq] at hq
                obtain ⟨_, rfl, rfl⟩ := hq
                have hv' := evalO_is k hx
                generalize hve : a.eval x = v at hv'
                cases hv' with
                | own _ => exact q_cvbs hop (ok hi) (ok hj) hu hv (ok he) rfl (by rw [hve]; exact k.ok.im hid) hl k hd
              · cases hq
            · cases hq
          · rename_i hx
            simp only [Option.some.injEq, Prod.mk.injEq] at hq
            obtain ⟨_, rfl, rfl⟩ := hq
            have hv' := evalO_is k hx
            generalize hve : a.eval x = v at hv'
            cases hv' with
            | nil => exact q_cvbs (S' := fun _ => False) (l := []) (xs := []) hop (ok hi) (ok hj) hu hv (ok he) rfl (by rw [hve]; exact .nil) rfl k hd
          · cases hq
        · cases hc
      · rename_i e hu hv
        split at hc
        · rename_i sz by_ z ek he
          obtain rfl := Option.some.inj hc
          simp only [qf] at hq
          split at hq
          · rename_i hx
            simp only [Option.some.injEq, Prod.mk.injEq] at hq
            obtain ⟨rfl, rfl, rfl⟩ := hq
            exact q_cvsb hop (ok hi) (ok hj) hu hv (ok he) rfl hx hp k hd (hf rfl)
          · cases hq
        · cases hc
      · cases hc
    · cases hc
  case makeFunc fn first caps =>
    unfold compFn at hc
    split at hc
    · rename_i f
      split at hc
      · rename_i h0
        obtain rfl := Option.some.inj hc
        simp only [qf, Option.some.injEq, Prod.mk.injEq] at hq
        obtain ⟨_, rfl, rfl⟩ := hq
        exact q_mkf hop h0 k hd
      · cases hc
    · cases hc
  case makeSlice t l cc =>
    split at hc
    · rename_i e sz by_ z ek ht
      split at hc
      · rename_i i x z' hi
        split at hc
        · rename_i hxz
          subst hxz
          obtain rfl := Option.some.inj hc
          simp only [qf] at hq
          split at hq
          · rename_i hx
            simp only [Option.some.injEq, Prod.mk.injEq] at hq
            obtain ⟨rfl, rfl, rfl⟩ := hq
            obtain ⟨h1, h2, h3, h4, h5, h6⟩ := hp
            exact q_mks hop (ok ht) rfl (ok hi) hx rfl h1 h2 h3 h4 h6 h5 k hd (hf rfl)
          · cases hq
        · cases hc
      · rename_i i x z' hi
        split at hc
        · rename_i hxz
          subst hxz
          obtain rfl := Option.some.inj hc
          simp only [qf] at hq
          split at hq
          · rename_i hx
            simp only [Option.some.injEq, Prod.mk.injEq] at hq
            obtain ⟨rfl, rfl, rfl⟩ := hq
            obtain ⟨h1, h2, h3, h4, h5, h6⟩ := hp
            exact q_mks hop (ok ht) rfl (ok hi) hx rfl h1 h2 h3 h4 h6 h5 k hd (hf rfl)
          · cases hq
        · cases hc
      · cases hc
    · cases hc
  case fieldAddr t x f =>
    obtain ⟨q, hq0, rfl⟩ := Option.map_eq_some_iff.1 hc
    obtain ⟨i, fs, hi, hu, hfs⟩ := fieldOf_ok hq0
    obtain ⟨off, n, g⟩ := q
    simp only [qf] at hq
    split at hq
    · rename_i hx
      simp only [Option.some.injEq, Prod.mk.injEq] at hq
      obtain ⟨_, rfl, rfl⟩ := hq
      exact q_fad hop (ok hi) hu hfs (by rw [hx]; rfl) k hd
    · rename_i hx
      simp only [Option.some.injEq, Prod.mk.injEq] at hq
      obtain ⟨_, rfl, rfl⟩ := hq
      exact q_fad hop (ok hi) hu hfs (by rw [hx]; rfl) k hd
    · rename_i hx
      simp only [Option.some.injEq, Prod.mk.injEq] at hq
      obtain ⟨_, rfl, rfl⟩ := hq
      exact q_fad hop (ok hi) hu hfs (by rw [hx]; rfl) k hd
    · rename_i hx
      simp only [Option.some.injEq, Prod.mk.injEq] at hq
      obtain ⟨_, rfl, rfl⟩ := hq
      exact q_fad hop (ok hi) hu hfs (by rw [hx]; rfl) k hd
    · cases hq
  case field t x f =>
    obtain ⟨q, hq0, hso⟩ := Option.map_eq_some_iff.1 hc
    obtain ⟨i, fs, hi, hu, hfs⟩ := fieldOf_ok hq0
    obtain ⟨off, n, g⟩ := q
    cases g
    · simp only [Bool.false_eq_true, if_false] at hso
      subst hso
      simp only [qf] at hq
      split at hq
      · rename_i hx
        simp only [Option.some.injEq, Prod.mk.injEq] at hq
        obtain ⟨rfl, rfl, rfl⟩ := hq
        exact q_fld1 hop (ok hi) hu hfs hx (getD_some hp) k hd
      · cases hq
    · simp only [if_true] at hso
      subst hso
      simp only [qf] at hq
      split at hq
      · rename_i hx
        simp only [Option.some.injEq, Prod.mk.injEq] at hq
        obtain ⟨rfl, rfl, rfl⟩ := hq
        exact q_fldn hop (ok hi) hu hfs hx k hd
      · cases hq
  case indexAddr t x n =>
    split at hc
    · rename_i e sz by_ z ek ht
      obtain ⟨j, hj, rfl⟩ := Option.map_eq_some_iff.1 hc
      simp only [qf] at hq
      split at hq
      · rename_i id b kk m hx hn
        split at hq
        · rename_i bor e' sz' xs hid
          simp only [Option.some.injEq, Prod.mk.injEq] at hq
          obtain ⟨rfl, rfl, rfl⟩ := hq
          obtain ⟨rfl, h0, h1⟩ := hp
          exact q_iad_own hop (ok ht) rfl (ok hj) hx hid hn h0 h1 k hd
        · cases hq
      · rename_i b' xs b kk m hx hn
        simp only [Option.some.injEq, Prod.mk.injEq] at hq
        obtain ⟨rfl, rfl, rfl⟩ := hq
        exact q_iad_im hop (ok ht) rfl (ok hj) hx hp.1 hn hp.2.1 hp.2.2 k hd
      · rename_i id xs b kk m hx hn
        simp only [Option.some.injEq, Prod.mk.injEq] at hq
        obtain ⟨rfl, rfl, rfl⟩ := hq
        exact q_iad_rg hop (ok ht) rfl (ok hj) hx hp.1 hn hp.2.1 hp.2.2 k hd
      · cases hq
    · rename_i n' e sz by_ z ek ht
      obtain ⟨j, hj, rfl⟩ := Option.map_eq_some_iff.1 hc
      simp only [qf] at hq
      split at hq
      · rename_i hx hn
        simp only [Option.some.injEq, Prod.mk.injEq] at hq
        obtain ⟨rfl, rfl, rfl⟩ := hq
        exact q_iada hop (ok ht) rfl (ok hj) (by rw [hx]; rfl) hn hp.1 hp.2 k hd
      · rename_i hx hn
        simp only [Option.some.injEq, Prod.mk.injEq] at hq
        obtain ⟨rfl, rfl, rfl⟩ := hq
        exact q_iada hop (ok ht) rfl (ok hj) (by rw [hx]; rfl) hn hp.1 hp.2 k hd
      · cases hq
    · cases hc
  case index t x n =>
    split at hc
    · rename_i sz by_ z ek ht
      obtain rfl := Option.some.inj hc
      simp only [qf] at hq
      split at hq
      · rename_i hx hn
        simp only [Option.some.injEq, Prod.mk.injEq] at hq
        obtain ⟨rfl, rfl, rfl⟩ := hq
        exact q_sidx hop (ok ht) rfl hx hn hp.1 hp.2 k hd
      · cases hq
    · rename_i n' e sz by_ z ek ht
      split at hc
      · rename_i j hj
        split at hc
        · cases hc
        rename_i hg
        split at hc
        · rename_i h1s
          obtain rfl := Option.some.inj hc
          simp only [qf] at hq
          split at hq
          · rename_i hx hn
            simp only [Option.some.injEq, Prod.mk.injEq] at hq
            obtain ⟨rfl, rfl, rfl⟩ := hq
            exact q_aidx hop (ok ht) rfl (ok hj) (by simpa using hg) h1s hx hp.1 hn hp.2.1 hp.2.2 k hd
          · cases hq
        · cases hc
      · cases hc
    · cases hc
  case slice t x lo hi mx =>
    split at hc
    · rename_i sz by_ z ek hmx ht
      obtain rfl := Option.some.inj hc
      simp only [qf] at hq
      split at hq
      · rename_i hx hl hh
        simp only [Option.some.injEq, Prod.mk.injEq] at hq
        obtain ⟨rfl, rfl, rfl⟩ := hq
        exact q_sls hop (ok ht) rfl hx hl hh hp.1 hp.2.1 hp.2.2 k hd
      · cases hq
    · rename_i e sz by_ z ek hmx ht
      obtain ⟨j, hj, rfl⟩ := Option.map_eq_some_iff.1 hc
      simp only [qf] at hq
      split at hq
      · rename_i hx hl hh
        simp only [Option.some.injEq, Prod.mk.injEq] at hq
        obtain ⟨rfl, rfl, rfl⟩ := hq
        exact q_slc_im hop (ok ht) rfl (ok hj) hx hp.1 hl hh hp.2.1 hp.2.2.1 hp.2.2.2 k hd
      · rename_i hx hl hh
        split at hq
        · rename_i hid
          simp only [Option.some.injEq, Prod.mk.injEq] at hq
          obtain ⟨rfl, rfl, rfl⟩ := hq
          obtain ⟨rfl, h0, h1, h2⟩ := hp
          exact q_slc_own hop (ok ht) rfl (ok hj) hx hid hl hh h0 h1 h2 k hd
        · cases hq
      · cases hq
    · cases hc
  case extract x n =>
    subst hc
    simp only [qf] at hq
    split at hq
    · rename_i hx
      simp only [Option.some.injEq, Prod.mk.injEq] at hq
      obtain ⟨rfl, rfl, rfl⟩ := hq
      exact q_ext hop hx (getD_some hp) k hd
    · cases hq
  case call c =>
    obtain ⟨callee, args, argTypes⟩ := c
    unfold compCall at hc
    simp only at hc
    split at hc
    · rename_i b
      unfold compB at hc
      split at hc
      · split at hc
        · rename_i x t hxs hts
          split at hc
          · rename_i i hi
            obtain rfl : args = #[x] := by apply Array.toList_inj.1; simpa using hxs
            obtain rfl : argTypes = #[t] := by apply Array.toList_inj.1; simpa using hts
            split at hc
            · rename_i hu
              obtain rfl := Option.some.inj hc
              simp only [qf] at hq
              split at hq
              · rename_i hx
                simp only [Option.some.injEq, Prod.mk.injEq] at hq
                obtain ⟨_, rfl, rfl⟩ := hq
                exact q_lens hop (ok hi) hu hx k hd
              · cases hq
            · rename_i e hu
              obtain rfl := Option.some.inj hc
              have fin : ∀ n : Nat, (match evalO st x with
                  | .c _ (.sl xs) => n = xs.length
                  | .own i => ∃ b e sz xs, st.h i = some (.row b e sz xs) ∧ n = xs.length
                  | .vw i lo m => ∃ b e sz xs, st.h i = some (.row b e sz xs) ∧ n = ((xs.drop lo).take m).length
                  | .nil => n = 0
                  | .rg _ (.sl xs) => n = xs.length
                  | _ => False) → Gives P Γ a w (execOp a.eval o) d (st.give d (.c false (.v (.int .i64 (n : Int)))) none) := by
                intro n hn
                obtain ⟨ad, cap, hx⟩ := len_of k hn
                exact q_len hop (ok hi) hu hx k hd
              simp only [qf] at hq
              split at hq
              · rename_i hx
                simp only [Option.some.injEq, Prod.mk.injEq] at hq
                obtain ⟨_, rfl, rfl⟩ := hq
                exact fin _ (by rw [hx])
              · rename_i hx
                split at hq
                · rename_i hid
                  simp only [Option.some.injEq, Prod.mk.injEq] at hq
                  obtain ⟨_, rfl, rfl⟩ := hq
                  exact fin _ (by rw [hx]; exact ⟨_, _, _, _, hid, rfl⟩)
                · cases hq
              · rename_i hx
                split at hq
                · rename_i hid
                  simp only [Option.some.injEq, Prod.mk.injEq] at hq
                  obtain ⟨_, rfl, rfl⟩ := hq
                  exact fin _ (by rw [hx]; exact ⟨_, _, _, _, hid, rfl⟩)
                · cases hq
              · rename_i hx
                simp only [Option.some.injEq, Prod.mk.injEq] at hq
                obtain ⟨_, rfl, rfl⟩ := hq
                exact fin 0 (by rw [hx])
              · rename_i hx
                simp only [Option.some.injEq, Prod.mk.injEq] at hq
                obtain ⟨_, rfl, rfl⟩ := hq
                exact fin _ (by rw [hx])
              · cases hq
            · cases hc
          · cases hc
        · cases hc
      · split at hc
        · rename_i x z hxs
          obtain rfl : args = #[x, z] := by apply Array.toList_inj.1; simpa using hxs
          obtain rfl := Option.some.inj hc
          simp only [qf] at hq
          split at hq
          · rename_i hx hz
            simp only [Option.some.injEq, Prod.mk.injEq] at hq
            obtain ⟨_, rfl, rfl⟩ := hq
            exact q_int2 true hop hx hz k hd
          · cases hq
        · cases hc
      · split at hc
        · rename_i x z hxs
          obtain rfl : args = #[x, z] := by apply Array.toList_inj.1; simpa using hxs
          obtain rfl := Option.some.inj hc
          simp only [qf] at hq
          split at hq
          · rename_i hx hz
            simp only [Option.some.injEq, Prod.mk.injEq] at hq
            obtain ⟨_, rfl, rfl⟩ := hq
            exact q_int2 false hop hx hz k hd
          · cases hq
        · cases hc
      · split at hc
        · split at hc
          · split at hc
            · split at hc
              · obtain ⟨j, _, rfl⟩ := Option.map_eq_some_iff.1 hc
                simp [qf] at hq
              · cases hc
            · cases hc
          · cases hc
        · cases hc
      · cases hc
    · split at hc <;> (obtain rfl := Option.some.inj hc; simp [qf] at hq)
    · obtain rfl := Option.some.inj hc
      simp [qf] at hq
    · cases hc
end
end Go.Proofs.YtoemclhjcbcjaaaGreat.AB
