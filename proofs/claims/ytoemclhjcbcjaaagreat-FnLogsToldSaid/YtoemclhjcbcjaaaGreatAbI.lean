/- What an operation makes of the slots is what the model makes of their values: comparisons of structs, literals, make. -/
import Derived.Test.YtoemclhjcbcjaaaGreatAbH
import Derived.Laws.StructEq
namespace Go.Proofs.YtoemclhjcbcjaaaGreat.AB
open Go
set_option linter.unusedVariables false
set_option linter.unusedSimpArgs false

section
variable {P : Program} {Γ : Gm} {S : Nat → Prop} {ν : Id → Value} {st : St} {a : Act} {w : World} {o : Oper} {T : Tab} {so : SOp} {d : Nat} {p : Prop} {y : AV} {ob : Option Ob}

theorem fitsL_len : ∀ {ks : List Kd} {us vs : List Value}, Kd.fitsL ks us vs = true → us.length = ks.length ∧ vs.length = ks.length
  | [], [], [], _ => ⟨rfl, rfl⟩
  | _ :: ks, _ :: us, _ :: vs, h => by
    simp only [Kd.fitsL, Bool.and_eq_true] at h
    have := fitsL_len h.2
    simp [this.1, this.2]
  | [], _ :: _, _, h => by simp [Kd.fitsL] at h
  | [], [], _ :: _, h => by simp [Kd.fitsL] at h
  | _ :: _, [], _, h => by simp [Kd.fitsL] at h
  | _ :: _, _ :: _, [], h => by simp [Kd.fitsL] at h

theorem fitsL_append : ∀ {ks ls : List Kd} {us vs : List Value}, Kd.fitsL (ks ++ ls) us vs = true →
    Kd.fitsL ks (us.take ks.length) (vs.take ks.length) = true ∧ Kd.fitsL ls (us.drop ks.length) (vs.drop ks.length) = true
  | [], _, _, _, h => by simpa [Kd.fitsL] using h
  | _ :: ks, ls, u :: us, v :: vs, h => by
    simp only [List.cons_append, Kd.fitsL, Bool.and_eq_true] at h
    have := fitsL_append h.2
    simpa [Kd.fitsL, h.1] using this
  | _ :: _, _, [], _, h => by simp [Kd.fitsL] at h
  | _ :: _, _, _ :: _, [], h => by simp [Kd.fitsL] at h

theorem valsEq_append : ∀ {us us' vs vs' : List Value}, us.length = vs.length → valsEq (us ++ us') (vs ++ vs') = (valsEq us vs && valsEq us' vs')
  | [], _, [], _, _ => by simp [valsEq]
  | u :: us, us', v :: vs, vs', h => by
    simp only [List.cons_append, valsEq]
    rw [valsEq_append (by simpa using h), Bool.and_assoc]
  | [], _, _ :: _, _, h => by simp at h
  | _ :: _, _, [], _, h => by simp at h

theorem scalar_eq {kd : Kd} {t : TypeId} {u v : Value} (hf : Kd.fits kd u v = true) (ht : (kd = .i ∧ ∃ k0, P.underlying t = some (.int k0)) ∨ (kd = .b ∧ P.underlying t = some .bool) ∨ (kd = .s ∧ P.underlying t = some .string)) (q : Nat) :
    (Op.equalIn (q + 1) t u v).run P w = .ok (valEq u v) w := by
  rcases ht with ⟨rfl, k0, h⟩ | ⟨rfl, h⟩ | ⟨rfl, h⟩ <;> cases u <;> cases v <;> simp only [Kd.fits, reduceCtorEq, beq_iff_eq] at hf
  · subst hf
    rw [run_equalIn_int w q t _ _ _ _ h]
    simp [valEq]
  · rw [run_equalIn_bool' w q t _ _ h]; rfl
  · rename_i a b
    rw [run_equalIn_string w q t _ _ h, ByteArray.toList_eq, ByteArray.toList_eq]; rfl

theorem eqf_run (E : ∀ t ks, flatK P (d + 1) t = some ks → ∀ us vs, Kd.fitsL ks us vs = true → ∀ u v, (if aggOf P t then u = .agg us.toArray ∧ v = .agg vs.toArray else us = [u] ∧ vs = [v]) → ∀ q, d + 1 ≤ q → (Op.equalIn q t u v).run P w = .ok (valsEq us vs) w) :
    ∀ (fs : List Field) (off : Nat) (ks : List Kd), flatFs P (flatK P (d + 1)) fs off = some ks → ∀ (xs ys : List Value), Kd.fitsL ks ((xs.drop off).take ks.length) ((ys.drop off).take ks.length) = true → ∀ q, d + 1 ≤ q →
      (Op.eqFields q xs.toArray ys.toArray fs).run P w = .ok (valsEq ((xs.drop off).take ks.length) ((ys.drop off).take ks.length)) w
  | [], off, ks, h, xs, ys, hf, q, hq => by
    simp only [flatFs, Option.some.injEq] at h; subst h
    simp [Op.eqFields, valsEq]
  | f :: r, off, ks, h, xs, ys, hf, q, hq => by
    simp only [flatFs] at h
    split at h
    · cases h
    rename_i hn
    simp only [Bool.or_eq_true, beq_iff_eq, bne_iff_ne, ne_eq, not_or, Decidable.not_not] at hn
    obtain ⟨hname, hoff⟩ := hn
    cases hk : flatK P (d + 1) f.type with
    | none => rw [hk] at h; cases h
    | some k1 =>
      rw [hk] at h
      simp only [] at h
      split at h
      · cases h
      rename_i hc
      simp only [Bool.or_eq_true, bne_iff_ne, ne_eq, Bool.and_eq_true, Bool.not_eq_true', not_or, Decidable.not_not, not_and] at hc
      obtain ⟨⟨hsz, hin⟩, hone⟩ := hc
      cases hr : flatFs P (flatK P (d + 1)) r (off + k1.length) with
      | none => rw [hr] at h; cases h
      | some k2 =>
        rw [hr] at h
        simp only [Option.some.injEq] at h
        subst h
        rw [List.length_append] at hf ⊢
        obtain ⟨f1, f2⟩ := fitsL_append hf
        have t1 : ∀ zs : List Value, ((zs.drop off).take (k1.length + k2.length)).take k1.length = (zs.drop off).take k1.length := fun zs => by rw [List.take_take, Nat.min_eq_left (by omega)]
        have t2 : ∀ zs : List Value, ((zs.drop off).take (k1.length + k2.length)).drop k1.length = (zs.drop (off + k1.length)).take k2.length := fun zs => by
          rw [List.drop_take, List.drop_drop]; congr 1; omega
        rw [t1, t1] at f1
        rw [t2, t2] at f2
        have hlen := fitsL_len f1
        have hsplit : ∀ zs : List Value, (zs.drop off).take (k1.length + k2.length) = (zs.drop off).take k1.length ++ (zs.drop (off + k1.length)).take k2.length := fun zs => by
          rw [← t1 zs, ← t2 zs, List.take_append_drop]
        rw [hsplit xs, hsplit ys, valsEq_append (by rw [hlen.1, hlen.2])]
        have hrest := eqf_run E r _ _ hr xs ys f2 q hq
        obtain ⟨j, hj⟩ : ∃ j, P.info? f.type = some j := by
          cases hj : P.info? f.type with
          | none => simp [hj] at hin
          | some j => exact ⟨j, rfl⟩
        have hjs : j.size = k1.length := by have : sizeAt P f.type = j.size := by simp [sizeAt, hj]
                                            omega
        have hus : (P.underlying f.type).isSome = true := by
          have hk' := hk
          simp only [flatK] at hk'
          cases hu : P.underlying f.type with
          | none => rw [hu] at hk'; cases hk'
          | some _ => rfl
        have hpart : ∀ zs : List Value, ((zs.drop off).take k1.length).length = k1.length → ∃ z, (part f.type zs.toArray f.offset).run P w = .ok z w ∧ (if aggOf P f.type then z = .agg ((zs.drop off).take k1.length).toArray else (zs.drop off).take k1.length = [z]) := by
          intro zs hl
          by_cases hag : aggOf P f.type = true
          · refine ⟨.agg ((zs.drop off).take k1.length).toArray, ?_, by simp [hag]⟩
            simp only [part, run_isAgg w hus, hag, Sem.run_bind, Result.andThen_ok, if_true, run_size w hj, Sem.run_pure, hjs, hoff]
            congr 2
            simp
          · have hag' : aggOf P f.type = false := by simpa using hag
            have h1 : k1.length = 1 := hone hag'
            rw [h1] at hl ⊢
            have hlt : off < zs.length := by simp at hl; omega
            refine ⟨zs[off], ?_, ?_⟩
            · simp [part, run_isAgg w hus, hag', hoff, hlt]
            · simp only [hag', Bool.false_eq_true, if_false]
              rw [List.drop_eq_getElem_cons hlt]; rfl
        obtain ⟨z1, p1, s1⟩ := hpart xs hlen.1
        obtain ⟨z2, p2, s2⟩ := hpart ys hlen.2
        have heq := E f.type k1 hk _ _ f1 z1 z2 (by
          split
          · rename_i hag; rw [if_pos hag] at s1 s2; exact ⟨s1, s2⟩
          · rename_i hag; rw [if_neg hag] at s1 s2; exact ⟨s1, s2⟩) q hq
        have hn' : f.name ≠ "_" := hname
        rw [Op.eqFields]
        simp only [if_pos hn', Sem.run_bind, p1, p2, heq, Result.andThen_ok]
        cases hb : valsEq ((xs.drop off).take k1.length) ((ys.drop off).take k1.length)
        · simp
        · simpa using hrest

def dagg : TypeDesc → Bool
  | .struct _ | .array _ _ => true
  | _ => false
theorem aggOf_of {t : TypeId} {dsc : TypeDesc} (h : P.underlying t = some dsc) : aggOf P t = dagg dsc := by
  unfold aggOf; rw [h]; cases dsc <;> rfl

theorem eqk_run : ∀ (n : Nat) (t : TypeId) (ks : List Kd), flatK P n t = some ks → ∀ us vs, Kd.fitsL ks us vs = true → ∀ u v, (if aggOf P t then u = .agg us.toArray ∧ v = .agg vs.toArray else us = [u] ∧ vs = [v]) →
    ∀ q, n ≤ q → (Op.equalIn q t u v).run P w = .ok (valsEq us vs) w := by
  intro n
  induction n with
  | zero => intro t ks h; simp [flatK] at h
  | succ n ih =>
    intro t ks h us vs hf u v hs q hq
    obtain ⟨q, rfl⟩ : ∃ r, q = r + 1 := ⟨q - 1, by omega⟩
    simp only [flatK] at h
    cases hu : P.underlying t with
    | none => rw [hu] at h; cases h
    | some dsc =>
      rw [hu] at h
      have hagd : aggOf P t = dagg dsc := aggOf_of hu
      cases dsc <;> simp only [reduceCtorEq, Option.some.injEq] at h
      case bool =>
        subst h
        simp only [hagd, dagg, Bool.false_eq_true, if_false] at hs
        obtain ⟨rfl, rfl⟩ := hs
        simp only [Kd.fitsL, Bool.and_true] at hf
        rw [scalar_eq hf (.inr (.inl ⟨rfl, hu⟩)) q]; simp [valsEq]
      case int =>
        subst h
        simp only [hagd, dagg, Bool.false_eq_true, if_false] at hs
        obtain ⟨rfl, rfl⟩ := hs
        simp only [Kd.fitsL, Bool.and_true] at hf
        rw [scalar_eq hf (.inl ⟨rfl, _, hu⟩) q]; simp [valsEq]
      case string =>
        subst h
        simp only [hagd, dagg, Bool.false_eq_true, if_false] at hs
        obtain ⟨rfl, rfl⟩ := hs
        simp only [Kd.fitsL, Bool.and_true] at hf
        rw [scalar_eq hf (.inr (.inr ⟨rfl, hu⟩)) q]; simp [valsEq]
      case struct =>
        rename_i fs
        simp only [hagd, dagg, if_true] at hs
        obtain ⟨rfl, rfl⟩ := hs
        split at h
        · cases h
        rename_i hst
        have hst' : P.stoodInHeld t = false := by simpa using hst
        have hfo : P.fieldsOf t = fs := by simp [Program.fieldsOf, hu]
        rw [run_equalIn_struct (P := P) w q t _ _ (by rw [hfo]; exact hu) hst', hfo]
        have hl := fitsL_len hf
        cases n with
        | zero =>
          cases hfs : fs.toList with
          | nil => rw [hfs] at h; simp only [flatFs, Option.some.injEq] at h; subst h; simp at hl; rw [hl.1, hl.2]; simp [Op.eqFields, valsEq]
          | cons f r => rw [hfs] at h; simp [flatFs, flatK] at h
        | succ m =>
          have hz : ∀ zs : List Value, zs.length = ks.length → (zs.drop 0).take ks.length = zs := fun zs hzl => by simp [← hzl]
          have := eqf_run (d := m) (w := w) (fun t ks hk us vs hf u v hs q hq => ih t ks hk us vs hf u v hs q hq) fs.toList 0 ks h us vs (by rw [hz us hl.1, hz vs hl.2]; exact hf) q (by omega)
          rw [hz us hl.1, hz vs hl.2] at this
          exact this

theorem flatL_vals (k : RepW Γ S ν st a w) : ∀ {xs : List AV} {us vs : List Value}, flatL xs = some us → xs.length = vs.length → (∀ (i : Nat) (x : AV) (u : Value), xs[i]? = some x → vs[i]? = some u → VR S Γ.B ν st.h w x u) → vs = us
  | [], us, [], h, _, _ => by simp only [flatL, Option.some.injEq] at h; exact h
  | x :: xs, us, v :: vs, h, hl, hk => by
    cases x with
    | c b y =>
      cases y with
      | v s =>
        simp only [flatL] at h
        obtain ⟨r, hr, rfl⟩ := Option.map_eq_some_iff.1 h
        have h0 := (hk 0 _ _ rfl rfl).scal_eq.1
        have ih := flatL_vals (vs := vs) k hr (by simpa using hl) (fun i x u hx hu => hk (i + 1) x u (by simpa using hx) (by simpa using hu))
        rw [h0, ih]
      | sl => simp [flatL] at h
    | _ => simp [flatL] at h
  | [], _, _ :: _, _, hl, _ => by simp at hl
  | _ :: _, _, [], _, hl, _ => by simp at hl

theorem q_eqa (neg : Bool) {t t' : TypeId} {i : TI} {x z : Operand} {xs ys : List AV} {us vs : List Value} (ho : o.op = .binOp (if neg then .neq else .eql) t x z t') (hi : tiOk P t i = true) (hn : i.eqk.isEmpty = false)
    (hx : evalO st x = .agg xs) (hz : evalO st z = .agg ys) (hu : flatL xs = some us) (hv : flatL ys = some vs) (hf : Kd.fitsL i.eqk us vs = true)
    (k : RepW Γ S ν st a w) (hd : d < Γ.N) : Gives P Γ a w (execOp a.eval o) d (st.give d (.c false (.v (.bool (if neg then !valsEq us vs else valsEq us vs)))) none) := by
  have h1 := evalO_is k hx
  have h2 := evalO_is k hz
  generalize he1 : a.eval x = v1 at h1
  generalize he2 : a.eval z = v2 at h2
  obtain ⟨hk, hgt, hag⟩ := eqk_of hi hn
  cases h1 with
  | agg hl1 hk1 _ =>
    cases h2 with
    | agg hl2 hk2 _ =>
      obtain rfl := flatL_vals k hu hl1 hk1
      obtain rfl := flatL_vals k hv hl2 hk2
      have heq := eqk_run (P := P) (w := w) 20 t _ hk _ _ hf (.agg _) (.agg _) (by rw [if_pos hag]; exact ⟨rfl, rfl⟩) 10000 (by omega)
      refine .pure k hd ?_ (.c (.v rfl))
      simp only [execOp, ho, he1, he2]
      refine run_v ?_
      have hguard := fun op xs ys => run_eqGuard_agg (P := P) w op t x z xs ys hgt
      cases neg
      · simp only [Bool.false_eq_true, if_false, Sem.run_bind, hguard, Result.andThen_ok, run_eql_struct, heq]
      · simp only [if_true, Sem.run_bind, hguard, Result.andThen_ok, run_neq_struct, heq]
end
end Go.Proofs.YtoemclhjcbcjaaaGreat.AB
