/- Append, as a move of the state; and all operations that write, in one. -/
import Derived.Test.YtoemclhjcbcjaaaGreatAbM
namespace Go.Proofs.YtoemclhjcbcjaaaGreat.AB
open Go
set_option linter.unusedVariables false
set_option linter.unusedSimpArgs false

section
variable {P : Program} {Γ : Gm} {S : Nat → Prop} {ν : Id → Value} {st : St} {a : Act} {w : World} {o : Oper} {T : Tab} {so : SOp} {p : Prop}

theorem ownBlock_blk {v : Value} {n : Nat} {e sz : Nat} {xs : List Value} (h : World.ownsM w 0 e sz v n xs) : v.ownBlock = blk v := by
  rcases h.2 with ⟨rfl, _⟩ | ⟨_, _, _, rfl, _⟩ <;> rfl

theorem fb_blk {v : Value} {n : Nat} {e sz : Nat} {xs : List Value} (h : World.ownsM w 0 e sz v n xs) (q : Nat) : fb v q ↔ blk v = some q := by
  rcases h.2 with ⟨rfl, _⟩ | ⟨_, _, _, rfl, _⟩
  · exact ⟨fun h => h.elim, fun h => by cases h⟩
  · simp only [fb, blk, Option.some.injEq]

theorem app_any {t ty e : TypeId} {i j : TI} {v : Value} {us : List Value} {n : Nat} {b' : Bool} {ys : List (List C)} {u : Value} (hi : tiOk P t i = true) (hu : i.u = .slice e) (hj : tiOk P e j = true) (hzl : j.zero.length = j.size) (h0 : 0 < j.size)
    (hown : World.ownsM w 0 e j.size v n us) (hsrc : Src S Γ w b' j.size ys u) (hb : (n + ys.length) * j.bytes ≤ 140737488355328) (h63 : n + ys.length ≤ 9223372036854775807) :
    ∃ v' w' news, (Builtin.append_ #[t, t] ty #[v, u]).run P w = .ok v' w' ∧ World.ownsM w' 0 e j.size v' (n + ys.length) (us ++ news) ∧ w.grownBy w' v.ownBlock ∧ news.length = ys.length * j.size ∧ (∀ u ∈ news, u.oneCell' = true) ∧
      (∀ (m : Nat) (r : List C) (o : Nat) (c : C), ys[m]? = some r → r[o]? = some c → ∃ u, news[m * j.size + o]? = some u ∧ Im (rd S Γ.B b') w u c) ∧
      ((∃ g c c', v = .slice (some ⟨g, 0, none⟩) n c ∧ v' = .slice (some ⟨g, 0, none⟩) (n + ys.length) c' ∧ n ≤ c ∧ c ≤ maxLen) ∨ ((∀ k, k < w.heap.size → w'.heap[k]? = w.heap[k]?) ∧ ∀ b, blk v' = some b → w.heap.size ≤ b)) := by
  have hund := und_slice (P := P) (t := t) (e := e) (by rw [← hu]; exact tyOk_of hi)
  obtain ⟨jj, z, hjj, hjs, hjb, hjz, hzz, _⟩ := info_of hj
  have hcap : ∀ c, v = .slice (some ⟨c, 0, none⟩) n c → True := fun _ _ => trivial
  cases hsrc with
  | none h =>
    subst h
    refine ⟨v, w, [], run_app_none t ty e jj j.size hund hjj v n us hown, by simpa using hown, ⟨rfl, rfl, rfl, Nat.le_refl _, fun _ _ _ => rfl⟩, by simp, by simp, by simp, ?_⟩
    rcases hown.2 with ⟨rfl, rfl⟩ | ⟨g, cap, cur, rfl, _, _, hnc, hcm, _⟩
    · exact .inr ⟨fun _ _ => rfl, fun b hb => by cases hb⟩
    · exact .inl ⟨g, cap, cap, rfl, rfl, hnc, hcm⟩
  | some ad c news hl hc h1 hv =>
    obtain ⟨v', w', hr, ho, hg, hcase⟩ := run_app (P := P) (w := w) t ty e jj z j.size j.bytes hund hjj hjz hjs hjb (by rw [← hzl, ← hzz]; simp) h0 v n us hown ad ys.length c news hl hc h1 (by simp only [maxLen]; omega) hb
    refine ⟨v', w', news, hr, ho, hg, hl, h1, hv, ?_⟩
    rcases hcase with ⟨g, c1, c2, rfl, h2, h3⟩ | h
    · refine .inl ⟨g, c1, c2, rfl, h2, h3, ?_⟩
      rcases hown.2 with ⟨hq, _⟩ | ⟨g', cap, cur, hq, _, _, hnc, hcm, _⟩
      · cases hq
      · cases hq; exact hcm
    · exact .inr h

theorem append_get {α : Type} {xs ys : List α} {n : Nat} {r : α} (h : (xs ++ ys)[n]? = some r) : (n < xs.length ∧ xs[n]? = some r) ∨ (xs.length ≤ n ∧ ys[n - xs.length]? = some r) := by
  by_cases hn : n < xs.length
  · rw [List.getElem?_append_left hn] at h; exact .inl ⟨hn, h⟩
  · rw [List.getElem?_append_right (by omega)] at h; exact .inr ⟨by omega, h⟩

theorem w_app_own {t e : TypeId} {i j : TI} {s x : Operand} {d d' j' : Nat} {b b' : Bool} {xs ys : List (List C)} (ho : o.op = .call { callee := .builtin .append, args := #[s, x], argTypes := #[t, t] })
    (hi : tiOk P t i = true) (hu : i.u = .slice e) (hj : tiOk P e j = true) (hzl : j.zero.length = j.size) (hs : evalO st s = .own (.s d' j')) (hid : st.h (.s d' j') = some (.row b e j.size xs)) (hx : srcOf st (evalO st x) = some (p, b', ys)) (hp : p)
    (hz : ∀ r, r ∈ ys → r.length = j.size) (hb : (xs.length + ys.length) * j.bytes ≤ 140737488355328) (h63 : xs.length + ys.length ≤ 9223372036854775807) (hd : d < Γ.N) (k : RepW Γ S ν st a w) :
    Writes P Γ a w (execOp a.eval o) (some d) ⟨upd (st.on (oldV (.s d' j') xs.length)).t d (.own (.s d' j')), hupd (st.on (oldV (.s d' j') xs.length)).h (.s d' j') (some (.row (b || b') e j.size (xs ++ ys)))⟩ := by
  generalize hi0 : (Id.s d' j' : Id) = i0 at *
  obtain ⟨h0, hl, us, hown, hc⟩ := k.ok.row i0 _ _ _ _ hid
  have hsv := evalO_is k hs
  have hsrc := src_of k hx hp h0 hz
  obtain ⟨v', w', news, hr, hown', hg, hnl, hn1, hnv, hcase⟩ := app_any (P := P) (ty := o.type) hi hu hj hzl h0 hown hsrc hb h63
  have hlive : (st.h i0).isSome = true := by rw [hid]; rfl
  have hblk : (ν i0).ownBlock = blk (ν i0) := ownBlock_blk hown
  have hfbi := fb_blk hown
  have hfb' := fb_blk hown'
  replace hcase := hcase.imp (fun q => q) (fun h => And.intro h.1 (fun q (hq : fb v' q) => h.2 q ((hfb' q).1 hq)))
  have hνi : a.eval s = ν i0 := by
    generalize hve : a.eval s = v at hsv
    cases hsv with
    | own => rfl
  have hsame : ∀ q, q < w.heap.size → ¬ fb (ν i0) q → w'.heap[q]? = w.heap[q]? := fun q hq hn => hg.block q hq (by rw [hblk]; exact fun e => hn ((hfbi q).2 e.symm))
  have hout := fun q hq => k.ok.out i0 q hlive hq
  have hrdw : ∀ bor q, rd S Γ.B bor q → w'.heap[q]? = w.heap[q]? := fun bor q hq => hsame q (k.ok.lt q (hq.imp id (fun r => r.2))) (fun e => by have := hout q e; exact hq.elim this.1 (fun r => this.2 r.2))
  have hblk' : ∀ q, fb v' q → fb (ν i0) q ∨ w.heap.size ≤ q := by
    intro q hq
    rcases hcase with ⟨g, c1, c2, h1, h2, _⟩ | ⟨_, h2⟩
    · left; rw [h1]; rw [h2] at hq; exact hq
    · exact .inr (h2 q hq)
  let S' : Nat → Prop := fun q => S q ∨ (fb (ν i0) q ∧ ¬ fb v' q)
  have hrds : ∀ bor q, rd S Γ.B bor q → rd S' Γ.B bor q := fun bor q hq => hq.imp .inl id
  have hν' : ∀ q, q ≠ i0 → hupd ν i0 v' q = ν q := fun q hq => hupd_ne _ _ hq
  have hrne : ∀ {i}, st.h i = some .reg → i ≠ i0 := fun {i} hi e => by rw [e, hid] at hi; cases hi
  have hregw : ∀ {i}, st.h i = some .reg → ∀ q, fb (ν i) q → w'.heap[q]? = w.heap[q]? := fun {i} hi q hq => hsame q (k.ok.blk_lt (by rw [hi]; rfl) hq) (fun e => k.ok.sep i i0 q (fun e => by rw [e, hid] at hi; cases hi) (by rw [hi]; rfl) hlive hq e)
  have holdIm : ∀ bor', (b = true → bor' = true) → ∀ u c, Im (rd S Γ.B b) w u c → Im (rd S' Γ.B bor') w' u c := fun bor' hb' u c him =>
    him.mono (fun q hq => hq.imp .inl (fun r => ⟨hb' r.1, r.2⟩)) (hrdw b)
  have hview : ∀ lo m u, lo + m ≤ xs.length → VR S Γ.B ν st.h w (.vw i0 lo m) u → VR S' Γ.B (hupd ν i0 v') (hupd (st.on (oldV i0 xs.length)).h i0 (some (.row (b || b') e j.size (xs ++ ys)))) w' (.vw i0 lo m) u := by
    intro lo m u hle hv
    have hdrop : ((xs ++ ys).drop lo).take m = (xs.drop lo).take m := by
      rw [List.drop_append_of_le_length (by omega), List.take_append_of_le_length (by simp; omega)]
    refine .vw (hupd_same _ _ _) (by simp; omega) ?_
    rw [hdrop, hupd_same]
    have him := (k.ok.vw hv hid).1
    rcases hcase with ⟨g, c1, c2, h1, h2, h3, h4⟩ | ⟨hall, hfresh⟩
    · cases hv with
      | vw k' hle' hv =>
        rw [hid] at k'
        obtain ⟨rfl, rfl, rfl, rfl⟩ := Ob.row.inj (Option.some.inj k')
        rcases hv with hv | ⟨g', m', cap, c', hg', rfl, hm, hcm⟩
        · exact .inl (hv.mono (fun q hq => (hrds _ q hq).imp id (fun r => ⟨by simp [r.1], r.2⟩)) (hrdw _))
        · rw [h1] at hg'
          simp only [Value.slice.injEq, Option.some.injEq, Addr.mk.injEq, and_true] at hg'
          obtain ⟨rfl, rfl, rfl⟩ := hg'
          exact .inr ⟨_, _, _, _, h2, rfl, hm, hcm⟩
    · refine .inl (him.mono (fun q hq => ?_) (fun q hq => ?_))
      · rcases hq with hq | hq
        · exact (hrds _ q hq).imp id (fun r => ⟨by simp [r.1], r.2⟩)
        · exact .inl (.inr ⟨hq, fun e => by have := hfresh q e; have := k.ok.blk_lt hlive hq; omega⟩)
      · rcases hq with hq | hq
        · exact hrdw _ q hq
        · exact hall q (k.ok.blk_lt hlive hq)
  refine ⟨.value v', w', S', hupd ν i0 v', ?_, .inl ⟨v', rfl, ?_⟩⟩
  · simp only [execOp, ho, resolve, invoke, builtin]
    simp [hνi, hr]
  · have kt : RepW Γ S' (hupd ν i0 v') ⟨fun q => (st.t q).on (oldV i0 xs.length), hupd (st.on (oldV i0 xs.length)).h i0 (some (.row (b || b') e j.size (xs ++ ys)))⟩ a w' := by
      refine k.turn (i0 := i0) (o' := .row (b || b') e j.size (xs ++ ys)) (g := oldV i0 xs.length) (S' := S') (ν' := hupd ν i0 v') hlive ⟨hg.os, hg.tape, hg.output, hg.size, hsame⟩ (fun q hq => by rw [hupd_ne _ _ hq]; rfl) (hupd_same _ _ _) hν'
        (.inl (fun q => by rw [← hi0]; simp)) (fun _ q => .inl q) (fun q hq => ?_) (fun q hq => ?_) (fun q hq => ?_) (fun q hq => ?_) (fun x u hxl hv => ?_) (fun cs e => by cases e) (fun bor2 e2 sz2 xs2 h2 => ?_) (fun e => by cases e)
      · rcases hq with hq | hq
        · exact .inl hq
        · exact .inr (.inr (by rw [hupd_same]; exact hq))
      · rcases hq with hq | hq
        · exact Nat.lt_of_lt_of_le (k.ok.lt q (.inl hq)) hg.size
        · exact Nat.lt_of_lt_of_le (k.ok.blk_lt hlive hq.1) hg.size
      · rcases hq with hq | hq
        · exact .inl hq
        · refine .inr ((k.ok.um hlive hq.1).same ?_)
          rcases hcase with ⟨g, c1, c2, h1, h2, _⟩ | ⟨hall, _⟩
          · have h3 := hq.1
            rw [h1] at h3
            exact absurd (show fb v' q by rw [h2]; exact h3) hq.2
          · exact hall q (k.ok.blk_lt hlive hq.1)
      · rw [hupd_same] at hq
        refine ⟨hblk' q hq, fun hs => ?_⟩
        rcases hs with hs | hs
        · rcases hblk' q hq with h | h
          · exact (hout q h).1 hs
          · have := k.ok.lt q (.inl hs); omega
        · exact hs.2 hq
      · -- the leaves
        cases hv with
        | c hk => exact .c (hk.mono (hrds _) (hrdw _))
        | agg => cases hxl
        | tup => cases hxl
        | own hk =>
          rename_i i1 bor1 e1 sz1 xs1
          simp only [oldV]
          split
          · rename_i he
            subst he
            refine hview 0 xs.length (ν i1) (by omega) (.vw hid (by omega) ?_)
            rcases hown.2 with ⟨hv, hn⟩ | ⟨g, cap, cur, hv, _, _, hnc, hcm, _⟩
            · left; rw [hv]
              have : xs = [] := List.eq_nil_of_length_eq_zero hn
              subst this; exact .nil
            · right; exact ⟨g, _, _, _, hv, by rw [hv]; simp [Addr.add], hnc, hcm⟩
          · rename_i he
            have := VR.own (S := S') (B := Γ.B) (ν := hupd ν i0 v') (h := hupd (st.on (oldV i0 xs.length)).h i0 (some (.row (b || b') e j.size (xs ++ ys)))) (w := w') (i := i1) (bor := bor1) (e := e1) (sz := sz1) (xs := xs1)
              (by rw [hupd_ne _ _ he]; show (st.h i1).map _ = _; rw [hk]; rfl)
            rwa [hν' i1 he] at this
        | vw hk hle hv =>
          rename_i i1 bor1 e1 sz1 lo1 n1 xs1
          by_cases he : i1 = i0
          · subst he
            have hk2 := hk
            rw [hid] at hk2
            obtain ⟨rfl, rfl, rfl, rfl⟩ := Ob.row.inj (Option.some.inj hk2)
            exact hview lo1 n1 u hle (.vw hk hle hv)
          · refine .vw (bor := bor1) (e := e1) (sz := sz1) (xs := xs1) (by rw [hupd_ne _ _ he]; show (st.h i1).map _ = _; rw [hk]; rfl) hle ?_
            rw [hν' i1 he]
            exact hv.imp (fun q => q.mono (hrds _) (hrdw _)) id
        | nil => exact .nil
        | ptr hk hv =>
          rename_i i1 o1 b1 cs1
          have he : i1 ≠ i0 := fun e => by rw [e, hid] at hk; cases hk
          exact .ptr (cs := AV.onL (oldV i0 xs.length) cs1) (by rw [hupd_ne _ _ he]; show (st.h i1).map _ = _; rw [hk]; rfl) (by rw [hν' i1 he]; exact hv)
        | ept hk hv hn =>
          rename_i i1 n1 o1 e1 sz1 b1 m1 cap1 bor1 xs1
          simp only [oldV]
          split
          · exact .dead
          · rename_i he
            exact .ept (bor := bor1) (e := e1) (xs := xs1) (by rw [hupd_ne _ _ he]; show (st.h i1).map _ = _; rw [hk]; rfl) (by rw [hν' i1 he]; exact hv) hn
        | ip f hs hb hu hi =>
          exact .ip f hs (hrds _ _ hb) (fun q c hq => (World.cell?_of_block (by rw [add_block]; exact hrdw _ _ hb)).trans (hu q c hq)) (fun q c hq => (hi q c hq).mono (hrds _) (hrdw _))
        | fn => cases hxl
        | rx hk q =>
          have he := hrne hk
          exact .rx (by rw [hupd_ne _ _ he]; show (st.h _).map _ = _; rw [hk]; rfl) (by rw [hν' _ he]; exact q.mono (fun _ q => q) (hregw hk))
        | rg hk q =>
          obtain ⟨x', l, q⟩ := q
          have he := hrne hk
          exact .rg (by rw [hupd_ne _ _ he]; show (st.h _).map _ = _; rw [hk]; rfl) ⟨x', l, by rw [hν' _ he]; exact q.mono (fun _ q => q) (hregw hk)⟩
        | rp hk hs hb q =>
          have he := hrne hk
          refine .rp (by rw [hupd_ne _ _ he]; show (st.h _).map _ = _; rw [hk]; rfl) hs (by rw [hν' _ he]; exact hb) (fun j c hj => ?_)
          obtain ⟨u, c', h4, l, h5⟩ := q j c hj
          exact ⟨u, c', (World.cell?_of_block (by rw [add_block]; exact hregw hk _ hb)).trans h4, l, by rw [hν' _ he]; exact h5.mono (fun _ q => q) (hregw hk)⟩
        | dead => exact .dead
      · obtain ⟨rfl, rfl, rfl, rfl⟩ := Ob.row.inj h2
        refine ⟨h0, fun r hr => ?_, us ++ news, by rw [hupd_same, List.length_append]; exact hown', fun n r oo c hr hcc => ?_⟩
        · rcases List.mem_append.1 hr with h | h
          · exact hl r h
          · exact hz r h
        · rcases append_get hr with ⟨hn, hr'⟩ | ⟨hn, hr'⟩
          · obtain ⟨u, hu, h1, him⟩ := hc n r oo c hr' hcc
            exact ⟨u, by rw [List.getElem?_append_left (List.getElem?_eq_some_iff.1 hu).1]; exact hu, h1, holdIm _ (fun h => by simp [h]) u c him⟩
          · obtain ⟨u, hu, him⟩ := hnv _ r oo c hr' hcc
            refine ⟨u, ?_, hn1 u (List.mem_of_getElem? hu), him.mono (fun q hq => hq.imp .inl (fun r => ⟨by simp [r.1], r.2⟩)) (hrdw _)⟩
            have hul := hown.1
            have h3 : xs.length * j.size ≤ n * j.size := Nat.mul_le_mul_right _ hn
            rw [List.getElem?_append_right (by omega), hul]
            rw [show n * j.size + oo - xs.length * j.size = (n - xs.length) * j.size + oo from by rw [Nat.sub_mul]; omega]
            exact hu
    refine kt.put (d := d) (x := .own i0) (v := v') hd ?_
    have := VR.own (S := S') (B := Γ.B) (ν := hupd ν i0 v') (h := hupd (st.on (oldV i0 xs.length)).h i0 (some (.row (b || b') e j.size (xs ++ ys)))) (w := w') (i := i0) (hupd_same _ _ _)
    rwa [hupd_same] at this

theorem w_app_nil {t e : TypeId} {i j : TI} {s x : Operand} {d : Nat} {b' : Bool} {ys : List (List C)} (ho : o.op = .call { callee := .builtin .append, args := #[s, x], argTypes := #[t, t] })
    (hi : tiOk P t i = true) (hu : i.u = .slice e) (hj : tiOk P e j = true) (hzl : j.zero.length = j.size) (h0 : 0 < j.size) (hs : evalO st s = .nil) (hf : st.h (.s d 0) = none) (hx : srcOf st (evalO st x) = some (p, b', ys)) (hp : p)
    (hz : ∀ r, r ∈ ys → r.length = j.size) (hb : ys.length * j.bytes ≤ 140737488355328) (h63 : ys.length ≤ 9223372036854775807) (hd : d < Γ.N) (k : RepW Γ S ν st a w) :
    Writes P Γ a w (execOp a.eval o) (some d) ⟨upd st.t d (.own (.s d 0)), hupd st.h (.s d 0) (some (.row b' e j.size ys))⟩ := by
  have hsv := evalO_is k hs
  have hsrc := src_of k hx hp h0 hz
  have hown : World.ownsM w 0 e j.size (.slice none 0 0) 0 [] := ⟨by simp, .inl ⟨rfl, rfl⟩⟩
  obtain ⟨v', w', news, hr, hown', hg, hnl, hn1, hnv, hcase⟩ := app_any (P := P) (ty := o.type) hi hu hj hzl h0 hown hsrc (by simpa using hb) (by simpa using h63)
  have hse : a.eval s = .slice none 0 0 := by
    generalize hve : a.eval s = v at hsv
    cases hsv with
    | nil => rfl
  obtain ⟨hall, hfresh⟩ : (∀ k, k < w.heap.size → w'.heap[k]? = w.heap[k]?) ∧ ∀ b, fb v' b → w.heap.size ≤ b := by
    rcases hcase with ⟨g, c1, c2, h1, _⟩ | h
    · cases h1
    · exact ⟨h.1, fun q hq => h.2 q ((fb_blk hown' q).1 hq)⟩
  simp only [Nat.zero_add, List.nil_append] at hown'
  have hne : ∀ i o', st.h i = some o' → i ≠ .s d 0 := fun i o' hi e => by rw [e, hf] at hi; cases hi
  have honly : ∀ i, st.h i = none → (hupd st.h (.s d 0) (some (.row b' e j.size ys)) i).isSome = true → i = .s d 0 := fun i h1 h2 => by
    by_cases e : i = .s d 0
    · exact e
    · rw [hupd_ne _ _ e, h1] at h2; cases h2
  have hrdw : ∀ bor q, rd S Γ.B bor q → w'.heap[q]? = w.heap[q]? := fun bor q hq => hall q (k.ok.lt q (hq.imp id (fun r => r.2)))
  refine ⟨.value v', w', S, hupd ν (.s d 0) v', ?_, .inl ⟨v', rfl, ?_⟩⟩
  · simp only [execOp, ho, resolve, invoke, builtin]
    simp [hse, hr]
  · have kt : RepW Γ S (hupd ν (.s d 0) v') ⟨st.t, hupd st.h (.s d 0) (some (.row b' e j.size ys))⟩ a w' := by
      refine k.grow (S' := S) ⟨hg.os, hg.tape, hg.output, hg.size, fun q hq _ => hall q hq⟩ (fun _ q => q) (fun _ q => .inl q) (fun q hq => Nat.lt_of_lt_of_le (k.ok.lt q (.inl hq)) hg.size) (fun _ q => .inl q)
        (fun i o' hi => by rw [hupd_ne _ _ (hne i o' hi), hupd_ne _ _ (hne i o' hi)]; exact ⟨hi, rfl⟩) (fun i h1 h2 => ?_) (fun i j b hij h1 h2 h3 h4 => absurd ((honly i h1 h3).trans (honly j h2 h4).symm) hij) (fun i cs h1 h2 => ?_) (fun i bor e2 sz2 xs2 h1 h2 => ?_) (fun i h1 h2 => ?_)
      · obtain rfl := honly i h1 h2
        refine ⟨fun q => by simp, fun b hb => ?_⟩
        rw [hupd_same] at hb
        have := hfresh b hb
        exact ⟨this, fun q => by have := k.ok.lt _ (.inl q); omega⟩
      · obtain rfl := honly i h1 (by rw [h2]; rfl)
        rw [hupd_same] at h2; cases h2
      · obtain rfl := honly i h1 (by rw [h2]; rfl)
        rw [hupd_same] at h2
        obtain ⟨rfl, rfl, rfl, rfl⟩ := Ob.row.inj (Option.some.inj h2)
        refine ⟨h0, hz, news, by rw [hupd_same]; exact hown', fun n r oo c hr hcc => ?_⟩
        obtain ⟨u, hu, him⟩ := hnv n r oo c hr hcc
        exact ⟨u, hu, hn1 u (List.mem_of_getElem? hu), him.mono (fun _ q => q) (hrdw _)⟩
      · obtain rfl := honly i h1 (by rw [h2]; rfl)
        rw [hupd_same] at h2; cases h2
    refine kt.put (d := d) (x := .own (.s d 0)) (v := v') hd ?_
    have := VR.own (S := S) (B := Γ.B) (ν := hupd ν (.s d 0) v') (h := hupd st.h (.s d 0) (some (.row b' e j.size ys))) (w := w') (i := .s d 0) (hupd_same _ _ _)
    rwa [hupd_same] at this

/-- an operation that writes -/
theorem w_sound (hT : Tab.ok P T = true) (hTp : T.plain = true) (hc : compOp T o.op = some so) {st' : St} (hq : wf st o.dst so = some (p, st')) (hp : p) (hd : ∀ d, o.dst = some d → d < Γ.N) (hdn : (∃ n x v, so = .store n x v) → o.dst = none)
    (k : RepW Γ S ν st a w) : Writes P Γ a w (execOp a.eval o) o.dst st' := by
  have ok : ∀ {t i}, T.at t = some i → tiOk P t i = true := fun h => Tab.at_ok hT h
  cases so <;> simp only [wf, reduceCtorEq] at hq
  case store n x v =>
    have hdn' := hdn ⟨n, x, v, rfl⟩
    obtain ⟨t, i, hop, hi, rfl⟩ : ∃ t i, o.op = .store t x v ∧ T.at t = some i ∧ n = i.size := by
      cases hop : o.op <;> rw [hop] at hc <;> simp only [compOp, reduceCtorEq, Option.some.injEq] at hc
      case store t x' v' =>
        split at hc
        · rename_i i hi
          simp only [Option.some.injEq, SOp.store.injEq] at hc
          obtain ⟨rfl, rfl, rfl⟩ := hc
          exact ⟨t, i, rfl, hi, rfl⟩
        · cases hc
      case call c =>
        obtain ⟨callee, args, argTypes⟩ := c
        unfold compCall at hc
        simp only at hc
        split at hc
        · unfold compB at hc
          split at hc <;> (repeat' split at hc) <;> simp at hc
        · split at hc <;> simp at hc
        · simp at hc
        · cases hc
      case makeFunc fn first caps =>
        unfold compFn at hc
        (repeat' split at hc) <;> simp at hc
      all_goals ((repeat' split at hc) <;> (simp at hc; try (obtain ⟨_, _, _, h⟩ := hc; split at h <;> cases h)))
    split at hq
    · rename_i id off hx
      split at hq
      · rename_i cs xs hid hv
        simp only [Option.some.injEq, Prod.mk.injEq] at hq
        obtain ⟨rfl, rfl⟩ := hq
        exact w_store_box hop (ok hi) hx hid hv hp.1 hp.2 hdn' k
      · cases hq
    · rename_i id m off hx
      split at hq
      · rename_i b e sz rs b' ys hid hv
        simp only [Option.some.injEq, Prod.mk.injEq] at hq
        obtain ⟨rfl, rfl⟩ := hq
        exact w_store_row hop (ok hi) hx hid hv hp.1 hp.2 hdn' k
      · cases hq
    · rename_i id xs hx
      split at hq
      · rename_i hid hv
        simp only [Option.some.injEq, Prod.mk.injEq] at hq
        obtain ⟨rfl, rfl⟩ := hq
        exact w_store_reg hop (ok hi) hx hid hv hp.1 hp.2 hdn' k
      · cases hq
    · cases hq
  case app e sz bytes s x =>
    obtain ⟨t, i, j, hop, hi, hu, hj, rfl, rfl⟩ : ∃ t i j, o.op = .call { callee := .builtin .append, args := #[s, x], argTypes := #[t, t] } ∧ T.at t = some i ∧ i.u = .slice e ∧ T.at e = some j ∧ sz = j.size ∧ bytes = j.bytes := by
      cases hop : o.op <;> rw [hop] at hc <;> simp only [compOp, reduceCtorEq, Option.some.injEq] at hc
      case call c =>
        obtain ⟨callee, args, argTypes⟩ := c
        unfold compCall at hc
        simp only at hc
        split at hc
        · rename_i b
          unfold compB at hc
          split at hc
          · (repeat' split at hc) <;> simp at hc
          · (repeat' split at hc) <;> simp at hc
          · (repeat' split at hc) <;> simp at hc
          · split at hc
            · rename_i s' x' t u hxs hts
              split at hc
              · rename_i htu
                subst htu
                split at hc
                · rename_i i hi
                  split at hc
                  · rename_i e' hu
                    obtain ⟨j, hj, he⟩ := Option.map_eq_some_iff.1 hc
                    simp only [SOp.app.injEq] at he
                    obtain ⟨rfl, rfl, rfl, rfl, rfl⟩ := he
                    obtain rfl : args = #[s', x'] := by apply Array.toList_inj.1; simpa using hxs
                    obtain rfl : argTypes = #[t, t] := by apply Array.toList_inj.1; simpa using hts
                    exact ⟨t, i, j, rfl, hi, hu, hj, rfl, rfl⟩
                  · cases hc
                · cases hc
              · cases hc
            · cases hc
          · cases hc
        · split at hc <;> simp at hc
        · simp at hc
        · cases hc
      case makeFunc fn first caps =>
        unfold compFn at hc
        (repeat' split at hc) <;> simp at hc
      all_goals ((repeat' split at hc) <;> (simp at hc; try (obtain ⟨_, _, _, h⟩ := hc; split at h <;> cases h)))
    split at hq
    · cases hq
    · rename_i d hd'
      rw [hd']
      split at hq
      · rename_i d' j' p' b' ys hs hx
        split at hq
        · rename_i b e' sz' xs hid
          simp only [Option.some.injEq, Prod.mk.injEq] at hq
          obtain ⟨rfl, rfl⟩ := hq
          obtain ⟨hp, rfl, rfl, hz, hb, h63⟩ := hp
          exact w_app_own hop (ok hi) hu (ok hj) (Tab.at_len hTp hj) hs hid hx hp hz hb h63 (hd d hd') k
        · cases hq
      · rename_i p' b' ys hs hx
        simp only [Option.some.injEq, Prod.mk.injEq] at hq
        obtain ⟨rfl, rfl⟩ := hq
        obtain ⟨hf, hp, h0, hz, hb, h63⟩ := hp
        exact w_app_nil hop (ok hi) hu (ok hj) (Tab.at_len hTp hj) h0 hs hf hx hp hz hb h63 (hd d hd') k
      · cases hq
end
end Go.Proofs.YtoemclhjcbcjaaaGreat.AB
