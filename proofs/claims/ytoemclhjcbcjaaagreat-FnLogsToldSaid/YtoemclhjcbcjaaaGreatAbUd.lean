/- Regions that draw, in which what turns slots alone goes ahead of the rest. -/
import Derived.Test.YtoemclhjcbcjaaaGreatAbU
namespace Go.Proofs.YtoemclhjcbcjaaaGreat.AB
open Go
set_option linter.unusedVariables false
set_option linter.unusedSimpArgs false
section
variable {P : Program} {Γ : Gm} {T : Tab} {S : Nat → Prop} {ν : Id → Value} {st : St} {a : Act} {w : World} {o : Oper} {so : SOp} {d : Nat} {p : Prop} {y : AV} {ob : Option Ob}
theorem dry_yields (hT : Tab.ok P T = true) (hc : compOp T o.op = some so) (hod : opDry o.op = true) (hsd : so.dry = true) (hq : qf st d so = some (p, y, ob)) (hp : p) (k : RepW Γ S ν st a w) :
    ob = none ∧ ∃ v, (∀ w2, (execOp a.eval o).run P w2 = .ok (.value v) w2) ∧ VR S Γ.B ν st.h w y v := by
  have ok : ∀ {t i}, T.at t = some i → tiOk P t i = true := fun h => Tab.at_ok hT h
  cases hop : o.op <;> rw [hop] at hc hod <;> simp only [opDry, Bool.false_eq_true] at hod <;> simp only [compOp, reduceCtorEq, Option.some.injEq] at hc
  case move x =>
    subst hc
    simp only [qf, Option.some.injEq, Prod.mk.injEq] at hq
    obtain ⟨_, rfl, rfl⟩ := hq
    exact ⟨rfl, a.eval x, fun w2 => by simp [execOp, hop], evalO_ok k x⟩
  case assign x =>
    subst hc
    simp only [qf, Option.some.injEq, Prod.mk.injEq] at hq
    obtain ⟨_, rfl, rfl⟩ := hq
    exact ⟨rfl, a.eval x, fun w2 => by simp [execOp, hop], evalO_ok k x⟩
  case extract x n =>
    subst hc
    simp only [qf] at hq
    split at hq
    · rename_i hx
      simp only [Option.some.injEq, Prod.mk.injEq] at hq
      obtain ⟨rfl, rfl, rfl⟩ := hq
      have hy := getD_some (x := AV.dead) hp
      have hv := evalO_is k hx
      generalize hve : a.eval x = v at hv
      cases hv with
      | tup hl hk =>
        rename_i us
        have hlt : n < us.length := by rw [← hl]; exact (List.getElem?_eq_some_iff.1 hy).1
        have hue : us[n]? = some us[n] := List.getElem?_eq_getElem hlt
        refine ⟨rfl, us[n], fun w2 => ?_, hk n _ _ hy hue⟩
        simp only [execOp, hop, hve]
        refine run_v ?_
        simp [Instr.extract, hlt]
    · cases hq
  case binOp op t x z t' =>
    split at hc
    · rename_i i hi
      split at hc
      · split at hc
        · cases hc
        split at hc
        · obtain rfl := Option.some.inj hc
          simp [SOp.dry] at hsd
        · obtain rfl := Option.some.inj hc
          simp [SOp.dry] at hsd
        · cases hc
      · rename_i hg
        obtain rfl := Option.some.inj hc
        simp only [qf] at hq
        split at hq
        · rename_i u u' hx hz
          split at hq
          · rename_i p' v hv
            simp only [Option.some.injEq, Prod.mk.injEq] at hq
            obtain ⟨rfl, rfl, rfl⟩ := hq
            have h1 := evalO_v k hx
            have h2 := evalO_v k hz
            refine ⟨rfl, v, fun w2 => ?_, .c (.v (binV_scal hv))⟩
            simp only [execOp, hop, h1.1, h2.1]
            refine run_v ?_
            simp [scal_guard h1.2, binV_ok hv hp.1 t (ok hi) (by simpa using hg) (fun b hb => by subst hb; simpa using hp.2 rfl)]
          · cases hq
        · cases hq
    · cases hc
  case slice t x lo hi mx =>
    split at hc
    · rename_i sz by_ z ek hmx ht
      obtain rfl := Option.some.inj hc
      simp only [qf] at hq
      split at hq
      · rename_i hx hl hh
        simp only [Option.some.injEq, Prod.mk.injEq] at hq
        obtain ⟨rfl, rfl, rfl⟩ := hq
        obtain ⟨h0, h1, h2⟩ := hp
        have hxe := (evalO_v k hx).1
        have hund := und_str (P := P) (t := t) (tyOk_of (ok ht))
        refine ⟨rfl, _, fun w2 => ?_, .c (.v rfl)⟩
        rotate_left
        rw [sb_size] at h1 h2
        simp only [execOp, hop, hxe, opt_run k hl, opt_run k hh, Option.map_none]
        refine run_v ?_
        have hb := bounds_run (P := P) (w := w2) (isSlice := false) (len := _) (cap := _) h0 h1 h2 (Nat.le_refl _)
        simp only [Instr.sliceAt, Sem.run_bind, run_und w2 hund, Result.andThen_ok, Instr.slice, Option.isSome_none, Bool.false_eq_true, if_false, hb, Sem.run_pure]
        congr 2
        apply ByteArray.ext
        apply Array.toList_inj.1
        simp [sb, ByteArray.data_extract, List.extract_eq_take_drop]
      · cases hq
    · rename_i e sz by_ z ek hmx ht
      obtain ⟨j, hj, rfl⟩ := Option.map_eq_some_iff.1 hc
      simp [SOp.dry] at hsd
    · cases hc
end
def freeOf (ops : Array Oper) (i : Nat) (rem : List Nat) : Bool := rem.all fun j => j == i || (depsOf ops j).contains i || (match ops[i]?, ops[j]? with | some x, some z => x.apart ops z | _, _ => false)
/-- what turns slots alone goes ahead when it may; of the rest any that may come next can be pulled to the head -/
def chk3 (ops : Array Oper) (gs : List GOp) : Nat → List Nat → Bool
  | 0, l => l.isEmpty
  | _ + 1, [] => false
  | n + 1, i :: r => rdy ops gs.length (i :: r) i && (if (gs[i]?.getD .idle).dry ops i && freeOf ops i r then chk3 ops gs n r
    else (i :: r).all fun j => !rdy ops gs.length (i :: r) j || (match pullI gs j (i :: r) with | some l => chk3 ops gs n l | none => false))
theorem SOp.dry_calm {so : SOp} (h : so.dry = true) : so.isCall = false ∧ so.isCallM = false ∧ so.isStore = false ∧ so.isApp = false := by
  cases so <;> simp only [SOp.dry, Bool.false_eq_true] at h <;> exact ⟨rfl, rfl, rfl, rfl⟩
section
variable {P : Program} {Γ : Gm} {T : Tab} {ops : Array Oper} {Q : Exit → Act → World → Prop}
theorem any_sound3 (hT : Tab.ok P T = true) (hTp : T.plain = true) {gs : List GOp} (hc : compL T ops ops.toList = some gs) (hw : ∀ g, g ∈ gs → g.within Γ.N = true) (hns : Region.noSelect ops = true) (hQ : ∀ c a w, ¬ Q (.panic c) a w) :
    ∀ (n : Nat) (l : List Nat) (listed : Array Bool) (st : St) (a : Act) (w : World) (K : St → Prop), l.length = n → l.Nodup → listed.size = ops.size → (∀ i, i ∈ l ↔ i < ops.size ∧ listed.getD i true = false) →
      chk3 ops gs n l = true → semL P (l.map fun i => gs[i]?.getD .idle) st K → Rep Γ st a w → (∀ a' w' st', K st' → Rep Γ st' a' w' → Q .normal a' w') → wpAny P .any ops Q n listed a w := by
  have hlen : gs.length = ops.size := by simpa using compL_length hc
  have flip : ∀ (listed : Array Bool) i, listed.size = ops.size → i < ops.size → (listed.getD i true = false ↔ ¬ listed.getD i false = true) := by
    intro listed i hs hi
    have : listed[i]? = some listed[i] := Array.getElem?_eq_getElem (by omega)
    simp [Array.getD_eq_getD_getElem?, this]
  have hset0 : ∀ (listed : Array Bool) (i : Nat), listed.size = ops.size → i < ops.size → ∀ q d, q < ops.size → (listed.setIfInBounds i true).getD q d = if q = i then true else listed.getD q d := by
    intro listed i hs hi1 q d hqs
    simp only [Array.getD_eq_getD_getElem?, Array.getElem?_setIfInBounds]
    by_cases e : q = i
    · subst e; simp [hs, hi1]
    · rw [if_neg e, if_neg (fun h => e h.symm)]
  intro n
  induction n with
  | zero =>
    intro l listed st a w K hl hnd hs hm hB h k hq
    obtain rfl : l = [] := List.length_eq_zero_iff.1 hl
    refine ⟨List.eq_nil_iff_forall_not_mem.2 (fun i hi => ?_), hq _ _ st h k⟩
    have := mem_ready.1 hi
    exact absurd ((hm i).2 ⟨this.1, this.2.1⟩) (by simp)
  | succ n ih =>
    intro l listed st a w K hl hnd hs hm hB h k hq
    have ready_iff : ∀ i, (rdy ops gs.length l i = true ↔ ∀ e, e ∈ depsOf ops i → e < gs.length ∧ ¬ e ∈ l) := by
      intro i; unfold rdy; simp
    have ready_mem : ∀ i, i ∈ l → rdy ops gs.length l i = true → i ∈ Region.ready .any ops listed := by
      intro i hi hrd
      have h0 := (hm i).1 hi
      refine mem_ready.2 ⟨h0.1, h0.2, fun e he => ?_⟩
      have h1 := (ready_iff i).1 hrd e he
      have hes : e < ops.size := by omega
      have h2 : ¬ listed.getD e true = false := fun q => h1.2 ((hm e).2 ⟨hes, q⟩)
      exact Classical.not_not.1 (fun q => h2 ((flip listed e hs hes).2 q))
    cases l with
    | nil => simp at hl
    | cons i0 r =>
      simp only [chk3, Bool.and_eq_true] at hB
      obtain ⟨hB1, hB2⟩ := hB
      have hr0 := ready_mem i0 (by simp) hB1
      have h00 := (hm i0).1 (by simp)
      have hg0 : gs[i0]? = some (gs[i0]?.getD .idle) := by rw [List.getElem?_eq_getElem (by omega)]; rfl
      have hat := compL_at hc i0
      rw [hg0] at hat
      obtain ⟨o, ho, hg⟩ := Option.bind_eq_some_iff.1 hat
      have hoi : ops[i0]? = some o := by simpa using ho
      obtain ⟨w1, w2⟩ := GOp.within_spec (hw _ (List.mem_of_getElem? hg0))
      split at hB2
      · rename_i hdf
        obtain ⟨hdry, hfree⟩ := hdf
        unfold GOp.dry at hdry
        rw [hoi] at hdry
        simp only [Bool.and_eq_true] at hdry
        obtain ⟨⟨⟨hd1, hd2⟩, hd3⟩, hd4⟩ := hdry
        generalize hgg : gs[i0]?.getD .idle = g at *
        obtain ⟨c1, c2, c3⟩ := compG_at hg
        have hgn : g.guard = none := by simpa using hd2
        obtain ⟨d, hgd⟩ := Option.isSome_iff_exists.1 hd3
        have hon : o.guard = none := by
          rcases c3 with ⟨e1, _⟩ | ⟨j, ww, pp, dd, _, _, _, e4⟩
          · exact e1
          · rw [hgn] at e4; cases e4
        obtain ⟨s1, s2, s3, s4⟩ := SOp.dry_calm hd1
        simp only [List.map_cons, hgg, semL, GOp.sem, hgn, SOp.sem, s1, s2, oneF, s3, s4, hgd, if_false, Bool.false_eq_true] at h
        obtain ⟨S, ν, kk⟩ := k
        cases hqf : qf st d g.op with
        | none => rw [hqf] at h; exact h.elim
        | some z =>
          obtain ⟨p, y, ob⟩ := z
          have hp : p := by
            rw [hqf] at h
            cases ob with
            | none => exact h.1
            | some ob => exact h.1.1
          obtain ⟨rfl, v, hv1, hv2⟩ := dry_yields hT c1 hd4 hd1 hqf hp kk
          rw [hqf] at h
          have hi_not : i0 ∉ r := (List.nodup_cons.1 hnd).1
          refine wpAny_first hoi (Region.noSelect_spec hns) (fun c a w q => absurd q (hQ c _ w)) n listed a w (fun j oj hj hne hlj hdj => ?_) hr0 (.inl ⟨by simp [Region.wanted, hon], hv1⟩) ?_
          · have hjl : j < ops.size := (Array.getElem?_eq_some_iff.1 hj).1
            have hjm := (hm j).2 ⟨hjl, hlj⟩
            have hjr : j ∈ r := (List.mem_cons.1 hjm).resolve_left hne
            have := List.all_eq_true.1 hfree j hjr
            rw [hoi, hj] at this
            simp only [Bool.or_eq_true, beq_iff_eq, List.contains_eq_mem, decide_eq_true_eq] at this
            rcases this with (e | e) | e
            · exact absurd e hne
            · exfalso
              simp only [depsOf, hj, List.mem_map, List.mem_filter] at e
              obtain ⟨x, ⟨hx1, hx2⟩, hx3⟩ := e
              exact hdj x (by simpa using hx1) hx2 hx3
            · exact e
          · have hdst : o.dst = some d := c2.trans hgd
            rw [hdst]
            refine ih r _ (st.give d y none) _ w K (by simpa using hl) (List.nodup_cons.1 hnd).2 (by simpa using hs) (fun q => ?_) hB2 h.2 ⟨S, ν, kk.put (w1 d hgd) hv2⟩ hq
            constructor
            · intro hmem
              have h4 := (hm q).1 (List.mem_cons_of_mem _ hmem)
              refine ⟨h4.1, ?_⟩
              rw [hset0 listed i0 hs h00.1 q true h4.1, if_neg (fun (e : q = i0) => hi_not (e ▸ hmem))]
              exact h4.2
            · rintro ⟨h4, h5⟩
              rw [hset0 listed i0 hs h00.1 q true h4] at h5
              by_cases e : q = i0
              · rw [if_pos e] at h5; cases h5
              · rw [if_neg e] at h5
                exact (List.mem_cons.1 ((hm q).2 ⟨h4, h5⟩)).resolve_left e
      · refine ⟨fun hr => ?_, fun i hi => ?_⟩
        · rw [hr] at hr0; simp at hr0
        · obtain ⟨hi1, hi2, hi3⟩ := mem_ready.1 hi
          have hil := (hm i).2 ⟨hi1, hi2⟩
          have hgi : gs[i]? = some (gs[i]?.getD .idle) := by rw [List.getElem?_eq_getElem (by omega)]; rfl
          have hrd : rdy ops gs.length (i0 :: r) i = true := (ready_iff i).2 (fun e he => by
            have h3 := hi3 e he
            have hes : e < ops.size := by
              apply Classical.byContradiction
              intro hge
              have : listed[e]? = none := Array.getElem?_eq_none (by omega)
              simp [Array.getD_eq_getD_getElem?, this] at h3
            refine ⟨by omega, fun hmem => ?_⟩
            have h1 := (hm e).1 hmem
            exact (flip listed e hs h1.1).1 h1.2 h3)
          have hB3 := List.all_eq_true.1 hB2 i hil
          rw [hrd] at hB3
          simp only [Bool.not_true, Bool.false_or] at hB3
          split at hB3
          · rename_i l' hpl
            obtain ⟨pre, post, e1, rfl, hap⟩ := pullI_spec hpl
            have hpull : (gs[i]?.getD .idle).sem P st fun st' => semL P ((pre ++ post).map fun i => gs[i]?.getD .idle) st' K := by
              rw [e1] at h
              obtain ⟨S, ν, k'⟩ := k
              have := semL_pull (g := gs[i]?.getD .idle) (pre := pre.map fun i => gs[i]?.getD .idle) (post := post.map fun i => gs[i]?.getD .idle) (K := K) k'.live (fun p hp => by
                obtain ⟨j, hj, rfl⟩ := List.mem_map.1 hp
                exact hap j hj) (by simpa using h)
              simpa using this
            have hat2 := compL_at hc i
            rw [hgi] at hat2
            obtain ⟨o2, ho2, hg2⟩ := Option.bind_eq_some_iff.1 hat2
            obtain ⟨w3, w4⟩ := GOp.within_spec (hw _ (List.mem_of_getElem? hgi))
            refine wpOp_mono (fun a' w' hq' => ?_) (GOp.sound hT hTp (by simpa using ho2) hg2 w3 w4 hpull k)
            obtain ⟨st', h', k'⟩ := hq'
            have hnd' : (pre ++ i :: post).Nodup := by rw [← e1]; exact hnd
            have hi_not : i ∉ pre ++ post := by
              intro hmem
              have hp2 := List.pairwise_append.1 hnd'
              rcases List.mem_append.1 hmem with hmem | hmem
              · exact hp2.2.2 i hmem i (by simp) rfl
              · exact (List.nodup_cons.1 hp2.2.1).1 hmem
            refine ih (pre ++ post) _ st' a' w' K ?_ (hnd'.sublist (List.Sublist.append_left (List.sublist_cons_self _ _) _)) (by simpa using hs) (fun q => ?_) hB3 h' k' hq
            · have : (i0 :: r).length = (pre ++ i :: post).length := by rw [e1]
              simp only [List.length_cons, List.length_append] at this hl ⊢; omega
            · constructor
              · intro hmem
                have hmem2 : q ∈ i0 :: r := by rw [e1]; rcases List.mem_append.1 hmem with h | h <;> simp [h]
                have h4 := (hm q).1 hmem2
                refine ⟨h4.1, ?_⟩
                rw [hset0 listed i hs hi1 q true h4.1, if_neg (fun (e : q = i) => hi_not (e ▸ hmem))]
                exact h4.2
              · rintro ⟨h4, h5⟩
                rw [hset0 listed i hs hi1 q true h4] at h5
                by_cases e : q = i
                · rw [if_pos e] at h5; cases h5
                · rw [if_neg e] at h5
                  have := (hm q).2 ⟨h4, h5⟩
                  rw [e1] at this
                  simp only [List.mem_append, List.mem_cons] at this ⊢
                  rcases this with h | h | h
                  · exact .inl h
                  · exact absurd h e
                  · exact .inr h
          · cases hB3
variable {st : St} {a : Act} {w : World}
def permOk (n : Nat) (l : List Nat) : Bool := l.length == n && (decide l.Nodup && (l.all (fun i => decide (i < n)) && (List.range n).all (fun i => l.contains i)))
theorem region_any3 (hm : P.follows .mixedOrders = true) (hT : Tab.ok P T = true) (hTp : T.plain = true) {id : Nat} {gs : List GOp} (hc : compL T ops ops.toList = some gs) (hw : ∀ g, g ∈ gs → g.within Γ.N = true) (hns : Region.noSelect ops = true) {l : List Nat} (hl : permOk gs.length l = true) (hB : chk3 ops gs gs.length l = true) {K : St → Prop}
    (h : semL P (l.map fun i => gs[i]?.getD .idle) st K) (k : Rep Γ st a w) (hq : ∀ a' w' st', K st' → Rep Γ st' a' w' → Q .normal a' w') : (Code.region id ops true).wp P Q a w := by
  have hlen : gs.length = ops.size := by simpa using compL_length hc
  simp only [permOk, Bool.and_eq_true, beq_iff_eq, decide_eq_true_eq, List.all_eq_true, List.mem_range, List.contains_eq_mem] at hl
  obtain ⟨p1, p2, p3, p4⟩ := hl
  have hrep : ∀ i d, i < ops.size → (Array.replicate ops.size false).getD i d = false := by
    intro i d hi; simp [Array.getD_eq_getD_getElem?, hi]
  rw [hlen] at hB p1 p3 p4
  refine wp_mono (Q := fun e a' w' => e = .normal ∧ Q .normal a' w') (wp_region_any hm (any_sound3 hT hTp hc hw hns (fun c a w q => by cases q.1) ops.size l _ st a _ K p1 p2 (by simp) (fun i => ?_) hB h ?_ (fun a' w' st' h1 h2 => ⟨rfl, hq a' w' st' h1 h2⟩))) (fun e a' w' q => by obtain ⟨rfl, q⟩ := q; exact q)
  · exact ⟨fun hi => ⟨p3 i hi, hrep i true (p3 i hi)⟩, fun hi => p4 i hi.1⟩
  · obtain ⟨S, ν, k⟩ := k
    exact ⟨S, ν, k.drawn rfl rfl rfl rfl⟩
end
end Go.Proofs.YtoemclhjcbcjaaaGreat.AB
