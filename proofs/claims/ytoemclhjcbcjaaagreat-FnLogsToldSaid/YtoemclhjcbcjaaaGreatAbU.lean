/- Regions: in the order of the text, and in any order. -/
import Derived.Test.YtoemclhjcbcjaaaGreatAbS
namespace Go.Proofs.YtoemclhjcbcjaaaGreat.AB
open Go
set_option linter.unusedVariables false
set_option linter.unusedSimpArgs false

theorem reach_listed {deps : Nat → List Nat} {L : Nat → Prop} (hcl : ∀ i, L i → ∀ e, e ∈ deps i → L e) : ∀ (f j i : Nat), (∀ e, e ∈ deps i → L e) → reach deps f j i = true → L j
  | 0, _, _, _, h => by simp [reach] at h
  | f + 1, j, i, hi, h => by
    simp only [reach, Bool.or_eq_true, List.contains_eq_mem, decide_eq_true_eq, List.any_eq_true, Bool.and_eq_true] at h
    rcases h with h | ⟨e, he, _, hr⟩
    · exact hi j h
    · exact reach_listed hcl f j e (hcl e (hi e he)) hr

theorem mem_ready {ops : Array Oper} {listed : Array Bool} {i : Nat} : i ∈ Region.ready .any ops listed ↔ i < ops.size ∧ listed.getD i true = false ∧ ∀ e, e ∈ depsOf ops i → listed.getD e false = true := by
  unfold Region.ready
  rw [List.mem_filter, List.mem_range]
  refine and_congr_right (fun hi => ?_)
  have ho : ops[i]? = some ops[i] := Array.getElem?_eq_getElem hi
  simp only [ho, Option.map_some, Option.getD_some, Bool.and_eq_true, Bool.not_eq_true', depsOf, List.mem_map, List.mem_filter]
  refine and_congr_right (fun _ => ?_)
  rw [Array.all_eq_true']
  constructor
  · rintro h e ⟨x, ⟨hx, hb⟩, rfl⟩
    have := h x (by simpa using hx)
    simpa [hb] using this
  · intro h x hx
    by_cases hb : Region.binds .any x = true
    · simp [hb, h x.on ⟨x, ⟨by simpa using hx, hb⟩, rfl⟩]
    · simp [Bool.not_eq_true .. ▸ hb]

section
variable {P : Program} {Γ : Gm} {T : Tab} {ops : Array Oper} {Q : Exit → Act → World → Prop}

theorem any_sound (hT : Tab.ok P T = true) (hTp : T.plain = true) {gs : List GOp} (hc : compL T ops ops.toList = some gs) (hw : ∀ g, g ∈ gs → g.within Γ.N = true) (hB : ordB (depsOf ops) gs = true) :
    ∀ (n : Nat) (l : List Nat) (listed : Array Bool) (st : St) (a : Act) (w : World) (K : St → Prop), l.length = n → l.Pairwise (· < ·) → listed.size = ops.size → (∀ i, i ∈ l ↔ i < ops.size ∧ listed.getD i true = false) →
      (∀ i, i < ops.size → listed.getD i false = true → ∀ e, e ∈ depsOf ops i → listed.getD e false = true) →
      semL P (l.map fun i => gs[i]?.getD .idle) st K → Rep Γ st a w → (∀ a' w' st', K st' → Rep Γ st' a' w' → Q .normal a' w') → wpAny P .any ops Q n listed a w := by
  have hlen : gs.length = ops.size := by simpa using compL_length hc
  have hordi : ∀ i, i < ops.size → (∀ e, e ∈ depsOf ops i → e < i) ∧ ∀ j, j < i → reach (depsOf ops) gs.length j i = true ∨ (gs[j]?.getD .idle).apart (gs[i]?.getD .idle) = true := by
    intro i hi
    unfold ordB at hB
    have := List.all_eq_true.1 hB i (by simpa [hlen] using hi)
    simp only [Bool.and_eq_true, List.all_eq_true, decide_eq_true_eq, List.mem_range, Bool.or_eq_true] at this
    exact this
  have flip : ∀ (listed : Array Bool) i, listed.size = ops.size → i < ops.size → (listed.getD i true = false ↔ ¬ listed.getD i false = true) := by
    intro listed i hs hi
    have : listed[i]? = some listed[i] := Array.getElem?_eq_getElem (by omega)
    simp [Array.getD_eq_getD_getElem?, this]
  intro n
  induction n with
  | zero =>
    intro l listed st a w K hl hp hs hm hcl h k hq
    obtain rfl : l = [] := List.length_eq_zero_iff.1 hl
    refine ⟨?_, hq _ _ st h k⟩
    refine List.eq_nil_iff_forall_not_mem.2 (fun i hi => ?_)
    have := mem_ready.1 hi
    exact absurd ((hm i).2 ⟨this.1, this.2.1⟩) (by simp)
  | succ n ih =>
    intro l listed st a w K hl hp hs hm hcl h k hq
    refine ⟨fun hr => ?_, fun i hi => ?_⟩
    · cases l with
      | nil => simp at hl
      | cons i0 l =>
        exfalso
        have h0 := (hm i0).1 (by simp)
        have : i0 ∈ Region.ready .any ops listed := by
          refine mem_ready.2 ⟨h0.1, h0.2, fun e he => ?_⟩
          have hlt := (hordi i0 h0.1).1 e he
          have hne : ¬ e ∈ i0 :: l := by
            intro hmem
            rcases List.mem_cons.1 hmem with rfl | hmem
            · omega
            · have := List.rel_of_pairwise_cons hp hmem; omega
          have h1 : ¬ listed.getD e true = false := fun q => hne ((hm e).2 ⟨by omega, q⟩)
          exact Classical.not_not.1 (fun q => h1 ((flip listed e hs (by omega)).2 q))
        rw [hr] at this
        simp at this
    · obtain ⟨hi1, hi2, hi3⟩ := mem_ready.1 hi
      have hil := (hm i).2 ⟨hi1, hi2⟩
      obtain ⟨pre, post, rfl⟩ := List.append_of_mem hil
      have hgi : gs[i]? = some (gs[i]?.getD .idle) := by rw [List.getElem?_eq_getElem (by omega)]; rfl
      have hlt : ∀ j, j ∈ pre → j < i := fun j hj => (List.pairwise_append.1 hp).2.2 j hj i (by simp)
      have hapart : ∀ p, p ∈ pre.map (fun i => gs[i]?.getD .idle) → p.apart (gs[i]?.getD .idle) = true := by
        intro p hp'
        obtain ⟨j, hj, rfl⟩ := List.mem_map.1 hp'
        refine ((hordi i hi1).2 j (hlt j hj)).resolve_left (fun hr => ?_)
        have hj2 := (hm j).1 (by simp [hj])
        have : listed.getD j false = true := reach_listed (L := fun q => listed.getD q false = true) (fun q hq' e he => by
          by_cases hqs : q < ops.size
          · exact hcl q hqs hq' e he
          · have : ops[q]? = none := Array.getElem?_eq_none (by omega)
            simp [depsOf, this] at he) _ j i hi3 hr
        exact (flip listed j hs hj2.1).1 hj2.2 this
      have hpull : (gs[i]?.getD .idle).sem P st fun st' => semL P ((pre ++ post).map fun i => gs[i]?.getD .idle) st' K := by
        obtain ⟨S, ν, k'⟩ := k
        have := semL_pull (g := gs[i]?.getD .idle) (pre := pre.map fun i => gs[i]?.getD .idle) (post := post.map fun i => gs[i]?.getD .idle) (K := K) k'.live hapart (by simpa using h)
        simpa using this
      have hat := compL_at hc i
      rw [hgi] at hat
      obtain ⟨o, ho, hg⟩ := Option.bind_eq_some_iff.1 hat
      obtain ⟨w1, w2⟩ := GOp.within_spec (hw _ (List.mem_of_getElem? hgi))
      refine wpOp_mono (fun a' w' hq' => ?_) (GOp.sound hT hTp (by simpa using ho) hg w1 w2 hpull k)
      obtain ⟨st', h', k'⟩ := hq'
      have hnd := hp.imp (fun {a b} (h : a < b) => Nat.ne_of_lt h)
      have hset : ∀ q d, q < ops.size → (listed.setIfInBounds i true).getD q d = if q = i then true else listed.getD q d := by
        intro q d hqs
        simp only [Array.getD_eq_getD_getElem?, Array.getElem?_setIfInBounds]
        by_cases e : q = i
        · subst e; simp [hs, hi1]
        · rw [if_neg e, if_neg (fun h => e h.symm)]
      have hi_not : i ∉ pre ++ post := by
        have hnd' : (pre ++ i :: post).Pairwise (· ≠ ·) := hnd
        rw [List.pairwise_append] at hnd'
        obtain ⟨_, h2, h3⟩ := hnd'
        intro hmem
        rcases List.mem_append.1 hmem with hmem | hmem
        · exact h3 i hmem i (by simp) rfl
        · exact (List.rel_of_pairwise_cons h2 hmem) rfl
      refine ih (pre ++ post) _ st' a' w' K (by simp at hl ⊢; omega) ?_ (by simpa using hs) (fun q => ?_) (fun q hqs hql e he => ?_) h' k' hq
      · exact hp.sublist (List.Sublist.append_left (List.sublist_cons_self _ _) _)
      · constructor
        · intro hmem
          have h4 := (hm q).1 (by rcases List.mem_append.1 hmem with h | h <;> simp [h])
          refine ⟨h4.1, ?_⟩
          rw [hset q true h4.1, if_neg (fun (e : q = i) => hi_not (e ▸ hmem))]
          exact h4.2
        · rintro ⟨h4, h5⟩
          rw [hset q true h4] at h5
          by_cases e : q = i
          · rw [if_pos e] at h5; cases h5
          · rw [if_neg e] at h5
            have := (hm q).2 ⟨h4, h5⟩
            simp only [List.mem_append, List.mem_cons] at this ⊢
            rcases this with h | h | h
            · exact .inl h
            · exact absurd h e
            · exact .inr h
      · have hes : e < ops.size := by have := (hordi q hqs).1 e he; omega
        rw [hset e false hes]
        by_cases e1 : e = i
        · rw [if_pos e1]
        · rw [if_neg e1]
          rw [hset q false hqs] at hql
          by_cases e2 : q = i
          · subst e2; exact hi3 e he
          · rw [if_neg e2] at hql
            exact hcl q hqs hql e he


theorem pullI_spec {gs : List GOp} {i : Nat} : ∀ {l r : List Nat}, pullI gs i l = some r → ∃ pre post, l = pre ++ i :: post ∧ r = pre ++ post ∧ ∀ j, j ∈ pre → (gs[j]?.getD .idle).apart (gs[i]?.getD .idle) = true
  | [], r, h => by simp [pullI] at h
  | j :: l, r, h => by
    simp only [pullI] at h
    split at h
    · rename_i e
      obtain rfl := Option.some.inj h
      subst e
      exact ⟨[], l, rfl, rfl, by simp⟩
    · split at h
      · rename_i ha
        obtain ⟨r', hr, rfl⟩ := Option.map_eq_some_iff.1 h
        obtain ⟨pre, post, rfl, rfl, hp⟩ := pullI_spec hr
        refine ⟨j :: pre, post, rfl, rfl, fun k hk => ?_⟩
        rcases List.mem_cons.1 hk with rfl | hk
        · exact ha
        · exact hp k hk
      · cases h

theorem famB_nil (deps : Nat → List Nat) (gs : List GOp) : ∀ (n : Nat) (rem : List Nat), famB deps gs n rem [] = false
  | 0, rem => by simp [famB]
  | n + 1, rem => by
    simp only [famB, List.filterMap_nil]
    rw [Bool.and_eq_false_iff]
    by_cases h : (rem.any fun i => (deps i).all fun e => decide (e < gs.length) && !rem.contains e) = true
    · right
      obtain ⟨i, hi, hr⟩ := List.any_eq_true.1 h
      rw [List.all_eq_false]
      exact ⟨i, hi, by rw [hr, famB_nil deps gs n]; simp⟩
    · left; simpa using h

theorem sem_two {g : GOp} (h1 : g.op.isCall = false) (h2 : g.op.isCallM = false) {st : St} {K K' : St → Prop} (h : g.sem P st K) (h' : g.sem P st K') : g.sem P st fun st' => K st' ∧ K' st' := by
  have key : ∀ {K K' : St → Prop}, g.op.sem P g.dst st K → g.op.sem P g.dst st K' → g.op.sem P g.dst st fun st' => K st' ∧ K' st' := by
    intro K K' q q'
    unfold SOp.sem at q q' ⊢
    simp only [h1, h2, Bool.false_eq_true, if_false] at q q' ⊢
    cases ho : oneF st g.dst g.op with
    | none => rw [ho] at q; exact q.elim
    | some x =>
      obtain ⟨p, st'⟩ := x
      rw [ho] at q q'
      exact ⟨q.1, q.2, q'.2⟩
  unfold GOp.sem at h h' ⊢
  cases hg : g.guard with
  | none =>
    rw [hg] at h h'
    exact key h h'
  | some tw =>
    obtain ⟨t, w⟩ := tw
    rw [hg] at h h'
    simp only at h h' ⊢
    generalize st.t t = x at h h' ⊢
    split at h
    · exact ⟨fun e => key (h.1 e) (h'.1 e), fun e => ⟨h.2 e, h'.2 e⟩⟩
    · exact ⟨h, h'⟩
    · exact h.elim

theorem sem_all {g : GOp} (h1 : g.op.isCall = false) (h2 : g.op.isCallM = false) {st : St} {α : Type} {K : α → St → Prop} : ∀ (l : List α), l ≠ [] → (∀ o, o ∈ l → g.sem P st (K o)) → g.sem P st fun st' => ∀ o, o ∈ l → K o st'
  | [], hn, _ => absurd rfl hn
  | [o], _, h => GOp.sem_mono (h o (by simp)) fun st' q o' ho => by simp at ho; subst ho; exact q
  | o :: o2 :: l, _, h => GOp.sem_mono (sem_two h1 h2 (h o (by simp)) (sem_all h1 h2 (o2 :: l) (by simp) fun o' ho => h o' (List.mem_cons_of_mem _ ho))) fun st' q o' ho => by
      rcases List.mem_cons.1 ho with rfl | ho
      · exact q.1
      · exact q.2 o' ho

theorem len_without {i : Nat} : ∀ {l : List Nat}, l.Nodup → i ∈ l → (l.filter (· != i)).length + 1 = l.length
  | j :: l, hn, hi => by
    obtain ⟨h1, h2⟩ := List.nodup_cons.1 hn
    by_cases e : j = i
    · subst e
      rw [List.filter_cons_of_neg (by simp), List.filter_eq_self.2 (fun k hk => by simp; rintro rfl; exact h1 hk)]; rfl
    · rw [List.filter_cons_of_pos (by simpa using e)]
      have := len_without h2 ((List.mem_cons.1 hi).resolve_left (fun q => e q.symm))
      simp only [List.length_cons]; omega

theorem any_sound2 (hT : Tab.ok P T = true) (hTp : T.plain = true) {gs : List GOp} (hc : compL T ops ops.toList = some gs) (hw : ∀ g, g ∈ gs → g.within Γ.N = true) (hdet : gs.all (fun g => !g.op.isCall && !g.op.isCallM) = true) :
    ∀ (n : Nat) (rem : List Nat) (fam : List (List Nat)) (listed : Array Bool) (st : St) (a : Act) (w : World) (K : St → Prop), rem.length = n → rem.Nodup → listed.size = ops.size → (∀ i, i ∈ rem ↔ i < ops.size ∧ listed.getD i true = false) →
      famB (depsOf ops) gs n rem fam = true → (∀ o, o ∈ fam → semL P (o.map fun i => gs[i]?.getD .idle) st K) → Rep Γ st a w → (∀ a' w' st', K st' → Rep Γ st' a' w' → Q .normal a' w') → wpAny P .any ops Q n listed a w := by
  have hlen : gs.length = ops.size := by simpa using compL_length hc
  have flip : ∀ (listed : Array Bool) i, listed.size = ops.size → i < ops.size → (listed.getD i true = false ↔ ¬ listed.getD i false = true) := by
    intro listed i hs hi
    have : listed[i]? = some listed[i] := Array.getElem?_eq_getElem (by omega)
    simp [Array.getD_eq_getD_getElem?, this]
  intro n
  induction n with
  | zero =>
    intro rem fam listed st a w K hl hnd hs hm hB h k hq
    obtain rfl : rem = [] := List.length_eq_zero_iff.1 hl
    simp only [famB, Bool.and_eq_true, Bool.not_eq_true', List.all_eq_true] at hB
    refine ⟨?_, ?_⟩
    · refine List.eq_nil_iff_forall_not_mem.2 (fun i hi => ?_)
      have := mem_ready.1 hi
      exact absurd ((hm i).2 ⟨this.1, this.2.1⟩) (by simp)
    · cases fam with
      | nil => simp at hB
      | cons o fam =>
        have ho := hB.2 o (by simp)
        obtain rfl : o = [] := List.isEmpty_iff.1 ho
        exact hq _ _ st (h [] (by simp)) k
  | succ n ih =>
    intro rem fam listed st a w K hl hnd hs hm hB h k hq
    have ready_iff : ∀ i, i ∈ rem → (((depsOf ops i).all fun e => decide (e < gs.length) && !rem.contains e) = true ↔ ∀ e, e ∈ depsOf ops i → e < gs.length ∧ ¬ e ∈ rem) := by
      intro i _; simp
    simp only [famB, Bool.and_eq_true] at hB
    refine ⟨fun hr => ?_, fun i hi => ?_⟩
    · exfalso
      obtain ⟨i, hi, hrd⟩ := List.any_eq_true.1 hB.1
      have h0 := (hm i).1 hi
      have hmem : i ∈ Region.ready .any ops listed := by
        refine mem_ready.2 ⟨h0.1, h0.2, fun e he => ?_⟩
        have h1 := (ready_iff i hi).1 hrd e he
        have hes : e < ops.size := by omega
        have h2 : ¬ listed.getD e true = false := fun q => h1.2 ((hm e).2 ⟨hes, q⟩)
        exact Classical.not_not.1 (fun q => h2 ((flip listed e hs hes).2 q))
      rw [hr] at hmem
      simp at hmem
    · obtain ⟨hi1, hi2, hi3⟩ := mem_ready.1 hi
      have hil := (hm i).2 ⟨hi1, hi2⟩
      have hgi : gs[i]? = some (gs[i]?.getD .idle) := by rw [List.getElem?_eq_getElem (by omega)]; rfl
      have hrd : ((depsOf ops i).all fun e => decide (e < gs.length) && !rem.contains e) = true := (ready_iff i hil).2 (fun e he => by
        have h3 := hi3 e he
        have hes : e < ops.size := by
          apply Classical.byContradiction
          intro hge
          have : listed[e]? = none := Array.getElem?_eq_none (by omega)
          simp [Array.getD_eq_getD_getElem?, this] at h3
        refine ⟨by omega, fun hmem => ?_⟩
        have h1 := (hm e).1 hmem
        exact (flip listed e hs h1.1).1 h1.2 h3)
      have hB2 := List.all_eq_true.1 hB.2 i hil
      rw [hrd] at hB2
      simp only [Bool.not_true, Bool.false_or] at hB2
      have hne : fam.filterMap (pullI gs i) ≠ [] := by
        intro q; rw [q, famB_nil] at hB2; cases hB2
      have hd := List.all_eq_true.1 hdet _ (List.mem_of_getElem? hgi)
      simp only [Bool.and_eq_true, Bool.not_eq_true'] at hd
      have hpull : (gs[i]?.getD .idle).sem P st fun st' => ∀ o, o ∈ fam.filterMap (pullI gs i) → semL P (o.map fun i => gs[i]?.getD .idle) st' K := by
        refine sem_all hd.1 hd.2 _ hne (fun o ho => ?_)
        obtain ⟨o0, ho0, hpo⟩ := List.mem_filterMap.1 ho
        obtain ⟨pre, post, rfl, rfl, hap⟩ := pullI_spec hpo
        have h0 := h _ ho0
        obtain ⟨S, ν, k'⟩ := k
        have := semL_pull (g := gs[i]?.getD .idle) (pre := pre.map fun i => gs[i]?.getD .idle) (post := post.map fun i => gs[i]?.getD .idle) (K := K) k'.live (fun p hp => by
          obtain ⟨j, hj, rfl⟩ := List.mem_map.1 hp
          exact hap j hj) (by simpa using h0)
        simpa using this
      have hat := compL_at hc i
      rw [hgi] at hat
      obtain ⟨o, ho, hg⟩ := Option.bind_eq_some_iff.1 hat
      obtain ⟨w1, w2⟩ := GOp.within_spec (hw _ (List.mem_of_getElem? hgi))
      refine wpOp_mono (fun a' w' hq' => ?_) (GOp.sound hT hTp (by simpa using ho) hg w1 w2 hpull k)
      obtain ⟨st', h', k'⟩ := hq'
      have hset : ∀ q d, q < ops.size → (listed.setIfInBounds i true).getD q d = if q = i then true else listed.getD q d := by
        intro q d hqs
        simp only [Array.getD_eq_getD_getElem?, Array.getElem?_setIfInBounds]
        by_cases e : q = i
        · subst e; simp [hs, hi1]
        · rw [if_neg e, if_neg (fun h => e h.symm)]
      refine ih (rem.filter (· != i)) (fam.filterMap (pullI gs i)) _ st' a' w' K ?_ (hnd.sublist List.filter_sublist) (by simpa using hs) (fun q => ?_) hB2 h' k' hq
      · have h1 : (rem.filter (· != i)).length + 1 = rem.length := len_without hnd hil
        omega
      · simp only [List.mem_filter, bne_iff_ne, ne_eq]
        constructor
        · rintro ⟨h4, h5⟩
          have h6 := (hm q).1 h4
          refine ⟨h6.1, ?_⟩
          rw [hset q true h6.1, if_neg h5]; exact h6.2
        · rintro ⟨h4, h5⟩
          rw [hset q true h4] at h5
          by_cases e : q = i
          · rw [if_pos e] at h5; cases h5
          · rw [if_neg e] at h5
            exact ⟨(hm q).2 ⟨h4, h5⟩, e⟩

variable {st : St} {a : Act} {w : World}

theorem region_any (hm : P.follows .mixedOrders = true) (hT : Tab.ok P T = true) (hTp : T.plain = true) {id : Nat} {gs : List GOp} (hc : compL T ops ops.toList = some gs) (hw : ∀ g, g ∈ gs → g.within Γ.N = true) (hB : ordB (depsOf ops) gs = true) {K : St → Prop}
    (h : semL P gs st K) (k : Rep Γ st a w) (hq : ∀ a' w' st', K st' → Rep Γ st' a' w' → Q .normal a' w') : (Code.region id ops true).wp P Q a w := by
  have hlen : gs.length = ops.size := by simpa using compL_length hc
  have hmap : (List.range ops.size).map (fun i => gs[i]?.getD GOp.idle) = gs := by
    refine List.ext_getElem? (fun i => ?_)
    rw [List.getElem?_map]
    by_cases hi : i < ops.size
    · have : gs[i]? = some (gs[i]'(by omega)) := List.getElem?_eq_getElem (by omega)
      rw [List.getElem?_range hi, Option.map_some, this]; rfl
    · rw [List.getElem?_eq_none (by simpa using hi), List.getElem?_eq_none (by omega)]; rfl
  have hrep : ∀ i d, i < ops.size → (Array.replicate ops.size false).getD i d = false := by
    intro i d hi; simp [Array.getD_eq_getD_getElem?, hi]
  refine wp_region_any hm (any_sound hT hTp hc hw hB ops.size (List.range ops.size) _ st a _ K (by simp) List.pairwise_lt_range (by simp) (fun i => ?_) (fun i hi hl => ?_) (by rw [hmap]; exact h) ?_ hq)
  · rw [List.mem_range]
    exact ⟨fun hi => ⟨hi, hrep i true hi⟩, fun hi => hi.1⟩
  · rw [hrep i false hi] at hl; cases hl
  · obtain ⟨S, ν, k⟩ := k
    exact ⟨S, ν, k.drawn rfl rfl rfl rfl⟩

def semO (P : Program) : List (List GOp) → St → (St → Prop) → Prop
  | [], _, _ => True
  | l :: r, st, K => semL P l st K ∧ semO P r st K
theorem semO_all {ls : List (List GOp)} {st : St} {K : St → Prop} : semO P ls st K → ∀ l, l ∈ ls → semL P l st K := by
  induction ls with
  | nil => intro _ l hl; simp at hl
  | cons x r ih =>
    rintro ⟨h1, h2⟩ l hl
    rcases List.mem_cons.1 hl with rfl | hl
    · exact h1
    · exact ih h2 l hl

theorem region_any2 (hm : P.follows .mixedOrders = true) (hT : Tab.ok P T = true) (hTp : T.plain = true) {id : Nat} {gs : List GOp} (hc : compL T ops ops.toList = some gs) (hw : ∀ g, g ∈ gs → g.within Γ.N = true) (hB : ordB2 (depsOf ops) gs = true) {K : St → Prop}
    (h : semO P (ordsL gs) st K) (k : Rep Γ st a w) (hq : ∀ a' w' st', K st' → Rep Γ st' a' w' → Q .normal a' w') : (Code.region id ops true).wp P Q a w := by
  have hlen : gs.length = ops.size := by simpa using compL_length hc
  have hrep : ∀ i d, i < ops.size → (Array.replicate ops.size false).getD i d = false := by
    intro i d hi; simp [Array.getD_eq_getD_getElem?, hi]
  unfold ordB2 at hB
  rw [Bool.and_eq_true] at hB
  refine wp_region_any hm (any_sound2 hT hTp hc hw hB.1 ops.size (List.range ops.size) (ordsI gs) _ st a _ K (by simp) List.nodup_range (by simp) (fun i => ?_) (by rw [← hlen]; exact hB.2) (fun o ho => ?_) ?_ hq)
  · rw [List.mem_range]
    exact ⟨fun hi => ⟨hi, hrep i true hi⟩, fun hi => hi.1⟩
  · exact semO_all h _ (List.mem_map_of_mem ho)
  · obtain ⟨S, ν, k⟩ := k
    exact ⟨S, ν, k.drawn rfl rfl rfl rfl⟩
end
end Go.Proofs.YtoemclhjcbcjaaaGreat.AB
