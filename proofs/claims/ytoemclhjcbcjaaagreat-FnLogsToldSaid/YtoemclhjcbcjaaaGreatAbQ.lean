/- An operation behind its guard; operations in order. -/
import Derived.Test.YtoemclhjcbcjaaaGreatAbP
namespace Go.Proofs.YtoemclhjcbcjaaaGreat.AB
open Go
set_option linter.unusedVariables false
set_option linter.unusedSimpArgs false

/-- the operation is not wanted: its slot holds nothing -/
def GOp.skip (g : GOp) (st : St) : St := match g.dst with
  | none => st
  | some d => ⟨upd st.t d (.tup []), st.h⟩

def GOp.sem (P : Program) (g : GOp) (st : St) (K : St → Prop) : Prop :=
  match g.guard with
  | none => g.op.sem P g.dst st K
  | some (t, w) => match st.t t with
    | .c _ (.v (.bool b)) => (b = w → g.op.sem P g.dst st K) ∧ (b ≠ w → K (g.skip st))
    | .tup [] => K (g.skip st)
    | _ => False

def semL (P : Program) : List GOp → St → (St → Prop) → Prop
  | [], st, K => K st
  | g :: l, st, K => g.sem P st fun st' => semL P l st' K

theorem GOp.sem_mono {P : Program} {g : GOp} {st : St} {K K' : St → Prop} (h : g.sem P st K) (hk : ∀ st, K st → K' st) : g.sem P st K' := by
  unfold GOp.sem at h ⊢
  split at h
  · exact SOp.sem_mono h hk
  · split at h
    · exact ⟨fun e => SOp.sem_mono (h.1 e) hk, fun e => hk _ (h.2 e)⟩
    · exact hk _ h
    · exact h

theorem semL_mono {P : Program} : ∀ {l : List GOp} {st : St} {K K' : St → Prop}, semL P l st K → (∀ st, K st → K' st) → semL P l st K'
  | [], _, _, _, h, hk => hk _ h
  | _ :: _, _, _, _, h, hk => GOp.sem_mono h fun _ q => semL_mono q hk

theorem semL_append {P : Program} : ∀ {l m : List GOp} {st : St} {K : St → Prop}, semL P (l ++ m) st K ↔ semL P l st (fun st' => semL P m st' K)
  | [], _, _, _ => Iff.rfl
  | g :: l, m, st, K => by
    simp only [List.cons_append, semL]
    exact ⟨fun h => GOp.sem_mono h fun _ q => semL_append.1 q, fun h => GOp.sem_mono h fun _ q => semL_append.2 q⟩

section
variable {P : Program} {Γ : Gm} {S : Nat → Prop} {ν : Id → Value} {st : St} {a : Act} {w : World} {T : Tab} {ops : Array Oper} {Q : Exit → Act → World → Prop}

theorem compG_at {o : Oper} {g : GOp} (hc : compG T ops o = some g) : compOp T o.op = some g.op ∧ o.dst = g.dst ∧
    ((o.guard = none ∧ g.guard = none) ∨ ∃ j w p d, o.guard = some (j, w) ∧ ops[j]? = some p ∧ p.dst = some d ∧ g.guard = some (d, w)) := by
  unfold compG at hc
  split at hc
  · rename_i h1 h2
    cases hc
    exact ⟨h1, rfl, .inl ⟨h2, rfl⟩⟩
  · rename_i h1 h2
    split at hc
    · rename_i h3
      split at hc
      · rename_i h4
        cases hc
        exact ⟨h1, rfl, .inr ⟨_, _, _, _, h2, h3, h4, rfl⟩⟩
      · cases hc
    · cases hc
  · cases hc

theorem RepW.undef (k : RepW Γ S ν st a w) {d : Nat} (hd : d < Γ.N) : RepW Γ S ν ⟨upd st.t d (.tup []), st.h⟩ (a.put (some d) undef) w :=
  k.put hd (.tup (us := []) rfl (fun i x u hx _ => by simp at hx))

theorem skip_ok {g : GOp} (k : Rep Γ st a w) (hd : ∀ d, g.dst = some d → d < Γ.N) : Rep Γ (g.skip st) (a.put g.dst undef) w := by
  obtain ⟨S, ν, k⟩ := k
  unfold GOp.skip
  cases h : g.dst with
  | none => exact ⟨S, ν, k⟩
  | some d => exact ⟨S, ν, k.undef (hd d h)⟩

theorem tmps_some (k : RepW Γ S ν st a w) {d : Nat} (hd : d < Γ.N) : a.tmps[d]? = some (a.tmps.getD d Go.undef) := by
  have : d < a.tmps.size := by rw [k.size]; exact hd
  rw [Array.getD_eq_getD_getElem?, Array.getElem?_eq_getElem this]; rfl

/-- an operation of a region -/
theorem GOp.sound (hT : Tab.ok P T = true) (hTp : T.plain = true) {i : Nat} {o : Oper} {g : GOp} (hi : ops[i]? = some o) (hc : compG T ops o = some g) (hd : ∀ d, g.dst = some d → d < Γ.N)
    (hgd : ∀ t w, g.guard = some (t, w) → t < Γ.N) {K : St → Prop} (h : g.sem P st K) (k : Rep Γ st a w) :
    wpOp P ops Q i (fun a' w' => ∃ st', K st' ∧ Rep Γ st' a' w') a w := by
  obtain ⟨h1, h2, h3⟩ := compG_at hc
  have done : g.op.sem P g.dst st K → o.wp P a w (fun a' w' => ∃ st', K st' ∧ Rep Γ st' a' w') Q := fun hs =>
    SOp.sound hT hTp h1 (fun d hd' => hd d (h2 ▸ hd')) (h2 ▸ hs) k
  have skip : K (g.skip st) → ∃ st', K st' ∧ Rep Γ st' (a.put o.dst Go.undef) w := fun hk => ⟨_, hk, h2 ▸ skip_ok k hd⟩
  unfold wpOp
  simp only [hi]
  unfold GOp.sem at h
  rcases h3 with ⟨e1, e2⟩ | ⟨j, ww, p, d, e1, e2, e3, e4⟩
  · rw [e2] at h
    simp only [Region.wanted, e1, if_true]
    exact .inl (done h)
  · rw [e4] at h
    obtain ⟨S, ν, k'⟩ := k
    have hdt := hgd d ww e4
    have htm := tmps_some k' hdt
    have hk := k'.t d
    simp only at h
    split at h
    · rename_i b heq
      rw [heq] at hk
      obtain ⟨hv, _⟩ := hk.scal_eq
      have hy : yielded ops a.tmps j = some b := by simp [yielded, e2, e3, htm, hv]
      by_cases hb : b = ww
      · have : Region.wanted o (yielded ops a.tmps) = true := by simp [Region.wanted, e1, hy, hb]
        rw [if_pos this]
        exact .inl (done (h.1 hb))
      · have : ¬ Region.wanted o (yielded ops a.tmps) = true := by simp [Region.wanted, e1, hy, hb]
        rw [if_neg this]
        exact skip (h.2 hb)
    · rename_i heq
      rw [heq] at hk
      have hv : a.tmps.getD d Go.undef = .tuple #[] := by
        generalize a.tmps.getD d Go.undef = q at hk
        cases hk with
        | tup hl _ =>
          rename_i us _
          cases us with
          | nil => rfl
          | cons => simp at hl
      have hy : yielded ops a.tmps j = none := by simp [yielded, e2, e3, htm, hv]
      have : ¬ Region.wanted o (yielded ops a.tmps) = true := by simp [Region.wanted, e1, hy]
      rw [if_neg this]
      exact skip h
    · exact h.elim

/-- all slots that are written or looked at as guards are there -/
def GOp.within (N : Nat) (g : GOp) : Bool := (match g.dst with | none => true | some d => decide (d < N)) && (match g.guard with | none => true | some (t, _) => decide (t < N))

theorem GOp.within_spec {N : Nat} {g : GOp} (h : g.within N = true) : (∀ d, g.dst = some d → d < N) ∧ ∀ t w, g.guard = some (t, w) → t < N := by
  unfold GOp.within at h
  simp only [Bool.and_eq_true] at h
  refine ⟨fun d hd => ?_, fun t w ht => ?_⟩
  · have := h.1; rw [hd] at this; simpa using this
  · have := h.2; rw [ht] at this; simpa using this

theorem compL_at : ∀ {l : List Oper} {gs : List GOp}, compL T ops l = some gs → ∀ (i : Nat), (l[i]?).bind (compG T ops) = gs[i]?
  | [], gs, h, i => by cases h; simp
  | o :: l, gs, h, i => by
    simp only [compL] at h
    split at h
    · rename_i g l' h1 h2
      cases h
      cases i with
      | zero => simpa using h1
      | succ i => simpa using compL_at h2 i
    · cases h

theorem compL_length : ∀ {l : List Oper} {gs : List GOp}, compL T ops l = some gs → gs.length = l.length
  | [], gs, h => by cases h; rfl
  | o :: l, gs, h => by
    simp only [compL] at h
    split at h
    · rename_i g l' h1 h2
      cases h
      simp [compL_length h2]
    · cases h

/-- operations in the order in which they stand -/
theorem semL_sound (hT : Tab.ok P T = true) (hTp : T.plain = true) : ∀ {ix : List Nat} {gs : List GOp}, (∀ (n : Nat) (i : Nat) (g : GOp), ix[n]? = some i → gs[n]? = some g → ∃ o, ops[i]? = some o ∧ compG T ops o = some g) → ix.length = gs.length →
    (∀ g, g ∈ gs → g.within Γ.N = true) → ∀ {st : St} {a : Act} {w : World} {K : St → Prop}, semL P gs st K → Rep Γ st a w → (∀ a' w' st', K st' → Rep Γ st' a' w' → Q .normal a' w') → wpOps P ops Q ix a w
  | [], [], _, _, _, st, a, w, K, h, k, hq => hq a w st h k
  | i :: ix, g :: gs, hc, hl, hw, st, a, w, K, h, k, hq => by
    rw [wpOps_cons]
    obtain ⟨o, hi, hg⟩ := hc 0 i g rfl rfl
    obtain ⟨w1, w2⟩ := GOp.within_spec (hw g (by simp))
    refine wpOp_mono (fun a' w' hq' => ?_) (GOp.sound hT hTp hi hg w1 w2 h k)
    obtain ⟨st', h', k'⟩ := hq'
    exact semL_sound hT hTp (fun n i g h1 h2 => hc (n + 1) i g h1 h2) (by simpa using hl) (fun g hg => hw g (by simp [hg])) h' k' hq
  | [], _ :: _, _, hl, _, _, _, _, _, _, _, _ => by simp at hl
  | _ :: _, [], _, hl, _, _, _, _, _, _, _, _ => by simp at hl

theorem region_sound (hT : Tab.ok P T = true) (hTp : T.plain = true) {id : Nat} {gs : List GOp} (hc : compL T ops ops.toList = some gs) (hw : ∀ g, g ∈ gs → g.within Γ.N = true) {K : St → Prop}
    (h : semL P gs st K) (k : Rep Γ st a w) (hq : ∀ a' w' st', K st' → Rep Γ st' a' w' → Q .normal a' w') : (Code.region id ops false).wp P Q a w := by
  refine wp_region (semL_sound hT hTp (fun n i g h1 h2 => ?_) (by simp [compL_length hc]) hw h k hq)
  have h3 := compL_at hc n
  rw [h2] at h3
  have hn : n = i := by
    have := List.getElem?_eq_some_iff.1 h1
    obtain ⟨h5, h6⟩ := this
    simpa using h6
  subst hn
  obtain ⟨o, ho, hg⟩ := Option.bind_eq_some_iff.1 h3
  exact ⟨o, by simpa using ho, hg⟩
end
end Go.Proofs.YtoemclhjcbcjaaaGreat.AB
