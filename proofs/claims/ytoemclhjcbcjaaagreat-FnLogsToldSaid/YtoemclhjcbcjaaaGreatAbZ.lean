/- From what comes in, as a row reads it, to what slots hold; and from a contract to a row. -/
import Derived.Test.YtoemclhjcbcjaaaGreatAbY
import Derived.WalkKit
import Derived.ProofKit
import Derived.OpenShut
import Derived.ShutString
import Derived.Carry
import Derived.SizedLaws
namespace Go.Proofs.YtoemclhjcbcjaaaGreat.AB
open Go
set_option linter.unusedVariables false
set_option linter.unusedSimpArgs false

/-- fields lie one behind the other -/
def contig (P : Program) : List Field → Nat → Nat → Bool
  | [], o, n => o == n
  | f :: r, o, n => f.offset == o && contig P r (o + P.cellsOf f.type) n

/-- types of numbers, truth values, texts, structs and slices -/
def plainT (P : Program) : Nat → TypeId → Bool
  | 0, _ => false
  | q + 1, t => match P.underlying t with
    | some .bool => true
    | some (.int _) => true
    | some .string => true
    | some (.slice e) => plainT P q e && P.cellsOf e != 0
    | some (.struct fs) => fs.toList.all (fun f => plainT P q f.type) && contig P fs.toList 0 (P.cellsOf t)
    | _ => false

def HasFs (go : TypeId → List C → Prop) : List Field → List C → Prop
  | [], cs => cs = []
  | f :: r, cs => ∃ a b, cs = a ++ b ∧ go f.type a ∧ HasFs go r b

/-- cells of a type -/
def HasT (P : Program) : Nat → TypeId → List C → Prop
  | 0, _, _ => False
  | q + 1, t, cs => match P.underlying t with
    | some .bool => ∃ b, cs = [.v (.bool b)]
    | some (.int k) => ∃ n, cs = [.v (.int k n)] ∧ (Lit.int k n).wf = true
    | some .string => ∃ s, cs = [.v (.string s)] ∧ s.size ≤ maxLen
    | some (.slice e) => ∃ xs : List (List C), cs = [.sl xs] ∧ xs.length ≤ maxLen ∧ ∀ r, r ∈ xs → HasT P q e r
    | some (.struct fs) => HasFs (HasT P q) fs.toList cs
    | _ => False

theorem exists_list {α : Type} {p : Nat → α → Prop} : ∀ (n : Nat), (∀ i, i < n → ∃ x, p i x) → ∃ l : List α, l.length = n ∧ ∀ (i : Nat) (x : α), l[i]? = some x → p i x
  | 0, _ => ⟨[], rfl, fun i x h => by simp at h⟩
  | n + 1, h => by
    obtain ⟨l, hl, hp⟩ := exists_list n (fun i hi => h i (by omega))
    obtain ⟨x, hx⟩ := h n (by omega)
    refine ⟨l ++ [x], by simp [hl], fun i y hy => ?_⟩
    by_cases hi : i < n
    · rw [List.getElem?_append_left (by omega)] at hy
      exact hp i y hy
    · rw [List.getElem?_append_right (by omega)] at hy
      have : i = n := by
        have := (List.getElem?_eq_some_iff.1 hy).1
        simp at this; omega
      subst this
      simp [hl] at hy
      subst hy
      exact hx

theorem mapM_at {α β : Type} {f : α → Option β} : ∀ {l : List α} {ys : List β}, l.mapM f = some ys → ys.length = l.length ∧ ∀ (i : Nat) (x : α), l[i]? = some x → ∃ y, ys[i]? = some y ∧ f x = some y
  | [], ys, h => by simp at h; subst h; exact ⟨rfl, fun i x hx => by simp at hx⟩
  | a :: l, ys, h => by
    rw [List.mapM_cons] at h
    cases hf : f a with
    | none => simp [hf] at h
    | some y =>
      cases hm : l.mapM f with
      | none => simp [hf, hm] at h
      | some zs =>
        simp [hf, hm] at h
        subst h
        obtain ⟨h1, h2⟩ := mapM_at hm
        refine ⟨by simp [h1], fun i x hx => ?_⟩
        cases i with
        | zero => simp at hx; subst hx; exact ⟨y, rfl, hf⟩
        | succ i => exact h2 i x (by simpa using hx)

section
variable {P : Program} {T : Tab} {w : World} {H : Type} {enc : TypeId × Value → H} {sp : Nat → Bool} {held : Bool}

/-- all blocks that there are -/
def allB (w : World) (b : Nat) : Prop := b < w.heap.size

def Reads (P : Program) (w : World) (q : Nat) (t : TypeId) (cs : List Value) : Prop :=
  ∃ xs : List C, xs.length = cs.length ∧ HasT P q t xs ∧ ∀ (i : Nat) (x : C) (u : Value), xs[i]? = some x → cs[i]? = some u → Im (allB w) w u x

theorem cells_at {a : Addr} {n base : Nat} {us : List Value} (h : w.cells? base a n = some us) : us.length = n ∧ ∀ (j : Nat) (u : Value), us[j]? = some u → w.cell? (a.add j) = some u := by
  unfold World.cells? at h
  split at h
  · obtain ⟨h1, h2⟩ := mapM_at h
    rw [List.length_range] at h1
    refine ⟨h1, fun j u hu => ?_⟩
    have hj : j < n := by rw [← h1]; exact (List.getElem?_eq_some_iff.1 hu).1
    obtain ⟨y, hy, hf⟩ := h2 j j (List.getElem?_range hj)
    rw [hu] at hy
    cases hy
    exact hf
  · cases h

theorem reads_fs (q : Nat) {go : TypeId → List Value → Option (DataW H × List MemPlace)} (ih : ∀ t cs x, plainT P q t = true → go t cs = some x → Reads P w q t cs) : ∀ (fs : List Field) (o n : Nat) (cs : List Value), fs.all (fun f => plainT P q f.type) = true → contig P fs o n = true → cs.length = n → o ≤ n →
    (∀ f, f ∈ fs → ∃ x, go f.type ((cs.drop f.offset).take (P.cellsOf f.type)) = some x) →
    ∃ xs : List C, xs.length = (cs.drop o).length ∧ HasFs (HasT P q) fs xs ∧ ∀ (i : Nat) (x : C) (u : Value), xs[i]? = some x → (cs.drop o)[i]? = some u → Im (allB w) w u x
  | [], o, n, cs, _, hc, hl, _, _ => by
    simp only [contig, beq_iff_eq] at hc
    subst hc
    exact ⟨[], by simp [hl], rfl, fun i x u hx => by simp at hx⟩
  | f :: r, o, n, cs, hp, hc, hl, ho, hall => by
    simp only [contig, Bool.and_eq_true, beq_iff_eq] at hc
    simp only [List.all_cons, Bool.and_eq_true] at hp
    obtain ⟨rfl, hc⟩ := hc
    obtain ⟨x, hx⟩ := hall f (by simp)
    obtain ⟨as, ha1, ha2, ha3⟩ := ih _ _ _ hp.1 hx
    have hle : f.offset + P.cellsOf f.type ≤ n := by
      have : ∀ (r : List Field) (o : Nat), contig P r o n = true → o ≤ n := by
        intro r
        induction r with
        | nil => intro o h; simp only [contig, beq_iff_eq] at h; omega
        | cons g r ihr =>
          intro o h
          simp only [contig, Bool.and_eq_true, beq_iff_eq] at h
          have := ihr _ h.2
          omega
      exact this r _ hc
    obtain ⟨bs, hb1, hb2, hb3⟩ := reads_fs q ih r (f.offset + P.cellsOf f.type) n cs hp.2 hc hl hle (fun g hg => hall g (by simp [hg]))
    have hal : as.length = P.cellsOf f.type := by rw [ha1]; simp; omega
    refine ⟨as ++ bs, by simp at hb1 ⊢; omega, ⟨as, bs, rfl, ha2, hb2⟩, fun i x u hx hu => ?_⟩
    by_cases hi : i < as.length
    · rw [List.getElem?_append_left hi] at hx
      refine ha3 i x u hx ?_
      rw [List.getElem?_take, if_pos (by omega)]
      exact hu
    · rw [List.getElem?_append_right (by omega)] at hx
      refine hb3 (i - as.length) x u hx ?_
      rw [List.getElem?_drop] at hu ⊢
      rw [show f.offset + P.cellsOf f.type + (i - as.length) = f.offset + i by omega]
      exact hu


theorem trod_bool {fuel : Nat} {t : TypeId} {cs : List Value} {x : DataW H × List MemPlace} (hu : P.underlying t = some .bool) (h : DataW.trod enc P w 0 sp held (fuel + 1) t cs = some x) : ∃ b, cs = [.bool b] := by
  simp only [DataW.trod, hu] at h
  split at h <;> simp_all
theorem trod_int {fuel : Nat} {t : TypeId} {cs : List Value} {x : DataW H × List MemPlace} {k : IntKind} (hu : P.underlying t = some (.int k)) (h : DataW.trod enc P w 0 sp held (fuel + 1) t cs = some x) : ∃ n, cs = [.int k n] ∧ (Lit.int k n).wf = true := by
  simp only [DataW.trod, hu] at h
  split at h <;> simp_all
theorem trod_string {fuel : Nat} {t : TypeId} {cs : List Value} {x : DataW H × List MemPlace} (hu : P.underlying t = some .string) (h : DataW.trod enc P w 0 sp held (fuel + 1) t cs = some x) : ∃ s, cs = [.string s] ∧ s.size ≤ maxLen := by
  simp only [DataW.trod, hu] at h
  split at h <;> simp_all
theorem trod_struct {fuel : Nat} {t : TypeId} {cs : List Value} {x : DataW H × List MemPlace} {fs : Array Field} (hu : P.underlying t = some (.struct fs)) (h : DataW.trod enc P w 0 sp held (fuel + 1) t cs = some x) :
    cs.length = P.cellsOf t ∧ ∀ f, f ∈ fs.toList → ∃ y, DataW.trod enc P w 0 sp held fuel f.type ((cs.drop f.offset).take (P.cellsOf f.type)) = some y := by
  simp only [DataW.trod, hu] at h
  split at h
  · rename_i hl
    refine ⟨hl, fun f hf => ?_⟩
    obtain ⟨l, hm, _⟩ := Option.map_eq_some_iff.1 h
    obtain ⟨i, hi⟩ := List.mem_iff_getElem?.1 hf
    obtain ⟨y, _, hy⟩ := (mapM_at hm).2 i f hi
    exact ⟨y, hy⟩
  · cases h
theorem trod_slice {fuel : Nat} {t e : TypeId} {cs : List Value} {x : DataW H × List MemPlace} (hu : P.underlying t = some (.slice e)) (h : DataW.trod enc P w 0 sp held (fuel + 1) t cs = some x) :
    cs = [.slice none 0 0] ∨ ∃ a len cap, cs = [.slice (some a) len cap] ∧ len ≤ cap ∧ cap ≤ maxLen ∧ ∀ i, i < len → ∃ us y, w.cells? 0 (a.add (i * P.cellsOf e)) (P.cellsOf e) = some us ∧ DataW.trod enc P w 0 sp held fuel e us = some y := by
  simp only [DataW.trod, hu] at h
  split at h
  all_goals first | (simp_all; done) | skip
  · right
    rename_i e' a len cap heq
    cases heq
    split at h
    · rename_i hc
      obtain ⟨elems, hm, _⟩ := Option.bind_eq_some_iff.1 h
      refine ⟨a, len, cap, rfl, hc.2.1, hc.2.2, fun i hi => ?_⟩
      obtain ⟨y, _, hy⟩ := (mapM_at hm).2 i i (List.getElem?_range hi)
      obtain ⟨us, h1, h2⟩ := Option.bind_eq_some_iff.1 hy
      exact ⟨us, y, h1, h2⟩
    · cases h

theorem reads_one {q : Nat} {t : TypeId} {u : Value} {c : C} (h : HasT P q t [c]) (hi : Im (allB w) w u c) : Reads P w q t [u] := by
  refine ⟨[c], rfl, h, fun i x v hx hv => ?_⟩
  cases i with
  | zero => simp only [List.getElem?_cons_zero, Option.some.injEq] at hx hv; subst hx; subst hv; exact hi
  | succ i => simp at hx

theorem cell_lt {a : Addr} {u : Value} (h : w.cell? a = some u) : a.block < w.heap.size ∧ a.spot = none := by
  unfold World.cell? at h
  split at h
  · rename_i h1
    refine ⟨(Array.getElem?_eq_some_iff.1 h1).1, ?_⟩
    split at h
    · cases h
    · rename_i h2; simpa using h2
  · cases h

theorem add_spot (a : Addr) (n : Nat) (h : (a.add n).spot = none) : a.spot = none ∨ n ≠ 0 := by
  unfold Addr.add at h
  split at h
  · exact .inl h
  · rename_i hn; exact .inr hn

theorem reads_trod : ∀ (q : Nat) (fuel : Nat) (t : TypeId) (cs : List Value) (x : DataW H × List MemPlace), plainT P q t = true → DataW.trod enc P w 0 sp held fuel t cs = some x → Reads P w q t cs
  | 0, _, _, _, _, hp, _ => by simp [plainT] at hp
  | q + 1, 0, _, _, _, _, h => by simp [DataW.trod] at h
  | q + 1, fuel + 1, t, cs, x, hp, h => by
    simp only [plainT] at hp
    split at hp
    · rename_i hu
      obtain ⟨b, rfl⟩ := trod_bool hu h
      exact reads_one (c := .v (.bool b)) (by simp only [HasT, hu]; exact ⟨b, rfl⟩) (.v rfl)
    · rename_i k hu
      obtain ⟨n, rfl, hn⟩ := trod_int hu h
      exact reads_one (c := .v (.int k n)) (by simp only [HasT, hu]; exact ⟨n, rfl, hn⟩) (.v rfl)
    · rename_i hu
      obtain ⟨s, rfl, hs⟩ := trod_string hu h
      exact reads_one (c := .v (.string s)) (by simp only [HasT, hu]; exact ⟨s, rfl, hs⟩) (.v rfl)
    · rename_i e hu
      simp only [Bool.and_eq_true, bne_iff_ne, ne_eq] at hp
      rcases trod_slice hu h with rfl | ⟨a, len, cap, rfl, h1, h2, hel⟩
      · exact reads_one (c := .sl []) (by simp only [HasT, hu]; exact ⟨[], rfl, Nat.zero_le _, fun r hr => by simp at hr⟩) .nil
      · have hrow : ∀ i, i < len → ∃ r : List C, r.length = P.cellsOf e ∧ HasT P q e r ∧ ∀ (j : Nat) (c : C), r[j]? = some c → ∃ u, w.cell? (a.add (i * P.cellsOf e + j)) = some u ∧ Im (allB w) w u c := by
          intro i hi
          obtain ⟨us, y, hus, hy⟩ := hel i hi
          obtain ⟨hl, hcell⟩ := cells_at hus
          obtain ⟨r, hr1, hr2, hr3⟩ := reads_trod q fuel e us y hp.1 hy
          refine ⟨r, by omega, hr2, fun j c hc => ?_⟩
          have hj : j < us.length := by rw [← hr1]; exact (List.getElem?_eq_some_iff.1 hc).1
          have hju : us[j]? = some us[j] := List.getElem?_eq_getElem hj
          refine ⟨us[j], ?_, hr3 j c _ hc hju⟩
          rw [← hcell j _ hju]
          congr 1
          unfold Addr.add
          by_cases h1 : i * P.cellsOf e = 0
          · by_cases h2 : j = 0 <;> simp [h1, h2]
          · by_cases h2 : j = 0
            · simp [h1, h2]
            · rw [if_neg (by omega), if_neg h2, if_neg h1]; simp [Nat.add_assoc]
        obtain ⟨rows, hrl, hrows⟩ := exists_list len hrow
        have hu' : ∀ k, ∃ u : Value, ∀ (i : Nat) (r : List C) (j : Nat) (c : C), rows[i]? = some r → r[j]? = some c → i * P.cellsOf e + j = k → w.cell? (a.add k) = some u := by
          intro k
          cases hk : w.cell? (a.add k) with
          | some u => exact ⟨u, fun _ _ _ _ _ _ _ => rfl⟩
          | none =>
            refine ⟨undef, fun i r j c hr hc he => ?_⟩
            subst he
            obtain ⟨u, h1, _⟩ := (hrows i r hr).2.2 j c hc
            rw [h1] at hk; cases hk
        have hcell : rows ≠ [] → ∃ u, w.cell? a = some u := by
          intro hne
          cases hrr : rows with
          | nil => exact absurd hrr hne
          | cons r rs =>
            have h0 : rows[0]? = some r := by rw [hrr]; rfl
            obtain ⟨hl, _, hc⟩ := hrows 0 r h0
            cases r with
            | nil => simp at hl; omega
            | cons c r =>
              obtain ⟨u, hu, _⟩ := hc 0 c rfl
              simp only [Nat.zero_mul, Nat.add_zero] at hu
              rw [show a.add 0 = a from by simp [Addr.add]] at hu
              exact ⟨u, hu⟩
        have hT : HasT P (q + 1) t [.sl rows] := by
          simp only [HasT, hu]
          refine ⟨rows, rfl, by omega, fun r hr => ?_⟩
          obtain ⟨i, hi⟩ := List.mem_iff_getElem?.1 hr
          exact (hrows i r hi).2.1
        refine reads_one (c := .sl rows) hT (.sl (sz := P.cellsOf e) (fun k => (hu' k).choose) (fun hne => ?_) (fun hne => ?_) hrl h1 h2 (fun r hr => ?_) (fun i r j c hr hc => ?_) (fun i r j c hr hc => ?_))
        · obtain ⟨u, hu⟩ := hcell hne
          exact (cell_lt hu).2
        · obtain ⟨u, hu⟩ := hcell hne
          exact (cell_lt hu).1
        · obtain ⟨i, hi⟩ := List.mem_iff_getElem?.1 hr
          exact (hrows i r hi).1
        · exact (hu' _).choose_spec i r j c hr hc rfl
        · obtain ⟨u, h1, h2⟩ := (hrows i r hr).2.2 j c hc
          have := (hu' (i * P.cellsOf e + j)).choose_spec i r j c hr hc rfl
          have e2 := Option.some.inj (h1.symm.trans this)
          exact e2 ▸ h2
    · rename_i fs hu
      simp only [Bool.and_eq_true] at hp
      obtain ⟨hl, hf⟩ := trod_struct hu h
      obtain ⟨xs, h1, h2, h3⟩ := reads_fs (w := w) (H := H) q (go := DataW.trod enc P w 0 sp held fuel) (fun t cs x hp hx => reads_trod q fuel t cs x hp hx) fs.toList 0 (P.cellsOf t) cs hp.1 hp.2 hl (Nat.zero_le _) hf
      exact ⟨xs, by simpa using h1, by simp only [HasT, hu]; exact h2, fun i x u hx hu => h3 i x u hx (by simpa using hu)⟩
    · cases hp

/-- what an argument's slot holds, by its cells -/
def argAV (P : Program) (b : Bool) (t : TypeId) (xs : List C) : AV := if aggOf P t then .agg (xs.map (cvC b)) else match xs with
  | [x] => cvC b x
  | _ => .dead

theorem arg_ok {W : World} {base : Nat} {t : TypeId} {v : Value} {d : DataW H} {p : List MemPlace} {q : Nat} (hval : Value.okWide P W .any base t v) (hd : DataW.Trod enc P W 0 sp held t v d p) (hp : plainT P q t = true) :
    ∃ xs, HasT P q t xs ∧ VR (allB W) (fun _ => False) (fun _ => undef) hempty W (argAV P false t xs) v := by
  obtain ⟨fuel, hd⟩ := hd
  obtain ⟨xs, h1, h2, h3⟩ := reads_trod q fuel t _ _ hp hd
  refine ⟨xs, h2, ?_⟩
  have him : ∀ {u : Value} {x : C}, Im (allB W) W u x → VR (allB W) (fun _ => False) (fun _ => undef) hempty W (cvC false x) u := fun h => VR.cvC (h.mono (fun b hb => .inl hb) (fun _ _ => rfl))
  unfold argAV
  split
  · rename_i hagg
    obtain ⟨cs, rfl⟩ : ∃ cs, v = .agg cs := by
      unfold aggOf at hagg
      unfold Value.okWide at hval
      split at hval
      · obtain ⟨cs, rfl, _⟩ := hval; exact ⟨cs, rfl⟩
      · obtain ⟨cs, rfl, _⟩ := hval; exact ⟨cs, rfl⟩
      · rename_i h4 h5
        split at hagg
        · rename_i h6; exact absurd h6 (h4 _)
        · rename_i h6; exact absurd h6 (h5 _ _)
        · cases hagg
    obtain ⟨us⟩ := cs
    have h1' : xs.length = us.length := h1
    have h3' : ∀ (i : Nat) (x : C) (u : Value), xs[i]? = some x → us[i]? = some u → Im (allB W) W u x := h3
    refine .agg (by simpa using h1') (fun i x u hx hu => ?_) (fun u hu => ?_)
    · rw [List.getElem?_map] at hx
      obtain ⟨c, hc, rfl⟩ := Option.map_eq_some_iff.1 hx
      exact him (h3' i c u hc hu)
    · obtain ⟨i, hi⟩ := List.mem_iff_getElem?.1 hu
      have hlt : i < xs.length := by rw [h1']; exact (List.getElem?_eq_some_iff.1 hi).1
      exact (h3' i _ u (List.getElem?_eq_getElem hlt) hi).one'
  · rename_i hagg
    have hone : v.cells.toList = [v] := by
      cases q with
      | zero => simp [plainT] at hp
      | succ q =>
        simp only [plainT] at hp
        split at hp
        · rename_i hu; simp only [Value.okWide, hu, Cell.okWide] at hval; cases v <;> simp_all [Cell.ok, Value.cells]
        · rename_i hu; simp only [Value.okWide, hu, Cell.okWide] at hval; cases v <;> simp_all [Cell.ok, Value.cells]
        · rename_i hu; simp only [Value.okWide, hu, Cell.okWide] at hval; cases v <;> simp_all [Cell.ok, Value.cells]
        · rename_i hu; simp only [Value.okWide, hu, Cell.okWide] at hval; cases v <;> simp_all [Cell.ok, Value.cells]
        · rename_i hu; exact absurd (by simp [aggOf, hu]) hagg
        · cases hp
    rw [hone] at h1 h3
    match xs, h1 with
    | [x], _ => exact him (h3 0 x v rfl rfl)

def AllT (P : Program) (q : Nat) : List TypeId → List (List C) → Prop
  | [], [] => True
  | t :: ts, x :: xs => HasT P q t x ∧ AllT P q ts xs
  | _, _ => False
def argsAV (P : Program) (b : Bool) : List TypeId → List (List C) → List AV
  | t :: ts, x :: xs => argAV P b t x :: argsAV P b ts xs
  | _, _ => []

theorem AllT_one {q : Nat} {t : TypeId} {xss : List (List C)} (h : AllT P q [t] xss) : ∃ cs, xss = [cs] ∧ HasT P q t cs := by
  match xss, h with
  | [cs], h => exact ⟨cs, rfl, h.1⟩
theorem AllT_two {q : Nat} {t t' : TypeId} {xss : List (List C)} (h : AllT P q [t, t'] xss) : ∃ cs cs', xss = [cs, cs'] ∧ HasT P q t cs ∧ HasT P q t' cs' := by
  match xss, h with
  | [cs, cs'], h => exact ⟨cs, cs', rfl, h.1, h.2.1⟩
theorem argAV_agg {b : Bool} {t : TypeId} {xs : List C} (h : aggOf P t = true) : argAV P b t xs = .agg (xs.map (cvC b)) := by simp [argAV, h]
theorem argAV_one {b : Bool} {t : TypeId} {x : C} (h : aggOf P t = false) : argAV P b t [x] = cvC b x := by simp [argAV, h]

theorem args_ok {W : World} {base q : Nat} : ∀ {ts : List TypeId} {vs : List Value} {ds : List (DataW H)} {p : List MemPlace}, (∀ (j : Nat) t v, ts[j]? = some t → vs[j]? = some v → Value.okWide P W .any base t v) →
    DataW.TrodAll enc P W 0 sp held ts vs ds p → ts.all (fun t => plainT P q t) = true →
    ts.length = vs.length ∧ ds.length = ts.length ∧ ∃ xss, AllT P q ts xss ∧ (argsAV P false ts xss).length = vs.length ∧ ∀ (i : Nat) (x : AV) (v : Value), (argsAV P false ts xss)[i]? = some x → vs[i]? = some v → VR (allB W) (fun _ => False) (fun _ => undef) hempty W x v
  | [], vs, ds, p, _, h, _ => by
    obtain ⟨rfl, rfl, rfl⟩ := Go.ChangeShapes.trodAll_nil h
    exact ⟨rfl, rfl, [], trivial, rfl, fun i x v hx => by simp [argsAV] at hx⟩
  | t :: ts, vs, ds, p, hval, h, hp => by
    obtain ⟨v, vs, d, ds, p0, q0, rfl, rfl, rfl, h0, hr⟩ := Go.ChangeShapes.trodAll_cons h
    simp only [List.all_cons, Bool.and_eq_true] at hp
    obtain ⟨xs, hx1, hx2⟩ := arg_ok (hval 0 t v rfl rfl) h0 hp.1
    obtain ⟨h1, h2, xss, h3, h4, h5⟩ := args_ok (fun j t v ht hv => hval (j + 1) t v (by simpa using ht) (by simpa using hv)) hr hp.2
    refine ⟨by simp [h1], by simp [h2], xs :: xss, ⟨hx1, h3⟩, by simp [argsAV, h4], fun i x u hx hu => ?_⟩
    cases i with
    | zero => simp only [argsAV, List.getElem?_cons_zero, Option.some.injEq] at hx hu; subst hx; subst hu; exact hx2
    | succ i => exact h5 i x u (by simpa [argsAV] using hx) (by simpa using hu)

theorem trods_stay {W W' : World} (hl : laidOutB P = true) (bel : Go.RowKit.Below W.heap.size W W') : ∀ {ts : List TypeId} {vs : List Value} {ds : List (DataW H)} {p : List MemPlace}, ts.all (fun t => P.readableRec t && decide (t < P.types.size)) = true →
    DataW.TrodAll enc P W 0 (fun _ => true) true ts vs ds p → DataW.TrodAll enc P W' 0 (fun b => decide (b < W.heap.size)) true ts vs ds p
  | [], vs, ds, p, _, h => by
    obtain ⟨rfl, rfl, rfl⟩ := Go.ChangeShapes.trodAll_nil h
    exact rfl
  | t :: ts, vs, ds, p, hp, h => by
    obtain ⟨v, vs, d, ds, p0, q0, rfl, rfl, rfl, h0, hr⟩ := Go.ChangeShapes.trodAll_cons h
    simp only [List.all_cons, Bool.and_eq_true, decide_eq_true_eq] at hp
    have hlt : ∀ x ∈ p0, x.block < W.heap.size := by
      obtain ⟨m, hm⟩ := h0
      exact DataW.trod_lt m _ _ _ hm
    exact ⟨p0, q0, Go.RowKit.Below.trod hl hp.1.1 hp.1.2 h0 bel hlt, trods_stay hl bel hp.2 hr, rfl⟩

/-- a law that answers true, and leaves what came in as it was -/
theorem law_contract (g : Good P T) {n : FuncId} {fn : Func} {s : ChangeSpec} {t4 : TypeId} {q : Nat} {enc : TypeId × Value → H} (hl : laidOutB P = true) (hf : P.funcs[n]? = some fn) (hok : fnOk T fn = true) (hbool : P.underlying t4 = some .bool) (hres : fn.resultTypes.toList = [t4])
    (hpl : fn.params.toList.all (fun t => plainT P q t) = true) (hrd : fn.params.toList.all (fun t => P.readableRec t && decide (t < P.types.size)) = true)
    (hs : s.vars = [] ∧ ∀ ds : List (DataW H), ds.length = fn.params.toList.length → s.fn H ds = { results := [.lit (.bool true)], args := ds })
    (hac : ∀ xss, AllT P q fn.params.toList xss → AC P n (argsAV P false fn.params.toList xss) (vB true) [])
    (W : World) (base : Nat) (args : Array Value) (ds gs : List (DataW H)) (before : List MemPlace) (hlay : Lay (fun b => allB W b ∨ False) W)
    (hval : ∀ (j : Nat) t v, fn.params[j]? = some t → args[j]? = some v → Value.okWide P W .any base t v)
    (hW : DataW.Whole enc P fn.params.toList s.vars false W args.toList ds gs before) :
    Calls P n args W fun e W' => ∃ v, e = .returned v ∧ s.post enc P fn false true false false W args v W' := by
  have hW' := hW
  obtain ⟨p, q', hA, hV, rfl, hfz, hnd⟩ := hW
  rw [hs.1] at hV
  obtain ⟨rfl, rfl⟩ := Go.ChangeShapes.trodVars_none hV
  obtain ⟨h1, h2, xss, h3, h4, h5⟩ := args_ok (q := q) (fun j t v ht hv => hval j t v (by simpa using ht) (by simpa using hv)) hA hpl
  obtain ⟨_, hcall⟩ := hac xss h3
  have hinto := hcall W (allB W) (fun _ => False) (fun _ => undef) args (fun b hb => hb.elim id (fun q => q.elim)) hlay (by rw [h4]; simp) (fun i x v hx hv => h5 i x v hx (by simpa using hv))
  have henter : (callFunc n args).run P W = .ok (.enter n args) W := by
    unfold fnOk at hok
    simp only [Bool.and_eq_true, bne_iff_ne, ne_eq] at hok
    refine run_enter hf hok.1 ?_
    cases hb : fn.body with
    | none => rw [hb] at hok; exact absurd hok.2 (by simp)
    | some b => rfl
  rcases hinto with ⟨_, h⟩ | ⟨v, w', h, _⟩
  · refine h.mono fun e W' ⟨v, he, S', ν', hpost⟩ => ⟨v, he, ?_⟩
    have hv : v = .bool true := hpost.val.scal_eq.1
    subst hv
    have bel : Go.RowKit.Below W.heap.size W W' := ⟨hpost.fr.os, hpost.fr.tape, hpost.fr.output, hpost.fr.size, fun k hk => hpost.fr.keep k hk (fun q => q)⟩
    have hfn := hs.2 (ds ++ []) (by simpa using h2)
    refine ⟨ds, [], p ++ [], [], p, [], hW', ?_, ?_, ?_, bel.frame _, fun h => by cases h⟩
    · rw [hfn, hres]
      have : fn.resultTypes.size = 1 := by rw [← Array.length_toList, hres]; rfl
      rw [this]
      exact Go.ChangeShapes.trodAll_mk1 (Go.RowKit.shut_bool hbool _)
    · rw [hfn]
      simp only [List.append_nil]
      exact trods_stay hl bel hrd hA
    · rw [hfn, hs.1]
      exact rfl
  · rw [henter] at h; cases h
end
end Go.Proofs.YtoemclhjcbcjaaaGreat.AB
