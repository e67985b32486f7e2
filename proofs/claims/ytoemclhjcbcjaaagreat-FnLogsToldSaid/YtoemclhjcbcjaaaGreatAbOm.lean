/- Calls that may write what they are handed: by contract; and what such a call makes of a state. -/
import Derived.Test.YtoemclhjcbcjaaaGreatAbO
namespace Go.Proofs.YtoemclhjcbcjaaaGreat.AB
open Go
set_option linter.unusedVariables false
set_option linter.unusedSimpArgs false

/-- less is said of the same -/
def Wk (st st' : St) : Prop := ∀ Γ a w, Rep Γ st a w → Rep Γ st' a w

/-- which blocks objects stand in -/
def blksOf (h : Hp) (ν : Id → Value) (b : Nat) : Prop := ∃ i, (h i).isSome = true ∧ fb (ν i) b

/-- what a call comes to that may write what it is handed: of that, and of what is new, it tells what it holds -/
structure MPost (S B : Nat → Prop) (ν : Id → Value) (hin : Hp) (w : World) (hout : Hp) (res : AV) (S' : Nat → Prop) (ν' : Id → Value) (v : Value) (w' : World) : Prop where
  fr : Fr (blksOf hin ν) w w'
  s0 : ∀ b, S b → S' b
  s1 : ∀ b, S' b → S b ∨ w.heap.size ≤ b ∨ blksOf hin ν b
  ok : HOK S' B ν' hout w'
  mine : ∀ i b, (hout i).isSome = true → fb (ν' i) b → w.heap.size ≤ b ∨ blksOf hin ν b
  came : ∀ k, (hout (.a k)).isSome = true → ν' (.a k) = ν (.a k)
  um : ∀ b, S' b → S b ∨ unmk w' b
  kp : ∀ k, hout (.a k) = some .reg → KP (fb (ν (.a k))) w w'
  val : VR S' B ν' hout w' res v

/-- objects by their places: handed in; handed in, and still there; new -/
def hA (l : List Ob) : Hp := fun i => match i with
  | .a k => l[k]?
  | _ => none
def hAR (la : List (Option Ob)) (lr : List Ob) : Hp := fun i => match i with
  | .a k => (la[k]?).join
  | .r q => lr[q]?
  | _ => none

/-- THE CONTRACT of a function that may write what it is handed -/
def MC (P : Program) (f : FuncId) (args : List AV) (hin : List Ob) (res : AV) (la : List (Option Ob)) (lr : List Ob) : Prop :=
  ∀ (w : World) (S B : Nat → Prop) (ν : Id → Value) (vs : Array Value), HOK S B ν (hA hin) w → Lay (fun b => S b ∨ B b) w → args.length = vs.size →
    (∀ (i : Nat) (x : AV) (v : Value), args[i]? = some x → vs[i]? = some v → VR S B ν (hA hin) w x v) →
    Into P f vs w fun v w' => ∃ S' ν', MPost S B ν (hA hin) w (hAR la lr) res S' ν' v w'

/-- at which place an object stands -/
def pos : List Id → Nat → Id → Option Nat
  | [], _, _ => none
  | j :: r, k, i => if i = j then some k else pos r (k + 1) i

theorem pos_get : ∀ {as : List Id} {k : Nat} {i : Id} {n : Nat}, pos as k i = some n → k ≤ n ∧ as[n - k]? = some i
  | [], _, _, _, h => by simp [pos] at h
  | j :: r, k, i, n, h => by
    simp only [pos] at h
    split at h
    · rename_i e; subst e; obtain rfl := Option.some.inj h; simp
    · obtain ⟨h1, h2⟩ := pos_get h
      refine ⟨by omega, ?_⟩
      rw [show n - k = (n - (k + 1)) + 1 by omega, List.getElem?_cons_succ]; exact h2
theorem pos_none : ∀ {as : List Id} {k : Nat} {i : Id}, pos as k i = none → i ∉ as
  | [], _, _, _ => by simp
  | j :: r, k, i, h => by
    simp only [pos] at h
    split at h
    · cases h
    · rename_i e
      have := pos_none h
      simp [e, this]
theorem pos_of : ∀ {as : List Id} {k : Nat} {i : Id} {n : Nat}, as.Nodup → as[n]? = some i → pos as k i = some (k + n)
  | [], _, _, _, _, h => by simp at h
  | j :: r, k, i, 0, _, h => by simp at h; subst h; simp [pos]
  | j :: r, k, i, n + 1, hn, h => by
    simp only [List.getElem?_cons_succ] at h
    have hne : i ≠ j := by
      rintro rfl
      exact (List.nodup_cons.1 hn).1 (List.mem_of_getElem? h)
    simp only [pos, if_neg hne]
    rw [pos_of (List.nodup_cons.1 hn).2 h]; congr 1; omega

/-- the rest of the memory -/
def hminus (h : Hp) (as : List Id) : Hp := fun i => match pos as 0 i with
  | some _ => none
  | none => h i

/-- an argument as the callee sees it -/
def lendM (h : Hp) (as : List Id) : AV → AV
  | .own j => match pos as 0 j with
    | some k => .own (.a k)
    | none => lend (hminus h as) (.own j)
  | .vw j lo n => match pos as 0 j with
    | some k => .vw (.a k) lo n
    | none => lend (hminus h as) (.vw j lo n)
  | .ptr j o => match pos as 0 j with
    | some k => .ptr (.a k) o
    | none => lend (hminus h as) (.ptr j o)
  | .ept j n o => match pos as 0 j with
    | some k => .ept (.a k) n o
    | none => lend (hminus h as) (.ept j n o)
  | .rx j y => match pos as 0 j with
    | some k => .rg (.a k) y
    | none => lend (hminus h as) (.rx j y)
  | .rg j y => match pos as 0 j with
    | some k => .rg (.a k) y
    | none => .dead
  | .c false x => .c false x
  | x => lend (hminus h as) x
/-- a cell of what is handed in as the callee sees it -/
def inM (as : List Id) : AV → AV
  | .own j => match pos as 0 j with
    | some k => .own (.a k)
    | none => .dead
  | .vw j lo n => match pos as 0 j with
    | some k => .vw (.a k) lo n
    | none => .dead
  | .ptr j o => match pos as 0 j with
    | some k => .ptr (.a k) o
    | none => .dead
  | .ept j n o => match pos as 0 j with
    | some k => .ept (.a k) n o
    | none => .dead
  | .rx j y => match pos as 0 j with
    | some k => .rx (.a k) y
    | none => .dead
  | .rg j y => match pos as 0 j with
    | some k => .rg (.a k) y
    | none => .dead
  | .rp j y => match pos as 0 j with
    | some k => .rp (.a k) y
    | none => .dead
  | x => x
/-- names turned back -/
def bkI (as : List Id) (d : Nat) : Id → Option Id
  | .a k => as[k]?
  | .r q => some (.s d q)
  | _ => none
def bkM (as : List Id) (d : Nat) : AV → AV
  | .own i => match bkI as d i with
    | some j => .own j
    | none => .dead
  | .vw i lo n => match bkI as d i with
    | some j => .vw j lo n
    | none => .dead
  | .ptr i o => match bkI as d i with
    | some j => .ptr j o
    | none => .dead
  | .ept i n o => match bkI as d i with
    | some j => .ept j n o
    | none => .dead
  | .rx i y => match bkI as d i with
    | some j => .rx j y
    | none => .dead
  | .rg i y => match bkI as d i with
    | some j => .rg j y
    | none => .dead
  | .rp i y => match bkI as d i with
    | some j => .rp j y
    | none => .dead
  | x => x
/-- what else spoke of what was handed in -/
def kilM (as : List Id) (la : List (Option Ob)) : AV → AV
  | .own j => match pos as 0 j with
    | some k => match (la[k]?).join with
      | some _ => .own j
      | none => .dead
    | none => .own j
  | .ptr j o => match pos as 0 j with
    | some k => match (la[k]?).join with
      | some _ => .ptr j o
      | none => .dead
    | none => .ptr j o
  | .vw j lo n => match pos as 0 j with
    | some _ => .dead
    | none => .vw j lo n
  | .ept j n o => match pos as 0 j with
    | some _ => .dead
    | none => .ept j n o
  | .rx j y => match pos as 0 j with
    | some k => match (la[k]?).join with
      | some _ => .rg j y
      | none => .dead
    | none => .rx j y
  | .rg j y => match pos as 0 j with
    | some k => match (la[k]?).join with
      | some _ => .rg j y
      | none => .dead
    | none => .rg j y
  | .rp j y => match pos as 0 j with
    | some _ => .dead
    | none => .rp j y
  | x => x

/-- where an object of afterwards comes from -/
def org (as : List Id) (d n : Nat) (i : Id) : Option Id := match pos as 0 i with
  | some k => some (.a k)
  | none => match i with
    | .s d' q => if d' = d ∧ q < n then some (.r q) else none
    | _ => none

/-- the memory afterwards -/
def hM (h : Hp) (as : List Id) (d : Nat) (la : List (Option Ob)) (lr : List Ob) : Hp := fun i => match org as d lr.length i with
  | some j => (hAR la lr j).map (Ob.on (bkM as d))
  | none => (h i).map (Ob.on (kilM as la))

section
variable {P : Program} {Γ : Gm} {S : Nat → Prop} {ν : Id → Value} {st : St} {a : Act} {w : World} {o : Oper} {T : Tab} {so : SOp} {p : Prop}

theorem hminus_sub {h : Hp} {as : List Id} (i : Id) (o : Ob) (hi : hminus h as i = some o) : h i = some o := by
  unfold hminus at hi
  split at hi
  · cases hi
  · exact hi

/-- by which name of the caller's an object handed in goes -/
def atA (as : List Id) : Id → Id
  | .a k => as.getD k (.a k)
  | i => i

theorem atA_get {as : List Id} {k : Nat} {j : Id} (h : as[k]? = some j) : atA as (.a k) = j := by
  simp [atA, List.getD_eq_getElem?_getD, h]

theorem on_row (g : AV → AV) (b : Bool) (e sz : Nat) (xs : List (List C)) : Ob.on g (.row b e sz xs) = .row b e sz xs := rfl

theorem map_at {as : List Id} {h : Hp} {obs : List Ob} (hobs : as.map h = obs.map some) {k : Nat} {j : Id} (hj : as[k]? = some j) : ∃ o, obs[k]? = some o ∧ h j = some o := by
  have h1 : (as.map h)[k]? = some (h j) := by rw [List.getElem?_map, hj]; rfl
  rw [hobs, List.getElem?_map] at h1
  obtain ⟨o, ho, he⟩ := Option.map_eq_some_iff.1 h1
  exact ⟨o, ho, he.symm⟩
theorem map_at' {as : List Id} {h : Hp} {obs : List Ob} (hobs : as.map h = obs.map some) {k : Nat} {o : Ob} (ho : obs[k]? = some o) : ∃ j, as[k]? = some j ∧ h j = some o := by
  have h1 : (obs.map some)[k]? = some (some o) := by rw [List.getElem?_map, ho]; rfl
  rw [← hobs, List.getElem?_map] at h1
  exact Option.map_eq_some_iff.1 h1

/-- what is handed in, with the callee's eyes -/
theorem in_leaf {as : List Id} {obs : List Ob} (hobs : as.map st.h = obs.map some) {x : AV} {v : Value} (hl : x.leaf = true) (hv : VR S Γ.B ν st.h w x v) :
    VR S (lentB Γ ν (hminus st.h as)) (fun i => ν (atA as i)) (hA (obs.map (Ob.on (inM as)))) w (inM as x) v := by
  have hrd : ∀ bor b, rd S Γ.B bor b → rd S (lentB Γ ν (hminus st.h as)) bor b := fun bor b hb => hb.imp id (fun q => ⟨q.1, .inl q.2⟩)
  have hin : ∀ {j k o}, pos as 0 j = some k → st.h j = some o → hA (obs.map (Ob.on (inM as))) (.a k) = some (o.on (inM as)) ∧ atA as (.a k) = j := by
    intro j k o hp ho
    have hg := (pos_get hp).2
    rw [Nat.sub_zero] at hg
    obtain ⟨o', ho', hj⟩ := map_at hobs hg
    rw [ho] at hj
    obtain rfl := Option.some.inj hj
    exact ⟨by simp [hA, ho'], atA_get hg⟩
  cases hv with
  | c hk => exact .c (hk.mono (hrd _) (fun _ _ => rfl))
  | agg => cases hl
  | tup => cases hl
  | own hk =>
    simp only [inM]
    split
    · rename_i k hp
      obtain ⟨h1, h2⟩ := hin hp hk
      have := VR.own (S := S) (B := lentB Γ ν (hminus st.h as)) (ν := fun i => ν (atA as i)) (w := w) h1
      simp only [h2] at this
      exact this
    · exact .dead
  | vw hk hle hv =>
    simp only [inM]
    split
    · rename_i k hp
      obtain ⟨h1, h2⟩ := hin hp hk
      refine .vw h1 hle (hv.imp (fun q => q.mono (hrd _) (fun _ _ => rfl)) (fun q => ?_))
      simp only [h2]; exact q
    · exact .dead
  | nil => exact .nil
  | ptr hk hν =>
    simp only [inM]
    split
    · rename_i k hp
      obtain ⟨h1, h2⟩ := hin hp hk
      exact .ptr h1 (by simp only [h2]; exact hν)
    · exact .dead
  | ept hk hν hn =>
    simp only [inM]
    split
    · rename_i k hp
      obtain ⟨h1, h2⟩ := hin hp hk
      exact .ept h1 (by simp only [h2]; exact hν) hn
    · exact .dead
  | ip u hs hb hu hi => exact .ip u hs (hrd _ _ hb) hu (fun j c hj => (hi j c hj).mono (hrd _) (fun _ _ => rfl))
  | fn => cases hl
  | rx hk q =>
    simp only [inM]
    split
    · rename_i k hp
      obtain ⟨h1, h2⟩ := hin hp hk
      exact .rx h1 (by simp only [h2]; exact q)
    · exact .dead
  | rg hk q =>
    simp only [inM]
    split
    · rename_i k hp
      obtain ⟨h1, h2⟩ := hin hp hk
      exact .rg h1 (by simp only [h2]; exact q)
    · exact .dead
  | rp hk hs hb q =>
    simp only [inM]
    split
    · rename_i k hp
      obtain ⟨h1, h2⟩ := hin hp hk
      exact .rp h1 hs (by simp only [h2]; exact hb) (by simp only [h2]; exact q)
    · exact .dead
  | dead => exact .dead

theorem arg_leaf (ok : HOK S Γ.B ν st.h w) {as : List Id} {obs : List Ob} (hobs : as.map st.h = obs.map some) {x : AV} {v : Value} (hl : x.leaf = true) (hv : VR S Γ.B ν st.h w x v) :
    VR S (lentB Γ ν (hminus st.h as)) (fun i => ν (atA as i)) (hA (obs.map (Ob.on (inM as)))) w (lendM st.h as x) v := by
  have hL := lend_leaf ok (h0 := hminus st.h as) hminus_sub (fun i => ν (atA as i)) (hA (obs.map (Ob.on (inM as)))) hl hv
  have hI := in_leaf hobs hl hv
  cases x <;> try exact hL
  case c b y =>
    cases b with
    | false => exact hI
    | true => exact hL
  case own j =>
    simp only [lendM]
    simp only [inM] at hI
    split
    · rename_i k hp; rw [hp] at hI; exact hI
    · exact hL
  case vw j lo n =>
    simp only [lendM]
    simp only [inM] at hI
    split
    · rename_i k hp; rw [hp] at hI; exact hI
    · exact hL
  case ptr j lo =>
    simp only [lendM]
    simp only [inM] at hI
    split
    · rename_i k hp; rw [hp] at hI; exact hI
    · exact hL
  case ept j lo n =>
    simp only [lendM]
    simp only [inM] at hI
    split
    · rename_i k hp; rw [hp] at hI; exact hI
    · exact hL
  case rx j y =>
    simp only [lendM]
    simp only [inM] at hI
    split
    · rename_i k hp; rw [hp] at hI
      cases hI with
      | rx h1 q => exact .rg h1 ⟨_, q.like, q⟩
    · exact hL
  case rg j y =>
    simp only [lendM]
    simp only [inM] at hI
    split
    · rename_i k hp; rw [hp] at hI; exact hI
    · exact .dead

/-- the memory that is handed in is in order -/
theorem in_ok (ok : HOK S Γ.B ν st.h w) {as : List Id} {obs : List Ob} (hobs : as.map st.h = obs.map some) (hnd : as.Nodup) :
    HOK S (lentB Γ ν (hminus st.h as)) (fun i => ν (atA as i)) (hA (obs.map (Ob.on (inM as)))) w := by
  have hat : ∀ {i o'}, hA (obs.map (Ob.on (inM as))) i = some o' → ∃ k j o, i = .a k ∧ as[k]? = some j ∧ st.h j = some o ∧ o' = o.on (inM as) ∧ atA as i = j := by
    intro i o' hi
    cases i with
    | a k =>
      have hi' : (obs.map (Ob.on (inM as)))[k]? = some o' := hi
      rw [List.getElem?_map] at hi'
      obtain ⟨o, ho, rfl⟩ := Option.map_eq_some_iff.1 hi'
      obtain ⟨j, hj, hjo⟩ := map_at' hobs ho
      exact ⟨k, j, o, rfl, hj, hjo, rfl, atA_get hj⟩
    | s => cases hi
    | r => cases hi
  have hrd : ∀ bor b, rd S Γ.B bor b → rd S (lentB Γ ν (hminus st.h as)) bor b := fun bor b hb => hb.imp id (fun q => ⟨q.1, .inl q.2⟩)
  refine ⟨fun i cs hi => ?_, fun i bor e sz xs hi => ?_, fun i hi => ?_, fun i j b hij hi hj hb => ?_, fun i b hi hb => ?_, fun b hb => ?_⟩
  · obtain ⟨k, j, o, rfl, hj, hjo, he, hat⟩ := hat hi
    cases o with
    | row => cases he
    | reg => cases he
    | box cs0 =>
      obtain rfl := Ob.box.inj he
      obtain ⟨b, us, T, hv, hw, hsz, hc⟩ := ok.box j cs0 hjo
      refine ⟨b, us, T, by simp only [hat]; exact hv, hw, by rw [hsz, AV.onL_map, List.length_map], fun n x u hx hu => ?_⟩
      rw [AV.onL_map, List.getElem?_map] at hx
      obtain ⟨y, hy, rfl⟩ := Option.map_eq_some_iff.1 hx
      exact ⟨(hc n y u hy hu).1.on (fun x v hl hv => in_leaf hobs hl hv), (hc n y u hy hu).2⟩
  · obtain ⟨k, j, o, rfl, hj, hjo, he, hat⟩ := hat hi
    cases o with
    | box => cases he
    | reg => cases he
    | row b0 e0 sz0 xs0 =>
      obtain ⟨rfl, rfl, rfl, rfl⟩ := Ob.row.inj he
      obtain ⟨h0, hl, us, hown, hc⟩ := ok.row j _ _ _ _ hjo
      refine ⟨h0, hl, us, by simp only [hat]; exact hown, fun n r oo c hr hcc => ?_⟩
      obtain ⟨u, hu, h1, him⟩ := hc n r oo c hr hcc
      exact ⟨u, hu, h1, him.mono (hrd _) (fun _ _ => rfl)⟩
  · obtain ⟨k, j, o, rfl, hj, hjo, he, hat⟩ := hat hi
    cases o with
    | box => cases he
    | row => cases he
    | reg =>
      simp only [hat]
      exact ok.reg j hjo
  · obtain ⟨o1, ho1⟩ := Option.isSome_iff_exists.1 hi
    obtain ⟨o2, ho2⟩ := Option.isSome_iff_exists.1 hj
    obtain ⟨k1, j1, q1, rfl, hj1, hq1, _, ha1⟩ := hat ho1
    obtain ⟨k2, j2, q2, rfl, hj2, hq2, _, ha2⟩ := hat ho2
    simp only [ha1] at hb
    simp only [ha2]
    refine ok.sep j1 j2 b (fun e => hij ?_) (by rw [hq1]; rfl) (by rw [hq2]; rfl) hb
    subst e
    have h1 := pos_of (k := 0) hnd hj1
    have h2 := pos_of (k := 0) hnd hj2
    rw [h1] at h2
    simp only [Option.some.injEq, Nat.zero_add] at h2
    rw [h2]
  · obtain ⟨o1, ho1⟩ := Option.isSome_iff_exists.1 hi
    obtain ⟨k1, j1, q1, rfl, hj1, hq1, _, ha1⟩ := hat ho1
    simp only [ha1] at hb
    have := ok.out j1 b (by rw [hq1]; rfl) hb
    refine ⟨this.1, fun q => ?_⟩
    rcases q with q | ⟨j2, hj2, hb2⟩
    · exact this.2 q
    · have hne : j1 ≠ j2 := by
        rintro rfl
        have := pos_of (k := 0) hnd hj1
        simp [hminus, this] at hj2
      obtain ⟨o2, ho2⟩ := Option.isSome_iff_exists.1 hj2
      exact ok.sep j1 j2 b hne (by rw [hq1]; rfl) (by rw [hminus_sub _ _ ho2]; rfl) hb hb2
  · rcases hb with hb | hb | ⟨j, hj, hb⟩
    · exact ok.lt b (.inl hb)
    · exact ok.lt b (.inr hb)
    · obtain ⟨o, ho⟩ := Option.isSome_iff_exists.1 hj
      exact ok.blk_lt (i := j) (by rw [hminus_sub _ _ ho]; rfl) hb

theorem org_some {as : List Id} {d n : Nat} {i j : Id} (h : org as d n i = some j) : (∃ k, j = .a k ∧ as[k]? = some i ∧ pos as 0 i = some k) ∨ ∃ q, j = .r q ∧ i = .s d q ∧ q < n ∧ i ∉ as := by
  unfold org at h
  split at h
  · rename_i k hp
    obtain rfl := Option.some.inj h
    have := (pos_get hp).2
    exact .inl ⟨k, rfl, by simpa using this, hp⟩
  · rename_i hp
    split at h
    · split at h
      · rename_i hc
        obtain rfl := Option.some.inj h
        obtain ⟨rfl, hq⟩ := hc
        exact .inr ⟨_, rfl, rfl, hq, pos_none hp⟩
      · cases h
    · cases h
theorem org_inj {as : List Id} {d n : Nat} {i i' j : Id} (h : org as d n i = some j) (h' : org as d n i' = some j) : i = i' := by
  rcases org_some h with ⟨k, rfl, h1, _⟩ | ⟨q, rfl, rfl, _, _⟩ <;> rcases org_some h' with ⟨k', e, h2, _⟩ | ⟨q', e, h2, _, _⟩
  · cases e; rw [h1] at h2; exact Option.some.inj h2
  · cases e
  · cases e
  · cases e; exact h2.symm
theorem org_none {as : List Id} {d n : Nat} {i : Id} (h : org as d n i = none) : i ∉ as := by
  unfold org at h
  split at h
  · cases h
  · rename_i hp; exact pos_none hp

/-- WHAT SUCH A CALL MAKES OF A STATE -/
theorem RepW.mcalled (k : RepW Γ S ν st a w) {as : List Id} {obs : List Ob} (hobs : as.map st.h = obs.map some) (hnd : as.Nodup) {res : AV} {la : List (Option Ob)} {lr : List Ob} {S' : Nat → Prop} {ν' : Id → Value} {v : Value} {w' : World} {d : Nat}
    (hpost : MPost S (lentB Γ ν (hminus st.h as)) (fun i => ν (atA as i)) (hA (obs.map (Ob.on (inM as)))) w (hAR la lr) res S' ν' v w') (hc1 : res.clean = true) (hc2 : ∀ o, o ∈ lr → o.clean = true) (hc3 : ∀ o, some o ∈ la → o.clean = true)
    (hla : la.length ≤ as.length) (hf : ∀ q, q < lr.length → st.h (.s d q) = none) :
    ∃ S2 ν2, RepW Γ S2 ν2 ⟨fun q => (st.t q).on (kilM as la), hM st.h as d la lr⟩ a w' ∧ VR S2 Γ.B ν2 (hM st.h as d la lr) w' (res.on (bkM as d)) v := by
  let X : Nat → Prop := blksOf (hA (obs.map (Ob.on (inM as)))) (fun i => ν (atA as i))
  have hclean : ∀ i o, hAR la lr i = some o → o.clean = true := by
    intro i o hi
    cases i with
    | a q =>
      have hi' : (la[q]?).join = some o := hi
      cases hq : la[q]? with
      | none => rw [hq] at hi'; cases hi'
      | some x => rw [hq] at hi'; obtain rfl : x = some o := hi'; exact hc3 o (List.mem_of_getElem? hq)
    | r q => exact hc2 o (List.mem_of_getElem? (show lr[q]? = some o from hi))
    | s => cases hi
  have hrow : ∀ i bor e sz xs, hAR la lr i = some (.row bor e sz xs) → bor = false := fun i bor e sz xs hi => by
    have := hclean _ _ hi; simpa [Ob.clean] using this
  have hBB : ∀ b, Γ.B b → lentB Γ ν (hminus st.h as) b := fun b hb => .inl hb
  have hXi : ∀ b, X b → ∃ j, j ∈ as ∧ (st.h j).isSome = true ∧ fb (ν j) b := by
    rintro b ⟨i, hi, hb⟩
    cases i with
    | a q =>
      obtain ⟨o', ho'⟩ := Option.isSome_iff_exists.1 hi
      have ho2 : (obs.map (Ob.on (inM as)))[q]? = some o' := ho'
      rw [List.getElem?_map] at ho2
      obtain ⟨o, ho, rfl⟩ := Option.map_eq_some_iff.1 ho2
      obtain ⟨j, hj, hjo⟩ := map_at' hobs ho
      simp only [atA_get hj] at hb
      exact ⟨j, List.mem_of_getElem? hj, by rw [hjo]; rfl, hb⟩
    | s => cases hi
    | r => cases hi
  have hoth : ∀ j b, j ∉ as → (st.h j).isSome = true → fb (ν j) b → ¬ X b := by
    intro j b hj hs hb hx
    obtain ⟨j', hj', hs', hb'⟩ := hXi b hx
    exact k.ok.sep j j' b (fun e => hj (e ▸ hj')) hs hs' hb hb'
  have hSB : ∀ b, S b ∨ Γ.B b → ¬ X b := by
    intro b hb hx
    obtain ⟨j', hj', hs', hb'⟩ := hXi b hx
    have := k.ok.out j' b hs' hb'
    exact hb.elim this.1 this.2
  have hsame : ∀ b, b < w.heap.size → ¬ X b → w'.heap[b]? = w.heap[b]? := fun b hb hx => hpost.fr.keep b hb hx
  have hrdw : ∀ bor b, rd S Γ.B bor b → w'.heap[b]? = w.heap[b]? := fun bor b hb => hsame b (k.ok.lt b (hb.imp id (fun q => q.2))) (hSB b (hb.imp id (fun q => q.2)))
  have hrds : ∀ bor b, rd S Γ.B bor b → rd S' Γ.B bor b := fun bor b hb => hb.imp (hpost.s0 b) id
  let ν2 : Id → Value := fun i => match org as d lr.length i with
    | some j => ν' j
    | none => ν i
  have hν2s : ∀ {i j}, org as d lr.length i = some j → ν2 i = ν' j := fun h => by simp only [ν2, h]
  have hν2n : ∀ {i}, org as d lr.length i = none → ν2 i = ν i := fun h => by simp only [ν2, h]
  have hh2s : ∀ {i j}, org as d lr.length i = some j → hM st.h as d la lr i = (hAR la lr j).map (Ob.on (bkM as d)) := fun h => by simp only [hM, h]
  have hh2n : ∀ {i}, org as d lr.length i = none → hM st.h as d la lr i = (st.h i).map (Ob.on (kilM as la)) := fun h => by simp only [hM, h]
  have horgA : ∀ {i q}, pos as 0 i = some q → org as d lr.length i = some (.a q) := fun h => by simp only [org, h]
  have hlive : ∀ {i o}, st.h i = some o → pos as 0 i = none → org as d lr.length i = none := by
    intro i o hi hp
    cases hor : org as d lr.length i with
    | none => rfl
    | some j =>
      rcases org_some hor with ⟨q, _, _, h3⟩ | ⟨q, _, rfl, h3, _⟩
      · rw [hp] at h3; cases h3
      · rw [hf q h3] at hi; cases hi
  have hcame : ∀ {i q}, pos as 0 i = some q → (hAR la lr (.a q)).isSome = true → ν2 i = ν i := by
    intro i q hp hs
    have hg := (pos_get hp).2
    rw [Nat.sub_zero] at hg
    rw [hν2s (horgA hp), hpost.came q hs]
    simp only [atA_get hg]
  -- kinds stay
  have hkrow : ∀ {i q bor e sz xs o}, pos as 0 i = some q → st.h i = some (.row bor e sz xs) → (la[q]?).join = some o → ∃ bor' e' sz' xs', o = .row bor' e' sz' xs' := by
    intro i q bor e sz xs o hp hi ho
    cases o with
    | row => exact ⟨_, _, _, _, rfl⟩
    | reg =>
      have hs : hAR la lr (.a q) = some .reg := ho
      obtain ⟨l, hv⟩ := (hpost.ok.reg _ hs).1
      have hc := hcame hp (by rw [hs]; rfl)
      rw [hν2s (horgA hp), hv] at hc
      obtain ⟨_, _, us, hown, _⟩ := k.ok.row _ _ _ _ _ hi
      rcases hown.2 with ⟨h1, _⟩ | ⟨_, _, _, h1, _⟩ <;> (rw [h1] at hc; cases hc)
    | box cs =>
      have hs : hAR la lr (.a q) = some (.box cs) := ho
      obtain ⟨b, us, T, hv, _⟩ := hpost.ok.box _ _ hs
      have hc := hcame hp (by rw [hs]; rfl)
      rw [hν2s (horgA hp), hv] at hc
      obtain ⟨_, _, us, hown, _⟩ := k.ok.row _ _ _ _ _ hi
      rcases hown.2 with ⟨h1, _⟩ | ⟨_, _, _, h1, _⟩ <;> (rw [h1] at hc; cases hc)
  have hkbox : ∀ {i q cs o}, pos as 0 i = some q → st.h i = some (.box cs) → (la[q]?).join = some o → ∃ cs', o = .box cs' := by
    intro i q cs o hp hi ho
    cases o with
    | box => exact ⟨_, rfl⟩
    | reg =>
      have hs : hAR la lr (.a q) = some .reg := ho
      obtain ⟨l, hv⟩ := (hpost.ok.reg _ hs).1
      have hc := hcame hp (by rw [hs]; rfl)
      rw [hν2s (horgA hp), hv] at hc
      obtain ⟨b, us, T, hv', _⟩ := k.ok.box _ _ hi
      rw [hv'] at hc; cases hc
    | row bor e sz xs =>
      have hs : hAR la lr (.a q) = some (.row bor e sz xs) := ho
      obtain ⟨_, _, us, hown, _⟩ := hpost.ok.row _ _ _ _ _ hs
      have hc := hcame hp (by rw [hs]; rfl)
      rw [hν2s (horgA hp)] at hc
      obtain ⟨b, us, T, hv, _⟩ := k.ok.box _ _ hi
      rw [hv] at hc
      rcases hown.2 with ⟨h1, _⟩ | ⟨_, _, _, h1, _⟩ <;> (rw [h1] at hc; cases hc)
  have hkreg : ∀ {i q o}, pos as 0 i = some q → st.h i = some .reg → (la[q]?).join = some o → o = .reg := by
    intro i q o hp hi ho
    obtain ⟨l, hv0⟩ := (k.ok.reg _ hi).1
    cases o with
    | reg => rfl
    | box cs =>
      have hs : hAR la lr (.a q) = some (.box cs) := ho
      obtain ⟨b, us, T, hv, _⟩ := hpost.ok.box _ _ hs
      have hc := hcame hp (by rw [hs]; rfl)
      rw [hν2s (horgA hp), hv, hv0] at hc; cases hc
    | row bor e sz xs =>
      have hs : hAR la lr (.a q) = some (.row bor e sz xs) := ho
      obtain ⟨_, _, us, hown, _⟩ := hpost.ok.row _ _ _ _ _ hs
      have hc := hcame hp (by rw [hs]; rfl)
      rw [hν2s (horgA hp), hv0] at hc
      rcases hown.2 with ⟨h1, _⟩ | ⟨_, _, _, h1, _⟩ <;> (rw [h1] at hc; cases hc)
  have hkpa : ∀ {i q}, pos as 0 i = some q → (la[q]?).join = some .reg → KP (fb (ν i)) w w' := by
    intro i q hp ho
    have hg := (pos_get hp).2
    rw [Nat.sub_zero] at hg
    have := hpost.kp q ho
    simpa only [atA_get hg] using this
  have hregw : ∀ {i}, pos as 0 i = none → st.h i = some .reg → ∀ q, fb (ν i) q → w'.heap[q]? = w.heap[q]? := fun {i} hp hi q hq =>
    hsame q (k.ok.blk_lt (by rw [hi]; rfl) hq) (hoth i q (pos_none hp) (by rw [hi]; rfl) hq)
  have hkil : ∀ x u, x.leaf = true → VR S Γ.B ν st.h w x u → VR S' Γ.B ν2 (hM st.h as d la lr) w' (kilM as la x) u := by
    intro x u hl hv
    have plain : ∀ {i o}, st.h i = some o → pos as 0 i = none → hM st.h as d la lr i = some (o.on (kilM as la)) ∧ ν2 i = ν i := by
      intro i o hi hp
      have := hlive hi hp
      exact ⟨by rw [hh2n this, hi]; rfl, hν2n this⟩
    have held : ∀ {i q o}, pos as 0 i = some q → (la[q]?).join = some o → hM st.h as d la lr i = some (o.on (bkM as d)) ∧ ν2 i = ν i := by
      intro i q o hp ho
      have hs : hAR la lr (.a q) = some o := ho
      exact ⟨by rw [hh2s (horgA hp), hs]; rfl, hcame hp (by rw [hs]; rfl)⟩
    cases hv with
    | c hk => exact .c (hk.mono (hrds _) (hrdw _))
    | agg => cases hl
    | tup => cases hl
    | own hk =>
      rename_i i bor e sz xs
      simp only [kilM]
      split
      · rename_i q hp
        split
        · rename_i o ho
          obtain ⟨_, _, _, _, rfl⟩ := hkrow hp hk ho
          obtain ⟨h1, h2⟩ := held hp ho
          have := VR.own (S := S') (B := Γ.B) (ν := ν2) (w := w') h1
          rwa [h2] at this
        · exact .dead
      · rename_i hp
        obtain ⟨h1, h2⟩ := plain hk hp
        have := VR.own (S := S') (B := Γ.B) (ν := ν2) (w := w') h1
        rwa [h2] at this
    | vw hk hle hv =>
      simp only [kilM]
      split
      · exact .dead
      · rename_i hp
        obtain ⟨h1, h2⟩ := plain hk hp
        refine .vw h1 hle (hv.imp (fun q => q.mono (hrds _) (hrdw _)) (fun q => ?_))
        rw [h2]; exact q
    | nil => exact .nil
    | ptr hk hν =>
      simp only [kilM]
      split
      · rename_i q hp
        split
        · rename_i o ho
          obtain ⟨_, rfl⟩ := hkbox hp hk ho
          obtain ⟨h1, h2⟩ := held hp ho
          exact .ptr h1 (h2.trans hν)
        · exact .dead
      · rename_i hp
        obtain ⟨h1, h2⟩ := plain hk hp
        exact .ptr h1 (h2.trans hν)
    | ept hk hν hn =>
      simp only [kilM]
      split
      · exact .dead
      · rename_i hp
        obtain ⟨h1, h2⟩ := plain hk hp
        exact .ept h1 (h2.trans hν) hn
    | ip u hs hb hu hi =>
      exact .ip u hs (hrds _ _ hb) (fun j c hj => (World.cell?_of_block (by rw [add_block]; exact hrdw _ _ hb)).trans (hu j c hj)) (fun j c hj => (hi j c hj).mono (hrds _) (hrdw _))
    | fn => cases hl
    | rx hk q =>
      simp only [kilM]
      split
      · rename_i q0 hp
        split
        · rename_i o ho
          obtain rfl := hkreg hp hk ho
          obtain ⟨h1, h2⟩ := held hp ho
          exact .rg h1 (by rw [h2]; exact hkpa hp ho _ _ q)
        · exact .dead
      · rename_i hp
        obtain ⟨h1, h2⟩ := plain hk hp
        exact .rx h1 (by rw [h2]; exact q.mono (fun _ q => q) (hregw hp hk))
    | rg hk q =>
      obtain ⟨x', l, q⟩ := q
      simp only [kilM]
      split
      · rename_i q0 hp
        split
        · rename_i o ho
          obtain rfl := hkreg hp hk ho
          obtain ⟨h1, h2⟩ := held hp ho
          obtain ⟨x2, l2, q2⟩ := hkpa hp ho _ _ q
          exact .rg h1 ⟨x2, l2.trans l, by rw [h2]; exact q2⟩
        · exact .dead
      · rename_i hp
        obtain ⟨h1, h2⟩ := plain hk hp
        exact .rg h1 ⟨x', l, by rw [h2]; exact q.mono (fun _ q => q) (hregw hp hk)⟩
    | rp hk hs hb q =>
      simp only [kilM]
      split
      · exact .dead
      · rename_i hp
        obtain ⟨h1, h2⟩ := plain hk hp
        refine .rp h1 hs (by rw [h2]; exact hb) (fun j c hj => ?_)
        obtain ⟨u, c', h4, l, h5⟩ := q j c hj
        exact ⟨u, c', (World.cell?_of_block (by rw [add_block]; exact hregw hp hk _ hb)).trans h4, l, by rw [h2]; exact h5.mono (fun _ q => q) (hregw hp hk)⟩
    | dead => exact .dead
  have hbki : ∀ {i o}, hAR la lr i = some o → ∃ j, bkI as d i = some j ∧ hM st.h as d la lr j = some (o.on (bkM as d)) ∧ ν2 j = ν' i := by
    intro i o hi
    cases i with
    | a q =>
      have hq : q < as.length := by
        have hi' : (la[q]?).join = some o := hi
        cases hq : la[q]? with
        | none => rw [hq] at hi'; cases hi'
        | some x => have := (List.getElem?_eq_some_iff.1 hq).1; omega
      have hj : as[q]? = some as[q] := List.getElem?_eq_getElem hq
      have hp := pos_of (k := 0) hnd hj
      rw [Nat.zero_add] at hp
      exact ⟨as[q], hj, by rw [hh2s (horgA hp), hi]; rfl, hν2s (horgA hp)⟩
    | r q =>
      have hi' : lr[q]? = some o := hi
      have hq : q < lr.length := (List.getElem?_eq_some_iff.1 hi').1
      have hor : org as d lr.length (.s d q) = some (.r q) := by
        cases hp : pos as 0 (.s d q) with
        | some m =>
          have hg := (pos_get hp).2
          obtain ⟨o', _, hh⟩ := map_at hobs hg
          rw [hf q hq] at hh; cases hh
        | none => simp [org, hp, hq]
      exact ⟨.s d q, rfl, by rw [hh2s hor, hi]; rfl, hν2s hor⟩
    | s => cases hi
  have hbk : ∀ x u, x.leaf = true → VR S' Γ.B ν' (hAR la lr) w' x u → VR S' Γ.B ν2 (hM st.h as d la lr) w' (bkM as d x) u := by
    intro x u hl hv
    cases hv with
    | c hk => exact .c hk
    | agg => cases hl
    | tup => cases hl
    | own hk =>
      obtain ⟨j, h1, h2, h3⟩ := hbki hk
      simp only [bkM, h1]
      have := VR.own (S := S') (B := Γ.B) (ν := ν2) (w := w') h2
      rwa [h3] at this
    | vw hk hle hv =>
      obtain ⟨j, h1, h2, h3⟩ := hbki hk
      simp only [bkM, h1]
      refine .vw h2 hle (hv.imp id (fun q => ?_))
      rw [h3]; exact q
    | nil => exact .nil
    | ptr hk hν =>
      obtain ⟨j, h1, h2, h3⟩ := hbki hk
      simp only [bkM, h1]
      exact .ptr h2 (h3.trans hν)
    | ept hk hν hn =>
      obtain ⟨j, h1, h2, h3⟩ := hbki hk
      simp only [bkM, h1]
      exact .ept h2 (h3.trans hν) hn
    | ip u hs hb hu hi => exact .ip u hs hb hu hi
    | fn => cases hl
    | rx hk q =>
      obtain ⟨j, h1, h2, h3⟩ := hbki hk
      simp only [bkM, h1]
      exact .rx h2 (by rw [h3]; exact q)
    | rg hk q =>
      obtain ⟨j, h1, h2, h3⟩ := hbki hk
      simp only [bkM, h1]
      exact .rg h2 (by rw [h3]; exact q)
    | rp hk hs hb q =>
      obtain ⟨j, h1, h2, h3⟩ := hbki hk
      simp only [bkM, h1]
      exact .rp h2 hs (by rw [h3]; exact hb) (by rw [h3]; exact q)
    | dead => exact .dead
  have hcl : ∀ x u, x.clean = true → VR S' (lentB Γ ν (hminus st.h as)) ν' (hAR la lr) w' x u → VR S' Γ.B ν2 (hM st.h as d la lr) w' (x.on (bkM as d)) u := fun x u hx hv =>
    (hv.clean (B' := Γ.B) hrow hx).on (fun x v hl q => hbk x v hl q)
  have hdead : ∀ {i}, (hM st.h as d la lr i).isSome = true → (∃ j, org as d lr.length i = some j ∧ (hAR la lr j).isSome = true) ∨ (org as d lr.length i = none ∧ (st.h i).isSome = true) := by
    intro i hi
    cases hor : org as d lr.length i with
    | some j => rw [hh2s hor] at hi; exact .inl ⟨j, rfl, by simpa using hi⟩
    | none => rw [hh2n hor] at hi; exact .inr ⟨rfl, by simpa using hi⟩
  refine ⟨S', ν2, ⟨k.defers, k.size, fun b hb => hpost.s0 b (k.s0 b hb), fun b hb => ?_, k.fr.trans hpost.fr (fun b hx => ?_), ⟨?_, ?_, ?_, ?_, ?_, ?_⟩, ?_, ?_, fun b hb => ?_, fun q hi => ?_, k.lay.mono (fun b hb => hb.imp (hpost.s0 b) id) (fun b hb => hsame b (k.ok.lt b hb) (hSB b hb)), fun q => (k.t q).on hkil⟩, hcl _ _ hc1 hpost.val⟩
  · rcases hpost.s1 b hb with q | q | q
    · exact k.s1 b q
    · exact .inr (.inl (Nat.le_trans k.fr.size q))
    · obtain ⟨j, _, hs, hb'⟩ := hXi b q
      exact .inr (k.mine j b hs hb')
  · obtain ⟨j, _, hs, hb'⟩ := hXi b hx
    exact k.mine j b hs hb'
  · intro i cs hi
    replace hi : hM st.h as d la lr i = some (.box cs) := hi
    cases hor : org as d lr.length i with
    | some j =>
      rw [hh2s hor] at hi
      obtain ⟨o, ho, he⟩ := Option.map_eq_some_iff.1 hi
      cases o with
      | row => cases he
      | reg => cases he
      | box cs0 =>
        obtain rfl := Ob.box.inj he
        obtain ⟨b, us, TT, hv, hw, hsz, hc⟩ := hpost.ok.box j cs0 ho
        have hcl0 := hclean _ _ ho
        simp only [Ob.clean] at hcl0
        refine ⟨b, us, TT, (hν2s hor).trans hv, hw, by rw [hsz, AV.onL_map, List.length_map], fun n x u hx hu => ?_⟩
        rw [AV.onL_map, List.getElem?_map] at hx
        obtain ⟨y, hy, rfl⟩ := Option.map_eq_some_iff.1 hx
        exact ⟨hcl y u (AV.cleanL_iff.1 hcl0 y (List.mem_of_getElem? hy)) (hc n y u hy hu).1, (hc n y u hy hu).2⟩
    | none =>
      rw [hh2n hor] at hi
      obtain ⟨o, ho, he⟩ := Option.map_eq_some_iff.1 hi
      cases o with
      | row => cases he
      | reg => cases he
      | box cs0 =>
        obtain rfl := Ob.box.inj he
        obtain ⟨b, us, TT, hv, hw, hsz, hc⟩ := k.ok.box i cs0 ho
        have hs : (st.h i).isSome = true := by rw [ho]; rfl
        have hb : fb (ν i) b := by rw [hv]; exact rfl
        refine ⟨b, us, TT, (hν2n hor).trans hv, (hsame b (k.ok.blk_lt hs hb) (hoth i b (org_none hor) hs hb)).trans hw, by rw [hsz, AV.onL_map, List.length_map], fun n x u hx hu => ?_⟩
        rw [AV.onL_map, List.getElem?_map] at hx
        obtain ⟨y, hy, rfl⟩ := Option.map_eq_some_iff.1 hx
        exact ⟨(hc n y u hy hu).1.on hkil, (hc n y u hy hu).2⟩
  · intro i bor e sz xs hi
    replace hi : hM st.h as d la lr i = some (.row bor e sz xs) := hi
    cases hor : org as d lr.length i with
    | some j =>
      rw [hh2s hor] at hi
      obtain ⟨o, ho, he⟩ := Option.map_eq_some_iff.1 hi
      cases o with
      | box => cases he
      | reg => cases he
      | row b0 e0 sz0 xs0 =>
        obtain ⟨rfl, rfl, rfl, rfl⟩ := Ob.row.inj he
        obtain ⟨h0, hl, us, hown, hc⟩ := hpost.ok.row j _ _ _ _ ho
        obtain rfl := hrow _ _ _ _ _ ho
        refine ⟨h0, hl, us, by rw [hν2s hor]; exact hown, fun n r oo c hr hcc => ?_⟩
        obtain ⟨u, hu, h1, him⟩ := hc n r oo c hr hcc
        exact ⟨u, hu, h1, him.mono (fun b hb => hb.imp id (fun q => by cases q.1)) (fun _ _ => rfl)⟩
    | none =>
      rw [hh2n hor] at hi
      obtain ⟨o, ho, he⟩ := Option.map_eq_some_iff.1 hi
      cases o with
      | box => cases he
      | reg => cases he
      | row b0 e0 sz0 xs0 =>
        obtain ⟨rfl, rfl, rfl, rfl⟩ := Ob.row.inj he
        obtain ⟨h0, hl, us, hown, hc⟩ := k.ok.row i _ _ _ _ ho
        have hs : (st.h i).isSome = true := by rw [ho]; rfl
        refine ⟨h0, hl, us, ⟨hown.1, ?_⟩, fun n r oo c hr hcc => ?_⟩
        · rw [hν2n hor]
          rcases hown.2 with hn | ⟨gb, cap, cur, hv, hz, ⟨fz, hgb, hfz⟩, rest⟩
          · exact .inl hn
          · have hb : fb (ν i) gb := by rw [hv]; exact rfl
            exact .inr ⟨gb, cap, cur, hv, hz, ⟨fz, (hsame gb (k.ok.blk_lt hs hb) (hoth i gb (org_none hor) hs hb)).trans hgb, hfz⟩, rest⟩
        · obtain ⟨u, hu, h1, him⟩ := hc n r oo c hr hcc
          exact ⟨u, hu, h1, him.mono (hrds _) (hrdw _)⟩
  · intro i hi
    replace hi : hM st.h as d la lr i = some .reg := hi
    cases hor : org as d lr.length i with
    | some j =>
      rw [hh2s hor] at hi
      obtain ⟨o, ho, he⟩ := Option.map_eq_some_iff.1 hi
      cases o with
      | box => cases he
      | row => cases he
      | reg => rw [hν2s hor]; exact hpost.ok.reg j ho
    | none =>
      rw [hh2n hor] at hi
      obtain ⟨o, ho, he⟩ := Option.map_eq_some_iff.1 hi
      cases o with
      | box => cases he
      | row => cases he
      | reg =>
        have hs : (st.h i).isSome = true := by rw [ho]; rfl
        rw [hν2n hor]
        exact ⟨(k.ok.reg i ho).1, fun b hb => (k.ok.um hs hb).same (hsame b (k.ok.blk_lt hs hb) (hoth i b (org_none hor) hs hb))⟩
  · intro i j b hij hi hj hb hb'
    rcases hdead hi with ⟨i1, ho1, hs1⟩ | ⟨ho1, hs1⟩ <;> rcases hdead hj with ⟨j1, ho2, hs2⟩ | ⟨ho2, hs2⟩
    · rw [hν2s ho1] at hb
      rw [hν2s ho2] at hb'
      exact hpost.ok.sep i1 j1 b (fun e => hij (by subst e; exact org_inj ho1 ho2)) hs1 hs2 hb hb'
    · rw [hν2s ho1] at hb
      rw [hν2n ho2] at hb'
      rcases hpost.mine i1 b hs1 hb with q | q
      · have := k.ok.blk_lt hs2 hb'; omega
      · exact hoth j b (org_none ho2) hs2 hb' q
    · rw [hν2n ho1] at hb
      rw [hν2s ho2] at hb'
      rcases hpost.mine j1 b hs2 hb' with q | q
      · have := k.ok.blk_lt hs1 hb; omega
      · exact hoth i b (org_none ho1) hs1 hb q
    · rw [hν2n ho1] at hb
      rw [hν2n ho2] at hb'
      exact k.ok.sep i j b hij hs1 hs2 hb hb'
  · intro i b hi hb
    rcases hdead hi with ⟨i1, ho1, hs1⟩ | ⟨ho1, hs1⟩
    · rw [hν2s ho1] at hb
      have := hpost.ok.out i1 b hs1 hb
      exact ⟨this.1, fun q => this.2 (hBB b q)⟩
    · rw [hν2n ho1] at hb
      have := k.ok.out i b hs1 hb
      refine ⟨fun q => ?_, this.2⟩
      rcases hpost.s1 b q with r | r | r
      · exact this.1 r
      · have := k.ok.blk_lt hs1 hb; omega
      · exact hoth i b (org_none ho1) hs1 hb r
  · intro b hb
    rcases hb with hb | hb
    · exact hpost.ok.lt b (.inl hb)
    · exact Nat.lt_of_lt_of_le (k.ok.lt b (.inr hb)) hpost.fr.size
  · intro i b hi hb
    rcases hdead hi with ⟨i1, ho1, hs1⟩ | ⟨ho1, hs1⟩
    · rw [hν2s ho1] at hb
      rcases hpost.mine i1 b hs1 hb with q | q
      · exact .inl (Nat.le_trans k.fr.size q)
      · obtain ⟨j, _, hs, hb'⟩ := hXi b q
        exact k.mine j b hs hb'
    · rw [hν2n ho1] at hb
      exact k.mine i b hs1 hb
  · intro q hi
    rcases hdead hi with ⟨i1, ho1, hs1⟩ | ⟨ho1, hs1⟩
    · rcases org_some ho1 with ⟨m, rfl, h1, h2⟩ | ⟨m, rfl, h1, _, _⟩
      · rw [hcame h2 hs1]
        obtain ⟨o, _, ho⟩ := map_at hobs h1
        exact k.came q (by rw [ho]; rfl)
      · cases h1
    · rw [hν2n ho1]
      exact k.came q hs1
  · rcases hpost.um b hb with h | h
    · exact (k.um b h).imp (fun q => q) (fun q => q.same (hsame b (k.ok.lt b (.inl h)) (hSB b (.inl h))))
    · exact .inr h
  · replace hi : hM st.h as d la lr (.a q) = some .reg := hi
    cases hor : org as d lr.length (.a q) with
    | some j =>
      rw [hh2s hor] at hi
      obtain ⟨o, ho, he⟩ := Option.map_eq_some_iff.1 hi
      cases o with
      | box => cases he
      | row => cases he
      | reg =>
        rcases org_some hor with ⟨m, rfl, h1, h2⟩ | ⟨m, rfl, h1, _, _⟩
        · obtain ⟨o0, _, ho0⟩ := map_at hobs h1
          have hs : (st.h (.a q)).isSome = true := by rw [ho0]; rfl
          have hreg0 : st.h (.a q) = some .reg := by
            have hc := hcame h2 (by rw [ho]; rfl)
            obtain ⟨l, hv⟩ := (hpost.ok.reg _ ho).1
            rw [hν2s (horgA h2), hv] at hc
            cases o0 with
            | reg => exact ho0
            | box cs =>
              obtain ⟨b, us, T, hv', _⟩ := k.ok.box _ _ ho0
              rw [hv'] at hc; cases hc
            | row bor e sz xs =>
              obtain ⟨_, _, us, hown, _⟩ := k.ok.row _ _ _ _ _ ho0
              rcases hown.2 with ⟨h1, _⟩ | ⟨_, _, _, h1, _⟩ <;> (rw [h1] at hc; cases hc)
          have h3 := hkpa h2 ho
          rw [k.came q hs] at h3
          exact (k.kp q hreg0).trans h3
        · cases h1
    | none =>
      rw [hh2n hor] at hi
      obtain ⟨o, ho, he⟩ := Option.map_eq_some_iff.1 hi
      cases o with
      | box => cases he
      | row => cases he
      | reg =>
        have hs : (st.h (.a q)).isSome = true := by rw [ho]; rfl
        refine (k.kp q ho).trans (.same fun b hb => ?_)
        rw [← k.came q hs] at hb
        exact hsame b (k.ok.blk_lt hs hb) (hoth _ b (org_none hor) hs hb)
end
end Go.Proofs.YtoemclhjcbcjaaaGreat.AB
