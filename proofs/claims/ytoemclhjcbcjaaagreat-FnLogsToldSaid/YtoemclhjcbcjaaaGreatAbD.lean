/- Less is said of a state: slots are forgotten, names are changed, and slices that nobody may write any more stay as they are. -/
import Derived.Test.YtoemclhjcbcjaaaGreatAbC
namespace Go.Proofs.YtoemclhjcbcjaaaGreat.AB
open Go

def C.scal : C → Bool
  | .v x => AB.scal x
  | .sl _ => false

/-- by which names of before the names of now stand -/
structure Wn where
  ρ : Id → Id
  h : Hp
  h' : Hp

def Wn.gone (W : Wn) (j : Id) : Prop := ∀ i, (W.h' i).isSome = true → W.ρ i ≠ j

def Wn.cw (W : Wn) (b : Bool) (x : C) : AV → Prop
  | .c b' x' => x = x' ∧ (b' = b ∨ b = true ∨ C.scal x = true)
  | .own j => W.gone j ∧ ∃ e sz xs, W.h j = some (.row b e sz xs) ∧ x = .sl xs
  | .vw j lo n => W.gone j ∧ ∃ e sz xs, W.h j = some (.row b e sz xs) ∧ x = .sl ((xs.drop lo).take n)
  | .nil => x = .sl []
  | _ => False

mutual
def Wn.le (W : Wn) : AV → AV → Prop
  | .dead, _ => True
  | .c b x, y => W.cw b x y
  | .own i, y => y = .own (W.ρ i) ∧ (W.h' i).isSome = true
  | .vw i lo n, y => y = .vw (W.ρ i) lo n ∧ (W.h' i).isSome = true
  | .nil, y => y = .nil
  | .ptr i o, y => y = .ptr (W.ρ i) o ∧ (W.h' i).isSome = true
  | .ept i n o, y => y = .ept (W.ρ i) n o ∧ (W.h' i).isSome = true
  | .ip b xs, y => y = .ip b xs
  | .rx i x, y => y = .rx (W.ρ i) x ∧ (W.h' i).isSome = true
  | .rg i x, y => y = .rg (W.ρ i) x ∧ (W.h' i).isSome = true
  | .rp i xs, y => y = .rp (W.ρ i) xs ∧ (W.h' i).isSome = true
  | .agg xs, .agg ys => W.leL xs ys
  | .agg _, _ => False
  | .tup xs, .tup ys => W.leL xs ys
  | .tup _, _ => False
  | .fn f xs, .fn g ys => f = g ∧ W.leL xs ys
  | .fn _ _, _ => False
def Wn.leL (W : Wn) : List AV → List AV → Prop
  | [], [] => True
  | x :: xs, y :: ys => W.le x y ∧ W.leL xs ys
  | _, _ => False
end

def Wn.leO (W : Wn) : Ob → Ob → Prop
  | .box cs', .box cs => W.leL cs' cs
  | .row b e sz xs, o => o = .row b e sz xs
  | .reg, o => o = .reg
  | _, _ => False

theorem Wn.leL_length {W : Wn} : ∀ {xs ys : List AV}, W.leL xs ys → xs.length = ys.length
  | [], [], _ => rfl
  | _ :: _, _ :: _, h => by simp only [Wn.leL] at h; simp [Wn.leL_length h.2]
  | [], _ :: _, h => by simp [Wn.leL] at h
  | _ :: _, [], h => by simp [Wn.leL] at h

theorem Wn.leL_get {W : Wn} : ∀ {xs ys : List AV}, W.leL xs ys → ∀ (i : Nat) (x y : AV), xs[i]? = some x → ys[i]? = some y → W.le x y
  | [], [], _, i, x, y, h, _ => by simp at h
  | _ :: _, _ :: _, h, 0, x, y, hx, hy => by
    simp only [Wn.leL] at h; simp at hx hy; subst hx; subst hy; exact h.1
  | _ :: _, _ :: _, h, i + 1, x, y, hx, hy => by
    simp only [Wn.leL] at h; simp at hx hy; exact Wn.leL_get h.2 i x y hx hy
  | [], _ :: _, h, _, _, _, _, _ => by simp [Wn.leL] at h
  | _ :: _, [], h, _, _, _, _, _ => by simp [Wn.leL] at h

theorem Wn.leL_at {W : Wn} {xs ys : List AV} (h : W.leL xs ys) {i : Nat} {x : AV} (hx : xs[i]? = some x) : ∃ y, ys[i]? = some y :=
  ⟨_, List.getElem?_eq_getElem (by rw [← Wn.leL_length h]; exact (List.getElem?_eq_some_iff.1 hx).1)⟩

/-- the blocks that nobody may write any more -/
def Wn.stay (W : Wn) (ν : Id → Value) (S : Nat → Prop) (b : Nat) : Prop :=
  S b ∨ ∃ j, (W.h j).isSome = true ∧ W.gone j ∧ fb (ν j) b

theorem Im.scal_any {S S' : Nat → Prop} {w w' : World} {v : Value} {x : C} (hs : C.scal x = true) (h : Im S w v x) : Im S' w' v x := by
  cases h with
  | v h => exact .v h
  | nil => cases hs
  | sl => cases hs

theorem VR.weak {S B : Nat → Prop} {ν : Id → Value} {w : World} {W : Wn} (ok : HOK S B ν W.h w)
    (hh : ∀ i o', W.h' i = some o' → ∃ o, W.h (W.ρ i) = some o ∧ W.leO o' o) {y : AV} {v : Value} (k : VR S B ν W.h w y v) :
    ∀ {x : AV}, W.le x y → VR (W.stay ν S) B (fun i => ν (W.ρ i)) W.h' w x v := by
  have hrd : ∀ bor b, rd S B bor b → rd (W.stay ν S) B bor b := fun bor b hb => hb.imp .inl id
  have rowOf : ∀ i bor e sz xs, (W.h' i).isSome = true → W.h (W.ρ i) = some (.row bor e sz xs) → W.h' i = some (.row bor e sz xs) := by
    intro i bor e sz xs hl h1
    obtain ⟨o', ho'⟩ := Option.isSome_iff_exists.1 hl
    obtain ⟨o, ho, hle⟩ := hh i o' ho'
    rw [h1] at ho
    obtain rfl := Option.some.inj ho
    cases o' with
    | box => simp [Wn.leO] at hle
    | reg => simp [Wn.leO] at hle
    | row b e' s' ys => simp only [Wn.leO, Ob.row.injEq] at hle; obtain ⟨rfl, rfl, rfl, rfl⟩ := hle; exact ho'
  have boxOf : ∀ i cs, (W.h' i).isSome = true → W.h (W.ρ i) = some (.box cs) → ∃ cs', W.h' i = some (.box cs') := by
    intro i cs hl h1
    obtain ⟨o', ho'⟩ := Option.isSome_iff_exists.1 hl
    obtain ⟨o, ho, hle⟩ := hh i o' ho'
    rw [h1] at ho
    obtain rfl := Option.some.inj ho
    cases o' with
    | box cs' => exact ⟨cs', ho'⟩
    | row => simp [Wn.leO] at hle
    | reg => simp [Wn.leO] at hle
  have regOf : ∀ i, (W.h' i).isSome = true → W.h (W.ρ i) = some .reg → W.h' i = some .reg := by
    intro i hl h1
    obtain ⟨o', ho'⟩ := Option.isSome_iff_exists.1 hl
    obtain ⟨o, ho, hle⟩ := hh i o' ho'
    rw [h1] at ho
    obtain rfl := Option.some.inj ho
    cases o' with
    | box => simp [Wn.leO] at hle
    | row => simp [Wn.leO] at hle
    | reg => exact ho'
  induction k with
  | c k =>
    intro x hx
    cases x <;> simp only [Wn.le, reduceCtorEq, false_and] at hx
    case dead => exact .dead
    case c b' x' =>
      obtain ⟨rfl, hb⟩ := hx
      rcases hb with rfl | rfl | hs
      · exact .c (k.mono (hrd _) (fun _ _ => rfl))
      · refine .c (k.mono (fun b hb => ?_) (fun _ _ => rfl))
        exact (hrd _ b hb).imp id (fun q => ⟨rfl, q.2⟩)
      · exact .c (k.scal_any hs)
  | agg hl _ h1 ih =>
    intro x hx
    cases x <;> simp only [Wn.le, Wn.cw, reduceCtorEq, false_and] at hx
    case dead => exact .dead
    case agg xs =>
      refine .agg ((Wn.leL_length hx).trans hl) (fun i x u hxi hu => ?_) h1
      obtain ⟨y, hy⟩ := Wn.leL_at hx hxi
      exact ih i _ u hy hu (Wn.leL_get hx i x _ hxi hy)
  | tup hl _ ih =>
    intro x hx
    cases x <;> simp only [Wn.le, Wn.cw, reduceCtorEq, false_and] at hx
    case dead => exact .dead
    case tup xs =>
      refine .tup ((Wn.leL_length hx).trans hl) (fun i x u hxi hu => ?_)
      obtain ⟨y, hy⟩ := Wn.leL_at hx hxi
      exact ih i _ u hy hu (Wn.leL_get hx i x _ hxi hy)
  | own k =>
    intro x hx
    cases x <;> simp only [Wn.le, reduceCtorEq, false_and] at hx
    case dead => exact .dead
    case own i =>
      obtain ⟨hi, hl⟩ := hx
      obtain rfl := AV.own.inj hi
      exact VR.own (ν := fun i => ν (W.ρ i)) (rowOf i _ _ _ _ hl k)
    case c b x =>
      obtain ⟨hg, e, sz, xs, h1, rfl⟩ := hx
      refine .c ((ok.im h1).mono (fun b hb => ?_) (fun _ _ => rfl))
      rcases hb with hb | hb
      · exact hrd _ b hb
      · exact .inl (.inr ⟨_, by rw [h1]; rfl, hg, hb⟩)
  | vw k hle hv =>
    rename_i j bor e sz lo n xs v
    intro x hx
    cases x <;> simp only [Wn.le, reduceCtorEq, false_and] at hx
    case dead => exact .dead
    case vw i lo' n' =>
      obtain ⟨hi, hl⟩ := hx
      obtain ⟨rfl, rfl, rfl⟩ := AV.vw.inj hi
      exact VR.vw (ν := fun i => ν (W.ρ i)) (rowOf i _ _ _ _ hl k) hle (hv.imp (fun q => q.mono (hrd _) (fun _ _ => rfl)) id)
    case c b x =>
      obtain ⟨hg, e', sz', xs', h1, rfl⟩ := hx
      rw [k] at h1
      obtain ⟨rfl, rfl, rfl, rfl⟩ := Ob.row.inj (Option.some.inj h1)
      refine .c ((ok.vw (.vw k hle hv) k).1.mono (fun b hb => ?_) (fun _ _ => rfl))
      rcases hb with hb | hb
      · exact hrd _ b hb
      · exact .inl (.inr ⟨_, by rw [k]; rfl, hg, hb⟩)
  | nil =>
    intro x hx
    cases x <;> simp only [Wn.le, reduceCtorEq, false_and] at hx
    case dead => exact .dead
    case nil => exact .nil
    case c b x => simp only [Wn.cw] at hx; subst hx; exact .c .nil
  | ptr k hv =>
    intro x hx
    cases x <;> simp only [Wn.le, Wn.cw, reduceCtorEq, false_and] at hx
    case dead => exact .dead
    case ptr i o =>
      obtain ⟨hi, hl⟩ := hx
      obtain ⟨rfl, rfl⟩ := AV.ptr.inj hi
      obtain ⟨cs', h1⟩ := boxOf i _ hl k
      exact VR.ptr (ν := fun i => ν (W.ρ i)) h1 hv
  | ept k hv hn =>
    intro x hx
    cases x <;> simp only [Wn.le, Wn.cw, reduceCtorEq, false_and] at hx
    case dead => exact .dead
    case ept i n o =>
      obtain ⟨hi, hl⟩ := hx
      obtain ⟨rfl, rfl, rfl⟩ := AV.ept.inj hi
      exact VR.ept (ν := fun i => ν (W.ρ i)) (rowOf i _ _ _ _ hl k) hv hn
  | ip u hs hb hu hi =>
    intro x hx
    cases x <;> simp only [Wn.le, Wn.cw, reduceCtorEq, false_and] at hx
    case dead => exact .dead
    case ip b xs =>
      obtain ⟨rfl, rfl⟩ := AV.ip.inj hx
      exact .ip u hs (hrd _ _ hb) hu (fun j c hj => (hi j c hj).mono (hrd _) (fun _ _ => rfl))
  | fn hl _ ih =>
    intro x hx
    cases x <;> simp only [Wn.le, Wn.cw, reduceCtorEq, false_and] at hx
    case dead => exact .dead
    case fn f xs =>
      obtain ⟨rfl, hx⟩ := hx
      refine .fn ((Wn.leL_length hx).trans hl) (fun i x u hxi hu => ?_)
      obtain ⟨y, hy⟩ := Wn.leL_at hx hxi
      exact ih i _ u hy hu (Wn.leL_get hx i x _ hxi hy)
  | rx k q =>
    intro x hx
    cases x <;> simp only [Wn.le, Wn.cw, reduceCtorEq, false_and] at hx
    case dead => exact .dead
    case rx i x =>
      obtain ⟨hi, hl⟩ := hx
      obtain ⟨rfl, rfl⟩ := AV.rx.inj hi
      exact VR.rx (ν := fun i => ν (W.ρ i)) (regOf i hl k) q
  | rg k q =>
    intro x hx
    cases x <;> simp only [Wn.le, Wn.cw, reduceCtorEq, false_and] at hx
    case dead => exact .dead
    case rg i x =>
      obtain ⟨hi, hl⟩ := hx
      obtain ⟨rfl, rfl⟩ := AV.rg.inj hi
      exact VR.rg (ν := fun i => ν (W.ρ i)) (regOf i hl k) q
  | rp k hs hb q =>
    intro x hx
    cases x <;> simp only [Wn.le, Wn.cw, reduceCtorEq, false_and] at hx
    case dead => exact .dead
    case rp i x =>
      obtain ⟨hi, hl⟩ := hx
      obtain ⟨rfl, rfl⟩ := AV.rp.inj hi
      exact VR.rp (ν := fun i => ν (W.ρ i)) (regOf i hl k) hs hb q
  | dead =>
    intro x hx
    cases x <;> simp only [Wn.le, Wn.cw, reduceCtorEq, false_and] at hx
    exact .dead

theorem RepW.weak {Γ : Gm} {S : Nat → Prop} {ν : Id → Value} {st : St} {a : Act} {w : World} (k : RepW Γ S ν st a w) {t' : Nat → AV} {W : Wn} (hW : W.h = st.h)
    (ht : ∀ d, W.le (t' d) (st.t d)) (hh : ∀ i o', W.h' i = some o' → ∃ o, W.h (W.ρ i) = some o ∧ W.leO o' o)
    (hinj : ∀ i j, (W.h' i).isSome = true → (W.h' j).isSome = true → W.ρ i = W.ρ j → i = j) (ha : ∀ q, (W.h' (.a q)).isSome = true → W.ρ (.a q) = .a q) :
    RepW Γ (W.stay ν S) (fun i => ν (W.ρ i)) ⟨t', W.h'⟩ a w := by
  have ok : HOK S Γ.B ν W.h w := by rw [hW]; exact k.ok
  have live : ∀ i, (W.h' i).isSome = true → (W.h (W.ρ i)).isSome = true := by
    intro i hi
    obtain ⟨o', ho'⟩ := Option.isSome_iff_exists.1 hi
    obtain ⟨o, ho, _⟩ := hh i o' ho'
    rw [ho]; rfl
  refine ⟨k.defers, k.size, fun b hb => .inl (k.s0 b hb), fun b hb => ?_, k.fr, ⟨?_, ?_, ?_, ?_, ?_, ?_⟩, ?_, ?_, fun b hb => ?_, fun q hi => ?_, k.lay.mono (fun b hb => hb.imp .inl id) (fun _ _ => rfl), fun d => VR.weak ok hh (by rw [hW]; exact k.t d) (ht d)⟩
  · rcases hb with hb | ⟨j, hj, _, hb⟩
    · exact k.s1 b hb
    · exact .inr (k.mine j b (by rw [← hW]; exact hj) hb)
  · intro i cs' hi
    obtain ⟨o, ho, hle⟩ := hh i _ hi
    cases o with
    | row => simp [Wn.leO] at hle
    | reg => simp [Wn.leO] at hle
    | box cs =>
      simp only [Wn.leO] at hle
      obtain ⟨b, us, T, hv, hw, hsz, hc⟩ := ok.box _ cs ho
      refine ⟨b, us, T, hv, hw, by rw [Wn.leL_length hle]; exact hsz, fun j x u hx hu => ?_⟩
      have hlt : j < cs.length := by rw [← Wn.leL_length hle]; exact (List.getElem?_eq_some_iff.1 hx).1
      have hy : cs[j]? = some cs[j] := List.getElem?_eq_getElem hlt
      have := hc j _ u hy hu
      exact ⟨VR.weak ok hh this.1 (Wn.leL_get hle j x _ hx hy), this.2⟩
  · intro i bor e sz xs hi
    obtain ⟨o, ho, hle⟩ := hh i _ hi
    simp only [Wn.leO] at hle
    subst hle
    obtain ⟨h0, hl, us, hown, hc⟩ := ok.row _ _ _ _ _ ho
    refine ⟨h0, hl, us, hown, fun n r o c hr hcc => ?_⟩
    obtain ⟨u, hu, h1, hi⟩ := hc n r o c hr hcc
    exact ⟨u, hu, h1, hi.mono (fun b hb => hb.imp .inl id) (fun _ _ => rfl)⟩
  · intro i hi
    obtain ⟨o, ho, hle⟩ := hh i _ hi
    simp only [Wn.leO] at hle
    subst hle
    exact ok.reg _ ho
  · intro i j b hij hi hj hb
    exact ok.sep _ _ b (fun q => hij (hinj i j hi hj q)) (live i hi) (live j hj) hb
  · intro i b hi hb
    have := ok.out _ b (live i hi) hb
    refine ⟨fun q => ?_, this.2⟩
    rcases q with q | ⟨j, hj, hg, hb'⟩
    · exact this.1 q
    · exact ok.sep _ _ b (hg i hi) (live i hi) hj hb hb'
  · intro b hb
    rcases hb with (hb | ⟨j, hj, _, hb⟩) | hb
    · exact ok.lt b (.inl hb)
    · exact ok.blk_lt hj hb
    · exact ok.lt b (.inr hb)
  · intro i b hi hb
    exact k.mine _ b (by rw [← hW]; exact live i hi) hb
  · intro q hi
    show ν (W.ρ (.a q)) = _
    rw [ha q hi]
    have := live _ hi
    rw [ha q hi] at this
    exact k.came q (by rw [← hW]; exact this)
  · rcases hb with hb | ⟨j, hj, _, hb⟩
    · exact k.um b hb
    · exact .inr (ok.um hj hb)
  · obtain ⟨o, ho, hle⟩ := hh _ _ hi
    simp only [Wn.leO] at hle
    subst hle
    rw [ha q (by show (W.h' (.a q)).isSome = true; rw [show W.h' (.a q) = some .reg from hi]; rfl)] at ho
    exact k.kp q (by rw [← hW]; exact ho)
end Go.Proofs.YtoemclhjcbcjaaaGreat.AB
