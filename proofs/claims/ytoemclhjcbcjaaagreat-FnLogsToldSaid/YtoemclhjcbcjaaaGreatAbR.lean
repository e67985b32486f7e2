/- Operations that only read, compute and make may change places. -/
import Derived.Test.YtoemclhjcbcjaaaGreatAbQ
namespace Go.Proofs.YtoemclhjcbcjaaaGreat.AB
open Go
set_option linter.unusedVariables false
set_option linter.unusedSimpArgs false

mutual
/-- of all names within -/
def AV.all (Q : Id → Prop) : AV → Prop
  | .own i => Q i
  | .vw i _ _ => Q i
  | .ptr i _ => Q i
  | .ept i _ _ => Q i
  | .rx i _ => Q i
  | .rg i _ => Q i
  | .rp i _ => Q i
  | .agg xs => AV.allL Q xs
  | .tup xs => AV.allL Q xs
  | .fn _ xs => AV.allL Q xs
  | _ => True
def AV.allL (Q : Id → Prop) : List AV → Prop
  | [] => True
  | x :: xs => AV.all Q x ∧ AV.allL Q xs
end

theorem AV.allL_iff {Q : Id → Prop} : ∀ {xs : List AV}, AV.allL Q xs ↔ ∀ x, x ∈ xs → x.all Q
  | [] => by simp [AV.allL]
  | x :: xs => by simp [AV.allL, AV.allL_iff (xs := xs)]

theorem VR.all {S B : Nat → Prop} {ν : Id → Value} {h : Hp} {w : World} {x : AV} {v : Value} (k : VR S B ν h w x v) : x.all fun i => (h i).isSome = true := by
  have step : ∀ {xs : List AV} {us : List Value}, xs.length = us.length → (∀ (i : Nat) (x : AV) (u : Value), xs[i]? = some x → us[i]? = some u → x.all fun i => (h i).isSome = true) → AV.allL (fun i => (h i).isSome = true) xs := by
    intro xs us hl hk
    refine AV.allL_iff.2 (fun x hx => ?_)
    obtain ⟨i, hi⟩ := List.mem_iff_getElem?.1 hx
    have hlt : i < us.length := by rw [← hl]; exact (List.getElem?_eq_some_iff.1 hi).1
    exact hk i x _ hi (List.getElem?_eq_getElem hlt)
  induction k with
  | c => simp only [AV.all]
  | agg hl _ _ ih => simp only [AV.all]; exact step hl ih
  | tup hl _ ih => simp only [AV.all]; exact step hl ih
  | own k => simp only [AV.all, k, Option.isSome_some]
  | vw k => simp only [AV.all, k, Option.isSome_some]
  | nil => simp only [AV.all]
  | ptr k => simp only [AV.all, k, Option.isSome_some]
  | ept k => simp only [AV.all, k, Option.isSome_some]
  | ip => simp only [AV.all]
  | fn hl _ ih => simp only [AV.all]; exact step hl ih
  | rx k => simp only [AV.all, k, Option.isSome_some]
  | rg k => simp only [AV.all, k, Option.isSome_some]
  | rp k => simp only [AV.all, k, Option.isSome_some]
  | dead => simp only [AV.all]

mutual
theorem AV.on_congr {Q : Id → Prop} {g g' : AV → AV} (hg : ∀ x, x.leaf = true → x.all Q → g x = g' x) : ∀ (x : AV), x.all Q → x.on g = x.on g'
  | .agg xs, h => by simp only [AV.all] at h; simp only [AV.on, AV.onL_congr hg xs h]
  | .tup xs, h => by simp only [AV.all] at h; simp only [AV.on, AV.onL_congr hg xs h]
  | .fn f xs, h => by simp only [AV.all] at h; simp only [AV.on, AV.onL_congr hg xs h]
  | .c b x, h => by simp only [AV.on]; exact hg _ rfl h
  | .own i, h => by simp only [AV.on]; exact hg _ rfl h
  | .vw i lo n, h => by simp only [AV.on]; exact hg _ rfl h
  | .nil, h => by simp only [AV.on]; exact hg _ rfl h
  | .ptr i o, h => by simp only [AV.on]; exact hg _ rfl h
  | .ept i n o, h => by simp only [AV.on]; exact hg _ rfl h
  | .ip b xs, h => by simp only [AV.on]; exact hg _ rfl h
  | .rx i x, h => by simp only [AV.on]; exact hg _ rfl h
  | .rg i x, h => by simp only [AV.on]; exact hg _ rfl h
  | .rp i x, h => by simp only [AV.on]; exact hg _ rfl h
  | .dead, h => by simp only [AV.on]; exact hg _ rfl h
theorem AV.onL_congr {Q : Id → Prop} {g g' : AV → AV} (hg : ∀ x, x.leaf = true → x.all Q → g x = g' x) : ∀ (xs : List AV), AV.allL Q xs → AV.onL g xs = AV.onL g' xs
  | [], _ => by simp only [AV.onL]
  | x :: xs, h => by simp only [AV.allL] at h; simp only [AV.onL, AV.on_congr hg x h.1, AV.onL_congr hg xs h.2]
end

mutual
theorem VR.on2 {S B : Nat → Prop} {ν : Id → Value} {h : Hp} {w : World} {g g' : AV → AV} (hg : ∀ x, x.leaf = true → g' x = g x ∨ g' x = .dead) : ∀ (x : AV) {v : Value}, VR S B ν h w (x.on g) v → VR S B ν h w (x.on g') v
  | .agg xs, v, k => by
    simp only [AV.on] at k ⊢
    cases k with
    | agg hl k h1 => exact .agg (by simpa [AV.onL_map] using hl) (VR.on2L hg xs k) h1
  | .tup xs, v, k => by
    simp only [AV.on] at k ⊢
    cases k with
    | tup hl k => exact .tup (by simpa [AV.onL_map] using hl) (VR.on2L hg xs k)
  | .fn f xs, v, k => by
    simp only [AV.on] at k ⊢
    cases k with
    | fn hl k => exact .fn (by simpa [AV.onL_map] using hl) (VR.on2L hg xs k)
  | .c b x, v, k => by simp only [AV.on] at k ⊢; rcases hg (.c b x) rfl with e | e <;> rw [e]; exact k; exact .dead
  | .own i, v, k => by simp only [AV.on] at k ⊢; rcases hg (.own i) rfl with e | e <;> rw [e]; exact k; exact .dead
  | .vw i lo n, v, k => by simp only [AV.on] at k ⊢; rcases hg (.vw i lo n) rfl with e | e <;> rw [e]; exact k; exact .dead
  | .nil, v, k => by simp only [AV.on] at k ⊢; rcases hg .nil rfl with e | e <;> rw [e]; exact k; exact .dead
  | .ptr i o, v, k => by simp only [AV.on] at k ⊢; rcases hg (.ptr i o) rfl with e | e <;> rw [e]; exact k; exact .dead
  | .ept i n o, v, k => by simp only [AV.on] at k ⊢; rcases hg (.ept i n o) rfl with e | e <;> rw [e]; exact k; exact .dead
  | .ip b xs, v, k => by simp only [AV.on] at k ⊢; rcases hg (.ip b xs) rfl with e | e <;> rw [e]; exact k; exact .dead
  | .rx i x, v, k => by simp only [AV.on] at k ⊢; rcases hg (.rx i x) rfl with e | e <;> rw [e]; exact k; exact .dead
  | .rg i x, v, k => by simp only [AV.on] at k ⊢; rcases hg (.rg i x) rfl with e | e <;> rw [e]; exact k; exact .dead
  | .rp i x, v, k => by simp only [AV.on] at k ⊢; rcases hg (.rp i x) rfl with e | e <;> rw [e]; exact k; exact .dead
  | .dead, v, k => by simp only [AV.on] at k ⊢; rcases hg .dead rfl with e | e <;> rw [e]; exact k; exact .dead
theorem VR.on2L {S B : Nat → Prop} {ν : Id → Value} {h : Hp} {w : World} {g g' : AV → AV} (hg : ∀ x, x.leaf = true → g' x = g x ∨ g' x = .dead) : ∀ (xs : List AV) {us : List Value},
    (∀ (i : Nat) (x : AV) (u : Value), (AV.onL g xs)[i]? = some x → us[i]? = some u → VR S B ν h w x u) → ∀ (i : Nat) (x : AV) (u : Value), (AV.onL g' xs)[i]? = some x → us[i]? = some u → VR S B ν h w x u
  | [], us, k, i, x, u, hx, hu => by simp [AV.onL] at hx
  | y :: xs, us, k, 0, x, u, hx, hu => by
    simp only [AV.onL, List.getElem?_cons_zero, Option.some.injEq] at hx
    subst hx
    exact VR.on2 hg y (k 0 _ u (by simp only [AV.onL, List.getElem?_cons_zero]) hu)
  | y :: xs, us, k, i + 1, x, u, hx, hu => by
    simp only [AV.onL, List.getElem?_cons_succ] at hx
    cases us with
    | nil => simp at hu
    | cons u0 us =>
      exact VR.on2L hg xs (us := us) (fun j z q hz hq => k (j + 1) z q (by simpa only [AV.onL, List.getElem?_cons_succ] using hz) (by simpa using hq)) i x u hx (by simpa using hu)
end

def AV.top : AV → Option Id
  | .own i => some i
  | .vw i _ _ => some i
  | .ptr i _ => some i
  | .ept i _ _ => some i
  | _ => none

structure Agr (st st' : St) (x : Operand) : Prop where
  v : evalO st' x = evalO st x
  h : ∀ i o, (evalO st x).top = some i → st.h i = some o → st'.h i = some o

section
variable {P : Program} {st st' : St} {d : Nat} {so : SOp} {r : Prop × AV × Option Ob}

theorem readAt_ext {x : AV} {r : List AV} (hh : ∀ i o, x.top = some i → st.h i = some o → st'.h i = some o) (h : readAt st x = some r) : readAt st' x = some r := by
  unfold readAt at h ⊢
  cases x <;> simp only [reduceCtorEq] at h ⊢
  case ptr i o =>
    cases hi : st.h i with
    | none => rw [hi] at h; cases h
    | some ob => rw [hi] at h; rw [hh i ob rfl hi]; exact h
  case ept i n o =>
    cases hi : st.h i with
    | none => rw [hi] at h; cases h
    | some ob => rw [hi] at h; rw [hh i ob rfl hi]; exact h
  case ip b xs => exact h
  case rp i xs => exact h

theorem optI_ext {x : Option Operand} (h : ∀ y, x = some y → evalO st' y = evalO st y) : optI st' x = optI st x := by
  cases x with
  | none => rfl
  | some y => simp only [optI, h y rfl]

theorem bldGo_ext : ∀ {ps : List (Nat × Nat × Operand)} {cs : List AV}, (∀ x, x ∈ ps.map (·.2.2) → evalO st' x = evalO st x) → bldGo st' cs ps = bldGo st cs ps
  | [], _, _ => rfl
  | (o, n, x) :: ps, cs, h => by
    simp only [bldGo, h x (by simp)]
    cases (evalO st x).cells with
    | none => rfl
    | some xs => simp only [bldGo_ext (ps := ps) (fun y hy => h y (by simp at hy ⊢; exact .inr hy))]

theorem rowsOf_ext {sz : Nat} : ∀ {ps : List Operand}, (∀ x, x ∈ ps → evalO st' x = evalO st x) → rowsOf st' sz ps = rowsOf st sz ps
  | [], _ => rfl
  | x :: ps, h => by simp only [rowsOf, h x (by simp), rowsOf_ext (ps := ps) (fun y hy => h y (by simp [hy]))]

theorem qf_ext (ha : ∀ x, x ∈ so.opds → Agr st st' x) (h : qf st d so = some r) : qf st' d so = some r := by
  cases so
  case bld z ps => simp only [qf] at h ⊢; rw [bldGo_ext (fun x hx => (ha x hx).v)]; exact h
  case bsl e sz len ps => simp only [qf] at h ⊢; rw [rowsOf_ext (sz := sz) (ps := ps) (fun x hx => (ha x hx).v)]; exact h
  case mkf f ps =>
    simp only [qf, Option.some.injEq] at h ⊢
    rw [← h]
    have : ps.map (evalO st') = ps.map (evalO st) := List.map_congr_left fun x hx => (ha x hx).v
    rw [this]
  case sls x lo hi =>
    simp only [qf] at h ⊢
    rw [(ha x (by simp [SOp.opds])).v, optI_ext (x := lo) (fun y hy => (ha y (by simp [SOp.opds, hy])).v), optI_ext (x := hi) (fun y hy => (ha y (by simp [SOp.opds, hy])).v)]
    exact h
  case slc x lo hi sz =>
    have hx := ha x (by simp [SOp.opds])
    simp only [qf] at h ⊢
    rw [hx.v, optI_ext (x := lo) (fun y hy => (ha y (by simp [SOp.opds, hy])).v), optI_ext (x := hi) (fun y hy => (ha y (by simp [SOp.opds, hy])).v)]
    have hxh := hx.h
    generalize evalO st x = y at h hxh ⊢
    generalize optI st lo = l at h ⊢
    generalize optI st hi = u at h ⊢
    cases l <;> cases u <;> cases y <;> first
      | exact h
      | cases h
      | (rename_i q; cases q <;> first | exact h | cases h)
      | (rename_i i
         dsimp only at h ⊢
         cases hq : st.h i with
         | none => (rw [hq] at h; cases h)
         | some o => (rw [hxh i o rfl hq]; rw [hq] at h; exact h))
  case iad x i sz =>
    have hx := ha x (by simp [SOp.opds])
    have hi := ha i (by simp [SOp.opds])
    simp only [qf] at h ⊢
    rw [hx.v, hi.v]
    have hxh := hx.h
    generalize evalO st x = y at h hxh ⊢
    generalize evalO st i = z at h ⊢
    cases y
    case own id =>
      cases z
      case c b q =>
        cases q
        case v q =>
          cases q
          case int k n => (dsimp only at h ⊢; cases hq : st.h id with
        | none => (rw [hq] at h; cases h)
        | some o => (rw [hxh id o rfl hq]; rw [hq] at h; exact h))
          all_goals exact h
        all_goals exact h
      all_goals exact h
    all_goals first | exact h | (rename_i q; cases q <;> first | exact h | (cases z <;> first | exact h | (rename_i u; cases u <;> first | exact h | (rename_i u2; cases u2 <;> exact h))))
  case load1 x =>
    have hx := ha x (by simp [SOp.opds])
    simp only [qf] at h ⊢
    rw [hx.v]
    cases hr : readAt st (evalO st x) with
    | none => rw [hr] at h; cases h
    | some q => rw [hr] at h; rw [readAt_ext hx.h hr]; exact h
  case loadn n x =>
    have hx := ha x (by simp [SOp.opds])
    simp only [qf] at h ⊢
    rw [hx.v]
    cases hr : readAt st (evalO st x) with
    | none => rw [hr] at h; cases h
    | some q => rw [hr] at h; rw [readAt_ext hx.h hr]; exact h
  case len x =>
    have hx := ha x (by simp [SOp.opds])
    simp only [qf] at h ⊢
    rw [hx.v]
    have hxh := hx.h
    generalize evalO st x = y at h hxh ⊢
    cases y
    case own i => (try dsimp only at h ⊢); (cases hq : st.h i with
        | none => (rw [hq] at h; cases h)
        | some o => (rw [hxh i o rfl hq]; rw [hq] at h; exact h))
    case vw i lo n => (try dsimp only at h ⊢); (cases hq : st.h i with
        | none => (rw [hq] at h; cases h)
        | some o => (rw [hxh i o rfl hq]; rw [hq] at h; exact h))
    all_goals first | exact h | (rename_i q; cases q <;> exact h)
  case cvbs x =>
    have hx := ha x (by simp [SOp.opds])
    simp only [qf] at h ⊢
    rw [hx.v]
    have hxh := hx.h
    generalize evalO st x = y at h hxh ⊢
    cases y
    case own i => (try dsimp only at h ⊢); (cases hq : st.h i with
        | none => (rw [hq] at h; cases h)
        | some o => (rw [hxh i o rfl hq]; rw [hq] at h; exact h))
    all_goals first | exact h | (rename_i q; cases q <;> exact h)
  case zbox => exact h
  case cvsb e x => simp only [qf] at h ⊢; rw [(ha x (by simp [SOp.opds])).v]; exact h
  case call => exact h
  case callv => exact h
  case callm => exact h
  case store => exact h
  case app => exact h
  case pick c a b => simp only [qf] at h ⊢; rw [(ha c (by simp [SOp.opds])).v, (ha a (by simp [SOp.opds])).v, (ha b (by simp [SOp.opds])).v]; exact h
  case iada x y _ _ => simp only [qf] at h ⊢; rw [(ha x (by simp [SOp.opds])).v, (ha y (by simp [SOp.opds])).v]; exact h
  case sidx x y => simp only [qf] at h ⊢; rw [(ha x (by simp [SOp.opds])).v, (ha y (by simp [SOp.opds])).v]; exact h
  case aidx x y _ => simp only [qf] at h ⊢; rw [(ha x (by simp [SOp.opds])).v, (ha y (by simp [SOp.opds])).v]; exact h
  case bin _ _ x y => simp only [qf] at h ⊢; rw [(ha x (by simp [SOp.opds])).v, (ha y (by simp [SOp.opds])).v]; exact h
  case eqa _ _ x y => simp only [qf] at h ⊢; rw [(ha x (by simp [SOp.opds])).v, (ha y (by simp [SOp.opds])).v]; exact h
  case mx x y => simp only [qf] at h ⊢; rw [(ha x (by simp [SOp.opds])).v, (ha y (by simp [SOp.opds])).v]; exact h
  case mn x y => simp only [qf] at h ⊢; rw [(ha x (by simp [SOp.opds])).v, (ha y (by simp [SOp.opds])).v]; exact h
  case mks _ _ _ _ x => simp only [qf] at h ⊢; rw [(ha x (by simp [SOp.opds])).v]; exact h
  case mv x => simp only [qf] at h ⊢; rw [(ha x (by simp [SOp.opds])).v]; exact h
  case box x => simp only [qf] at h ⊢; rw [(ha x (by simp [SOp.opds])).v]; exact h
  case fad x _ => simp only [qf] at h ⊢; rw [(ha x (by simp [SOp.opds])).v]; exact h
  case fld1 x _ => simp only [qf] at h ⊢; rw [(ha x (by simp [SOp.opds])).v]; exact h
  case fldn x _ _ => simp only [qf] at h ⊢; rw [(ha x (by simp [SOp.opds])).v]; exact h
  case un _ x => simp only [qf] at h ⊢; rw [(ha x (by simp [SOp.opds])).v]; exact h
  case cvi _ x => simp only [qf] at h ⊢; rw [(ha x (by simp [SOp.opds])).v]; exact h
  case cvss x => simp only [qf] at h ⊢; rw [(ha x (by simp [SOp.opds])).v]; exact h
  case ext x _ => simp only [qf] at h ⊢; rw [(ha x (by simp [SOp.opds])).v]; exact h
  case lens x => simp only [qf] at h ⊢; rw [(ha x (by simp [SOp.opds])).v]; exact h
  case nilc x => simp only [qf] at h ⊢; rw [(ha x (by simp [SOp.opds])).v]; exact h
end
end Go.Proofs.YtoemclhjcbcjaaaGreat.AB
