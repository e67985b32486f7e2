/- Further moves of the state: what is one's own is written in place or grows; names are changed, and what nobody names any more stays as it is. -/
import Derived.Test.YtoemclhjcbcjaaaGreatAbB
namespace Go.Proofs.YtoemclhjcbcjaaaGreat.AB
open Go

mutual
/-- turned at its leaves -/
def AV.on (g : AV → AV) : AV → AV
  | .agg xs => .agg (AV.onL g xs)
  | .tup xs => .tup (AV.onL g xs)
  | .fn f xs => .fn f (AV.onL g xs)
  | x => g x
def AV.onL (g : AV → AV) : List AV → List AV
  | [] => []
  | x :: xs => AV.on g x :: AV.onL g xs
end

theorem AV.onL_map (g : AV → AV) (xs : List AV) : AV.onL g xs = xs.map (AV.on g) := by
  induction xs with
  | nil => rfl
  | cons x xs ih => simp [AV.onL, ih]

def AV.leaf : AV → Bool
  | .agg _ | .tup _ | .fn _ _ => false
  | _ => true

theorem VR.on {S B S' B' : Nat → Prop} {ν ν' : Id → Value} {h h' : Hp} {w w' : World} {g : AV → AV}
    (hg : ∀ x v, x.leaf = true → VR S B ν h w x v → VR S' B' ν' h' w' (g x) v) {x : AV} {v : Value} (k : VR S B ν h w x v) : VR S' B' ν' h' w' (x.on g) v := by
  induction k with
  | c k => simpa only [AV.on] using hg _ _ rfl (.c k)
  | agg hl k h1 ih =>
    simp only [AV.on, AV.onL_map]
    refine .agg (by simpa using hl) (fun i x u hx hu => ?_) h1
    rw [List.getElem?_map] at hx
    obtain ⟨y, hy, rfl⟩ := Option.map_eq_some_iff.1 hx
    exact ih i y u hy hu
  | tup hl k ih =>
    simp only [AV.on, AV.onL_map]
    refine .tup (by simpa using hl) (fun i x u hx hu => ?_)
    rw [List.getElem?_map] at hx
    obtain ⟨y, hy, rfl⟩ := Option.map_eq_some_iff.1 hx
    exact ih i y u hy hu
  | own k => simpa only [AV.on] using hg _ _ rfl (.own k)
  | vw k hle hv => simpa only [AV.on] using hg _ _ rfl (.vw k hle hv)
  | nil => simpa only [AV.on] using hg _ _ rfl .nil
  | ptr k hv => simpa only [AV.on] using hg _ _ rfl (.ptr k hv)
  | ept k hv hn => simpa only [AV.on] using hg _ _ rfl (.ept k hv hn)
  | ip u hs hb hu hi => simpa only [AV.on] using hg _ _ rfl (.ip u hs hb hu hi)
  | fn hl k ih =>
    simp only [AV.on, AV.onL_map]
    refine .fn (by simpa using hl) (fun i x u hx hu => ?_)
    rw [List.getElem?_map] at hx
    obtain ⟨y, hy, rfl⟩ := Option.map_eq_some_iff.1 hx
    exact ih i y u hy hu
  | rx k q => simpa only [AV.on] using hg _ _ rfl (.rx k q)
  | rg k q => simpa only [AV.on] using hg _ _ rfl (.rg k q)
  | rp k hs hb q => simpa only [AV.on] using hg _ _ rfl (.rp k hs hb q)
  | dead => simpa only [AV.on] using hg _ _ rfl .dead

def Ob.on (g : AV → AV) : Ob → Ob
  | .box cs => .box (AV.onL g cs)
  | .row b e sz xs => .row b e sz xs
  | .reg => .reg

/-- what a row of one's own reads as -/
theorem HOK.im {S B : Nat → Prop} {ν : Id → Value} {h : Hp} {w : World} (k : HOK S B ν h w) {i : Id} {bor : Bool} {e sz : Nat} {xs : List (List C)} (hi : h i = some (.row bor e sz xs)) :
    Im (fun b => rd S B bor b ∨ fb (ν i) b) w (ν i) (.sl xs) := by
  obtain ⟨h0, hl, us, hown, hc⟩ := k.row i bor e sz xs hi
  rcases hown.2 with ⟨hv, hn⟩ | ⟨g, cap, cur, hv, _, ⟨fz, hg, _⟩, hnc, hcm, _, _⟩
  · rw [hv]
    obtain rfl : xs = [] := List.eq_nil_of_length_eq_zero hn
    exact .nil
  · have hcell : ∀ j u, us[j]? = some u → w.cell? ((⟨g, 0, none⟩ : Addr).add j) = some u := hown.cells (by rw [hv]; rfl)
    rw [hv] at *
    refine .sl (sz := sz) (fun j => us.getD j undef) (fun _ => rfl) (fun _ => .inr rfl) rfl hnc hcm hl (fun n r o c hr ho => ?_) (fun n r o c hr ho => ?_)
    · obtain ⟨u, hu, _, _⟩ := hc n r o c hr ho
      simp only [List.getD_eq_getElem?_getD, hu, Option.getD_some]
      exact hcell _ _ hu
    · obtain ⟨u, hu, _, hi⟩ := hc n r o c hr ho
      simp only [List.getD_eq_getElem?_getD, hu, Option.getD_some]
      exact hi.mono (fun b hb => .inl hb) (fun _ _ => rfl)

/-- a part of what reads so reads as that part -/
theorem Im.part {S : Nat → Prop} {w : World} {a : Addr} {n cap : Nat} {xs : List (List C)} (h : Im S w (.slice (some a) n cap) (.sl xs)) (sz lo m : Nat) (hz : ∀ r, r ∈ xs → r.length = sz) (hne : xs ≠ [] ∨ lo = 0)
    (hm : lo + m ≤ xs.length) (c' : Nat) (hc' : m ≤ c') (hcm : c' ≤ maxLen) : Im S w (.slice (some (a.add (lo * sz))) m c') (.sl ((xs.drop lo).take m)) := by
  cases h with
  | sl u hs hS hn hc hmx hz' hu hi =>
    rename_i sz'
    have hsz : sz' = sz ∨ xs = [] := by
      cases xs with
      | nil => exact .inr rfl
      | cons r xs => exact .inl ((hz' r (by simp)).symm.trans (hz r (by simp)))
    have hadd : ∀ j, (a.add (lo * sz)).add j = a.add (lo * sz + j) := by
      intro j
      unfold Addr.add
      by_cases h1 : lo * sz = 0
      · by_cases h2 : j = 0 <;> simp [h1, h2]
      · by_cases h2 : j = 0
        · simp [h1, h2]
        · rw [if_neg h2, if_neg h1, if_neg (by omega)]; simp [Nat.add_assoc]
    refine .sl (sz := sz) (fun j => u (lo * sz + j)) (fun q => by
        have := hs (fun e => q (by rw [e]; simp))
        unfold Addr.add; split <;> first | exact this | rfl) (fun q => by rw [add_block]; exact hS (fun e => q (by rw [e]; simp))) (by simp; omega) hc' hcm
      (fun r hr => hz r (List.mem_of_mem_drop (List.mem_of_mem_take hr))) (fun i r j c hr hj => ?_) (fun i r j c hr hj => ?_)
    · rw [List.getElem?_take] at hr
      split at hr
      · rw [List.getElem?_drop] at hr
        rcases hsz with rfl | rfl
        · rw [hadd, show lo * sz' + (i * sz' + j) = (lo + i) * sz' + j by rw [Nat.add_mul]; omega]
          exact hu _ _ _ _ hr hj
        · simp at hr
      · cases hr
    · rw [List.getElem?_take] at hr
      split at hr
      · rw [List.getElem?_drop] at hr
        rcases hsz with rfl | rfl
        · rw [show lo * sz' + (i * sz' + j) = (lo + i) * sz' + j by rw [Nat.add_mul]; omega]
          exact hi _ _ _ _ hr hj
        · simp at hr
      · cases hr

/-- what a view reads as -/
theorem HOK.vw {S B : Nat → Prop} {ν : Id → Value} {h : Hp} {w : World} (k : HOK S B ν h w) {i : Id} {lo n : Nat} {v : Value} (hv : VR S B ν h w (.vw i lo n) v) {bor : Bool} {e sz : Nat} {xs : List (List C)} (hi : h i = some (.row bor e sz xs)) :
    Im (fun b => rd S B bor b ∨ fb (ν i) b) w v (.sl ((xs.drop lo).take n)) ∧ lo + n ≤ xs.length := by
  cases hv with
  | vw k' hle hv =>
    rw [hi] at k'
    obtain ⟨rfl, rfl, rfl, rfl⟩ := Ob.row.inj (Option.some.inj k')
    refine ⟨?_, hle⟩
    rcases hv with hv | ⟨g, m, cap, c', hν, rfl, h1, h2⟩
    · exact hv.mono (fun b hb => .inl hb) (fun _ _ => rfl)
    · obtain ⟨_, hl, _⟩ := k.row _ _ _ _ _ hi
      have := k.im hi
      rw [hν] at this ⊢
      by_cases hxs : xs = []
      · subst hxs
        have e1 : n = 0 := by simp at hle; omega
        subst e1
        exact .sl (sz := 0) (fun _ => undef) (by unfold Addr.add; split <;> simp_all) (fun q => absurd (by simp) q) (by simp) h1 h2 (by simp) (by simp) (by simp)
      · exact this.part sz lo n hl (.inl hxs) hle c' h1 h2

section
variable {Γ : Gm} {S : Nat → Prop} {ν : Id → Value} {st : St} {a : Act} {w : World}

/-- one of one's own is turned in place, or moves; what else there is stays -/
theorem RepW.turn (k : RepW Γ S ν st a w) {i0 : Id} {o' : Ob} {g : AV → AV} {S' : Nat → Prop} {ν' : Id → Value} {w' : World} {h' : Hp}
    (hlive : (st.h i0).isSome = true) (hf : Fr (fun b => fb (ν i0) b) w w')
    (hh : ∀ j, j ≠ i0 → h' j = (st.h j).map (Ob.on g)) (hi0 : h' i0 = some o') (hν : ∀ j, j ≠ i0 → ν' j = ν j) (hν0 : (∀ q, i0 ≠ .a q) ∨ ν' i0 = ν i0)
    (hS : ∀ b, S b → S' b) (hS' : ∀ b, S' b → S b ∨ w.heap.size ≤ b ∨ (fb (ν i0) b ∧ ¬ fb (ν' i0) b)) (hlt : ∀ b, S' b → b < w'.heap.size) (hum : ∀ b, S' b → S b ∨ unmk w' b)
    (hb0 : ∀ b, fb (ν' i0) b → (fb (ν i0) b ∨ w.heap.size ≤ b) ∧ ¬ S' b)
    (hg : ∀ x v, x.leaf = true → VR S Γ.B ν st.h w x v → VR S' Γ.B ν' h' w' (g x) v)
    (hbox : ∀ cs, o' = .box cs → ∃ b us T, ν' i0 = .pointer (some ⟨b, 0, none⟩) ∧ w'.heap[b]? = some (.cells us T (0, 0)) ∧ us.size = cs.length ∧
      (∀ (j : Nat) (x : AV) (u : Value), cs[j]? = some x → us[j]? = some u → VR S' Γ.B ν' h' w' x u ∧ u.oneCell' = true))
    (hrow : ∀ bor e sz xs, o' = .row bor e sz xs → 0 < sz ∧ (∀ r, r ∈ xs → r.length = sz) ∧ ∃ us, World.ownsM w' 0 e sz (ν' i0) xs.length us ∧
      (∀ (n : Nat) (r : List C) (o : Nat) (c : C), xs[n]? = some r → r[o]? = some c → ∃ u, us[n * sz + o]? = some u ∧ u.oneCell' = true ∧ Im (rd S' Γ.B bor) w' u c))
    (hreg : o' = .reg → (∀ b, fb (ν' i0) b → unmk w' b) ∧ st.h i0 = some .reg ∧ ν' i0 = ν i0 ∧ KP (fb (ν i0)) w w') :
    RepW Γ S' ν' ⟨fun d => (st.t d).on g, h'⟩ a w' := by
  have hsep : ∀ j b, j ≠ i0 → (st.h j).isSome = true → fb (ν j) b → w'.heap[b]? = w.heap[b]? := fun j b hj hs hb =>
    hf.keep b (k.ok.blk_lt hs hb) (fun q => k.ok.sep j i0 b hj hs hlive hb q)
  have hout : ∀ b, S b ∨ Γ.B b → w'.heap[b]? = w.heap[b]? := fun b hb => hf.keep b (k.ok.lt b hb) (fun q => by
    have := k.ok.out i0 b hlive q
    exact hb.elim this.1 this.2)
  have hrdw : ∀ bor b, rd S Γ.B bor b → w'.heap[b]? = w.heap[b]? := fun bor b hb => hout b (hb.imp id (fun q => q.2))
  have hrds : ∀ bor b, rd S Γ.B bor b → rd S' Γ.B bor b := fun bor b hb => hb.imp (hS b) id
  have hold : ∀ j, j ≠ i0 → (h' j).isSome = true → (st.h j).isSome = true := fun j hj q => by rw [hh j hj] at q; simpa using q
  refine ⟨k.defers, k.size, fun b hb => hS b (k.s0 b hb), fun b hb => ?_, k.fr.trans hf (fun b q => k.mine i0 b hlive q), ⟨?_, ?_, ?_, ?_, ?_, ?_⟩, ?_, ?_, fun b hb => ?_, fun q hi => ?_, k.lay.mono (fun b hb => hb.imp (hS b) id) hout, fun d => (k.t d).on hg⟩
  · rcases hS' b hb with q | q | q
    · exact k.s1 b q
    · exact .inr (.inl (Nat.le_trans k.fr.size q))
    · exact .inr (k.mine i0 b hlive q.1)
  · intro j cs hj
    by_cases e : j = i0
    · subst e
      exact hbox cs (Option.some.inj (hi0.symm.trans hj))
    · have hj' := (hh j e).symm.trans hj
      obtain ⟨o, ho, hoo⟩ := Option.map_eq_some_iff.1 hj'
      cases o with
      | row => cases hoo
      | reg => cases hoo
      | box cs0 =>
        simp only [Ob.on, Ob.box.injEq] at hoo
        subst hoo
        obtain ⟨b, us, T, hv, hw, hsz, hc⟩ := k.ok.box j cs0 ho
        have hs : (st.h j).isSome = true := by rw [ho]; rfl
        refine ⟨b, us, T, (hν j e).trans hv, (hsep j b e hs (by rw [hv]; rfl)).trans hw, by rw [hsz, AV.onL_map, List.length_map], fun n x u hx hu => ?_⟩
        rw [AV.onL_map, List.getElem?_map] at hx
        obtain ⟨y, hy, rfl⟩ := Option.map_eq_some_iff.1 hx
        exact ⟨(hc n y u hy hu).1.on hg, (hc n y u hy hu).2⟩
  · intro j bor e sz xs hj
    by_cases ej : j = i0
    · subst ej
      exact hrow bor e sz xs (Option.some.inj (hi0.symm.trans hj))
    · have hj' := (hh j ej).symm.trans hj
      obtain ⟨o, ho, hoo⟩ := Option.map_eq_some_iff.1 hj'
      cases o with
      | box => cases hoo
      | reg => cases hoo
      | row bor' e' sz' xs' =>
        simp only [Ob.on, Ob.row.injEq] at hoo
        obtain ⟨rfl, rfl, rfl, rfl⟩ := hoo
        obtain ⟨h0, hl, us, hown, hc⟩ := k.ok.row j _ _ _ _ ho
        have hs : (st.h j).isSome = true := by rw [ho]; rfl
        refine ⟨h0, hl, us, ⟨hown.1, ?_⟩, fun n r o c hr hcc => ?_⟩
        · rw [hν j ej]
          rcases hown.2 with hn | ⟨gb, cap, cur, hv, hz, ⟨fz, hgb, hfz⟩, rest⟩
          · exact .inl hn
          · exact .inr ⟨gb, cap, cur, hv, hz, ⟨fz, (hsep j gb ej hs (by rw [hv]; rfl)).trans hgb, hfz⟩, rest⟩
        · obtain ⟨u, hu, h1, hi⟩ := hc n r o c hr hcc
          exact ⟨u, hu, h1, hi.mono (hrds _) (hrdw _)⟩
  · intro j hj
    have hj : h' j = some .reg := hj
    by_cases ej : j = i0
    · subst ej
      obtain ⟨h1, h2, h3, _⟩ := hreg (Option.some.inj (hi0.symm.trans hj))
      exact ⟨by rw [h3]; exact (k.ok.reg j h2).1, h1⟩
    · have hs := hold j ej (by rw [hj]; rfl)
      have h1 := hh j ej
      rw [hj] at h1
      obtain ⟨o, ho, hoo⟩ := Option.map_eq_some_iff.1 h1.symm
      cases o with
      | box => cases hoo
      | row => cases hoo
      | reg =>
        rw [hν j ej]
        exact ⟨(k.ok.reg j ho).1, fun b hb => (k.ok.um hs hb).same (hsep j b ej hs hb)⟩
  · intro i j b hij hi hj hb hb'
    by_cases ei : i = i0
    · subst ei
      have ej : j ≠ i := fun q => hij q.symm
      rw [hν j ej] at hb'
      have hsj := hold j ej hj
      rcases (hb0 b hb).1 with q | q
      · exact k.ok.sep i j b hij hlive hsj q hb'
      · have := k.ok.blk_lt hsj hb'; omega
    · rw [hν i ei] at hb
      have hsi := hold i ei hi
      by_cases ej : j = i0
      · subst ej
        rcases (hb0 b hb').1 with q | q
        · exact k.ok.sep i j b hij hsi hlive hb q
        · have := k.ok.blk_lt hsi hb; omega
      · rw [hν j ej] at hb'
        exact k.ok.sep i j b hij hsi (hold j ej hj) hb hb'
  · intro i b hi hb
    by_cases ei : i = i0
    · subst ei
      refine ⟨(hb0 b hb).2, fun q => ?_⟩
      rcases (hb0 b hb).1 with r | r
      · exact (k.ok.out i b hlive r).2 q
      · have := k.ok.lt b (.inr q); omega
    · rw [hν i ei] at hb
      have hsi := hold i ei hi
      have ho := k.ok.out i b hsi hb
      refine ⟨fun q => ?_, ho.2⟩
      rcases hS' b q with r | r | r
      · exact ho.1 r
      · have := k.ok.blk_lt hsi hb; omega
      · exact k.ok.sep i i0 b ei hsi hlive hb r.1
  · exact fun b hb => hb.elim (hlt b) (fun q => Nat.lt_of_lt_of_le (k.ok.lt b (.inr q)) hf.size)
  · intro i b hi hb
    by_cases ei : i = i0
    · subst ei
      rcases (hb0 b hb).1 with r | r
      · exact k.mine i b hlive r
      · exact .inl (Nat.le_trans k.fr.size r)
    · rw [hν i ei] at hb
      exact k.mine i b (hold i ei hi) hb
  · intro q hi
    by_cases ei : Id.a q = i0
    · subst ei
      rcases hν0 with r | r
      · exact absurd rfl (r q)
      · rw [r]; exact k.came q hlive
    · rw [hν _ ei]; exact k.came q (hold _ ei hi)
  · rcases hum b hb with h | h
    · exact (k.um b h).imp id (fun q => q.same (hout b (.inl h)))
    · exact .inr h
  · have hi : h' (.a q) = some .reg := hi
    by_cases ei : Id.a q = i0
    · have h1 : o' = .reg := by rw [ei] at hi; exact Option.some.inj (hi0.symm.trans hi)
      obtain ⟨_, h2, _, h4⟩ := hreg h1
      rw [← ei] at h2 h4
      have h5 := k.came q (by rw [h2]; rfl)
      rw [h5] at h4
      exact (k.kp q h2).trans h4
    · have h1 := hh _ ei
      rw [hi] at h1
      obtain ⟨o, ho, hoo⟩ := Option.map_eq_some_iff.1 h1.symm
      cases o with
      | box => cases hoo
      | row => cases hoo
      | reg =>
        have hs : (st.h (.a q)).isSome = true := by rw [ho]; rfl
        refine (k.kp q ho).trans (.same fun b hb => hsep _ b ei hs ?_)
        rw [k.came q hs]; exact hb
end
end Go.Proofs.YtoemclhjcbcjaaaGreat.AB
