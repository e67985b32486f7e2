/- Append. -/
import Derived.Test.YtoemclhjcbcjaaaGreatAbL
namespace Go.Proofs.YtoemclhjcbcjaaaGreat.AB
open Go
set_option linter.unusedVariables false
set_option linter.unusedSimpArgs false

section
variable {P : Program} {Γ : Gm} {S : Nat → Prop} {ν : Id → Value} {st : St} {a : Act} {w : World} {o : Oper} {T : Tab} {so : SOp} {p : Prop}

/-- an append of one slice's cells to a row of one's own: where the result lies -/
theorem run_app (t ty e : TypeId) (i : TypeInfo) (z : Value) (size bytes : Nat) (ht : P.underlying t = some (.slice e)) (hi : P.info? e = some i) (hz : i.zero = some z)
    (hsize : i.size = size) (hby : i.bytes = bytes) (hzs : z.cells.size = size) (hsz : 0 < size) (v : Value) (n : Nat) (xs : List Value) (hown : World.ownsM w 0 e size v n xs)
    (ad : Addr) (m c : Nat) (news : List Value) (hl : news.length = m * size) (hnews : ∀ j u, news[j]? = some u → w.cell? (ad.add j) = some u) (h1 : ∀ u ∈ news, u.oneCell' = true)
    (h63 : n + m ≤ maxLen) (hbytes : (n + m) * bytes ≤ 140737488355328) :
    ∃ v' w', (Builtin.append_ #[t, t] ty #[v, .slice (some ad) m c]).run P w = .ok v' w' ∧ World.ownsM w' 0 e size v' (n + m) (xs ++ news) ∧ w.grownBy w' v.ownBlock ∧
      ((∃ g c c', v = .slice (some ⟨g, 0, none⟩) n c ∧ v' = .slice (some ⟨g, 0, none⟩) (n + m) c' ∧ n ≤ c) ∨ ((∀ k, k < w.heap.size → w'.heap[k]? = w.heap[k]?) ∧ ∀ b, blk v' = some b → w.heap.size ≤ b)) := by
  rcases hown.2 with ⟨rfl, rfl⟩ | ⟨g, cap, cur, rfl, hbg, ⟨fz, hgg, hfz⟩, hnc, hcm, hcs, htake⟩
  · obtain ⟨v', w', hr, ho, hg, hnil⟩ := run_append_own (P := P) w 0 t ty e i z size bytes ht hi hz hsize hby hzs hsz (.slice none 0 0) 0 xs ⟨hown.1, .inl ⟨rfl, rfl⟩⟩ ad m c news hl hnews h1 h63 hbytes (Nat.zero_le _)
    refine ⟨v', w', hr, .of ho, hg, ?_⟩
    subst hsize
    subst hby
    have hsmall : 0 + m ≤ 9223372036854775807 := by simp only [maxLen] at h63; omega
    have hx : xs = [] := List.eq_nil_of_length_eq_zero (by simpa using hown.1)
    subst hx
    by_cases hm : m = 0
    · refine .inr ⟨fun q hq => hg.block q hq (by simp [Value.ownBlock]), fun b hb => ?_⟩
      rw [(hnil.2 ⟨rfl, hm⟩)] at hb; cases hb
    · have hr2 := run_append_nil (P := P) w t ty e i z ht hi hz ad m c news hl hnews (by omega) (by omega) (by have hb := hbytes; simp only [Nat.zero_add] at hb; omega)
      rw [hr] at hr2
      injection hr2 with h2 h3
      refine .inr ⟨fun q hq => by rw [h3]; exact heap_alloc_old w.drew _ q hq, fun b hb => ?_⟩
      rw [h2] at hb
      simp only [blk, Option.some.injEq] at hb
      omega
  · subst hsize
    subst hby
    have hsmall : n + m ≤ 9223372036854775807 := by simp only [maxLen] at h63; omega
    have hlen : (xs ++ news).length = (n + m) * i.size := by rw [List.length_append, hown.1, hl, Nat.add_mul]
    by_cases hroom : n + m ≤ cap
    · have hfit : n * i.size + news.length ≤ cur.size := by rw [hl, ← Nat.add_mul]; exact Nat.le_trans (Nat.mul_le_mul_right _ hroom) hcs
      have hr := run_append_roomM (P := P) w t ty e i ht hi g n cap cur fz hgg hfz ad m c news hl hnews h1 hroom hfit
      refine ⟨_, _, hr, ⟨hlen, .inr ⟨g, cap, _, rfl, hbg, ⟨fz, setRow_heap w g cur _ e _ hgg, hfz.imp (fun q => q) (fun q => ?_)⟩, hroom, hcm, ?_, ?_⟩⟩, ⟨rfl, rfl, rfl, by simp, fun k _ hk => setRow_other w g k _ (fun e => hk (by simp [Value.ownBlock, e]))⟩, .inl ⟨g, cap, cap, rfl, rfl, hnc⟩⟩
      · simp only [List.size_toArray, List.length_append, List.length_take, List.length_drop, Array.length_toList]
        omega
      · simp only [List.size_toArray, List.length_append, List.length_take, List.length_drop, Array.length_toList]
        omega
      · rw [htake, ← hlen]
        exact List.take_left
    · have holds : ∀ j u, xs[j]? = some u → w.cell? ((⟨g, 0, none⟩ : Addr).add j) = some u := hown.cells (g := g) rfl
      have hr := run_append_grow (P := P) w t ty e i z ht hi hz ⟨g, 0, none⟩ n cap xs hown.1 holds ad m c news hl hnews (by omega) (by omega) (growslice_fits (by omega) hbytes)
      have hge := grownCap_ge w (n + m) cap e
      have hcm2 : grownCap w (n + m) cap e ≤ maxLen := grownCap_le_maxLen w (n + m) cap e h63
      refine ⟨_, _, hr, ⟨hlen, .inr ⟨w.heap.size, _, _, rfl, Nat.zero_le _, ⟨(0, 0), heap_alloc_new w.drew _, .inl rfl⟩, hge, hcm2, ?_, ?_⟩⟩, ⟨rfl, rfl, rfl, by simp, fun k hk _ => heap_alloc_old w.drew _ k hk⟩, .inr ⟨fun q hq => heap_alloc_old w.drew _ q hq, fun b hb => ?_⟩⟩
      · simp only [Array.size_append, List.size_toArray, size_zeroCells, hzs, hown.1, hl, ← Nat.add_mul]
        refine Nat.le_of_eq ?_
        congr 1
        omega
      · simp only [Array.toList_append, List.append_assoc]
        rw [← List.append_assoc, ← hlen]
        exact List.take_left
      · simp only [blk, Option.some.injEq] at hb
        omega

theorem run_app_none (t ty e : TypeId) (i : TypeInfo) (size : Nat) (ht : P.underlying t = some (.slice e)) (hi : P.info? e = some i)
    (v : Value) (n : Nat) (xs : List Value) (hown : World.ownsM w 0 e size v n xs) : (Builtin.append_ #[t, t] ty #[v, .slice none 0 0]).run P w = .ok v w := by
  rcases hown.2 with ⟨rfl, rfl⟩ | ⟨g, cap, cur, rfl, _, _, hnc, _⟩
  · simp [Builtin.append_, run_underlying ht, sizeOf, typeInfo, hi, Builtin.lenOf, Builtin.firstCells]
  · simp [Builtin.append_, run_underlying ht, sizeOf, typeInfo, hi, Builtin.lenOf, Builtin.firstCells, hnc, storeCells]

/-- the source of an append: its cells -/
inductive Src (S : Nat → Prop) (Γ : Gm) (w : World) (b : Bool) (sz : Nat) (ys : List (List C)) : Value → Prop
  | none (h : ys = []) : Src S Γ w b sz ys (.slice none 0 0)
  | some (ad : Addr) (c : Nat) (us : List Value) (hl : us.length = ys.length * sz) (hc : ∀ j u, us[j]? = some u → w.cell? (ad.add j) = some u) (h1 : ∀ u ∈ us, u.oneCell' = true)
      (hv : ∀ (n : Nat) (r : List C) (o : Nat) (c : C), ys[n]? = some r → r[o]? = some c → ∃ u, us[n * sz + o]? = some u ∧ Im (rd S Γ.B b) w u c) : Src S Γ w b sz ys (.slice (some ad) ys.length c)

theorem flat_len {sz : Nat} : ∀ {ys : List (List C)}, (∀ r, r ∈ ys → r.length = sz) → (ys.flatMap id).length = ys.length * sz
  | [], _ => by simp
  | r :: ys, h => by
    rw [List.flatMap_cons, List.length_append, flat_len (fun r hr => h r (by simp [hr])), id, h r (by simp), List.length_cons, Nat.add_mul]; omega

theorem src_im {S' : Nat → Prop} {v : Value} {sz : Nat} {b : Bool} {ys : List (List C)} (h : Im S' w v (.sl ys)) (hz : ∀ r, r ∈ ys → r.length = sz) (hsz : 0 < sz)
    (himp : ∀ r, r ∈ ys → ∀ c, c ∈ r → ∀ u, Im S' w u c → Im (rd S Γ.B b) w u c) : Src S Γ w b sz ys v := by
  cases h with
  | nil => exact .none rfl
  | sl u hs hS hn hc hm hz' hu hi =>
    rename_i ad n cap sz'
    subst hn
    by_cases hys : ys = []
    · subst hys
      exact .some ad cap [] (by simp) (by simp) (by simp) (by simp)
    · have hszz : sz' = sz := by
        obtain ⟨r, hr⟩ := List.exists_mem_of_ne_nil ys hys
        exact (hz' r hr).symm.trans (hz r hr)
      subst hszz
      have hidx : ∀ j, j < ys.length * sz' → ∃ r c, ys[j / sz']? = some r ∧ r[j % sz']? = some c ∧ j / sz' * sz' + j % sz' = j := by
        intro j hj
        have h1 : j / sz' < ys.length := (Nat.div_lt_iff_lt_mul hsz).2 hj
        have h2 : j % sz' < sz' := Nat.mod_lt _ hsz
        refine ⟨ys[j / sz'], _, List.getElem?_eq_getElem h1, List.getElem?_eq_getElem (by rw [hz' _ (List.getElem_mem h1)]; exact h2), ?_⟩
        rw [Nat.mul_comm]; exact Nat.div_add_mod j sz'
      have hget : ∀ j v, ((List.range (ys.length * sz')).map u)[j]? = some v → j < ys.length * sz' ∧ v = u j := by
        intro j v hv
        rw [List.getElem?_map] at hv
        obtain ⟨q, hq, rfl⟩ := Option.map_eq_some_iff.1 hv
        obtain ⟨h1, h2⟩ := List.getElem?_eq_some_iff.1 hq
        rw [List.getElem_range] at h2
        exact ⟨by simpa using h1, by rw [h2]⟩
      refine .some ad cap ((List.range (ys.length * sz')).map u) (by simp) (fun j v hv => ?_) (fun v hv => ?_) (fun n r oo c hr hcc => ?_)
      · obtain ⟨hj, rfl⟩ := hget j v hv
        obtain ⟨r, c, hr, hcc, he⟩ := hidx j hj
        have := hu _ _ _ _ hr hcc
        rwa [he] at this
      · obtain ⟨j, hj, rfl⟩ := List.getElem_of_mem hv
        have hj' : j < ys.length * sz' := by simpa using hj
        obtain ⟨r, c, hr, hcc, he⟩ := hidx j hj'
        have := hi _ _ _ _ hr hcc
        rw [he] at this
        simp only [List.getElem_map, List.getElem_range]
        exact this.one'
      · have h1 : n < ys.length := (List.getElem?_eq_some_iff.1 hr).1
        have h2 : oo < sz' := by rw [← hz' r (List.mem_of_getElem? hr)]; exact (List.getElem?_eq_some_iff.1 hcc).1
        have h3 : (n + 1) * sz' ≤ ys.length * sz' := Nat.mul_le_mul_right _ h1
        rw [Nat.add_mul] at h3
        refine ⟨u (n * sz' + oo), ?_, himp r (List.mem_of_getElem? hr) c (List.mem_of_getElem? hcc) _ (hi _ _ _ _ hr hcc)⟩
        rw [List.getElem?_map, List.getElem?_eq_getElem (by simpa using (by omega : n * sz' + oo < ys.length * sz'))]
        simp

theorem src_own {id : Id} {b : Bool} {e sz : Nat} {xs : List (List C)} (k : RepW Γ S ν st a w) (hid : st.h id = some (.row b e sz xs)) : Src S Γ w b sz xs (ν id) := by
  obtain ⟨h0, hl, us, hown, hc⟩ := k.ok.row id _ _ _ _ hid
  rcases hown.2 with ⟨hv, hn⟩ | ⟨g, cap, cur, hv, _, ⟨fz, hg, hfz⟩, hnc, hcm, hcs, htake⟩
  · rw [hv]; exact .none (List.eq_nil_of_length_eq_zero hn)
  · have hcell : ∀ j u, us[j]? = some u → w.cell? ((⟨g, 0, none⟩ : Addr).add j) = some u := hown.cells (by rw [hv]; rfl)
    rw [hv]
    have hidx : ∀ j, j < xs.length * sz → ∃ r c, xs[j / sz]? = some r ∧ r[j % sz]? = some c ∧ j / sz * sz + j % sz = j := by
      intro j hj
      have h1 : j / sz < xs.length := (Nat.div_lt_iff_lt_mul h0).2 hj
      have h2 : j % sz < sz := Nat.mod_lt _ h0
      refine ⟨xs[j / sz], _, List.getElem?_eq_getElem h1, List.getElem?_eq_getElem (by rw [hl _ (List.getElem_mem h1)]; exact h2), ?_⟩
      rw [Nat.mul_comm]; exact Nat.div_add_mod j sz
    refine .some _ cap us hown.1 hcell (fun u hu => ?_) (fun n r oo c hr hcc => ?_)
    · obtain ⟨j, hj, rfl⟩ := List.getElem_of_mem hu
      obtain ⟨r, c, hr, hcc, he⟩ := hidx j (by rw [← hown.1]; exact hj)
      obtain ⟨u, hu, h1, _⟩ := hc _ _ _ _ hr hcc
      rw [he, List.getElem?_eq_getElem hj] at hu
      rw [Option.some.inj hu]; exact h1
    · obtain ⟨u, hu, _, him⟩ := hc n r oo c hr hcc
      exact ⟨u, hu, him⟩

theorem src_of (k : RepW Γ S ν st a w) {x : Operand} {b : Bool} {sz : Nat} {ys : List (List C)} (hs : srcOf st (evalO st x) = some (p, b, ys)) (hp : p) (hsz : 0 < sz) (hz : ∀ r, r ∈ ys → r.length = sz) : Src S Γ w b sz ys (a.eval x) := by
  have hv := evalO_ok k x
  revert hs hv
  generalize a.eval x = v
  generalize evalO st x = y
  intro hs hv
  cases hv <;> simp only [srcOf, reduceCtorEq] at hs
  case c b' c hk =>
    cases c with
    | v => simp at hs
    | sl xs =>
      simp only [Option.some.injEq, Prod.mk.injEq] at hs
      obtain ⟨_, rfl, rfl⟩ := hs
      exact src_im hk hz hsz (fun _ _ _ _ _ h => h)
  case own i bor e sz' xs hi =>
    rw [hi] at hs
    simp only [Option.some.injEq, Prod.mk.injEq] at hs
    obtain ⟨_, rfl, rfl⟩ := hs
    have := src_own k hi
    generalize ν i = vv at this ⊢
    by_cases hxs : xs = []
    · subst hxs
      cases this with
      | none h => exact .none h
      | some ad c us hl hc h1 hv => exact .some ad c us (by simpa using hl) hc h1 (by simp)
    · obtain ⟨_, hl, _⟩ := k.ok.row i _ _ _ _ hi
      obtain ⟨r, hr⟩ := List.exists_mem_of_ne_nil xs hxs
      have : sz' = sz := (hl r hr).symm.trans (hz r hr)
      subst this; assumption
  case vw i bor e sz' lo n xs hi hle hv =>
    rw [hi] at hs
    simp only [Option.some.injEq, Prod.mk.injEq] at hs
    obtain ⟨rfl, rfl, rfl⟩ := hs
    exact src_im (k.ok.vw (.vw hi hle hv) hi).1 hz hsz (fun r hr c hc u hu => hu.scal_any (hp r (List.mem_of_mem_drop (List.mem_of_mem_take hr)) c hc))
  case nil =>
    simp only [Option.some.injEq, Prod.mk.injEq] at hs
    obtain ⟨_, rfl, rfl⟩ := hs
    exact .none rfl
end
end Go.Proofs.YtoemclhjcbcjaaaGreat.AB
