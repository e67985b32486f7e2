/- What an operation makes of the slots is what the model makes of their values: made slices, literals, texts out of bytes; and all of it in one. -/
import Derived.Test.YtoemclhjcbcjaaaGreatAbI
import Derived.Great.FillDense
namespace Go.Proofs.YtoemclhjcbcjaaaGreat.AB
open Go
set_option linter.unusedVariables false
set_option linter.unusedSimpArgs false

section
variable {P : Program} {Γ : Gm} {S : Nat → Prop} {ν : Id → Value} {st : St} {a : Act} {w : World} {o : Oper} {T : Tab} {so : SOp} {d : Nat} {p : Prop} {y : AV} {ob : Option Ob}

theorem zok_cases {u : Value} (h : zok u = true) : (u = .slice none 0 0 ∧ zC u = .sl []) ∨ (scal u = true ∧ zC u = .v u) := by
  unfold zok at h
  unfold zC
  split at h
  · exact .inl ⟨rfl, rfl⟩
  · rename_i hn
    exact .inr ⟨h, rfl⟩
theorem zok_one {u : Value} (h : zok u = true) : u.oneCell' = true := by
  rcases zok_cases h with ⟨rfl, _⟩ | ⟨h, _⟩
  · rfl
  · exact scal_one h
theorem zok_im {S : Nat → Prop} {w : World} {u : Value} (h : zok u = true) : Im S w u (zC u) := by
  rcases zok_cases h with ⟨rfl, h⟩ | ⟨h1, h⟩
  · rw [h]; exact .nil
  · rw [h]; exact .v h1

theorem q_mks {t e : Nat} {i j : TI} {l cc : Operand} {b : Bool} {kk : IntKind} {n : Int} (ho : o.op = .makeSlice t l cc) (hi : tiOk P t i = true) (hu : i.u = .slice e) (hj : tiOk P e j = true)
    (hl : evalO st l = .c b (.v (.int kk n))) (hcc : a.eval cc = a.eval l) (h0 : 0 ≤ n) (hb : n * j.bytes ≤ 140737488355328) (h63 : n ≤ 9223372036854775807) (hzs : j.zero.length = j.size) (hz : j.zero.all zok = true) (hs0 : 0 < j.size)
    (k : RepW Γ S ν st a w) (hd : d < Γ.N) (hf : st.h (.s d 0) = none) :
    Gives P Γ a w (execOp a.eval o) d (st.give d (.own (.s d 0)) (some (.row false e j.size (List.replicate n.toNat (j.zero.map zC))))) := by
  have hle := (evalO_v k hl).1
  have hund := und_slice (P := P) (t := t) (e := e) (by rw [← hu]; exact tyOk_of hi)
  obtain ⟨jj, z, hjj, hjs, hjb, hjz, hzz, _⟩ := info_of hj
  have hr := run_make (P := P) w t e jj z hund hjj hjz kk kk n n h0 (Int.le_refl _) (by rw [hjb, Int.mul_comm]; omega) h63
  have hzl : z.cells.size = j.size := by rw [← hzs, ← hzz]; simp
  refine .new k hd (v := .slice (some ⟨w.heap.size, 0, none⟩) n.toNat n.toNat) (us := madeCells z.cells (n.toNat * jj.size)) (T := e) (fz := (0, 0)) (w' := w.alloc (.cells (madeCells z.cells (n.toNat * jj.size)) e)) ?_ rfl rfl rfl rfl hf
    (.inr ⟨false, j.size, List.replicate n.toNat (j.zero.map zC), n.toNat, n.toNat, rfl, .inl rfl, rfl, hs0, fun r hr => ?_, by simp, Nat.le_refl _, by simp [maxLen]; omega, by rw [size_madeCells, hjs], fun m r oo c hr hc => ?_⟩) (.inr ⟨rfl, _, _, _, _, rfl⟩)
  · simp only [execOp, ho, hcc, hle]
    exact run_v hr
  · rw [List.eq_of_mem_replicate hr]; simp [hzs]
  · rw [List.getElem?_replicate] at hr
    split at hr
    · rename_i hm
      obtain rfl := Option.some.inj hr
      rw [List.getElem?_map] at hc
      obtain ⟨u, hu, rfl⟩ := Option.map_eq_some_iff.1 hc
      have hol : oo < j.size := by rw [← hzs]; exact (List.getElem?_eq_some_iff.1 hu).1
      have hlt : m * j.size + oo < n.toNat * jj.size := by
        rw [hjs]
        have h3 : (m + 1) * j.size ≤ n.toNat * j.size := Nat.mul_le_mul_right _ hm
        rw [Nat.add_mul] at h3; omega
      have hsc : zok u = true := List.all_eq_true.1 hz u (List.mem_of_getElem? hu)
      refine ⟨u, ?_, zok_one hsc, zok_im hsc⟩
      have hmod : (m * j.size + oo) % z.cells.size = oo := by
        rw [hzl, Nat.mul_comm, Nat.mul_add_mod, Nat.mod_eq_of_lt hol]
      have hzo : z.cells[oo]? = some u := by rw [← hzz] at hu; simpa using hu
      simp only [madeCells, Array.getElem?_map, Array.getElem?_range, if_pos hlt, Option.map_some, hmod]
      rw [getElem!_def, hzo]
    · cases hr

theorem stays1_ok {S B : Nat → Prop} {ν : Id → Value} {h : Hp} {w : World} {x : AV} {v : Value} {b : Bool} {c : C} (k : VR S B ν h w x v) (hx : x.stays1 = some (b, c)) : Im (rd S B b) w v c := by
  cases k <;> simp only [AV.stays1, reduceCtorEq, Option.some.injEq, Prod.mk.injEq] at hx
  case c hk => obtain ⟨rfl, rfl⟩ := hx; exact hk
  case nil => obtain ⟨rfl, rfl⟩ := hx; exact .nil

theorem rd_or {S B : Nat → Prop} {b b' : Bool} (q : Nat) (h : rd S B b q) : rd S B (b || b') q := h.imp id (fun r => ⟨by simp [r.1], r.2⟩)
theorem rd_or' {S B : Nat → Prop} {b b' : Bool} (q : Nat) (h : rd S B b' q) : rd S B (b || b') q := h.imp id (fun r => ⟨by simp [r.1], r.2⟩)

theorem staysL_ok {S B : Nat → Prop} {ν : Id → Value} {h : Hp} {w : World} : ∀ {xs : List AV} {us : List Value} {b : Bool} {cs : List C}, AV.staysL xs = some (b, cs) → xs.length = us.length →
    (∀ (i : Nat) (x : AV) (u : Value), xs[i]? = some x → us[i]? = some u → VR S B ν h w x u) → cs.length = us.length ∧ ∀ (i : Nat) (c : C) (u : Value), cs[i]? = some c → us[i]? = some u → Im (rd S B b) w u c
  | [], [], b, cs, hs, _, _ => by simp only [AV.staysL, Option.some.injEq, Prod.mk.injEq] at hs; obtain ⟨rfl, rfl⟩ := hs; simp
  | x :: xs, u :: us, b, cs, hs, hl, hk => by
    simp only [AV.staysL] at hs
    split at hs
    · rename_i b1 c1 b2 cs2 e1 e2
      simp only [Option.some.injEq, Prod.mk.injEq] at hs
      obtain ⟨rfl, rfl⟩ := hs
      have ih := staysL_ok e2 (by simpa using hl) (fun i x u hx hu => hk (i + 1) x u (by simpa using hx) (by simpa using hu))
      refine ⟨by simp [ih.1], fun i c v hc hv => ?_⟩
      cases i with
      | zero =>
        simp at hc hv; subst hc; subst hv
        exact (stays1_ok (hk 0 x u rfl rfl) e1).mono (fun q => rd_or q) (fun _ _ => rfl)
      | succ i => exact (ih.2 i c v (by simpa using hc) (by simpa using hv)).mono (fun q => rd_or' q) (fun _ _ => rfl)
    · cases hs
  | [], _ :: _, _, _, _, hl, _ => by simp at hl
  | _ :: _, [], _, _, _, hl, _ => by simp at hl

/-- what may stay, cell by cell -/
theorem stays_ok {S B : Nat → Prop} {ν : Id → Value} {h : Hp} {w : World} (ok : HOK S B ν h w) {x : AV} {v : Value} {b : Bool} {cs : List C} (k : VR S B ν h w x v) (hx : x.stays = some (b, cs)) :
    v.cells.toList.length = cs.length ∧ (∀ u, u ∈ v.cells.toList → u.oneCell' = true) ∧ ∀ (i : Nat) (c : C) (u : Value), cs[i]? = some c → v.cells.toList[i]? = some u → Im (rd S B b) w u c := by
  have single : (match x.stays1 with | some (b, y) => some (b, [y]) | none => none) = some (b, cs) → x.one = true →
      v.cells.toList.length = cs.length ∧ (∀ u, u ∈ v.cells.toList → u.oneCell' = true) ∧ ∀ (i : Nat) (c : C) (u : Value), cs[i]? = some c → v.cells.toList[i]? = some u → Im (rd S B b) w u c := by
    intro h1 h2
    have hone := k.one ok h2
    have hcell : v.cells = #[v] := by cases v <;> first | rfl | (simp [Value.oneCell'] at hone)
    split at h1
    · rename_i b1 y1 e1
      simp only [Option.some.injEq, Prod.mk.injEq] at h1
      obtain ⟨rfl, rfl⟩ := h1
      rw [hcell]
      refine ⟨rfl, by simpa using hone, fun i c u hc hu => ?_⟩
      cases i with
      | zero => simp at hc hu; subst hc; subst hu; exact stays1_ok k e1
      | succ i => simp at hc
    · cases h1
  cases k with
  | agg hl hk h1 =>
    simp only [AV.stays] at hx
    have := staysL_ok hx hl hk
    simp only [Value.cells]
    exact ⟨by simp [this.1], by simpa using h1, fun i c u hc hu => this.2 i c u hc (by simpa using hu)⟩
  | c hk => exact single hx rfl
  | nil => exact single hx rfl
  | tup => simp [AV.stays, AV.stays1] at hx
  | own => simp [AV.stays, AV.stays1] at hx
  | vw => simp [AV.stays, AV.stays1] at hx
  | ptr => simp [AV.stays, AV.stays1] at hx
  | ept => simp [AV.stays, AV.stays1] at hx
  | ip => simp [AV.stays, AV.stays1] at hx
  | fn => simp [AV.stays, AV.stays1] at hx
  | rx => simp [AV.stays, AV.stays1] at hx
  | rg => simp [AV.stays, AV.stays1] at hx
  | rp => simp [AV.stays, AV.stays1] at hx
  | dead => simp [AV.stays, AV.stays1] at hx

theorem flatMap_get {sz : Nat} : ∀ (vs : List Value) (m oo : Nat) (v u : Value), (∀ v, v ∈ vs → v.cells.size = sz) → vs[m]? = some v → v.cells.toList[oo]? = some u → (vs.flatMap fun v => v.cells.toList)[m * sz + oo]? = some u
  | v0 :: vs, 0, oo, v, u, hs, hm, ho => by
    simp at hm; subst hm
    have hlt : oo < v0.cells.toList.length := (List.getElem?_eq_some_iff.1 ho).1
    rw [List.flatMap_cons, Nat.zero_mul, Nat.zero_add, List.getElem?_append_left hlt]; exact ho
  | v0 :: vs, m + 1, oo, v, u, hs, hm, ho => by
    have h0 : v0.cells.toList.length = sz := by simpa using hs v0 (by simp)
    rw [List.flatMap_cons, List.getElem?_append_right (by rw [h0, Nat.add_mul]; omega), h0, show (m + 1) * sz + oo - sz = m * sz + oo by rw [Nat.add_mul]; omega]
    exact flatMap_get vs m oo v u (fun v hv => hs v (by simp [hv])) (by simpa using hm) ho
  | [], m, oo, v, u, hs, hm, ho => by simp at hm

theorem rowsOf_ok (k : RepW Γ S ν st a w) {sz : Nat} : ∀ {ps : List Operand} {p : Prop} {b : Bool} {rs : List (List C)}, rowsOf st sz ps = some (p, b, rs) → p →
    rs.length = ps.length ∧ (∀ r, r ∈ rs → r.length = sz) ∧ (∀ v, v ∈ ps.map a.eval → v.cells.size = sz ∧ ∀ u, u ∈ v.cells.toList → u.oneCell' = true) ∧
    ∀ (m : Nat) (r : List C) (oo : Nat) (c : C), rs[m]? = some r → r[oo]? = some c → ∃ v u, (ps.map a.eval)[m]? = some v ∧ v.cells.toList[oo]? = some u ∧ Im (rd S Γ.B b) w u c
  | [], p, b, rs, h, hp => by simp only [rowsOf, Option.some.injEq, Prod.mk.injEq] at h; obtain ⟨_, _, rfl⟩ := h; simp
  | x :: ps, p, b, rs, h, hp => by
    simp only [rowsOf] at h
    split at h
    · rename_i b1 cs p2 b2 rs2 e1 e2
      simp only [Option.some.injEq, Prod.mk.injEq] at h
      obtain ⟨rfl, rfl, rfl⟩ := h
      obtain ⟨hcl, hp2⟩ := hp
      have ih := rowsOf_ok k e2 hp2
      have h1 := stays_ok k.ok (evalO_ok k x) e1
      refine ⟨by simp [ih.1], fun r hr => ?_, fun v hv => ?_, fun m r oo c hr hc => ?_⟩
      · simp at hr; rcases hr with rfl | hr
        · exact hcl
        · exact ih.2.1 r hr
      · simp only [List.map_cons, List.mem_cons] at hv
        rcases hv with rfl | hv
        · exact ⟨by have := h1.1; simp at this; omega, h1.2.1⟩
        · exact ih.2.2.1 v hv
      · cases m with
        | zero =>
          simp at hr; subst hr
          have hlt : oo < (a.eval x).cells.toList.length := by rw [h1.1]; exact (List.getElem?_eq_some_iff.1 hc).1
          exact ⟨a.eval x, _, rfl, List.getElem?_eq_getElem hlt, (h1.2.2 oo c _ hc (List.getElem?_eq_getElem hlt)).mono (fun q => rd_or q) (fun _ _ => rfl)⟩
        | succ m =>
          obtain ⟨v, u, hv, hu, hi⟩ := ih.2.2.2 m r oo c (by simpa using hr) hc
          exact ⟨v, u, by simpa using hv, hu, hi.mono (fun q => rd_or' q) (fun _ _ => rfl)⟩
    · cases h

theorem inOrder_ok : ∀ {n : Nat} {ps : List (Nat × Operand)} {xs : List Operand}, inOrder n ps = some xs → ps.map (fun x => (x.1, a.eval x.2)) = ((xs.map a.eval).zipIdx n).map fun x => (x.2, x.1)
  | n, [], xs, h => by simp only [inOrder, Option.some.injEq] at h; subst h; rfl
  | n, (i, x) :: ps, xs, h => by
    simp only [inOrder] at h
    split at h
    · rename_i e; subst e
      obtain ⟨ys, hy, rfl⟩ := Option.map_eq_some_iff.1 h
      simp [inOrder_ok hy]
    · cases h

theorem q_bsl {t e n : Nat} {i j : TI} {ps : Array (Nat × Operand)} {xs : List Operand} {b : Bool} {rs : List (List C)} (ho : o.op = .buildSlice t n ps) (hi : tiOk P t i = true) (hu : i.u = .slice e) (hj : tiOk P e j = true)
    (hord : inOrder 0 ps.toList = some xs) (hn : xs.length = n) (hcap : n * j.size ≤ 16777216) (hs0 : 0 < j.size) (hrs : rowsOf st j.size xs = some (p, b, rs)) (hp : p)
    (k : RepW Γ S ν st a w) (hd : d < Γ.N) (hf : st.h (.s d 0) = none) :
    Gives P Γ a w (execOp a.eval o) d (st.give d (.own (.s d 0)) (some (.row b e j.size rs))) := by
  have hund := und_slice (P := P) (t := t) (e := e) (by rw [← hu]; exact tyOk_of hi)
  obtain ⟨jj, z, hjj, hjs, hjb, hjz, hzz, _⟩ := info_of hj
  obtain ⟨h1, h2, h3, h4⟩ := rowsOf_ok k hrs hp
  have hparts : (ps.map fun x => (x.1, a.eval x.2)).toList = ((xs.map a.eval).zipIdx 0).map fun x => (x.2, x.1) := by rw [Array.toList_map]; exact inOrder_ok hord
  have hfill : ∀ cells : Array Value, cells.size = n * j.size → Instr.fill (fun i => some (i * j.size, j.size)) cells (ps.map fun x => (x.1, a.eval x.2)).toList = some ((xs.map a.eval).flatMap fun v => v.cells.toList).toArray := by
    intro cells hc
    rw [hparts]
    exact Go.Great.fill_whole hs0 (xs.map a.eval) cells (fun v hv => (h3 v hv).1) (by rw [hc, List.length_map, hn])
  have hlen : ((xs.map a.eval).flatMap fun v => v.cells.toList).length = n * j.size := by
    have : ∀ vs : List Value, (∀ v, v ∈ vs → v.cells.size = j.size) → (vs.flatMap fun v => v.cells.toList).length = vs.length * j.size := by
      intro vs
      induction vs with
      | nil => simp
      | cons v vs ih => intro hv; rw [List.flatMap_cons, List.length_append, ih (fun u hu => hv u (by simp [hu]))]; have := hv v (by simp); simp [this, Nat.add_mul, Nat.add_comm]
    rw [this _ (fun v hv => (h3 v hv).1), List.length_map, hn]
  refine .new k hd (v := .slice (some ⟨w.heap.size, 0, none⟩) n n) (us := ((xs.map a.eval).flatMap fun v => v.cells.toList).toArray) (T := e) (fz := (0, 0)) (w' := w.alloc (.cells ((xs.map a.eval).flatMap fun v => v.cells.toList).toArray e)) ?_ rfl rfl rfl rfl hf
    (.inr ⟨b, j.size, rs, n, n, rfl, .inl rfl, rfl, hs0, h2, by rw [h1, hn], Nat.le_refl _, ?_, by simp only [List.size_toArray, hlen], fun m r oo c hr hc => ?_⟩) (.inr ⟨rfl, _, _, _, _, rfl⟩)
  · simp only [execOp, ho]
    refine run_v ?_
    have hns : ¬ (2 ^ 24 < n * jj.size) := by rw [hjs]; omega
    have hfill' := hfill ((Array.range (n * j.size)).map (z.cells[· % z.cells.size]!)) (by simp)
    simp only [Instr.buildSlice, run_und w hund, Sem.run_bind, Result.andThen_ok, run_size w hjj, hjs]
    rw [if_neg (by rw [hjs] at hns; exact hns)]
    by_cases h0 : n * j.size = 0
    · simp only [if_pos h0, Sem.run_pure, Sem.run_bind, Result.andThen_ok]
      rw [hfill _ (by simp)]
      simp [newRow]
    · simp only [if_neg h0, Sem.run_pure, Sem.run_bind, Result.andThen_ok, zeroValue, typeInfo]
      rw [Array.toList_map] at hfill'
      simp [hjj, hjz, hfill', newRow]
  · simp only [maxLen]; have : n ≤ n * j.size := Nat.le_mul_of_pos_right _ hs0; omega
  · obtain ⟨v, u, hv, hu, him⟩ := h4 m r oo c hr hc
    refine ⟨u, ?_, (h3 v (List.mem_of_getElem? hv)).2 u (List.mem_of_getElem? hu), him⟩
    have := flatMap_get (sz := j.size) (xs.map a.eval) m oo v u (fun v hv => (h3 v hv).1) hv hu
    simpa using this


theorem q_bslz {t e n : Nat} {i j : TI} {ps : Array (Nat × Operand)} {xs : List Operand} {b : Bool} {rs : List (List C)} (ho : o.op = .buildSlice t n ps) (hi : tiOk P t i = true) (hu : i.u = .slice e) (hj : tiOk P e j = true)
    (hord : inOrder 0 ps.toList = some xs) (hn : xs.length = n) (hcap : n * j.size ≤ 16777216) (hs0 : 0 < j.size) (hrs : rowsOf st j.size xs = some (p, b, rs)) (hp : p)
    (k : RepW Γ S ν st a w) (hd : d < Γ.N) :
    Gives P Γ a w (execOp a.eval o) d (st.give d (.c b (.sl rs)) none) := by
  have hund := und_slice (P := P) (t := t) (e := e) (by rw [← hu]; exact tyOk_of hi)
  obtain ⟨jj, z, hjj, hjs, hjb, hjz, hzz, _⟩ := info_of hj
  obtain ⟨h1, h2, h3, h4⟩ := rowsOf_ok k hrs hp
  have hparts : (ps.map fun x => (x.1, a.eval x.2)).toList = ((xs.map a.eval).zipIdx 0).map fun x => (x.2, x.1) := by rw [Array.toList_map]; exact inOrder_ok hord
  have hfill : ∀ cells : Array Value, cells.size = n * j.size → Instr.fill (fun i => some (i * j.size, j.size)) cells (ps.map fun x => (x.1, a.eval x.2)).toList = some ((xs.map a.eval).flatMap fun v => v.cells.toList).toArray := by
    intro cells hc
    rw [hparts]
    exact Go.Great.fill_whole hs0 (xs.map a.eval) cells (fun v hv => (h3 v hv).1) (by rw [hc, List.length_map, hn])
  have hlen : ((xs.map a.eval).flatMap fun v => v.cells.toList).length = n * j.size := by
    have : ∀ vs : List Value, (∀ v, v ∈ vs → v.cells.size = j.size) → (vs.flatMap fun v => v.cells.toList).length = vs.length * j.size := by
      intro vs
      induction vs with
      | nil => simp
      | cons v vs ih => intro hv; rw [List.flatMap_cons, List.length_append, ih (fun u hu => hv u (by simp [hu]))]; have := hv v (by simp); simp [this, Nat.add_mul, Nat.add_comm]
    rw [this _ (fun v hv => (h3 v hv).1), List.length_map, hn]
  refine .stay k hd (us := ((xs.map a.eval).flatMap fun v => v.cells.toList).toArray) (T := e) (sz := j.size) (n := n) (w' := w.alloc (.cells ((xs.map a.eval).flatMap fun v => v.cells.toList).toArray e)) ?_ rfl rfl rfl rfl h2 (by rw [h1, hn]) ?_ (fun m r oo c hr hc => ?_)
  · simp only [execOp, ho]
    refine run_v ?_
    have hns : ¬ (2 ^ 24 < n * jj.size) := by rw [hjs]; omega
    have hfill' := hfill ((Array.range (n * j.size)).map (z.cells[· % z.cells.size]!)) (by simp)
    simp only [Instr.buildSlice, run_und w hund, Sem.run_bind, Result.andThen_ok, run_size w hjj, hjs]
    rw [if_neg (by rw [hjs] at hns; exact hns)]
    by_cases h0 : n * j.size = 0
    · simp only [if_pos h0, Sem.run_pure, Sem.run_bind, Result.andThen_ok]
      rw [hfill _ (by simp)]
      simp [newRow]
    · simp only [if_neg h0, Sem.run_pure, Sem.run_bind, Result.andThen_ok, zeroValue, typeInfo]
      rw [Array.toList_map] at hfill'
      simp [hjj, hjz, hfill', newRow]
  · simp only [maxLen]; have : n ≤ n * j.size := Nat.le_mul_of_pos_right _ hs0; omega
  · obtain ⟨v, u, hv, hu, him⟩ := h4 m r oo c hr hc
    refine ⟨u, ?_, (h3 v (List.mem_of_getElem? hv)).2 u (List.mem_of_getElem? hu), him⟩
    have := flatMap_get (sz := j.size) (xs.map a.eval) m oo v u (fun v hv => (h3 v hv).1) hv hu
    simpa using this


theorem foldl_lay (off : Nat) (v : Array Value) (cells : Array Value) (hle : off + v.size ≤ cells.size) :
    (v.zipIdx.foldl (fun cs (x : Value × Nat) => cs.setIfInBounds (off + x.2) x.1) cells).toList = cells.toList.take off ++ v.toList ++ cells.toList.drop (off + v.size) := by
  obtain ⟨h1, h2⟩ := Go.Great.foldl_set off v.toList 0 cells
  have hz : v.zipIdx.foldl (fun cs (x : Value × Nat) => cs.setIfInBounds (off + x.2) x.1) cells = (v.toList.zipIdx 0).foldl (fun cs (x : Value × Nat) => cs.setIfInBounds (off + x.2) x.1) cells := by
    rw [← Array.foldl_toList]; simp
  rw [hz]
  apply List.ext_getElem?
  intro q
  rw [Array.getElem?_toList, h2 q]
  simp only [Nat.add_zero, Array.length_toList]
  by_cases hq : off ≤ q ∧ q < off + v.size
  · rw [if_pos ⟨hq.1, hq.2, by omega⟩, List.append_assoc, List.getElem?_append_right (by simp; omega), List.getElem?_append_left (by simp; omega)]
    congr 1
    simp; omega
  · rw [if_neg (by omega)]
    by_cases hq1 : q < off
    · rw [List.append_assoc, List.getElem?_append_left (by simp; omega), List.getElem?_take, if_pos hq1]; simp
    · rw [List.getElem?_append_right (by simp; omega), List.getElem?_drop]
      simp only [List.length_append, List.length_take, Array.length_toList, Array.getElem?_toList]
      congr 1
      omega

/-- cells as they are said -/
def Cells (S : Nat → Prop) (Γ : Gm) (ν : Id → Value) (st : St) (w : World) (cs : List AV) (us : List Value) : Prop :=
  cs.length = us.length ∧ ∀ (j : Nat) (x : AV) (u : Value), cs[j]? = some x → us[j]? = some u → VR S Γ.B ν st.h w x u ∧ u.oneCell' = true

theorem Cells.lay {cs xs : List AV} {us vs : List Value} (h : Cells S Γ ν st w cs us) (hx : Cells S Γ ν st w xs vs) {off : Nat} (hle : off + xs.length ≤ cs.length) :
    Cells S Γ ν st w (layAt cs off xs) (us.take off ++ vs ++ us.drop (off + vs.length)) := by
  obtain ⟨h1, h2⟩ := h
  obtain ⟨x1, x2⟩ := hx
  refine ⟨by simp [layAt]; omega, fun j x u hxj hu => ?_⟩
  unfold layAt at hxj
  by_cases c1 : j < off
  · rw [List.append_assoc, List.getElem?_append_left (by simp; omega), List.getElem?_take, if_pos c1] at hxj hu
    exact h2 j x u hxj hu
  · by_cases c2 : j < off + xs.length
    · rw [List.append_assoc, List.getElem?_append_right (by simp; omega), List.getElem?_append_left (by simp; omega)] at hxj hu
      have e1 : (cs.take off).length = off := by simp; omega
      have e2 : (us.take off).length = off := by simp; omega
      rw [e1] at hxj
      rw [e2] at hu
      exact x2 _ x u hxj hu
    · rw [List.getElem?_append_right (by simp; omega), List.getElem?_drop] at hxj hu
      have e1 : (cs.take off ++ xs).length = off + xs.length := by simp; omega
      have e2 : (us.take off ++ vs).length = off + xs.length := by simp; omega
      rw [e1] at hxj
      rw [e2, ← x1] at hu
      exact h2 _ x u hxj hu

theorem bld_ok (k : RepW Γ S ν st a w) {place : Nat → Option (Nat × Nat)} : ∀ {ps : List (Nat × Operand)} {qs : List (Nat × Nat × Operand)} {p : Prop} {cs ys : List AV} {us : Array Value},
    ps.map (fun x => (place x.1).map fun f => (f.1, f.2, x.2)) = qs.map some → bldGo st cs qs = some (p, ys) → p → Cells S Γ ν st w cs us.toList →
    ∃ vs : Array Value, Instr.fill place us (ps.map fun x => (x.1, a.eval x.2)) = some vs ∧ Cells S Γ ν st w ys vs.toList
  | [], [], p, cs, ys, us, _, hb, hp, hc => by
    simp only [bldGo, Option.some.injEq, Prod.mk.injEq] at hb
    obtain ⟨_, rfl⟩ := hb
    exact ⟨us, rfl, hc⟩
  | [], _ :: _, _, _, _, _, hm, _, _, _ => by simp at hm
  | _ :: _, [], _, _, _, _, hm, _, _, _ => by simp at hm
  | (i, x) :: ps, (off, n, x') :: qs, p, cs, ys, us, hm, hb, hp, hc => by
    simp only [List.map_cons, List.cons.injEq] at hm
    obtain ⟨f, hf, he⟩ := Option.map_eq_some_iff.1 hm.1
    simp only [Prod.mk.injEq] at he
    obtain ⟨rfl, rfl, rfl⟩ := he
    simp only [bldGo] at hb
    split at hb
    · rename_i xs hxs
      split at hb
      · rename_i p2 ys2 h2
        simp only [Option.some.injEq, Prod.mk.injEq] at hb
        obtain ⟨rfl, rfl⟩ := hb
        obtain ⟨⟨hl, hle⟩, hp2⟩ := hp
        obtain ⟨vs, hvs, hvl, hvc⟩ := (evalO_ok k x).cells k.ok hxs
        have hcl : cs.length = us.size := by rw [hc.1]; simp
        have hlay := hc.lay (xs := xs) (vs := vs) ⟨hvl, hvc⟩ (off := f.1) (by omega)
        have hfold := foldl_lay f.1 (a.eval x).cells us (by rw [hvs]; simp; omega)
        have hc2 : Cells S Γ ν st w (layAt cs f.1 xs) (((a.eval x).cells.zipIdx.foldl (fun cs (x : Value × Nat) => cs.setIfInBounds (f.1 + x.2) x.1) us)).toList := by
          rw [hfold, hvs]; simpa using hlay
        obtain ⟨r, hr, hrc⟩ := bld_ok k hm.2 h2 hp2 hc2
        refine ⟨r, ?_, hrc⟩
        simp only [List.map_cons]
        unfold Instr.fill
        simp only [hf]
        have hsz : (a.eval x).cells.size = f.2 := by rw [hvs]; simp; omega
        rw [if_neg (by simp [hsz]; omega)]
        exact hr
      · cases hb
    · cases hb

theorem run_places : ∀ (l : List Field), (∀ f, f ∈ l → (P.info? f.type).isSome = true) →
    (l.mapM (fun f => do pure (f.offset, ← sizeOf f.type)) : Sem (List (Nat × Nat))).run P w = .ok (l.map fun f => (f.offset, sizeAt P f.type)) w
  | [], _ => by simp
  | f :: l, h => by
    obtain ⟨j, hj⟩ := Option.isSome_iff_exists.1 (h f (by simp))
    have := run_places l (fun g hg => h g (by simp [hg]))
    simp only [List.mapM_cons, Sem.run_bind, run_size w hj, Result.andThen_ok, Sem.run_pure, this, List.map_cons]
    simp [sizeAt, hj]

theorem mapM_some {α β : Type} {f : α → Option β} : ∀ {l : List α} {qs : List β}, l.mapM f = some qs → l.map f = qs.map some
  | [], qs, h => by simp at h; subst h; rfl
  | x :: l, qs, h => by
    rw [List.mapM_cons] at h
    cases hx : f x with
    | none => rw [hx] at h; cases h
    | some y =>
      cases hl : l.mapM f with
      | none => rw [hx, hl] at h; cases h
      | some ys =>
        rw [hx, hl] at h
        obtain rfl : y :: ys = qs := Option.some.inj h
        simp [hx, mapM_some hl]

theorem q_bld {t : Nat} {i : TI} {ps : Array (Nat × Operand)} {qs : List (Nat × Nat × Operand)} {cs : List AV} (ho : o.op = .build t ps) (hi : tiOk P t i = true) (hz1 : i.zero.all (·.oneCell') = true)
    (hcase : (∃ fs, i.u = .struct fs ∧ ps.toList.mapM (fun (p : Nat × Operand) => (fs[p.1]?).map fun f => (f.1, f.2.1, p.2)) = some qs) ∨
      (∃ n e j, i.u = .arr n e ∧ tiOk P e j = true ∧ qs = ps.toList.map fun (p : Nat × Operand) => (p.1 * j.size, j.size, p.2)))
    (hb : bldGo st (i.zero.map cst1) qs = some (p, cs)) (hp : p) (k : RepW Γ S ν st a w) (hd : d < Γ.N) : Gives P Γ a w (execOp a.eval o) d (st.give d (.agg cs) none) := by
  obtain ⟨jj, z, hjj, hjs, hjb, hjz, hzz, hzagg⟩ := info_of hi
  have hc0 : Cells S Γ ν st w (i.zero.map cst1) z.cells.toList := by
    refine ⟨by simp [hzz], fun q x u hx hu => ?_⟩
    rw [List.getElem?_map] at hx
    rw [hzz] at hu
    rw [hu] at hx
    simp only [Option.map_some, Option.some.injEq] at hx
    subst hx
    exact ⟨VR.cst1 u, List.all_eq_true.1 hz1 u (List.mem_of_getElem? hu)⟩
  have hgo : ∀ place : Nat → Option (Nat × Nat), ps.toList.map (fun x => (place x.1).map fun f => (f.1, f.2, x.2)) = qs.map some → 
      ∃ vs : Array Value, Instr.fill place z.cells (ps.map fun x => (x.1, a.eval x.2)).toList = some vs ∧ Cells S Γ ν st w cs vs.toList := by
    intro place hm
    have := bld_ok k (place := place) (us := z.cells) hm hb hp hc0
    rwa [Array.toList_map]
  have fin : ∀ vs : Array Value, Cells S Γ ν st w cs vs.toList → (Instr.build t (ps.map fun x => (x.1, a.eval x.2))).run P w = .ok (.agg vs) w → Gives P Γ a w (execOp a.eval o) d (st.give d (.agg cs) none) := by
    intro vs hvs hr
    refine .pure k hd (v := .agg vs) ?_ ?_
    · simp only [execOp, ho]; exact run_v hr
    · obtain ⟨l⟩ := vs
      exact .agg hvs.1 (fun q x u hx hu => (hvs.2 q x u hx hu).1) (fun u hu => by
        obtain ⟨q, hq, rfl⟩ := List.getElem_of_mem hu
        have hq' : q < cs.length := by rw [hvs.1]; exact hq
        exact (hvs.2 q _ _ (List.getElem?_eq_getElem hq') (List.getElem?_eq_getElem hq)).2)
  rcases hcase with ⟨fs, hu, hm⟩ | ⟨n, e, j, hu, hj, hm⟩
  · obtain ⟨gs, hgs, hmap, hall⟩ := und_struct (P := P) (t := t) (fs := fs) (by rw [← hu]; exact tyOk_of hi)
    have hplaces : (gs.mapM (fun f => do pure (f.offset, ← sizeOf f.type)) : Sem (Array (Nat × Nat))).run P w = .ok (gs.map fun f => (f.offset, sizeAt P f.type)) w := by
      rw [Array.mapM_eq_mapM_toList]
      have hpl := run_places (P := P) (w := w) gs.toList (fun f hf => (hall f hf).1)
      have e1 : ∀ s : Sem (List (Nat × Nat)), s.run P w = .ok (gs.toList.map fun f => (f.offset, sizeAt P f.type)) w → ((fun l => l.toArray) <$> s : Sem (Array (Nat × Nat))).run P w = .ok (gs.map fun f => (f.offset, sizeAt P f.type)) w := by
        intro s hs
        have e2 : (gs.toList.map fun f => (f.offset, sizeAt P f.type)).toArray = gs.map fun f => (f.offset, sizeAt P f.type) := by rw [← Array.toList_map]
        simp [hs, e2]
      exact e1 _ hpl
    have hm' : ps.toList.map (fun x => ((fun i => (gs.map fun f => (f.offset, sizeAt P f.type))[i]?) x.1).map fun f => (f.1, f.2, x.2)) = qs.map some := by
      rw [← mapM_some hm]
      apply List.map_congr_left
      intro x hx
      rw [← hmap]
      simp only [Array.getElem?_map, List.getElem?_map, Array.getElem?_toList, Option.map_map]
      rfl
    obtain ⟨vs, hvs, hvc⟩ := hgo _ hm'
    refine fin vs hvc ?_
    have hzv : (zeroValue t).run P w = .ok z w := by simp [zeroValue, typeInfo, hjj, hjz]
    simp only [Instr.build, Sem.run_bind, hzv, Result.andThen_ok, run_und w hgs, hplaces, hvs, Sem.run_pure]
  · obtain ⟨jk, _, hjk, hjks, _⟩ := info_of hj
    have hund := (und_arr (P := P) (t := t) (n := n) (e := e) (by rw [← hu]; exact tyOk_of hi)).1
    obtain ⟨vs, hvs, hvc⟩ := hgo (fun i => some (i * j.size, j.size)) (by rw [hm]; simp)
    refine fin vs hvc ?_
    have hzv : (zeroValue t).run P w = .ok z w := by simp [zeroValue, typeInfo, hjj, hjz]
    simp only [Instr.build, Sem.run_bind, hzv, Result.andThen_ok, run_und w hund, run_size w hjk, hjks, hvs, Sem.run_pure]
end
end Go.Proofs.YtoemclhjcbcjaaaGreat.AB
