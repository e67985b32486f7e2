/- slices.Clip and slices.Compact of whole numbers: the row goes over to what is handed back. -/
import Derived.Test.YtbpfciidbgkekaaAbGtSort
import Derived.Test.YtbpfciidbgkekaaAbShelfC
import Derived.WalkKit
namespace Go.Proofs.Ytbpfciidbgkekaa.AB
open Go
set_option maxRecDepth 100000
set_option linter.unusedSimpArgs false
set_option linter.unusedVariables false
theorem mc_moved {P : Program} {f : FuncId} (e : Nat) (L M : List Int) {fn : Func} (hf : P.funcs[f]? = some fn) (hn : fn.name ≠ "runtime.NumGoroutine") (hb : fn.body.isNone = false)
    (hs : ∀ (g cap : Nat) (cur : Array Value) (fz : Nat × Nat) (w : World), w.heap[g]? = some (.cells cur e fz) → (fz = (0, 0) ∨ cur.size ≤ fz.1) → L.length ≤ cap → cap ≤ maxLen → cap ≤ cur.size → cur.toList.take L.length = L.map (Value.int .i64) →
      Calls P f #[.slice (some ⟨g, 0, none⟩) L.length cap] w fun e' w' => ∃ cap' cur', e' = .returned (.slice (some ⟨g, 0, none⟩) M.length cap') ∧ Fr (fun b => b = g) w w' ∧ w'.heap[g]? = some (.cells cur' e fz) ∧ cur'.size = cur.size ∧ M.length ≤ cap' ∧ cap' ≤ cap ∧ cur'.toList.take M.length = M.map (Value.int .i64))
    (h0 : L = [] → M = [] ∧ ∀ w, Calls P f #[.slice none 0 0] w fun e w' => e = .returned (.slice none 0 0) ∧ w' = w) :
    MC P f [.own (.a 0)] [.row false e 1 (L.map intC)] (.own (.r 0)) [none] [.row false e 1 (M.map intC)] := by
  intro w S B ν vs ok hl hv
  have hsz : vs.size = 1 := hl.symm
  obtain ⟨v, rfl⟩ : ∃ v, vs = #[v] := by
    refine ⟨vs[0], ?_⟩
    apply Array.ext
    · simpa using hsz
    · intro i h1 h2
      have : i = 0 := by omega
      subst this; rfl
  have hh : hA [Ob.row false e 1 (L.map intC)] (.a 0) = some (.row false e 1 (L.map intC)) := rfl
  have h1 := hv 0 (.own (.a 0)) v rfl rfl
  have hvν : v = ν (.a 0) := by cases h1; rfl
  subst hvν
  obtain ⟨_, _, us, hown, hc⟩ := ok.row _ _ _ _ _ hh
  rw [List.length_map] at hown
  have hus : us = L.map (Value.int .i64) := by
    have hlen := hown.1
    rw [Nat.mul_one] at hlen
    apply List.ext_getElem?
    intro n
    by_cases hn' : n < L.length
    · obtain ⟨u, hu, _, him⟩ := hc n (intC L[n]) 0 (cI L[n]) (by rw [List.getElem?_map, List.getElem?_eq_getElem hn']; rfl) rfl
      rw [Nat.mul_one, Nat.add_zero] at hu
      rw [hu, List.getElem?_map, List.getElem?_eq_getElem hn']
      cases him; rfl
    · rw [List.getElem?_eq_none (by omega), List.getElem?_eq_none (by simp; omega)]
  subst hus
  refine .inl ⟨run_enter hf hn hb, ?_⟩
  have hout : ∀ i o, hAR [none] [Ob.row false e 1 (M.map intC)] i = some o → i = .r 0 ∧ o = .row false e 1 (M.map intC) := by
    intro i o hi
    cases i with
    | a k => cases k <;> cases hi
    | s => cases hi
    | r k => cases k with
      | zero => exact ⟨rfl, (Option.some.inj hi).symm⟩
      | succ k => cases hi
  have fin : ∀ (w' : World) (u : Value), Fr (blksOf (hA [Ob.row false e 1 (L.map intC)]) ν) w w' → World.ownsM w' 0 e 1 u M.length (M.map (Value.int .i64)) → (∀ b, fb u b → fb (ν (.a 0)) b) →
      ∃ S' ν', MPost S B ν (hA [Ob.row false e 1 (L.map intC)]) w (hAR [none] [Ob.row false e 1 (M.map intC)]) (.own (.r 0)) S' ν' u w' := by
    intro w' u hfr ho hfb
    let ν' : Id → Value := hupd ν (.r 0) u
    have hν : ν' (.r 0) = u := hupd_same _ _ _
    refine ⟨S, ν', hfr, fun b hb => hb, fun b hb => .inl hb, ⟨fun i cs hi => (by cases (hout i _ hi).2), fun i bor e' sz xs hi => ?_, fun i hi => (by cases (hout i _ hi).2), fun i j b hij hi hj hb => ?_, fun i b hi hb => ?_, fun b hb => Nat.lt_of_lt_of_le (ok.lt b hb) hfr.size⟩,
      fun i b hi hb => ?_, fun k hk => ?_, fun b hb => .inl hb, fun k hk => (by cases (hout _ _ hk).2), ?_⟩
    · obtain ⟨rfl, he⟩ := hout i _ hi
      obtain ⟨rfl, rfl, rfl, rfl⟩ := Ob.row.inj he
      refine ⟨by omega, fun r hr => ?_, _, by rw [List.length_map, hν]; exact ho, fun n r o c hr hcc => ?_⟩
      · obtain ⟨x, _, rfl⟩ := List.mem_map.1 hr; rfl
      · rw [List.getElem?_map] at hr
        obtain ⟨x, hx, rfl⟩ := Option.map_eq_some_iff.1 hr
        cases o with
        | zero =>
          simp only [List.getElem?_cons_zero, Option.some.injEq] at hcc
          subst hcc
          exact ⟨.int .i64 x, by rw [Nat.mul_one, Nat.add_zero, List.getElem?_map, hx]; rfl, rfl, .v rfl⟩
        | succ o => simp at hcc
    · obtain ⟨o, ho'⟩ := Option.isSome_iff_exists.1 hi
      obtain ⟨o2, ho2⟩ := Option.isSome_iff_exists.1 hj
      exact absurd ((hout i _ ho').1.trans (hout j _ ho2).1.symm) hij
    · obtain ⟨o, ho'⟩ := Option.isSome_iff_exists.1 hi
      obtain ⟨rfl, _⟩ := hout i _ ho'
      rw [hν] at hb
      exact ok.out (.a 0) b rfl (hfb b hb)
    · obtain ⟨o, ho'⟩ := Option.isSome_iff_exists.1 hi
      obtain ⟨rfl, _⟩ := hout i _ ho'
      rw [hν] at hb
      exact .inr ⟨.a 0, rfl, hfb b hb⟩
    · obtain ⟨o, ho'⟩ := Option.isSome_iff_exists.1 hk
      cases (hout _ _ ho').1
    · have := VR.own (S := S) (B := B) (ν := ν') (w := w') (i := .r 0) (show hAR [none] [Ob.row false e 1 (M.map intC)] (.r 0) = some (.row false e 1 (M.map intC)) from rfl)
      rwa [hν] at this
  rcases hown.2 with ⟨hnil, hn0⟩ | ⟨g, cap, cur, hval, hbg, ⟨fz, hg, hfz⟩, hnc, hcm, hcs, htake⟩
  · have hL0 : L = [] := List.eq_nil_of_length_eq_zero hn0
    obtain ⟨hM0, h0⟩ := h0 hL0
    rw [hnil]
    refine (h0 w).mono ?_
    rintro e' w' ⟨rfl, rfl⟩
    refine ⟨_, rfl, fin w' _ (Fr.refl _ _) ?_ (fun b hb => hb.elim)⟩
    subst hM0
    exact ⟨rfl, .inl ⟨rfl, rfl⟩⟩
  · rw [Nat.mul_one] at htake hcs
    rw [hval]
    refine (hs g cap cur fz w hg hfz hnc hcm hcs htake).mono ?_
    rintro e' w' ⟨cap', cur', rfl, hfr, hg', hsz', hm1, hm2, htk⟩
    refine ⟨_, rfl, fin w' _ ⟨hfr.os, hfr.tape, hfr.output, hfr.size, fun b hb hx => hfr.keep b hb (fun q => hx ⟨.a 0, rfl, by rw [hval]; exact q.symm⟩)⟩ ⟨by simp, .inr ⟨g, cap', cur', rfl, hbg, ⟨fz, hg', by rw [hsz']; exact hfz⟩, hm1, by omega, by omega, by rw [Nat.mul_one]; exact htk⟩⟩ (fun b hb => by rw [hval]; exact hb)⟩
theorem mc_Clip (L : List Int) : MC Try.prog 108 [.own (.a 0)] [.row false 3 1 (L.map intC)] (.own (.r 0)) [none] [.row false 3 1 (L.map intC)] := by
  refine mc_moved _ L L Try.func108 (by decide +kernel) (by kernel_rfl) (fun g cap cur fz w hg hfz h1 h2 h3 h4 => ?_) (fun h => ⟨h, fun w => ?_⟩)
  · go_enter Try.func108, Try.ntmps108
    go_wp2
    go_ret
    exact ⟨_, cur, rfl, Fr.refl _ _, hg, rfl, Nat.le_refl _, h1, h4⟩
  · go_enter Try.func108, Try.ntmps108
    go_wp2
    go_ret
    exact ⟨rfl, rfl⟩
theorem mc_Compact (L : List Int) (hL : L.length ≤ 1048576) : MC Try.prog 134 [.own (.a 0)] [.row false 3 1 (L.map intC)] (.own (.r 0)) [none] [.row false 3 1 ((Lib.compact L).map intC)] := by
  have hcl : (Lib.compact L).length ≤ L.length := by
    simp only [Lib.compact, Lib.compactUpTo, List.length_map]
    exact Nat.le_trans (List.length_filter_le _ _) (by simp)
  refine mc_moved _ L (Lib.compact L) Try.func134 (by decide +kernel) (by kernel_rfl) (fun g cap cur fz w hg hfz h1 h2 h3 h4 => ?_) (fun h => ⟨by subst h; rfl, fun w => Try.slices_Compact_int_empty none 0 w⟩)
  have hlt : g < w.heap.size := (Array.getElem?_eq_some_iff.1 hg).1
  have hH : Sort.Holds (Value.int .i64) w g 0 L.toArray := by
    intro j hj
    have hj' : j < L.length := by simpa using hj
    rw [Nat.zero_add]
    refine ⟨?_, frozen_behind hg hfz (by omega)⟩
    have h5 : (cur.toList.take L.length)[j]? = (L.map (Value.int .i64))[j]? := by rw [h4]
    rw [List.getElem?_take, if_pos hj', List.getElem?_map, List.getElem?_eq_getElem hj'] at h5
    rw [cell_of_row w g j cur _ fz hg, ← Array.getElem?_toList, h5]
    simp [hj']
  refine (Try.slices_Compact_int g 0 cap L w hH (by omega) h1).mono ?_
  rintro e' w' ⟨rfl, q, rfl⟩
  generalize hD : (Lib.compact L ++ List.replicate (L.length - (Lib.compact L).length) 0).toArray = D
  have hDs : D.size = L.length := by rw [← hD]; simp; omega
  refine ⟨cap, Sort.putCells (Value.int .i64) 0 D cur, rfl, ⟨rfl, rfl, rfl, by rw [Sort.size_putRow]; exact Nat.le_refl _, fun b hb hx => ?_⟩, ?_, by simp [Sort.putCells], by omega, Nat.le_refl _, ?_⟩
  · show (w.heap.modify g _)[b]? = _
    rw [Array.getElem?_modify, if_neg (fun q => hx q.symm)]
  · show (w.heap.modify g _)[g]? = _
    rw [Array.getElem?_modify, if_pos rfl, hg]; rfl
  · apply List.ext_getElem?
    intro j
    rw [List.getElem?_take, List.getElem?_map]
    by_cases hj : j < (Lib.compact L).length
    · rw [if_pos hj, Array.getElem?_toList, putCells_at (by omega) (by omega), List.getElem?_eq_getElem hj, ← hD]
      simp [hj, List.getElem?_append, getElem!_def]
    · rw [if_neg hj, List.getElem?_eq_none (by omega)]; rfl
theorem Xd {P : Program} {st : St} {K : St → Prop} {l : List GOp} {n : Nat} {f : FuncId} {args : List AV} {hin : List Ob} {i : Id} {res : AV} {o : Ob} (h : MC P f args hin res [none] [o])
    (k : semL P l ⟨upd (fun q => (st.t q).on (kilM [i] [none])) n (res.on (bkM [i] n)), hM st.h [i] n [none] [o]⟩ K)
    (hc : res.clean = true ∧ o.clean = true := by exact ⟨rfl, rfl⟩) (hf : st.h (.s n 0) = none := by simp only [go_sem, optI, Option.getD_some, Option.getD_none, Int.reduceToNat, reduceIte, Nat.reduceEqDiff, Nat.reduceAdd, Nat.reduceMul, Nat.reduceSub, Nat.reduceLT, Nat.reduceLeDiff, reduceCtorEq]) : CallMK P f args hin [i] l K st (some n) :=
  L_callm1 h ⟨hc.1, by simp [hc.2], by simp, by simp⟩ (fun q hq => by simp at hq; subst hq; exact hf) k
theorem kin_ptr (i j : Id) (k : Nat) : kilM [i] [none] (.ptr j k) = if j = i then .dead else .ptr j k := by
  by_cases h : j = i <;> simp [kilM, pos, h]
theorem kin_own (i j : Id) : kilM [i] [none] (.own j) = if j = i then .dead else .own j := by
  by_cases h : j = i <;> simp [kilM, pos, h]
theorem kin_vw (i j : Id) (lo n : Nat) : kilM [i] [none] (.vw j lo n) = if j = i then .dead else .vw j lo n := by
  by_cases h : j = i <;> simp [kilM, pos, h]
theorem kin_ept (i j : Id) (lo n : Nat) : kilM [i] [none] (.ept j lo n) = if j = i then .dead else .ept j lo n := by
  by_cases h : j = i <;> simp [kilM, pos, h]
theorem hM_2 (h : Hp) (i : Id) (d : Nat) (o : Ob) (j : Id) : hM h [i] d [none] [o] j = if j = i then none else if j = .s d 0 then some (Ob.on (bkM [i] d) o) else (h j).map (Ob.on (kilM [i] [none])) := by
  by_cases e : j = i
  · simp [hM, org, pos, e, hAR]
  · cases j with
    | s d' q =>
      by_cases e2 : d' = d ∧ q = 0
      · obtain ⟨rfl, rfl⟩ := e2
        simp [hM, org, pos, e, hAR]
      · have : ¬ (d' = d ∧ q < 1) := fun h => e2 ⟨h.1, by omega⟩
        simp [hM, org, pos, e, this, e2]
    | a q => simp [hM, org, pos, e]
    | r q => simp [hM, org, pos, e]
attribute [go_sem] kin_ptr kin_own kin_vw kin_ept hM_2
end Go.Proofs.Ytbpfciidbgkekaa.AB
