/- slices.Sort of whole numbers: the library's contract, said of a row of one's own. -/
import Derived.Test.YtbpfciidbgkekaaDoorAbFgRing
import Derived.Test.YtbpfciidbgkekaaDoorAbShelf
namespace Go.Proofs.YtbpfciidbgkekaaDoor.AB
open Go
set_option maxRecDepth 100000
set_option linter.unusedSimpArgs false
set_option linter.unusedVariables false
/-- a list in order -/
def sortI (L : List Int) : List Int := L.mergeSort fun x y => decide (x ≤ y)
theorem sortI_len (L : List Int) : (sortI L).length = L.length := by simp [sortI, List.length_mergeSort]
theorem putCells_at {d : Array Int} {c : Array Value} {j : Nat} (h : j < d.size) (hc : j < c.size) : (Sort.putCells (Value.int .i64) 0 d c)[j]? = some (.int .i64 d[j]!) := by
  simp only [Sort.putCells, Array.getElem?_mapIdx, Array.getElem?_eq_getElem hc, Option.map_some, Nat.zero_le, Nat.zero_add, true_and, if_pos h, Nat.sub_zero]
theorem frozen_behind {w : World} {g j : Nat} {cur : Array Value} {e : TypeId} {fz : Nat × Nat} (hg : w.heap[g]? = some (.cells cur e fz)) (hfz : fz = (0, 0) ∨ cur.size ≤ fz.1) (hj : j < cur.size) : w.frozen? ⟨g, j, none⟩ = false := by
  simp only [World.frozen?, hg, Bool.and_eq_false_iff, decide_eq_false_iff_not]
  rcases hfz with rfl | h
  · right; simp
  · left; omega
theorem calls_Sort {P : Program} {f : FuncId} (e : Nat) (L : List Int) (hL : L.length ≤ 1048576) {fn : Func} (hf : P.funcs[f]? = some fn) (hn : fn.name ≠ "runtime.NumGoroutine") (hb : fn.body.isNone = false)
    (hs : ∀ (blk cap : Nat) (w : World), Sort.Holds (Value.int .i64) w blk 0 L.toArray → blk < w.heap.size →
      Calls P f #[.slice (some ⟨blk, 0, none⟩) L.length cap] w fun e w' => e = .returned (.tuple #[]) ∧ ∃ n os, w' = Sort.grow (Sort.putRow (Value.int .i64) (Sort.ahead w n) blk 0 (sortI L).toArray) os)
    (h0 : ∀ (w : World), Calls P f #[.slice none 0 0] w fun e w' => e = .returned (.tuple #[]) ∧ w' = w) :
    MC P f [.own (.a 0)] [.row false e 1 (L.map intC)] (.tup []) [some (.row false e 1 ((sortI L).map intC))] [] := by
  intro w S B ν vs ok _ hl hv
  have hsz : vs.size = 1 := hl.symm
  obtain ⟨v, rfl⟩ : ∃ v, vs = #[v] := by
    refine ⟨vs[0], ?_⟩
    apply Array.ext
    · simpa using hsz
    · intro i h1 h2
      have : i = 0 := by omega
      subst this; rfl
  have hh : hA [Ob.row false e 1 (L.map intC)] (.a 0) = some (.row false e 1 (L.map intC)) := rfl
  have h1 := hv 0 (.own (.a 0)) v rfl rfl
  have hvν : v = ν (.a 0) := by cases h1; rfl
  subst hvν
  obtain ⟨_, _, us, hown, hc⟩ := ok.row _ _ _ _ _ hh
  rw [List.length_map] at hown
  have hus : us = L.map (Value.int .i64) := by
    have hlen := hown.1
    rw [Nat.mul_one] at hlen
    apply List.ext_getElem?
    intro n
    by_cases hn' : n < L.length
    · obtain ⟨u, hu, _, him⟩ := hc n (intC L[n]) 0 (cI L[n]) (by rw [List.getElem?_map, List.getElem?_eq_getElem hn']; rfl) rfl
      rw [Nat.mul_one, Nat.add_zero] at hu
      rw [hu, List.getElem?_map, List.getElem?_eq_getElem hn']
      cases him; rfl
    · rw [List.getElem?_eq_none (by omega), List.getElem?_eq_none (by simp; omega)]
  subst hus
  refine .inl ⟨run_enter hf hn hb, ?_⟩
  have hin : ∀ i o, hA [Ob.row false e 1 (L.map intC)] i = some o → i = .a 0 := by
    intro i o hi
    cases i with
    | a k => cases k with
      | zero => rfl
      | succ k => cases hi
    | s => cases hi
    | r => cases hi
  have hout : ∀ i o, hAR [some (Ob.row false e 1 ((sortI L).map intC))] [] i = some o → i = .a 0 ∧ o = .row false e 1 ((sortI L).map intC) := by
    intro i o hi
    cases i with
    | a k => cases k with
      | zero => exact ⟨rfl, (Option.some.inj hi).symm⟩
      | succ k => cases hi
    | s => cases hi
    | r => cases hi
  have fin : ∀ w' : World, Fr (blksOf (hA [Ob.row false e 1 (L.map intC)]) ν) w w' → World.ownsM w' 0 e 1 (ν (.a 0)) (sortI L).length ((sortI L).map (Value.int .i64)) →
      ∃ S' ν', MPost S B ν (hA [Ob.row false e 1 (L.map intC)]) w (hAR [some (Ob.row false e 1 ((sortI L).map intC))] []) (.tup []) S' ν' (.tuple #[]) w' := by
    intro w' hfr ho
    refine ⟨S, ν, hfr, fun b hb => hb, fun b hb => .inl hb, ⟨fun i cs hi => (by cases (hout i _ hi).2), fun i bor e' sz xs hi => ?_, fun i hi => (by cases (hout i _ hi).2), fun i j b hij hi hj hb => ?_, fun i b hi hb => ?_, fun b hb => Nat.lt_of_lt_of_le (ok.lt b hb) hfr.size⟩,
      fun i b hi hb => ?_, fun k hk => rfl, fun b hb => .inl hb, fun k hk => (by cases (hout _ _ hk).2), .tup (us := []) rfl (fun i x u hx => by simp at hx)⟩
    · obtain ⟨rfl, he⟩ := hout i _ hi
      obtain ⟨rfl, rfl, rfl, rfl⟩ := Ob.row.inj he
      refine ⟨by omega, fun r hr => ?_, _, by rw [List.length_map]; exact ho, fun n r o c hr hcc => ?_⟩
      · obtain ⟨x, _, rfl⟩ := List.mem_map.1 hr; rfl
      · rw [List.getElem?_map] at hr
        obtain ⟨x, hx, rfl⟩ := Option.map_eq_some_iff.1 hr
        cases o with
        | zero =>
          simp only [List.getElem?_cons_zero, Option.some.injEq] at hcc
          subst hcc
          exact ⟨.int .i64 x, by rw [Nat.mul_one, Nat.add_zero, List.getElem?_map, hx]; rfl, rfl, .v rfl⟩
        | succ o => simp at hcc
    · obtain ⟨o, ho'⟩ := Option.isSome_iff_exists.1 hi
      obtain ⟨o2, ho2⟩ := Option.isSome_iff_exists.1 hj
      exact absurd ((hout i _ ho').1.trans (hout j _ ho2).1.symm) hij
    · obtain ⟨o, ho'⟩ := Option.isSome_iff_exists.1 hi
      obtain ⟨rfl, _⟩ := hout i _ ho'
      exact ok.out (.a 0) b rfl hb
    · obtain ⟨o, ho'⟩ := Option.isSome_iff_exists.1 hi
      obtain ⟨rfl, _⟩ := hout i _ ho'
      exact .inr ⟨.a 0, rfl, hb⟩
  rcases hown.2 with ⟨hnil, hn0⟩ | ⟨g, cap, cur, hval, hbg, ⟨fz, hg, hfz⟩, hnc, hcm, hcs, htake⟩
  · have hL0 : L = [] := List.eq_nil_of_length_eq_zero hn0
    rw [hnil]
    refine (h0 w).mono ?_
    rintro e' w' ⟨rfl, rfl⟩
    refine ⟨_, rfl, ?_⟩
    have hs0 : sortI L = [] := List.eq_nil_of_length_eq_zero (by rw [sortI_len, hL0]; rfl)
    refine fin w' (Fr.refl _ _) ?_
    rw [hs0, hnil]
    exact ⟨rfl, .inl ⟨rfl, rfl⟩⟩
  · have hlt : g < w.heap.size := (Array.getElem?_eq_some_iff.1 hg).1
    rw [Nat.mul_one] at htake hcs
    have hH : Sort.Holds (Value.int .i64) w g 0 L.toArray := by
      intro j hj
      have hj' : j < L.length := by simpa using hj
      rw [Nat.zero_add]
      refine ⟨?_, frozen_behind hg hfz (by omega)⟩
      have h1 : (cur.toList.take L.length)[j]? = (L.map (Value.int .i64))[j]? := by rw [htake]
      rw [List.getElem?_take, if_pos hj', List.getElem?_map, List.getElem?_eq_getElem hj'] at h1
      rw [cell_of_row w g j cur e fz hg, ← Array.getElem?_toList, h1]
      simp [hj']
    rw [hval]
    refine (hs g cap w hH hlt).mono ?_
    rintro e' w' ⟨rfl, n, os, rfl⟩
    refine ⟨_, rfl, ?_⟩
    have hheap : ∀ b, b < w.heap.size → (Sort.grow (Sort.putRow (Value.int .i64) (Sort.ahead w n) g 0 (sortI L).toArray) os).heap[b]? = (w.heap.modify g (Sort.onCells (Sort.putCells (Value.int .i64) 0 (sortI L).toArray)))[b]? := by
      intro b hb
      show ((w.heap.modify g _) ++ os)[b]? = _
      rw [Array.getElem?_append_left (by simpa using hb)]
    refine fin _ ⟨rfl, rfl, rfl, by rw [Sort.size_grow, Sort.size_putRow]; exact Nat.le_add_right _ _, fun b hb hx => ?_⟩ ?_
    · rw [hheap b hb, Array.getElem?_modify, if_neg (fun q => hx ⟨.a 0, rfl, by rw [hval]; simp [fb, q]⟩)]
    · refine ⟨by simp, .inr ⟨g, cap, Sort.putCells (Value.int .i64) 0 (sortI L).toArray cur, by rw [sortI_len, hval], hbg, ⟨fz, ?_, hfz.imp id (fun h => by simpa [Sort.putCells] using h)⟩, by rw [sortI_len]; exact hnc, hcm, by simpa [Sort.putCells] using hcs, ?_⟩⟩
      · rw [hheap g hlt, Array.getElem?_modify, if_pos rfl, hg]; rfl
      · rw [Nat.mul_one]
        apply List.ext_getElem?
        intro j
        rw [List.getElem?_take]
        by_cases hj : j < (sortI L).length
        · rw [if_pos hj, Array.getElem?_toList, putCells_at (by simpa using hj) (by rw [sortI_len] at hj; omega), List.getElem?_map, List.getElem?_eq_getElem hj]
          simp [hj]
        · rw [if_neg hj, List.getElem?_eq_none (by simpa using hj)]
end Go.Proofs.YtbpfciidbgkekaaDoor.AB
