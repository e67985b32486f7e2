/- Rings shown: who is there, in order (slices.Sort's contract, laid), both functions, and the law of rings. -/
import Derived.Ground.SlgmProg
import Derived.Shelf.SortM.Plain
import Derived.Shelf.SortM.SortNone
import Derived.Test.YtkcnljgjlofgiaaGreatDoorProg
import Derived.Test.YtkcnljgjlofgiaaGreatDoorAbFgRing
import Derived.Test.YtkcnljgjlofgiaaGreatDoorAbFvIdx
import Derived.Test.YtkcnljgjlofgiaaGreatDoorAbFrItems
import Derived.Test.YtkcnljgjlofgiaaGreatDoorAbDaDec
import Derived.Test.YtkcnljgjlofgiaaGreatDoorAbFsHas
namespace Go.Proofs
open Go.Shelf
def Tryz.laysSlM5_f63_ren : Go.Shelf.Ren := ⟨fun | 5 => 63 | 8 => 84 | 7 => 83 | 19 => 105 | 20 => 106 | 10 => 96 | 11 => 97 | 12 => 98 | 13 => 99 | 14 => 100 | 15 => 101 | 16 => 102 | 17 => 103 | 18 => 104 | 30 => 111 | 31 => 112 | 32 => 113 | 33 => 114 | 34 => 115 | 35 => 116 | 40 => 124 | n => n, fun | 23 => 25 | 25 => 3 | 3 => 3 | 32 => 140 | 22 => 25 | 0 => 0 | 44 => 166 | 46 => 168 | 4 => 4 | 36 => 158 | 35 => 157 | 41 => 163 | 5 => 5 | 9 => 9 | 53 => 173 | 57 => 177 | 63 => 189 | 64 => 190 | n => n, fun | n => n⟩
theorem Tryz.laysSlM5_f63 : Go.Proofs.SlLaysM.n5 Tryz.prog Tryz.laysSlM5_f63_ren := {
  mixed := by kernel_rfl
  f5 := ⟨Tryz.f63.name, by decide, Tryz.func63.trans (congrArg some (by kernel_rfl))⟩
  f7 := ⟨Tryz.f83.name, by decide, Tryz.func83.trans (congrArg some (by kernel_rfl))⟩
  f8 := Tryz.func84.trans (congrArg some (by kernel_rfl))
  f10 := ⟨Tryz.f96.name, by decide, Tryz.func96.trans (congrArg some (by kernel_rfl))⟩
  f11 := ⟨Tryz.f97.name, by decide, Tryz.func97.trans (congrArg some (by kernel_rfl))⟩
  f12 := ⟨Tryz.f98.name, by decide, Tryz.func98.trans (congrArg some (by kernel_rfl))⟩
  f13 := ⟨Tryz.f99.name, by decide, Tryz.func99.trans (congrArg some (by kernel_rfl))⟩
  f14 := ⟨Tryz.f100.name, by decide, Tryz.func100.trans (congrArg some (by kernel_rfl))⟩
  f15 := ⟨Tryz.f101.name, by decide, Tryz.func101.trans (congrArg some (by kernel_rfl))⟩
  f16 := ⟨Tryz.f102.name, by decide, Tryz.func102.trans (congrArg some (by kernel_rfl))⟩
  f17 := ⟨Tryz.f103.name, by decide, Tryz.func103.trans (congrArg some (by kernel_rfl))⟩
  f18 := ⟨Tryz.f104.name, by decide, Tryz.func104.trans (congrArg some (by kernel_rfl))⟩
  f19 := Tryz.func105.trans (congrArg some (by kernel_rfl))
  f20 := Tryz.func106.trans (congrArg some (by kernel_rfl))
  f30 := ⟨Tryz.f111.name, by decide, Tryz.func111.trans (congrArg some (by kernel_rfl))⟩
  f31 := Tryz.func112.trans (congrArg some (by kernel_rfl))
  f32 := Tryz.func113.trans (congrArg some (by kernel_rfl))
  f33 := ⟨Tryz.f114.name, by decide, Tryz.func114.trans (congrArg some (by kernel_rfl))⟩
  f34 := ⟨Tryz.f115.name, by decide, Tryz.func115.trans (congrArg some (by kernel_rfl))⟩
  f35 := ⟨Tryz.f116.name, by decide, Tryz.func116.trans (congrArg some (by kernel_rfl))⟩
  f40 := ⟨Tryz.f124.name, by decide, Tryz.func124.trans (congrArg some (by kernel_rfl))⟩
  t0 := Tryz.underlying0
  a0 := Tryz.isAgg0
  z0 := Tryz.sizeOf0
  v0 := Tryz.zeroValue0
  t3 := Tryz.underlying3
  a3 := Tryz.isAgg3
  z3 := Tryz.sizeOf3
  v3 := Tryz.zeroValue3
  t4 := Tryz.underlying4
  a4 := Tryz.isAgg4
  z4 := Tryz.sizeOf4
  v4 := Tryz.zeroValue4
  t5 := Tryz.underlying5
  a5 := Tryz.isAgg5
  z5 := Tryz.sizeOf5
  v5 := Tryz.zeroValue5
  t9 := Tryz.underlying9
  a9 := Tryz.isAgg9
  z9 := Tryz.sizeOf9
  v9 := Tryz.zeroValue9
  t22 := Tryz.underlying25
  a22 := Tryz.isAgg25
  z22 := Tryz.sizeOf25
  v22 := Tryz.zeroValue25
  t23 := Tryz.underlying25
  a23 := Tryz.isAgg25
  z23 := Tryz.sizeOf25
  v23 := Tryz.zeroValue25
  t25 := Tryz.underlying3
  a25 := Tryz.isAgg3
  z25 := Tryz.sizeOf3
  v25 := Tryz.zeroValue3
  t32 := Tryz.underlying140
  a32 := Tryz.isAgg140
  z32 := Tryz.sizeOf140
  v32 := Tryz.zeroValue140
  t35 := Tryz.underlying157
  a35 := Tryz.isAgg157
  z35 := Tryz.sizeOf157
  v35 := Tryz.zeroValue157
  t36 := Tryz.underlying158
  a36 := Tryz.isAgg158
  z36 := Tryz.sizeOf158
  v36 := Tryz.zeroValue158
  t41 := Tryz.underlying163
  a41 := Tryz.isAgg163
  z41 := Tryz.sizeOf163
  v41 := Tryz.zeroValue163
  t44 := Tryz.underlying166
  a44 := Tryz.isAgg166
  z44 := Tryz.sizeOf166
  v44 := Tryz.zeroValue166
  t46 := Tryz.underlying168
  a46 := Tryz.isAgg168
  z46 := Tryz.sizeOf168
  v46 := Tryz.zeroValue168
  t53 := Tryz.underlying173
  a53 := Tryz.isAgg173
  z53 := Tryz.sizeOf173
  v53 := Tryz.zeroValue173
  t57 := Tryz.underlying177
  a57 := Tryz.isAgg177
  z57 := Tryz.sizeOf177
  v57 := Tryz.zeroValue177
  t63 := Tryz.underlying189
  a63 := Tryz.isAgg189
  z63 := Tryz.sizeOf189
  v63 := Tryz.zeroValue189
  t64 := Tryz.underlying190
  a64 := Tryz.isAgg190
  z64 := Tryz.sizeOf190
  v64 := Tryz.zeroValue190 }
open Go.Sort Go.RowKit in
theorem Tryz.slices_Sort_int (blk off cap : Nat) (zs : List Int) (w : World) (hH : Holds (Value.int .i64) w blk off zs.toArray) (hblk : blk < w.heap.size) (hsz : zs.length < 4611686018427387904) :
    Calls Tryz.prog 63 #[.slice (some ⟨blk, off, none⟩) zs.length cap] w fun e w' =>
      e = .returned (.tuple #[]) ∧ ∃ n os, w' = grow (putRow (Value.int .i64) (Sort.ahead w n) blk off (zs.mergeSort fun x y => decide (x ≤ y)).toArray) os := AnyM.slices_Sort_int Tryz.laysSlM5_f63 blk off cap zs w hH hblk hsz
open Go.RowKit Go.Sort in
theorem Tryz.slices_Sort_int_none (p : Option Addr) (cap : Nat) (w : World) :
    Calls Tryz.prog 63 #[.slice p 0 cap] w fun e w' => e = .returned (.tuple #[]) ∧ w' = w := AnyM.slices_Sort_int_none Tryz.laysSlM5_f63 p cap w
end Go.Proofs
namespace Go.Proofs.YtkcnljgjlofgiaaGreatDoor.AB
open Go
set_option maxRecDepth 100000
set_option linter.unusedSimpArgs false
set_option linter.unusedVariables false
/-- a list in order -/
def sortI (L : List Int) : List Int := L.mergeSort fun x y => decide (x ≤ y)
theorem sortI_len (L : List Int) : (sortI L).length = L.length := by simp [sortI, List.length_mergeSort]
theorem putCells_at {d : Array Int} {c : Array Value} {j : Nat} (h : j < d.size) (hc : j < c.size) : (Sort.putCells (Value.int .i64) 0 d c)[j]? = some (.int .i64 d[j]!) := by
  simp only [Sort.putCells, Array.getElem?_mapIdx, Array.getElem?_eq_getElem hc, Option.map_some, Nat.zero_le, Nat.zero_add, true_and, if_pos h, Nat.sub_zero]
theorem frozen_behind {w : World} {g j : Nat} {cur : Array Value} {e : TypeId} {fz : Nat × Nat} (hg : w.heap[g]? = some (.cells cur e fz)) (hfz : fz = (0, 0) ∨ cur.size ≤ fz.1) (hj : j < cur.size) : w.frozen? ⟨g, j, none⟩ = false := by
  simp only [World.frozen?, hg, Bool.and_eq_false_iff, decide_eq_false_iff_not]
  rcases hfz with rfl | h
  · right; simp
  · left; omega
theorem calls_Sort {P : Program} {f : FuncId} (e : Nat) (L : List Int) (hL : L.length ≤ 1048576) {fn : Func} (hf : P.funcs[f]? = some fn) (hn : fn.name ≠ "runtime.NumGoroutine") (hb : fn.body.isNone = false)
    (hs : ∀ (blk cap : Nat) (w : World), Sort.Holds (Value.int .i64) w blk 0 L.toArray → blk < w.heap.size →
      Calls P f #[.slice (some ⟨blk, 0, none⟩) L.length cap] w fun e w' => e = .returned (.tuple #[]) ∧ ∃ n os, w' = Sort.grow (Sort.putRow (Value.int .i64) (Sort.ahead w n) blk 0 (sortI L).toArray) os)
    (h0 : ∀ (w : World), Calls P f #[.slice none 0 0] w fun e w' => e = .returned (.tuple #[]) ∧ w' = w) :
    MC P f [.own (.a 0)] [.row false e 1 (L.map intC)] (.tup []) [some (.row false e 1 ((sortI L).map intC))] [] := by
  intro w S B ν vs ok _ hl hv
  have hsz : vs.size = 1 := hl.symm
  obtain ⟨v, rfl⟩ : ∃ v, vs = #[v] := by
    refine ⟨vs[0], ?_⟩
    apply Array.ext
    · simpa using hsz
    · intro i h1 h2
      have : i = 0 := by omega
      subst this; rfl
  have hh : hA [Ob.row false e 1 (L.map intC)] (.a 0) = some (.row false e 1 (L.map intC)) := rfl
  have h1 := hv 0 (.own (.a 0)) v rfl rfl
  have hvν : v = ν (.a 0) := by cases h1; rfl
  subst hvν
  obtain ⟨_, _, us, hown, hc⟩ := ok.row _ _ _ _ _ hh
  rw [List.length_map] at hown
  have hus : us = L.map (Value.int .i64) := by
    have hlen := hown.1
    rw [Nat.mul_one] at hlen
    apply List.ext_getElem?
    intro n
    by_cases hn' : n < L.length
    · obtain ⟨u, hu, _, him⟩ := hc n (intC L[n]) 0 (cI L[n]) (by rw [List.getElem?_map, List.getElem?_eq_getElem hn']; rfl) rfl
      rw [Nat.mul_one, Nat.add_zero] at hu
      rw [hu, List.getElem?_map, List.getElem?_eq_getElem hn']
      cases him; rfl
    · rw [List.getElem?_eq_none (by omega), List.getElem?_eq_none (by simp; omega)]
  subst hus
  refine .inl ⟨run_enter hf hn hb, ?_⟩
  have hin : ∀ i o, hA [Ob.row false e 1 (L.map intC)] i = some o → i = .a 0 := by
    intro i o hi
    cases i with
    | a k => cases k with
      | zero => rfl
      | succ k => cases hi
    | s => cases hi
    | r => cases hi
  have hout : ∀ i o, hAR [some (Ob.row false e 1 ((sortI L).map intC))] [] i = some o → i = .a 0 ∧ o = .row false e 1 ((sortI L).map intC) := by
    intro i o hi
    cases i with
    | a k => cases k with
      | zero => exact ⟨rfl, (Option.some.inj hi).symm⟩
      | succ k => cases hi
    | s => cases hi
    | r => cases hi
  have fin : ∀ w' : World, Fr (blksOf (hA [Ob.row false e 1 (L.map intC)]) ν) w w' → World.ownsM w' 0 e 1 (ν (.a 0)) (sortI L).length ((sortI L).map (Value.int .i64)) →
      ∃ S' ν', MPost S B ν (hA [Ob.row false e 1 (L.map intC)]) w (hAR [some (Ob.row false e 1 ((sortI L).map intC))] []) (.tup []) S' ν' (.tuple #[]) w' := by
    intro w' hfr ho
    refine ⟨S, ν, hfr, fun b hb => hb, fun b hb => .inl hb, ⟨fun i cs hi => (by cases (hout i _ hi).2), fun i bor e' sz xs hi => ?_, fun i hi => (by cases (hout i _ hi).2), fun i j b hij hi hj hb => ?_, fun i b hi hb => ?_, fun b hb => Nat.lt_of_lt_of_le (ok.lt b hb) hfr.size⟩,
      fun i b hi hb => ?_, fun k hk => rfl, fun b hb => .inl hb, fun k hk => (by cases (hout _ _ hk).2), .tup (us := []) rfl (fun i x u hx => by simp at hx)⟩
    · obtain ⟨rfl, he⟩ := hout i _ hi
      obtain ⟨rfl, rfl, rfl, rfl⟩ := Ob.row.inj he
      refine ⟨by omega, fun r hr => ?_, _, by rw [List.length_map]; exact ho, fun n r o c hr hcc => ?_⟩
      · obtain ⟨x, _, rfl⟩ := List.mem_map.1 hr; rfl
      · rw [List.getElem?_map] at hr
        obtain ⟨x, hx, rfl⟩ := Option.map_eq_some_iff.1 hr
        cases o with
        | zero =>
          simp only [List.getElem?_cons_zero, Option.some.injEq] at hcc
          subst hcc
          exact ⟨.int .i64 x, by rw [Nat.mul_one, Nat.add_zero, List.getElem?_map, hx]; rfl, rfl, .v rfl⟩
        | succ o => simp at hcc
    · obtain ⟨o, ho'⟩ := Option.isSome_iff_exists.1 hi
      obtain ⟨o2, ho2⟩ := Option.isSome_iff_exists.1 hj
      exact absurd ((hout i _ ho').1.trans (hout j _ ho2).1.symm) hij
    · obtain ⟨o, ho'⟩ := Option.isSome_iff_exists.1 hi
      obtain ⟨rfl, _⟩ := hout i _ ho'
      exact ok.out (.a 0) b rfl hb
    · obtain ⟨o, ho'⟩ := Option.isSome_iff_exists.1 hi
      obtain ⟨rfl, _⟩ := hout i _ ho'
      exact .inr ⟨.a 0, rfl, hb⟩
  rcases hown.2 with ⟨hnil, hn0⟩ | ⟨g, cap, cur, hval, hbg, ⟨fz, hg, hfz⟩, hnc, hcm, hcs, htake⟩
  · have hL0 : L = [] := List.eq_nil_of_length_eq_zero hn0
    rw [hnil]
    refine (h0 w).mono ?_
    rintro e' w' ⟨rfl, rfl⟩
    refine ⟨_, rfl, ?_⟩
    have hs0 : sortI L = [] := List.eq_nil_of_length_eq_zero (by rw [sortI_len, hL0]; rfl)
    refine fin w' (Fr.refl _ _) ?_
    rw [hs0, hnil]
    exact ⟨rfl, .inl ⟨rfl, rfl⟩⟩
  · have hlt : g < w.heap.size := (Array.getElem?_eq_some_iff.1 hg).1
    rw [Nat.mul_one] at htake hcs
    have hH : Sort.Holds (Value.int .i64) w g 0 L.toArray := by
      intro j hj
      have hj' : j < L.length := by simpa using hj
      rw [Nat.zero_add]
      refine ⟨?_, frozen_behind hg hfz (by omega)⟩
      have h1 : (cur.toList.take L.length)[j]? = (L.map (Value.int .i64))[j]? := by rw [htake]
      rw [List.getElem?_take, if_pos hj', List.getElem?_map, List.getElem?_eq_getElem hj'] at h1
      rw [cell_of_row w g j cur e fz hg, ← Array.getElem?_toList, h1]
      simp [hj']
    rw [hval]
    refine (hs g cap w hH hlt).mono ?_
    rintro e' w' ⟨rfl, n, os, rfl⟩
    refine ⟨_, rfl, ?_⟩
    have hheap : ∀ b, b < w.heap.size → (Sort.grow (Sort.putRow (Value.int .i64) (Sort.ahead w n) g 0 (sortI L).toArray) os).heap[b]? = (w.heap.modify g (Sort.onCells (Sort.putCells (Value.int .i64) 0 (sortI L).toArray)))[b]? := by
      intro b hb
      show ((w.heap.modify g _) ++ os)[b]? = _
      rw [Array.getElem?_append_left (by simpa using hb)]
    refine fin _ ⟨rfl, rfl, rfl, by rw [Sort.size_grow, Sort.size_putRow]; exact Nat.le_add_right _ _, fun b hb hx => ?_⟩ ?_
    · rw [hheap b hb, Array.getElem?_modify, if_neg (fun q => hx ⟨.a 0, rfl, by rw [hval]; simp [fb, q]⟩)]
    · refine ⟨by simp, .inr ⟨g, cap, Sort.putCells (Value.int .i64) 0 (sortI L).toArray cur, by rw [sortI_len, hval], hbg, ⟨fz, ?_, hfz.imp id (fun h => by simpa [Sort.putCells] using h)⟩, by rw [sortI_len]; exact hnc, hcm, by simpa [Sort.putCells] using hcs, ?_⟩⟩
      · rw [hheap g hlt, Array.getElem?_modify, if_pos rfl, hg]; rfl
      · rw [Nat.mul_one]
        apply List.ext_getElem?
        intro j
        rw [List.getElem?_take]
        by_cases hj : j < (sortI L).length
        · rw [if_pos hj, Array.getElem?_toList, putCells_at (by simpa using hj) (by rw [sortI_len] at hj; omega), List.getElem?_map, List.getElem?_eq_getElem hj]
          simp [hj]
        · rw [if_neg hj, List.getElem?_eq_none (by simpa using hj)]
end Go.Proofs.YtkcnljgjlofgiaaGreatDoor.AB
namespace Go.Proofs.YtkcnljgjlofgiaaGreatDoor.AB
open Go
set_option maxRecDepth 100000
set_option linter.unusedSimpArgs false
set_option linter.unusedVariables false
def hereB (n : Int) (p : Peer) : Bool := p.here && decide (p.id = n)
def known (L : List Peer) (n : Int) : Bool := L.any (hereB n)
theorem idx_spec {α : Type} (g : α → Bool) : ∀ (L : List α) (k : Nat), (idx g L k = -1 ∧ L.find? g = none) ∨ ∃ i, ∃ h : i < L.length, idx g L k = ((k + i : Nat) : Int) ∧ L.find? g = some L[i] ∧ g L[i] = true
  | [], k => .inl ⟨rfl, rfl⟩
  | x :: r, k => by
    by_cases h : g x = true
    · right
      exact ⟨0, by simp, by simp [idx, h], by simp [List.find?_cons, h], by simpa using h⟩
    · have h' : g x = false := by simpa using h
      rcases idx_spec g r (k + 1) with ⟨h1, h2⟩ | ⟨i, hi, h1, h2, h3⟩
      · left; exact ⟨by rw [idx, if_neg h, h1], by simp [List.find?_cons, h', h2]⟩
      · right
        exact ⟨i + 1, by simpa using hi, by rw [idx, if_neg h, h1]; congr 1; omega, by simp [List.find?_cons, h', h2], by simpa using h3⟩
theorem ac_peerHere1 (p : Peer) (n : Int) : AC Tryz.prog 65 [encPeer true p, .ip true [cI n]] (vB (hereB n p)) [] := by
  refine XA good (fn := Tryz.f65) rfl ?_
  simp only [entry, List.getD_cons_zero, List.getD_cons_succ]
  repeat' first | refine SW.step good fun K hK => ?_ | refine X2 good fun K hK => ?_ | refine X3 good fun K hK => ?_ | refine SW.seqK fun J hJ => ?_ | refine SW.last good fun K hK => ?_ | (refine hK _ ?_; clear hK K) | (refine hJ _ _ (Wk.refl _) ?_; clear hJ J) | clear hK K | clear hJ J | refine SW.skip ?_ | refine SW.ret ?_ | refine SW.retT ?_ | refine SW.retB ?_ | refine SW.exit ?_ | refine SW.exitT ?_ | refine SW.exitB ?_ | refine XN ?_ | refine SW.block ?_ | refine SW.normB ?_ | refine SW.normT ?_ | refine XT ?_ | refine XF ?_ | refine XC (fun h => ?_) (fun h => ?_) | simp only [go_sem, optI, Option.getD_some, Option.getD_none, Int.reduceToNat, reduceIte, Nat.reduceEqDiff, Nat.reduceAdd, Nat.reduceMul, Nat.reduceSub, Nat.reduceLT, Nat.reduceLeDiff, reduceCtorEq, *] | refine Xs _ (fun h => ?_) (fun h => ?_) | with_reducible refine And.intro ?_ ?_
  all_goals refine Xrb ?_
  all_goals simp_all [hereB]
theorem ac_peerHere (L : List Peer) (n : Int) (hL : L.length ≤ 1048576) : AC Tryz.prog 42 [encRing true L, vI n] (vI (idx (hereB n) L 0)) [] := by
  have hi := ac_IdxP1 L 65 [cI n] (hereB n) (by omega) (fun p _ => ac_peerHere1 p n)
  refine XA good (fn := Tryz.f42) rfl ?_
  simp only [entry, List.getD_cons_zero, List.getD_cons_succ]
  repeat' first | refine SW.step good fun K hK => ?_ | refine X2 good fun K hK => ?_ | refine X3 good fun K hK => ?_ | refine SW.seqK fun J hJ => ?_ | refine SW.last good fun K hK => ?_ | (refine hK _ ?_; clear hK K) | (refine hJ _ _ (Wk.refl _) ?_; clear hJ J) | clear hK K | clear hJ J | refine SW.skip ?_ | refine SW.ret ?_ | refine SW.retT ?_ | refine SW.retB ?_ | refine SW.exit ?_ | refine SW.exitT ?_ | refine SW.exitB ?_ | refine XN ?_ | refine SW.block ?_ | refine SW.normB ?_ | refine SW.normT ?_ | refine XT ?_ | refine XF ?_ | refine XC (fun h => ?_) (fun h => ?_) | refine X0 ?_ | refine Xv ?_ | refine X1 (hi) ?_ | simp only [go_sem, optI, Option.getD_some, Option.getD_none, Int.reduceToNat, reduceIte, Nat.reduceEqDiff, Nat.reduceAdd, Nat.reduceMul, Nat.reduceSub, Nat.reduceLT, Nat.reduceLeDiff, reduceCtorEq, *] | refine Xs _ (fun h => ?_) (fun h => ?_) | with_reducible refine And.intro ?_ ?_
  all_goals refine Xri ?_
  all_goals rfl
set_option maxHeartbeats 1000000 in
theorem ac_PeerAt (L : List Peer) (n : Int) (hL : L.length ≤ 1048576) : AC Tryz.prog 32 [encRing true L, vI n] (vI (idx (hereB n) L 0)) [] := by
  refine XA good (fn := Tryz.f32) rfl ?_
  simp only [entry, List.getD_cons_zero, List.getD_cons_succ]
  repeat' first | refine SW.step good fun K hK => ?_ | refine X2 good fun K hK => ?_ | refine X3 good fun K hK => ?_ | refine SW.seqK fun J hJ => ?_ | refine SW.last good fun K hK => ?_ | (refine hK _ ?_; clear hK K) | (refine hJ _ _ (Wk.refl _) ?_; clear hJ J) | clear hK K | clear hJ J | refine SW.skip ?_ | refine SW.ret ?_ | refine SW.retT ?_ | refine SW.retB ?_ | refine SW.exit ?_ | refine SW.exitT ?_ | refine SW.exitB ?_ | refine XN ?_ | refine SW.block ?_ | refine SW.normB ?_ | refine SW.normT ?_ | refine XT ?_ | refine XF ?_ | refine XC (fun h => ?_) (fun h => ?_) | simp only [go_sem, optI, Option.getD_some, Option.getD_none, Int.reduceToNat, reduceIte, Nat.reduceEqDiff, Nat.reduceAdd, Nat.reduceMul, Nat.reduceSub, Nat.reduceLT, Nat.reduceLeDiff, reduceCtorEq, *] | refine Xs _ (fun h => ?_) (fun h => ?_) | with_reducible refine And.intro ?_ ?_
  refine SW.loopTo (α := Nat) (fun k => ⟨sl [(1, vI n), (2, .ptr (.s 2 0) 0), (5, vI k)], hl [(.s 2 0, .box [.c true (.sl (L.map peerC))])]⟩) (fun k => L.length - k) 0 (fun k => k ≤ L.length ∧ idx (hereB n) L 0 = idx (hereB n) (L.drop k) k) ?_ ⟨by simp, by simp⟩ ?_
  · (refine Xto _ _ ?_ ?_ <;> simp only [go_sem, optI, Option.getD_some, Option.getD_none, Int.reduceToNat, reduceIte, Nat.reduceEqDiff, Nat.reduceAdd, Nat.reduceMul, Nat.reduceSub, Nat.reduceLT, Nat.reduceLeDiff, reduceCtorEq, Option.some.injEq, or_true, true_or] <;> (repeat' with_reducible apply And.intro) <;> (try rfl))
  · rintro k ⟨h2, h3⟩
    by_cases hk : k < L.length
    · have e := getD_map L peerC [] hk
      have e1 : decide ((k : Int) < L.length) = true := by simp; omega
      have hw : IntKind.i64.wrap ((k : Int) + 1) = ((k + 1 : Nat) : Int) := wrap64 (by omega) (by omega)
      rw [List.drop_eq_getElem_cons hk, idx] at h3
      cases hh : L[k].here with
      | false =>
        rw [if_neg (by unfold hereB; rw [hh]; simp)] at h3
        repeat' first | refine SW.step good fun K hK => ?_ | refine X2 good fun K hK => ?_ | refine X3 good fun K hK => ?_ | refine SW.seqK fun J hJ => ?_ | refine SW.last good fun K hK => ?_ | (refine hK _ ?_; clear hK K) | (refine hJ _ _ (Wk.refl _) ?_; clear hJ J) | clear hK K | clear hJ J | refine SW.skip ?_ | refine SW.ret ?_ | refine SW.retT ?_ | refine SW.retB ?_ | refine SW.exit ?_ | refine SW.exitT ?_ | refine SW.exitB ?_ | refine XN ?_ | refine SW.block ?_ | refine SW.normB ?_ | refine SW.normT ?_ | refine XT ?_ | refine XF ?_ | refine XC (fun h => ?_) (fun h => ?_) | simp only [go_sem, optI, Option.getD_some, Option.getD_none, Int.reduceToNat, reduceIte, Nat.reduceEqDiff, Nat.reduceAdd, Nat.reduceMul, Nat.reduceSub, Nat.reduceLT, Nat.reduceLeDiff, reduceCtorEq, *] | refine Xs _ (fun h => ?_) (fun h => ?_) | with_reducible refine And.intro ?_ ?_
        all_goals first | omega | skip
        all_goals refine ⟨k + 1, ⟨by omega, by first | exact h3 | rfl⟩, by omega, ?_⟩
        all_goals (refine Xto _ _ ?_ ?_ <;> simp only [go_sem, optI, Option.getD_some, Option.getD_none, Int.reduceToNat, reduceIte, Nat.reduceEqDiff, Nat.reduceAdd, Nat.reduceMul, Nat.reduceSub, Nat.reduceLT, Nat.reduceLeDiff, reduceCtorEq, Option.some.injEq, or_true, true_or] <;> (repeat' with_reducible apply And.intro) <;> (try rfl))
      | true =>
        by_cases hid : L[k].id = n
        · have g1 : decide (L[k].id = n) = true := by simpa using hid
          rw [if_pos (by unfold hereB; rw [hh, g1]; rfl)] at h3
          clear hid
          repeat' first | refine SW.step good fun K hK => ?_ | refine X2 good fun K hK => ?_ | refine X3 good fun K hK => ?_ | refine SW.seqK fun J hJ => ?_ | refine SW.last good fun K hK => ?_ | (refine hK _ ?_; clear hK K) | (refine hJ _ _ (Wk.refl _) ?_; clear hJ J) | clear hK K | clear hJ J | refine SW.skip ?_ | refine SW.ret ?_ | refine SW.retT ?_ | refine SW.retB ?_ | refine SW.exit ?_ | refine SW.exitT ?_ | refine SW.exitB ?_ | refine XN ?_ | refine SW.block ?_ | refine SW.normB ?_ | refine SW.normT ?_ | refine XT ?_ | refine XF ?_ | refine XC (fun h => ?_) (fun h => ?_) | simp only [go_sem, optI, Option.getD_some, Option.getD_none, Int.reduceToNat, reduceIte, Nat.reduceEqDiff, Nat.reduceAdd, Nat.reduceMul, Nat.reduceSub, Nat.reduceLT, Nat.reduceLeDiff, reduceCtorEq, *] | refine Xs _ (fun h => ?_) (fun h => ?_) | with_reducible refine And.intro ?_ ?_
          all_goals first | omega | skip
          all_goals refine Xri ?_
          all_goals first | exact h3 | rfl
        · have g1 : decide (L[k].id = n) = false := by simpa using hid
          rw [if_neg (by unfold hereB; rw [hh, g1]; simp)] at h3
          clear hid
          repeat' first | refine SW.step good fun K hK => ?_ | refine X2 good fun K hK => ?_ | refine X3 good fun K hK => ?_ | refine SW.seqK fun J hJ => ?_ | refine SW.last good fun K hK => ?_ | (refine hK _ ?_; clear hK K) | (refine hJ _ _ (Wk.refl _) ?_; clear hJ J) | clear hK K | clear hJ J | refine SW.skip ?_ | refine SW.ret ?_ | refine SW.retT ?_ | refine SW.retB ?_ | refine SW.exit ?_ | refine SW.exitT ?_ | refine SW.exitB ?_ | refine XN ?_ | refine SW.block ?_ | refine SW.normB ?_ | refine SW.normT ?_ | refine XT ?_ | refine XF ?_ | refine XC (fun h => ?_) (fun h => ?_) | simp only [go_sem, optI, Option.getD_some, Option.getD_none, Int.reduceToNat, reduceIte, Nat.reduceEqDiff, Nat.reduceAdd, Nat.reduceMul, Nat.reduceSub, Nat.reduceLT, Nat.reduceLeDiff, reduceCtorEq, *] | refine Xs _ (fun h => ?_) (fun h => ?_) | with_reducible refine And.intro ?_ ?_
          all_goals first | omega | skip
          all_goals refine ⟨k + 1, ⟨by omega, by first | exact h3 | rfl⟩, by omega, ?_⟩
          all_goals (refine Xto _ _ ?_ ?_ <;> simp only [go_sem, optI, Option.getD_some, Option.getD_none, Int.reduceToNat, reduceIte, Nat.reduceEqDiff, Nat.reduceAdd, Nat.reduceMul, Nat.reduceSub, Nat.reduceLT, Nat.reduceLeDiff, reduceCtorEq, Option.some.injEq, or_true, true_or] <;> (repeat' with_reducible apply And.intro) <;> (try rfl))
    · have hk : k = L.length := by omega
      subst hk
      have e1 : decide ((L.length : Int) < L.length) = false := by simp
      rw [List.drop_length, idx] at h3
      repeat' first | refine SW.step good fun K hK => ?_ | refine X2 good fun K hK => ?_ | refine X3 good fun K hK => ?_ | refine SW.seqK fun J hJ => ?_ | refine SW.last good fun K hK => ?_ | (refine hK _ ?_; clear hK K) | (refine hJ _ _ (Wk.refl _) ?_; clear hJ J) | clear hK K | clear hJ J | refine SW.skip ?_ | refine SW.ret ?_ | refine SW.retT ?_ | refine SW.retB ?_ | refine SW.exit ?_ | refine SW.exitT ?_ | refine SW.exitB ?_ | refine XN ?_ | refine SW.block ?_ | refine SW.normB ?_ | refine SW.normT ?_ | refine XT ?_ | refine XF ?_ | refine XC (fun h => ?_) (fun h => ?_) | simp only [go_sem, optI, Option.getD_some, Option.getD_none, Int.reduceToNat, reduceIte, Nat.reduceEqDiff, Nat.reduceAdd, Nat.reduceMul, Nat.reduceSub, Nat.reduceLT, Nat.reduceLeDiff, reduceCtorEq, *] | refine Xs _ (fun h => ?_) (fun h => ?_) | with_reducible refine And.intro ?_ ?_
      all_goals refine Xri ?_
      all_goals first | exact h3 | rfl
end Go.Proofs.YtkcnljgjlofgiaaGreatDoor.AB
namespace Go.Proofs.YtkcnljgjlofgiaaGreatDoor.AB
open Go
set_option maxRecDepth 100000
set_option linter.unusedSimpArgs false
set_option linter.unusedVariables false
theorem sortI_perm (L : List Int) : (sortI L).Perm L := List.mergeSort_perm _ _
theorem sortI_sorted (L : List Int) : (sortI L).Pairwise (· ≤ ·) := by
  have := List.pairwise_mergeSort (le := fun x y : Int => decide (x ≤ y)) (fun a b c h1 h2 => by simp at *; omega) (fun a b => by simp; omega) L
  exact this.imp (fun h => by simpa using h)
theorem sorted_eq {A B : List Int} (ha : A.Pairwise (· ≤ ·)) (hb : B.Pairwise (· ≤ ·)) (h : A.Perm B) : A = B := h.eq_of_pairwise (fun a b _ _ h1 h2 => by omega) ha hb
def ins (x : Int) : List Int → List Int
  | [] => [x]
  | y :: ys => if x < y then x :: y :: ys else y :: ins x ys
theorem ins_perm (x : Int) : ∀ (l : List Int), (ins x l).Perm (l ++ [x])
  | [] => by simp [ins]
  | y :: ys => by
    unfold ins
    split
    · exact (List.perm_append_singleton x (y :: ys)).symm
    · exact (ins_perm x ys).cons y
theorem ins_mem {x z : Int} {l : List Int} (h : z ∈ ins x l) : z = x ∨ z ∈ l := by
  have := (ins_perm x l).mem_iff.1 h
  simp at this; exact this.symm
theorem ins_sorted (x : Int) : ∀ (l : List Int), l.Pairwise (· ≤ ·) → (ins x l).Pairwise (· ≤ ·)
  | [], _ => by simp [ins]
  | y :: ys, h => by
    unfold ins
    obtain ⟨h1, h2⟩ := List.pairwise_cons.1 h
    split
    · refine List.pairwise_cons.2 ⟨fun z hz => ?_, h⟩
      rcases List.mem_cons.1 hz with rfl | hz
      · omega
      · have := h1 z hz; omega
    · refine List.pairwise_cons.2 ⟨fun z hz => ?_, ins_sorted x ys h2⟩
      rcases ins_mem hz with rfl | hz
      · omega
      · exact h1 z hz
theorem ins_sortI (x : Int) (M : List Int) : ins x (sortI M) = sortI (M ++ [x]) :=
  sorted_eq (ins_sorted x _ (sortI_sorted M)) (sortI_sorted _) ((ins_perm x _).trans (((sortI_perm M).append_right [x]).trans (sortI_perm _).symm))
def insF (x : Int) : List Int × Bool → Int → List Int × Bool := fun r y => if !r.2 && decide (x < y) then (r.1 ++ [x] ++ [y], true) else (r.1 ++ [y], r.2)
theorem insF_true (x : Int) : ∀ (l n : List Int), l.foldl (insF x) (n, true) = (n ++ l, true)
  | [], n => by simp
  | y :: ys, n => by rw [List.foldl_cons, show insF x (n, true) y = (n ++ [y], true) by simp [insF], insF_true x ys]; simp
theorem insF_eq (x : Int) : ∀ (l n : List Int), (if (l.foldl (insF x) (n, false)).2 = true then (l.foldl (insF x) (n, false)).1 else (l.foldl (insF x) (n, false)).1 ++ [x]) = n ++ ins x l
  | [], n => by simp [ins]
  | y :: ys, n => by
    rw [List.foldl_cons]
    by_cases h : x < y
    · rw [show insF x (n, false) y = (n ++ [x] ++ [y], true) by simp [insF, h], insF_true]
      simp [ins, h]
    · rw [show insF x (n, false) y = (n ++ [y], false) by simp [insF, h], insF_eq x ys]
      simp [ins, h]
theorem insF_len (x : Int) : ∀ (l : List Int) (r : List Int × Bool), (l.foldl (insF x) r).1.length ≤ r.1.length + 2 * l.length
  | [], r => by simp
  | y :: ys, r => by
    rw [List.foldl_cons]
    have h1 := insF_len x ys (insF x r y)
    have h2 : (insF x r y).1.length ≤ r.1.length + 2 := by unfold insF; split <;> simp <;> omega
    simp only [List.length_cons]; omega
/-- the Ids of those that are there -/
def hereI (L : List Peer) : List Int := (L.filter (·.here)).map (·.id)
def hereS (L : List Peer) : List Int := sortI (hereI L)
theorem hereI_take {L : List Peer} {k : Nat} (h : k < L.length) : hereI (L.take (k + 1)) = if L[k].here = true then hereI (L.take k) ++ [L[k].id] else hereI (L.take k) := by
  unfold hereI
  rw [List.take_add_one, List.getElem?_eq_getElem h]
  simp only [Option.toList_some, List.filter_append, List.map_append]
  split <;> rename_i hh <;> simp [hh]
theorem hereI_len (L : List Peer) : (hereI L).length ≤ L.length := by unfold hereI; rw [List.length_map]; exact List.length_filter_le ..
theorem hereS_take {L : List Peer} {k : Nat} (h : k < L.length) : hereS (L.take (k + 1)) = if L[k].here = true then ins L[k].id (hereS (L.take k)) else hereS (L.take k) := by
  unfold hereS
  rw [hereI_take h]
  split
  · rw [ins_sortI]
  · rfl
theorem hereS_len (L : List Peer) : (hereS L).length ≤ L.length := by unfold hereS; rw [sortI_len]; exact hereI_len L
set_option maxHeartbeats 2000000 in
theorem ac_HereOf (hsort : ∀ (M : List Int), M.length ≤ 1048576 → MC Tryz.prog 63 [.own (.a 0)] [.row false 3 1 (M.map intC)] (.tup []) [some (.row false 3 1 ((sortI M).map intC))] [])
    (L : List Peer) (hL : L.length ≤ 1048576) : AC Tryz.prog 41 [encRing true L] (.own (.r 0)) [.row false 3 1 ((hereS L).map intC)] := by
  unfold encRing
  refine XA good (fn := Tryz.f41) rfl ?_
  simp only [entry, List.getD_cons_zero, List.getD_cons_succ]
  repeat' first | refine SW.step good fun K hK => ?_ | refine X2 good fun K hK => ?_ | refine X3 good fun K hK => ?_ | refine SW.seqK fun J hJ => ?_ | refine SW.last good fun K hK => ?_ | (refine hK _ ?_; clear hK K) | (refine hJ _ _ (Wk.refl _) ?_; clear hJ J) | clear hK K | clear hJ J | refine SW.skip ?_ | refine SW.ret ?_ | refine SW.retT ?_ | refine SW.retB ?_ | refine SW.exit ?_ | refine SW.exitT ?_ | refine SW.exitB ?_ | refine XN ?_ | refine SW.block ?_ | refine SW.normB ?_ | refine SW.normT ?_ | refine XT ?_ | refine XF ?_ | refine XC (fun h => ?_) (fun h => ?_) | simp only [go_sem, optI, Option.getD_some, Option.getD_none, Int.reduceToNat, reduceIte, Nat.reduceEqDiff, Nat.reduceAdd, Nat.reduceMul, Nat.reduceSub, Nat.reduceLT, Nat.reduceLeDiff, reduceCtorEq, *] | refine Xs _ (fun h => ?_) (fun h => ?_) | with_reducible refine And.intro ?_ ?_
  refine SW.loopTo (α := Nat) (fun k => ⟨sl [(3, .own (.s 6 0)), (8, .c true (.sl (L.map peerC))), (9, vI L.length), (10, vI k)], hl [(.s 6 0, .row false 3 1 ((hereI (L.take k)).map intC))]⟩) (fun k => L.length - k) 0 (fun k => k ≤ L.length) ?_ (by simp) ?_
  · (refine Xto _ _ ?_ ?_ <;> simp only [go_sem, optI, Option.getD_some, Option.getD_none, Int.reduceToNat, reduceIte, Nat.reduceEqDiff, Nat.reduceAdd, Nat.reduceMul, Nat.reduceSub, Nat.reduceLT, Nat.reduceLeDiff, reduceCtorEq, Option.some.injEq, or_true, true_or] <;> (repeat' with_reducible apply And.intro) <;> (try rfl))
    all_goals first | (simp [hereI]; done) | skip
  · intro k h2
    by_cases hk : k < L.length
    · have e := getD_map L peerC [] hk
      have e1 : decide ((k : Int) < L.length) = true := by simp; omega
      have ht := hereI_take hk
      have hw : IntKind.i64.wrap ((k : Int) + 1) = ((k + 1 : Nat) : Int) := wrap64 (by omega) (by omega)
      have hlen := hereI_len (L.take k)
      rw [List.length_take] at hlen
      cases hh : L[k].here with
      | true =>
        rw [hh, if_pos rfl] at ht
        repeat' first | refine SW.step good fun K hK => ?_ | refine X2 good fun K hK => ?_ | refine X3 good fun K hK => ?_ | refine SW.seqK fun J hJ => ?_ | refine SW.last good fun K hK => ?_ | (refine hK _ ?_; clear hK K) | (refine hJ _ _ (Wk.refl _) ?_; clear hJ J) | clear hK K | clear hJ J | refine SW.skip ?_ | refine SW.ret ?_ | refine SW.retT ?_ | refine SW.retB ?_ | refine SW.exit ?_ | refine SW.exitT ?_ | refine SW.exitB ?_ | refine XN ?_ | refine SW.block ?_ | refine SW.normB ?_ | refine SW.normT ?_ | refine XT ?_ | refine XF ?_ | refine XC (fun h => ?_) (fun h => ?_) | simp only [go_sem, optI, Option.getD_some, Option.getD_none, Int.reduceToNat, reduceIte, Nat.reduceEqDiff, Nat.reduceAdd, Nat.reduceMul, Nat.reduceSub, Nat.reduceLT, Nat.reduceLeDiff, reduceCtorEq, *] | refine Xs _ (fun h => ?_) (fun h => ?_) | with_reducible refine And.intro ?_ ?_
        all_goals first | (intro r hr; simp at hr; subst hr; rfl) | (simp [bytesC]; omega) | (simp; done) | omega | rfl | skip
        all_goals refine ⟨k + 1, by omega, by omega, ?_⟩
        all_goals (refine Xto _ _ ?_ ?_ <;> simp only [go_sem, optI, Option.getD_some, Option.getD_none, Int.reduceToNat, reduceIte, Nat.reduceEqDiff, Nat.reduceAdd, Nat.reduceMul, Nat.reduceSub, Nat.reduceLT, Nat.reduceLeDiff, reduceCtorEq, Option.some.injEq, or_true, true_or] <;> (repeat' with_reducible apply And.intro) <;> (try rfl))
        all_goals first | (rw [ht, List.map_append]; rfl) | skip
      | false =>
        rw [hh, if_neg (by simp)] at ht
        repeat' first | refine SW.step good fun K hK => ?_ | refine X2 good fun K hK => ?_ | refine X3 good fun K hK => ?_ | refine SW.seqK fun J hJ => ?_ | refine SW.last good fun K hK => ?_ | (refine hK _ ?_; clear hK K) | (refine hJ _ _ (Wk.refl _) ?_; clear hJ J) | clear hK K | clear hJ J | refine SW.skip ?_ | refine SW.ret ?_ | refine SW.retT ?_ | refine SW.retB ?_ | refine SW.exit ?_ | refine SW.exitT ?_ | refine SW.exitB ?_ | refine XN ?_ | refine SW.block ?_ | refine SW.normB ?_ | refine SW.normT ?_ | refine XT ?_ | refine XF ?_ | refine XC (fun h => ?_) (fun h => ?_) | simp only [go_sem, optI, Option.getD_some, Option.getD_none, Int.reduceToNat, reduceIte, Nat.reduceEqDiff, Nat.reduceAdd, Nat.reduceMul, Nat.reduceSub, Nat.reduceLT, Nat.reduceLeDiff, reduceCtorEq, *] | refine Xs _ (fun h => ?_) (fun h => ?_) | with_reducible refine And.intro ?_ ?_
        all_goals first | (intro r hr; simp at hr; subst hr; rfl) | (simp [bytesC]; omega) | (simp; done) | omega | rfl | skip
        all_goals refine ⟨k + 1, by omega, by omega, ?_⟩
        all_goals (refine Xto _ _ ?_ ?_ <;> simp only [go_sem, optI, Option.getD_some, Option.getD_none, Int.reduceToNat, reduceIte, Nat.reduceEqDiff, Nat.reduceAdd, Nat.reduceMul, Nat.reduceSub, Nat.reduceLT, Nat.reduceLeDiff, reduceCtorEq, Option.some.injEq, or_true, true_or] <;> (repeat' with_reducible apply And.intro) <;> (try rfl))
        all_goals first | (rw [ht]; done) | skip
    · have hk : k = L.length := by omega
      subst hk
      have e1 : decide ((L.length : Int) < L.length) = false := by simp
      have hs := hsort (hereI L) (Nat.le_trans (hereI_len L) hL)
      rw [List.take_length]
      repeat' first | refine SW.step good fun K hK => ?_ | refine X2 good fun K hK => ?_ | refine X3 good fun K hK => ?_ | refine SW.seqK fun J hJ => ?_ | refine SW.last good fun K hK => ?_ | (refine hK _ ?_; clear hK K) | (refine hJ _ _ (Wk.refl _) ?_; clear hJ J) | clear hK K | clear hJ J | refine SW.skip ?_ | refine SW.ret ?_ | refine SW.retT ?_ | refine SW.retB ?_ | refine SW.exit ?_ | refine SW.exitT ?_ | refine SW.exitB ?_ | refine XN ?_ | refine SW.block ?_ | refine SW.normB ?_ | refine SW.normT ?_ | refine XT ?_ | refine XF ?_ | refine XC (fun h => ?_) (fun h => ?_) | (refine Xm (.s 6 0) ?_; first | refine Xd (hs) ?_ | refine Xa (hs) ?_ | refine Xb (hs) ?_) | simp only [go_sem, optI, Option.getD_some, Option.getD_none, Int.reduceToNat, reduceIte, Nat.reduceEqDiff, Nat.reduceAdd, Nat.reduceMul, Nat.reduceSub, Nat.reduceLT, Nat.reduceLeDiff, reduceCtorEq, *] | refine Xs _ (fun h => ?_) (fun h => ?_) | with_reducible refine And.intro ?_ ?_
      all_goals refine Xro (i := .s 6 0) ?_ ?_
      all_goals simp [Wn.leO, resOf, Wn.le, Wn.leL, Wn.cw, C.scal, scal, outW, idsTo, hrOf, hereS, Ob.on]
set_option maxHeartbeats 2000000 in
theorem ac_HereOf' (L : List Peer) (hL : L.length ≤ 1048576) : AC Tryz.prog 31 [encRing true L] (.own (.r 0)) [.row false 3 1 ((hereS L).map intC)] := by
  unfold encRing
  refine XA good (fn := Tryz.f31) rfl ?_
  simp only [entry, List.getD_cons_zero, List.getD_cons_succ]
  repeat' first | refine SW.step good fun K hK => ?_ | refine X2 good fun K hK => ?_ | refine X3 good fun K hK => ?_ | refine SW.seqK fun J hJ => ?_ | refine SW.last good fun K hK => ?_ | (refine hK _ ?_; clear hK K) | (refine hJ _ _ (Wk.refl _) ?_; clear hJ J) | clear hK K | clear hJ J | refine SW.skip ?_ | refine SW.ret ?_ | refine SW.retT ?_ | refine SW.retB ?_ | refine SW.exit ?_ | refine SW.exitT ?_ | refine SW.exitB ?_ | refine XN ?_ | refine SW.block ?_ | refine SW.normB ?_ | refine SW.normT ?_ | refine XT ?_ | refine XF ?_ | refine XC (fun h => ?_) (fun h => ?_) | simp only [go_sem, optI, Option.getD_some, Option.getD_none, Int.reduceToNat, reduceIte, Nat.reduceEqDiff, Nat.reduceAdd, Nat.reduceMul, Nat.reduceSub, Nat.reduceLT, Nat.reduceLeDiff, reduceCtorEq, *] | refine Xs _ (fun h => ?_) (fun h => ?_) | with_reducible refine And.intro ?_ ?_
  refine SW.loopTo (α := Nat) (fun k => ⟨sl [(1, .ptr (.s 1 0) 0), (3, .own (.s 8 0)), (4, vI k)], hl [(.s 1 0, .box [.c true (.sl (L.map peerC))]), (.s 8 0, .row false 3 1 ((hereS (L.take k)).map intC))]⟩) (fun k => L.length - k) 0 (fun k => k ≤ L.length) ?_ (by simp) ?_
  · (refine Xto _ _ ?_ ?_ <;> simp only [go_sem, optI, Option.getD_some, Option.getD_none, Int.reduceToNat, reduceIte, Nat.reduceEqDiff, Nat.reduceAdd, Nat.reduceMul, Nat.reduceSub, Nat.reduceLT, Nat.reduceLeDiff, reduceCtorEq, Option.some.injEq, or_true, true_or] <;> (repeat' with_reducible apply And.intro) <;> (try rfl))
    all_goals first | (simp [hereS, hereI, sortI]; done) | skip
  · intro k h2
    by_cases hk : k < L.length
    · have e := getD_map L peerC [] hk
      have e1 : decide ((k : Int) < L.length) = true := by simp; omega
      have ht := hereS_take hk
      have hw : IntKind.i64.wrap ((k : Int) + 1) = ((k + 1 : Nat) : Int) := wrap64 (by omega) (by omega)
      have hlen := hereS_len (L.take k)
      rw [List.length_take] at hlen
      cases hh : L[k].here with
      | false =>
        rw [hh, if_neg (by simp)] at ht
        repeat' first | refine SW.step good fun K hK => ?_ | refine X2 good fun K hK => ?_ | refine X3 good fun K hK => ?_ | refine SW.seqK fun J hJ => ?_ | refine SW.last good fun K hK => ?_ | (refine hK _ ?_; clear hK K) | (refine hJ _ _ (Wk.refl _) ?_; clear hJ J) | clear hK K | clear hJ J | refine SW.skip ?_ | refine SW.ret ?_ | refine SW.retT ?_ | refine SW.retB ?_ | refine SW.exit ?_ | refine SW.exitT ?_ | refine SW.exitB ?_ | refine XN ?_ | refine SW.block ?_ | refine SW.normB ?_ | refine SW.normT ?_ | refine XT ?_ | refine XF ?_ | refine XC (fun h => ?_) (fun h => ?_) | simp only [go_sem, optI, Option.getD_some, Option.getD_none, Int.reduceToNat, reduceIte, Nat.reduceEqDiff, Nat.reduceAdd, Nat.reduceMul, Nat.reduceSub, Nat.reduceLT, Nat.reduceLeDiff, reduceCtorEq, *] | refine Xs _ (fun h => ?_) (fun h => ?_) | with_reducible refine And.intro ?_ ?_
        all_goals first | (intro r hr; simp at hr; subst hr; rfl) | (simp [bytesC]; omega) | (simp; done) | omega | rfl | skip
        all_goals refine ⟨k + 1, by omega, by omega, ?_⟩
        all_goals (refine Xto _ _ ?_ ?_ <;> simp only [go_sem, optI, Option.getD_some, Option.getD_none, Int.reduceToNat, reduceIte, Nat.reduceEqDiff, Nat.reduceAdd, Nat.reduceMul, Nat.reduceSub, Nat.reduceLT, Nat.reduceLeDiff, reduceCtorEq, Option.some.injEq, or_true, true_or] <;> (repeat' with_reducible apply And.intro) <;> (try rfl))
        all_goals first | (rw [ht]; done) | skip
      | true =>
        rw [hh, if_pos rfl] at ht
        generalize hM : hereS (L.take k) = M at *
        have hF := insF_eq L[k].id M []
        have hFl := insF_len L[k].id M ([], false)
        repeat' first | refine SW.step good fun K hK => ?_ | refine X2 good fun K hK => ?_ | refine X3 good fun K hK => ?_ | refine SW.seqK fun J hJ => ?_ | refine SW.last good fun K hK => ?_ | (refine hK _ ?_; clear hK K) | (refine hJ _ _ (Wk.refl _) ?_; clear hJ J) | clear hK K | clear hJ J | refine SW.skip ?_ | refine SW.ret ?_ | refine SW.retT ?_ | refine SW.retB ?_ | refine SW.exit ?_ | refine SW.exitT ?_ | refine SW.exitB ?_ | refine XN ?_ | refine SW.block ?_ | refine SW.normB ?_ | refine SW.normT ?_ | refine XT ?_ | refine XF ?_ | refine XC (fun h => ?_) (fun h => ?_) | simp only [go_sem, optI, Option.getD_some, Option.getD_none, Int.reduceToNat, reduceIte, Nat.reduceEqDiff, Nat.reduceAdd, Nat.reduceMul, Nat.reduceSub, Nat.reduceLT, Nat.reduceLeDiff, reduceCtorEq, *] | refine Xs _ (fun h => ?_) (fun h => ?_) | with_reducible refine And.intro ?_ ?_
        all_goals first | (intro r hr; simp at hr; subst hr; rfl) | (simp [bytesC]; omega) | (simp; done) | omega | rfl | skip
        refine SW.loopTo (α := Nat) (fun j => ⟨sl [(1, .ptr (.s 1 0) 0), (3, .own (.s 8 0)), (4, vI k), (5, .own (.s 23 0)), (6, vB ((M.take j).foldl (insF L[k].id) ([], false)).2), (7, vI j)], hl [(.s 1 0, .box [.c true (.sl (L.map peerC))]), (.s 8 0, .row false 3 1 (M.map intC)), (.s 23 0, .row false 3 1 (((M.take j).foldl (insF L[k].id) ([], false)).1.map intC))]⟩) (fun j => M.length - j) 0 (fun j => j ≤ M.length) ?_ (by simp) ?_
        · (refine Xto _ _ ?_ ?_ <;> simp only [go_sem, optI, Option.getD_some, Option.getD_none, Int.reduceToNat, reduceIte, Nat.reduceEqDiff, Nat.reduceAdd, Nat.reduceMul, Nat.reduceSub, Nat.reduceLT, Nat.reduceLeDiff, reduceCtorEq, Option.some.injEq, or_true, true_or] <;> (repeat' with_reducible apply And.intro) <;> (try rfl))
        · intro j hj2
          by_cases hj : j < M.length
          · have ej := getD_map M intC [] hj
            have ej1 : decide ((j : Int) < M.length) = true := by simp; omega
            have hwj : IntKind.i64.wrap ((j : Int) + 1) = ((j + 1 : Nat) : Int) := wrap64 (by omega) (by omega)
            have hst : (M.take (j + 1)).foldl (insF L[k].id) ([], false) = insF L[k].id ((M.take j).foldl (insF L[k].id) ([], false)) M[j] := by
              rw [List.take_add_one, List.getElem?_eq_getElem hj, List.foldl_append]; rfl
            have hjl := insF_len L[k].id (M.take j) ([], false)
            rw [List.length_take] at hjl
            simp only [List.length_nil] at hjl
            clear hF hFl
            generalize (M.take j).foldl (insF L[k].id) ([], false) = r at *
            obtain ⟨r1, r2⟩ := r
            simp only at hjl
            cases r2 with
            | true =>
              repeat' first | refine SW.step good fun K hK => ?_ | refine X2 good fun K hK => ?_ | refine X3 good fun K hK => ?_ | refine SW.seqK fun J hJ => ?_ | refine SW.last good fun K hK => ?_ | (refine hK _ ?_; clear hK K) | (refine hJ _ _ (Wk.refl _) ?_; clear hJ J) | clear hK K | clear hJ J | refine SW.skip ?_ | refine SW.ret ?_ | refine SW.retT ?_ | refine SW.retB ?_ | refine SW.exit ?_ | refine SW.exitT ?_ | refine SW.exitB ?_ | refine XN ?_ | refine SW.block ?_ | refine SW.normB ?_ | refine SW.normT ?_ | refine XT ?_ | refine XF ?_ | refine XC (fun h => ?_) (fun h => ?_) | simp only [go_sem, optI, Option.getD_some, Option.getD_none, Int.reduceToNat, reduceIte, Nat.reduceEqDiff, Nat.reduceAdd, Nat.reduceMul, Nat.reduceSub, Nat.reduceLT, Nat.reduceLeDiff, reduceCtorEq, *] | refine Xs _ (fun h => ?_) (fun h => ?_) | with_reducible refine And.intro ?_ ?_
              all_goals first | (intro r hr; simp at hr; subst hr; rfl) | (simp [bytesC]; omega) | (simp; done) | omega | rfl | skip
              all_goals refine ⟨j + 1, by omega, by omega, ?_⟩
              all_goals (refine Xto _ _ ?_ ?_ <;> simp only [go_sem, optI, Option.getD_some, Option.getD_none, Int.reduceToNat, reduceIte, Nat.reduceEqDiff, Nat.reduceAdd, Nat.reduceMul, Nat.reduceSub, Nat.reduceLT, Nat.reduceLeDiff, reduceCtorEq, Option.some.injEq, or_true, true_or] <;> (repeat' with_reducible apply And.intro) <;> (try rfl))
              all_goals first | (rw [hst]; simp [insF, intC]; done) | skip
            | false =>
              cases hlt : decide (L[k].id < M[j]) with
              | true =>
                have hlt' : L[k].id < M[j] := by simpa using hlt
                repeat' first | refine SW.step good fun K hK => ?_ | refine X2 good fun K hK => ?_ | refine X3 good fun K hK => ?_ | refine SW.seqK fun J hJ => ?_ | refine SW.last good fun K hK => ?_ | (refine hK _ ?_; clear hK K) | (refine hJ _ _ (Wk.refl _) ?_; clear hJ J) | clear hK K | clear hJ J | refine SW.skip ?_ | refine SW.ret ?_ | refine SW.retT ?_ | refine SW.retB ?_ | refine SW.exit ?_ | refine SW.exitT ?_ | refine SW.exitB ?_ | refine XN ?_ | refine SW.block ?_ | refine SW.normB ?_ | refine SW.normT ?_ | refine XT ?_ | refine XF ?_ | refine XC (fun h => ?_) (fun h => ?_) | simp only [go_sem, optI, Option.getD_some, Option.getD_none, Int.reduceToNat, reduceIte, Nat.reduceEqDiff, Nat.reduceAdd, Nat.reduceMul, Nat.reduceSub, Nat.reduceLT, Nat.reduceLeDiff, reduceCtorEq, *] | refine Xs _ (fun h => ?_) (fun h => ?_) | with_reducible refine And.intro ?_ ?_
                all_goals first | (intro r hr; simp at hr; subst hr; rfl) | (simp [bytesC]; omega) | (simp; done) | omega | rfl | skip
                all_goals refine ⟨j + 1, by omega, by omega, ?_⟩
                all_goals (refine Xto _ _ ?_ ?_ <;> simp only [go_sem, optI, Option.getD_some, Option.getD_none, Int.reduceToNat, reduceIte, Nat.reduceEqDiff, Nat.reduceAdd, Nat.reduceMul, Nat.reduceSub, Nat.reduceLT, Nat.reduceLeDiff, reduceCtorEq, Option.some.injEq, or_true, true_or] <;> (repeat' with_reducible apply And.intro) <;> (try rfl))
                all_goals first | (rw [hst]; simp [insF, hlt']; done) | skip
              | false =>
                have hlt' : ¬ L[k].id < M[j] := by simpa using hlt
                repeat' first | refine SW.step good fun K hK => ?_ | refine X2 good fun K hK => ?_ | refine X3 good fun K hK => ?_ | refine SW.seqK fun J hJ => ?_ | refine SW.last good fun K hK => ?_ | (refine hK _ ?_; clear hK K) | (refine hJ _ _ (Wk.refl _) ?_; clear hJ J) | clear hK K | clear hJ J | refine SW.skip ?_ | refine SW.ret ?_ | refine SW.retT ?_ | refine SW.retB ?_ | refine SW.exit ?_ | refine SW.exitT ?_ | refine SW.exitB ?_ | refine XN ?_ | refine SW.block ?_ | refine SW.normB ?_ | refine SW.normT ?_ | refine XT ?_ | refine XF ?_ | refine XC (fun h => ?_) (fun h => ?_) | simp only [go_sem, optI, Option.getD_some, Option.getD_none, Int.reduceToNat, reduceIte, Nat.reduceEqDiff, Nat.reduceAdd, Nat.reduceMul, Nat.reduceSub, Nat.reduceLT, Nat.reduceLeDiff, reduceCtorEq, *] | refine Xs _ (fun h => ?_) (fun h => ?_) | with_reducible refine And.intro ?_ ?_
                all_goals first | (intro r hr; simp at hr; subst hr; rfl) | (simp [bytesC]; omega) | (simp; done) | omega | rfl | skip
                all_goals refine ⟨j + 1, by omega, by omega, ?_⟩
                all_goals (refine Xto _ _ ?_ ?_ <;> simp only [go_sem, optI, Option.getD_some, Option.getD_none, Int.reduceToNat, reduceIte, Nat.reduceEqDiff, Nat.reduceAdd, Nat.reduceMul, Nat.reduceSub, Nat.reduceLT, Nat.reduceLeDiff, reduceCtorEq, Option.some.injEq, or_true, true_or] <;> (repeat' with_reducible apply And.intro) <;> (try rfl))
                all_goals first | (rw [hst]; simp [insF, hlt']; done) | skip
          · have hj : j = M.length := by omega
            subst hj
            have ej1 : decide ((M.length : Int) < M.length) = false := by simp
            rw [List.take_length]
            simp only [List.length_nil, List.nil_append] at hFl hF
            generalize M.foldl (insF L[k].id) ([], false) = r at *
            obtain ⟨r1, r2⟩ := r
            simp only at hF hFl
            cases r2 with
            | true =>
              rw [if_pos rfl] at hF
              subst hF
              clear hM
              repeat' first | refine SW.step good fun K hK => ?_ | refine X2 good fun K hK => ?_ | refine X3 good fun K hK => ?_ | refine SW.seqK fun J hJ => ?_ | refine SW.last good fun K hK => ?_ | (refine hK _ ?_; clear hK K) | (refine hJ _ _ (Wk.refl _) ?_; clear hJ J) | clear hK K | clear hJ J | refine SW.skip ?_ | refine SW.ret ?_ | refine SW.retT ?_ | refine SW.retB ?_ | refine SW.exit ?_ | refine SW.exitT ?_ | refine SW.exitB ?_ | refine XN ?_ | refine SW.block ?_ | refine SW.normB ?_ | refine SW.normT ?_ | refine XT ?_ | refine XF ?_ | refine XC (fun h => ?_) (fun h => ?_) | simp only [go_sem, optI, Option.getD_some, Option.getD_none, Int.reduceToNat, reduceIte, Nat.reduceEqDiff, Nat.reduceAdd, Nat.reduceMul, Nat.reduceSub, Nat.reduceLT, Nat.reduceLeDiff, reduceCtorEq, *] | refine Xs _ (fun h => ?_) (fun h => ?_) | with_reducible refine And.intro ?_ ?_
              all_goals first | (intro r hr; simp at hr; subst hr; rfl) | (simp [bytesC]; omega) | (simp; done) | omega | rfl | skip
              all_goals refine ⟨k + 1, by omega, by omega, ?_⟩
              all_goals (refine Wk.to _ _ [(.s 8 0, .s 23 0)] ?_ (by simp [ren]) ?_ (by simp [ren]) <;> simp only [go_sem, optI, Option.getD_some, Option.getD_none, Int.reduceToNat, reduceIte, Nat.reduceEqDiff, Nat.reduceAdd, Nat.reduceMul, Nat.reduceSub, Nat.reduceLT, Nat.reduceLeDiff, reduceCtorEq, Option.some.injEq, or_true, true_or] <;> (repeat' with_reducible apply And.intro) <;> (try rfl))
              all_goals first | (rw [ht]; done) | skip
            | false =>
              rw [if_neg (by simp)] at hF
              clear hM
              repeat' first | refine SW.step good fun K hK => ?_ | refine X2 good fun K hK => ?_ | refine X3 good fun K hK => ?_ | refine SW.seqK fun J hJ => ?_ | refine SW.last good fun K hK => ?_ | (refine hK _ ?_; clear hK K) | (refine hJ _ _ (Wk.refl _) ?_; clear hJ J) | clear hK K | clear hJ J | refine SW.skip ?_ | refine SW.ret ?_ | refine SW.retT ?_ | refine SW.retB ?_ | refine SW.exit ?_ | refine SW.exitT ?_ | refine SW.exitB ?_ | refine XN ?_ | refine SW.block ?_ | refine SW.normB ?_ | refine SW.normT ?_ | refine XT ?_ | refine XF ?_ | refine XC (fun h => ?_) (fun h => ?_) | simp only [go_sem, optI, Option.getD_some, Option.getD_none, Int.reduceToNat, reduceIte, Nat.reduceEqDiff, Nat.reduceAdd, Nat.reduceMul, Nat.reduceSub, Nat.reduceLT, Nat.reduceLeDiff, reduceCtorEq, *] | refine Xs _ (fun h => ?_) (fun h => ?_) | with_reducible refine And.intro ?_ ?_
              all_goals first | (intro r hr; simp at hr; subst hr; rfl) | (simp [bytesC]; omega) | (simp; done) | omega | rfl | skip
              all_goals refine ⟨k + 1, by omega, by omega, ?_⟩
              all_goals (refine Wk.to _ _ [(.s 8 0, .s 23 0)] ?_ (by simp [ren]) ?_ (by simp [ren]) <;> simp only [go_sem, optI, Option.getD_some, Option.getD_none, Int.reduceToNat, reduceIte, Nat.reduceEqDiff, Nat.reduceAdd, Nat.reduceMul, Nat.reduceSub, Nat.reduceLT, Nat.reduceLeDiff, reduceCtorEq, Option.some.injEq, or_true, true_or] <;> (repeat' with_reducible apply And.intro) <;> (try rfl))
              all_goals first | (rw [ht, ← hF]; simp; done) | skip
    · have hk : k = L.length := by omega
      subst hk
      have e1 : decide ((L.length : Int) < L.length) = false := by simp
      rw [List.take_length]
      repeat' first | refine SW.step good fun K hK => ?_ | refine X2 good fun K hK => ?_ | refine X3 good fun K hK => ?_ | refine SW.seqK fun J hJ => ?_ | refine SW.last good fun K hK => ?_ | (refine hK _ ?_; clear hK K) | (refine hJ _ _ (Wk.refl _) ?_; clear hJ J) | clear hK K | clear hJ J | refine SW.skip ?_ | refine SW.ret ?_ | refine SW.retT ?_ | refine SW.retB ?_ | refine SW.exit ?_ | refine SW.exitT ?_ | refine SW.exitB ?_ | refine XN ?_ | refine SW.block ?_ | refine SW.normB ?_ | refine SW.normT ?_ | refine XT ?_ | refine XF ?_ | refine XC (fun h => ?_) (fun h => ?_) | simp only [go_sem, optI, Option.getD_some, Option.getD_none, Int.reduceToNat, reduceIte, Nat.reduceEqDiff, Nat.reduceAdd, Nat.reduceMul, Nat.reduceSub, Nat.reduceLT, Nat.reduceLeDiff, reduceCtorEq, *] | refine Xs _ (fun h => ?_) (fun h => ?_) | with_reducible refine And.intro ?_ ?_
      all_goals refine Xro (i := .s 8 0) ?_ ?_
      all_goals simp [Wn.leO, resOf, Wn.le, Wn.leL, Wn.cw, C.scal, scal, outW, idsTo, hrOf]
end Go.Proofs.YtkcnljgjlofgiaaGreatDoor.AB
namespace Go.Proofs.YtkcnljgjlofgiaaGreatDoor.AB
open Go
set_option maxRecDepth 100000
set_option linter.unusedSimpArgs false
set_option linter.unusedVariables false
theorem mc_Sort (M : List Int) (hM : M.length ≤ 1048576) : MC Tryz.prog 63 [.own (.a 0)] [.row false 3 1 (M.map intC)] (.tup []) [some (.row false 3 1 ((sortI M).map intC))] [] :=
  calls_Sort _ M hM Tryz.func63 (by decide +kernel) (by kernel_rfl) (fun blk cap w h1 h2 => Tryz.slices_Sort_int blk 0 cap M w h1 h2 (by omega)) (fun w => Tryz.slices_Sort_int_none none 0 w)
theorem ac_HereI (L : List Peer) (hL : L.length ≤ 1048576) : AC Tryz.prog 41 [encRing true L] (.own (.r 0)) [.row false 3 1 ((hereS L).map intC)] := ac_HereOf mc_Sort L hL
theorem hereS_mem {L : List Peer} {n : Int} (h : n ∈ hereS L) : ∃ p, p ∈ L ∧ hereB n p = true := by
  have h1 := (sortI_perm _).mem_iff.1 h
  unfold hereI at h1
  obtain ⟨p, hp, rfl⟩ := List.mem_map.1 h1
  rw [List.mem_filter] at hp
  exact ⟨p, hp.1, by simp [hereB, hp.2]⟩
theorem here_at {L : List Peer} {n : Int} (h : n ∈ hereS L) : ∃ i, ∃ hi : i < L.length, idx (hereB n) L 0 = (i : Int) ∧ L.find? (hereB n) = some L[i] ∧ hereB n L[i] = true := by
  rcases idx_spec (hereB n) L 0 with ⟨_, h2⟩ | ⟨i, hi, h1, h2, h3⟩
  · obtain ⟨p, hp, hb⟩ := hereS_mem h
    have := List.find?_eq_none.1 h2 p hp
    exact absurd hb this
  · exact ⟨i, hi, by simpa using h1, h2, h3⟩
/-- what the first with this Id that is there carries -/
def loadAt (L : List Peer) (n : Int) : Int := match L.find? (hereB n) with
  | some p => (peerItems p : Nat)
  | none => 0
def loadsOf (L : List Peer) : List Int := (hereS L).map (loadAt L)
theorem loadAt_le (L : List Peer) (n : Int) : 0 ≤ loadAt L n ∧ loadAt L n ≤ (sumOf peerItems L : Nat) := by
  unfold loadAt
  split
  · rename_i p hp
    have := sumOf_mem (f := peerItems) (List.mem_of_find?_eq_some hp)
    omega
  · omega
def mostOf (l : List Int) : Int := l.foldl max 0
theorem mostOf_take (l : List Int) {k : Nat} (h : k < l.length) : mostOf (l.take (k + 1)) = max (mostOf (l.take k)) l[k] := by
  unfold mostOf; rw [List.take_add_one, List.getElem?_eq_getElem h, List.foldl_append]; rfl
theorem loadsOf_len (L : List Peer) : (loadsOf L).length = (hereS L).length := by simp [loadsOf]
end Go.Proofs.YtkcnljgjlofgiaaGreatDoor.AB
namespace Go.Proofs.YtkcnljgjlofgiaaGreatDoor.AB
open Go
set_option maxRecDepth 100000
set_option linter.unusedSimpArgs false
set_option linter.unusedVariables false
def behL (B : List Int) : List UInt8 := B.flatMap fun x => 32 :: decI x
def lineP (p : Peer) : List UInt8 := decI p.id ++ [32, 45, 62] ++ behL p.behind ++ [32, 115, 104, 101, 108, 118, 101, 115, 32] ++ decN p.shelves.length ++ [10]
def lineR (L : List Peer) (n : Int) : List UInt8 := match L.find? (hereB n) with
  | some p => lineP p
  | none => []
def linesR (L : List Peer) (R : List Int) : List UInt8 := R.flatMap (lineR L)
def showRing (L : List Peer) : List UInt8 := linesR L (hereS L)
/-- the numbers of a peer that are shown are words of the machine -/
def Peer.num (p : Peer) : Prop := p.id ≤ 9223372036854775807 ∧ ∀ x, x ∈ p.behind → x ≤ 9223372036854775807
theorem decI_len {x : Int} (h : x ≤ 9223372036854775807) : (decI x).length ≤ 20 := decN_len (by omega)
theorem behL_len : ∀ (B : List Int), (∀ x, x ∈ B → x ≤ 9223372036854775807) → (behL B).length ≤ 21 * B.length
  | [], _ => by simp [behL]
  | x :: B, h => by
    have h1 := behL_len B (fun y hy => h y (List.mem_cons_of_mem _ hy))
    have h2 := decI_len (h x (by simp))
    unfold behL at *
    simp only [List.flatMap_cons, List.length_append, List.length_cons] at *; omega
theorem behL_take {B : List Int} {j : Nat} (h : j < B.length) : behL (B.take (j + 1)) = behL (B.take j) ++ 32 :: decI B[j] := by
  unfold behL
  rw [List.take_add_one, List.getElem?_eq_getElem h, List.flatMap_append]
  simp
theorem lineP_len {p : Peer} (h : p.small) (hn : p.num) : (lineP p).length ≤ 22020149 := by
  have h1 := decI_len hn.1
  have h2 := behL_len p.behind hn.2
  have h3 := h.1
  have h4 := decN_len (n := p.shelves.length) (by have := h.2.2.1; omega)
  unfold lineP
  simp only [List.length_append, List.length_cons, List.length_nil]; omega
theorem lineR_len {L : List Peer} (h : ∀ p, p ∈ L → p.small) (hn : ∀ p, p ∈ L → p.num) (n : Int) : (lineR L n).length ≤ 22020149 := by
  unfold lineR
  cases h1 : L.find? (hereB n) with
  | none => simp
  | some p => exact lineP_len (h p (List.mem_of_find?_eq_some h1)) (hn p (List.mem_of_find?_eq_some h1))
theorem linesR_len {L : List Peer} (h : ∀ p, p ∈ L → p.small) (hn : ∀ p, p ∈ L → p.num) : ∀ R, (linesR L R).length ≤ 22020149 * R.length
  | [] => by simp [linesR]
  | x :: R => by
    have h1 := linesR_len h hn R
    have h2 := lineR_len h hn x
    unfold linesR at *
    simp only [List.flatMap_cons, List.length_append, List.length_cons] at *; omega
theorem linesR_take {L : List Peer} {R : List Int} {k : Nat} {p : Peer} (h : k < R.length) (hp : L.find? (hereB R[k]) = some p) : linesR L (R.take (k + 1)) = linesR L (R.take k) ++ lineP p := by
  unfold linesR
  rw [List.take_add_one, List.getElem?_eq_getElem h, List.flatMap_append]
  simp [lineR, hp]
set_option maxHeartbeats 4000000 in
theorem ac_ShowRing (L : List Peer) (hL : L.length ≤ 1048576) (hL2 : ∀ p, p ∈ L → p.small) (hN : ∀ p, p ∈ L → p.num) : AC Tryz.prog 21 [encRing true L] (vS (showRing L)) [] := by
  have hh := ac_HereI L hL
  have hhl := hereS_len L
  have hp0 := fun n => ac_peerHere L n hL
  have hat := fun n (h : n ∈ hereS L) => here_at h
  have hlen := linesR_len hL2 hN
  unfold showRing
  generalize hereS L = R at *
  unfold encRing at *
  refine XA good (fn := Tryz.f21) rfl ?_
  simp only [entry, List.getD_cons_zero, List.getD_cons_succ]
  repeat' first | refine SW.step good fun K hK => ?_ | refine X2 good fun K hK => ?_ | refine X3 good fun K hK => ?_ | refine SW.seqK fun J hJ => ?_ | refine SW.last good fun K hK => ?_ | (refine hK _ ?_; clear hK K) | (refine hJ _ _ (Wk.refl _) ?_; clear hJ J) | clear hK K | clear hJ J | refine SW.skip ?_ | refine SW.ret ?_ | refine SW.retT ?_ | refine SW.retB ?_ | refine SW.exit ?_ | refine SW.exitT ?_ | refine SW.exitB ?_ | refine XN ?_ | refine SW.block ?_ | refine SW.normB ?_ | refine SW.normT ?_ | refine XT ?_ | refine XF ?_ | refine XC (fun h => ?_) (fun h => ?_) | refine X0 ?_ | refine Xv ?_ | refine X1 (hh) ?_ | simp only [go_sem, optI, Option.getD_some, Option.getD_none, Int.reduceToNat, reduceIte, Nat.reduceEqDiff, Nat.reduceAdd, Nat.reduceMul, Nat.reduceSub, Nat.reduceLT, Nat.reduceLeDiff, reduceCtorEq, *] | refine Xs _ (fun h => ?_) (fun h => ?_) | with_reducible refine And.intro ?_ ?_
  refine SW.loopTo (α := Nat) (fun k => ⟨sl [(1, .ptr (.s 1 0) 0), (3, vS (linesR L (R.take k))), (10, .own (.s 10 0)), (11, vI R.length), (12, vI k)], hl [(.s 1 0, .box [.c true (.sl (L.map peerC))]), (.s 10 0, .row false 3 1 (R.map intC))]⟩) (fun k => R.length - k) 0 (fun k => k ≤ R.length) ?_ (by simp) ?_
  · (refine Xto _ _ ?_ ?_ <;> simp only [go_sem, optI, Option.getD_some, Option.getD_none, Int.reduceToNat, reduceIte, Nat.reduceEqDiff, Nat.reduceAdd, Nat.reduceMul, Nat.reduceSub, Nat.reduceLT, Nat.reduceLeDiff, reduceCtorEq, Option.some.injEq, or_true, true_or] <;> (repeat' with_reducible apply And.intro) <;> (try rfl))
    all_goals first | (simp [linesR]; done) | skip
  · intro k h2
    have hln := hlen (R.take k)
    rw [List.length_take] at hln
    by_cases hk : k < R.length
    · have e := getD_map R intC [] hk
      have e1 : decide ((k : Int) < R.length) = true := by simp; omega
      have hw : IntKind.i64.wrap ((k : Int) + 1) = ((k + 1 : Nat) : Int) := wrap64 (by omega) (by omega)
      obtain ⟨i, hi, i1, i2, i3⟩ := hat _ (List.getElem_mem hk)
      have ht := linesR_take hk i2
      have hp := hp0 R[k]
      rw [i1] at hp
      have e2 := getD_map L peerC [] hi
      have hid : L[i].id = R[k] := by simp [hereB] at i3; exact i3.2
      have hsm := hL2 _ (List.getElem_mem hi)
      have hnm := hN _ (List.getElem_mem hi)
      have hs1 := hsm.1
      have hs3 := hsm.2.2.1
      have hx := hnm.2
      have hd1 := ac_Decimal L[i].id.toNat (by have := hnm.1; omega)
      have hd2 : (if (0 : Int) < R[k] then R[k] else 0) = ((L[i].id.toNat : Nat) : Int) := by rw [hid]; split <;> omega
      have hl1 := decI_len hnm.1
      have hd3 := ac_Decimal L[i].shelves.length (by omega)
      have hl3 := decN_len (n := L[i].shelves.length) (by omega)
      have hb := behL_len L[i].behind hx
      unfold lineP at ht
      have hdI : decN L[i].id.toNat = decI L[i].id := rfl
      rw [hdI] at hd1
      generalize linesR L (R.take k) = M at *
      clear i1 i2 i3 hat hp0 hlen hh hL2 hN hsm hnm
      generalize L[i] = p at *
      generalize R[k] = n at *
      subst hid
      generalize decI p.id = D at *
      generalize decN p.shelves.length = E at *
      repeat' first | refine SW.step good fun K hK => ?_ | refine X2 good fun K hK => ?_ | refine X3 good fun K hK => ?_ | refine SW.seqK fun J hJ => ?_ | refine SW.last good fun K hK => ?_ | (refine hK _ ?_; clear hK K) | (refine hJ _ _ (Wk.refl _) ?_; clear hJ J) | clear hK K | clear hJ J | refine SW.skip ?_ | refine SW.ret ?_ | refine SW.retT ?_ | refine SW.retB ?_ | refine SW.exit ?_ | refine SW.exitT ?_ | refine SW.exitB ?_ | refine XN ?_ | refine SW.block ?_ | refine SW.normB ?_ | refine SW.normT ?_ | refine XT ?_ | refine XF ?_ | refine XC (fun h => ?_) (fun h => ?_) | refine X0 ?_ | refine Xv ?_ | refine X1 (hp) ?_ | refine X1 (hd1) ?_ | simp only [go_sem, optI, Option.getD_some, Option.getD_none, Int.reduceToNat, reduceIte, Nat.reduceEqDiff, Nat.reduceAdd, Nat.reduceMul, Nat.reduceSub, Nat.reduceLT, Nat.reduceLeDiff, reduceCtorEq, *] | refine Xs _ (fun h => ?_) (fun h => ?_) | with_reducible refine And.intro ?_ ?_
      all_goals first | (intro r hr; simp at hr; subst hr; rfl) | (simp [bytesC]; omega) | (simp; done) | omega | rfl | skip
      refine SW.loopTo (α := Nat) (fun j => ⟨sl [(1, .ptr (.s 1 0) 0), (3, vS (M ++ (D ++ [32, 45, 62]) ++ behL (p.behind.take j))), (6, .ptr (.s 6 0) 0), (10, .own (.s 10 0)), (11, vI R.length), (12, vI k), (30, .c true (.sl (p.behind.map intC))), (31, vI p.behind.length), (32, vI j)], hl [(.s 1 0, .box [.c true (.sl (L.map peerC))]), (.s 6 0, .box [vI p.id, vB p.here, vI p.ahead, .c true (.sl (p.behind.map intC)), .c true (.sl (p.fingers.map intC)), .c true (.sl (p.shelves.map shelfC))]), (.s 10 0, .row false 3 1 (R.map intC))]⟩) (fun j => p.behind.length - j) 0 (fun j => j ≤ p.behind.length) ?_ (by simp) ?_
      · (refine Xto _ _ ?_ ?_ <;> simp only [go_sem, optI, Option.getD_some, Option.getD_none, Int.reduceToNat, reduceIte, Nat.reduceEqDiff, Nat.reduceAdd, Nat.reduceMul, Nat.reduceSub, Nat.reduceLT, Nat.reduceLeDiff, reduceCtorEq, Option.some.injEq, or_true, true_or] <;> (repeat' with_reducible apply And.intro) <;> (try rfl))
        all_goals first | (simp [behL]; done) | skip
      · intro j h3
        have hbj : (behL (p.behind.take j)).length ≤ 21 * j := by
          have := behL_len (p.behind.take j) (fun x hq => hx x (List.mem_of_mem_take hq))
          rw [List.length_take] at this; omega
        by_cases hj : j < p.behind.length
        · have f := getD_map p.behind intC [] hj
          have f1 : decide ((j : Int) < p.behind.length) = true := by simp; omega
          have hwj : IntKind.i64.wrap ((j : Int) + 1) = ((j + 1 : Nat) : Int) := wrap64 (by omega) (by omega)
          have hfg := ac_figures p.behind[j] (hx _ (List.getElem_mem hj))
          have hfl := decI_len (hx _ (List.getElem_mem hj))
          have htj := behL_take hj
          generalize decI p.behind[j] = F at *
          generalize behL (p.behind.take j) = Y at *
          clear hb hp hd1 hd3 ht
          repeat' first | refine SW.step good fun K hK => ?_ | refine X2 good fun K hK => ?_ | refine X3 good fun K hK => ?_ | refine SW.seqK fun J hJ => ?_ | refine SW.last good fun K hK => ?_ | (refine hK _ ?_; clear hK K) | (refine hJ _ _ (Wk.refl _) ?_; clear hJ J) | clear hK K | clear hJ J | refine SW.skip ?_ | refine SW.ret ?_ | refine SW.retT ?_ | refine SW.retB ?_ | refine SW.exit ?_ | refine SW.exitT ?_ | refine SW.exitB ?_ | refine XN ?_ | refine SW.block ?_ | refine SW.normB ?_ | refine SW.normT ?_ | refine XT ?_ | refine XF ?_ | refine XC (fun h => ?_) (fun h => ?_) | refine X0 ?_ | refine Xv ?_ | refine X1 (hfg) ?_ | simp only [go_sem, optI, Option.getD_some, Option.getD_none, Int.reduceToNat, reduceIte, Nat.reduceEqDiff, Nat.reduceAdd, Nat.reduceMul, Nat.reduceSub, Nat.reduceLT, Nat.reduceLeDiff, reduceCtorEq, *] | refine Xs _ (fun h => ?_) (fun h => ?_) | with_reducible refine And.intro ?_ ?_
          all_goals first | (intro r hr; simp at hr; subst hr; rfl) | (simp [bytesC]; omega) | (simp; done) | omega | rfl | (simp only [List.length_append, List.length_cons, List.length_nil]; omega) | skip
          all_goals refine ⟨j + 1, by omega, by omega, ?_⟩
          all_goals (refine Xto _ _ ?_ ?_ <;> simp only [go_sem, optI, Option.getD_some, Option.getD_none, Int.reduceToNat, reduceIte, Nat.reduceEqDiff, Nat.reduceAdd, Nat.reduceMul, Nat.reduceSub, Nat.reduceLT, Nat.reduceLeDiff, reduceCtorEq, Option.some.injEq, or_true, true_or] <;> (repeat' with_reducible apply And.intro) <;> (try rfl))
          all_goals first | (rw [htj]; simp; done) | skip
        · have hj' : j = p.behind.length := by omega
          subst hj'
          have f1 : decide ((p.behind.length : Int) < p.behind.length) = false := by simp
          rw [List.take_length] at hbj ⊢
          generalize behL p.behind = Y at *
          repeat' first | refine SW.step good fun K hK => ?_ | refine X2 good fun K hK => ?_ | refine X3 good fun K hK => ?_ | refine SW.seqK fun J hJ => ?_ | refine SW.last good fun K hK => ?_ | (refine hK _ ?_; clear hK K) | (refine hJ _ _ (Wk.refl _) ?_; clear hJ J) | clear hK K | clear hJ J | refine SW.skip ?_ | refine SW.ret ?_ | refine SW.retT ?_ | refine SW.retB ?_ | refine SW.exit ?_ | refine SW.exitT ?_ | refine SW.exitB ?_ | refine XN ?_ | refine SW.block ?_ | refine SW.normB ?_ | refine SW.normT ?_ | refine XT ?_ | refine XF ?_ | refine XC (fun h => ?_) (fun h => ?_) | refine X0 ?_ | refine Xv ?_ | refine X1 (hd3) ?_ | simp only [go_sem, optI, Option.getD_some, Option.getD_none, Int.reduceToNat, reduceIte, Nat.reduceEqDiff, Nat.reduceAdd, Nat.reduceMul, Nat.reduceSub, Nat.reduceLT, Nat.reduceLeDiff, reduceCtorEq, *] | refine Xs _ (fun h => ?_) (fun h => ?_) | with_reducible refine And.intro ?_ ?_
          all_goals first | (intro r hr; simp at hr; subst hr; rfl) | (simp [bytesC]; omega) | (simp; done) | omega | rfl | (simp only [List.length_append, List.length_cons, List.length_nil]; omega) | skip
          all_goals refine ⟨k + 1, by omega, by omega, ?_⟩
          all_goals (refine Xto _ _ ?_ ?_ <;> simp only [go_sem, optI, Option.getD_some, Option.getD_none, Int.reduceToNat, reduceIte, Nat.reduceEqDiff, Nat.reduceAdd, Nat.reduceMul, Nat.reduceSub, Nat.reduceLT, Nat.reduceLeDiff, reduceCtorEq, Option.some.injEq, or_true, true_or] <;> (repeat' with_reducible apply And.intro) <;> (try rfl))
          all_goals first | (rw [ht]; simp; done) | skip
    · have hk : k = R.length := by omega
      subst hk
      have e1 : decide ((R.length : Int) < R.length) = false := by simp
      rw [List.take_length]
      repeat' first | refine SW.step good fun K hK => ?_ | refine X2 good fun K hK => ?_ | refine X3 good fun K hK => ?_ | refine SW.seqK fun J hJ => ?_ | refine SW.last good fun K hK => ?_ | (refine hK _ ?_; clear hK K) | (refine hJ _ _ (Wk.refl _) ?_; clear hJ J) | clear hK K | clear hJ J | refine SW.skip ?_ | refine SW.ret ?_ | refine SW.retT ?_ | refine SW.retB ?_ | refine SW.exit ?_ | refine SW.exitT ?_ | refine SW.exitB ?_ | refine XN ?_ | refine SW.block ?_ | refine SW.normB ?_ | refine SW.normT ?_ | refine XT ?_ | refine XF ?_ | refine XC (fun h => ?_) (fun h => ?_) | simp only [go_sem, optI, Option.getD_some, Option.getD_none, Int.reduceToNat, reduceIte, Nat.reduceEqDiff, Nat.reduceAdd, Nat.reduceMul, Nat.reduceSub, Nat.reduceLT, Nat.reduceLeDiff, reduceCtorEq, *] | refine Xs _ (fun h => ?_) (fun h => ?_) | with_reducible refine And.intro ?_ ?_
      all_goals (refine Xrs ?_; rfl)
set_option maxHeartbeats 4000000 in
theorem ac_ShowRing' (L : List Peer) (hL : L.length ≤ 1048576) (hL2 : ∀ p, p ∈ L → p.small) (hN : ∀ p, p ∈ L → p.num) : AC Tryz.prog 14 [encRing true L] (vS (showRing L)) [] := by
  have hh := ac_HereOf' L hL
  have hhl := hereS_len L
  have hp0 := fun n => ac_PeerAt L n hL
  have hat := fun n (h : n ∈ hereS L) => here_at h
  have hlen := linesR_len hL2 hN
  unfold showRing
  generalize hereS L = R at *
  unfold encRing at *
  refine XA good (fn := Tryz.f14) rfl ?_
  simp only [entry, List.getD_cons_zero, List.getD_cons_succ]
  repeat' first | refine SW.step good fun K hK => ?_ | refine X2 good fun K hK => ?_ | refine X3 good fun K hK => ?_ | refine SW.seqK fun J hJ => ?_ | refine SW.last good fun K hK => ?_ | (refine hK _ ?_; clear hK K) | (refine hJ _ _ (Wk.refl _) ?_; clear hJ J) | clear hK K | clear hJ J | refine SW.skip ?_ | refine SW.ret ?_ | refine SW.retT ?_ | refine SW.retB ?_ | refine SW.exit ?_ | refine SW.exitT ?_ | refine SW.exitB ?_ | refine XN ?_ | refine SW.block ?_ | refine SW.normB ?_ | refine SW.normT ?_ | refine XT ?_ | refine XF ?_ | refine XC (fun h => ?_) (fun h => ?_) | refine X0 ?_ | refine Xv ?_ | refine X1 (hh) ?_ | simp only [go_sem, optI, Option.getD_some, Option.getD_none, Int.reduceToNat, reduceIte, Nat.reduceEqDiff, Nat.reduceAdd, Nat.reduceMul, Nat.reduceSub, Nat.reduceLT, Nat.reduceLeDiff, reduceCtorEq, *] | refine Xs _ (fun h => ?_) (fun h => ?_) | with_reducible refine And.intro ?_ ?_
  refine SW.loopTo (α := Nat) (fun k => ⟨sl [(1, .ptr (.s 1 0) 0), (3, vS (linesR L (R.take k))), (4, .own (.s 9 0)), (5, vI k)], hl [(.s 1 0, .box [.c true (.sl (L.map peerC))]), (.s 9 0, .row false 3 1 (R.map intC))]⟩) (fun k => R.length - k) 0 (fun k => k ≤ R.length) ?_ (by simp) ?_
  · (refine Xto _ _ ?_ ?_ <;> simp only [go_sem, optI, Option.getD_some, Option.getD_none, Int.reduceToNat, reduceIte, Nat.reduceEqDiff, Nat.reduceAdd, Nat.reduceMul, Nat.reduceSub, Nat.reduceLT, Nat.reduceLeDiff, reduceCtorEq, Option.some.injEq, or_true, true_or] <;> (repeat' with_reducible apply And.intro) <;> (try rfl))
    all_goals first | (simp [linesR]; done) | skip
  · intro k h2
    have hln := hlen (R.take k)
    rw [List.length_take] at hln
    by_cases hk : k < R.length
    · have e := getD_map R intC [] hk
      have e1 : decide ((k : Int) < R.length) = true := by simp; omega
      have hw : IntKind.i64.wrap ((k : Int) + 1) = ((k + 1 : Nat) : Int) := wrap64 (by omega) (by omega)
      obtain ⟨i, hi, i1, i2, i3⟩ := hat _ (List.getElem_mem hk)
      have ht := linesR_take hk i2
      have hp := hp0 R[k]
      rw [i1] at hp
      have e2 := getD_map L peerC [] hi
      have hid : L[i].id = R[k] := by simp [hereB] at i3; exact i3.2
      have hsm := hL2 _ (List.getElem_mem hi)
      have hnm := hN _ (List.getElem_mem hi)
      have hs1 := hsm.1
      have hs3 := hsm.2.2.1
      have hx := hnm.2
      have hd1 := ac_l27Num L[i].id hnm.1
      have hl1 := decI_len hnm.1
      have hd3 := ac_Decimal' L[i].shelves.length (by omega)
      have hl3 := decN_len (n := L[i].shelves.length) (by omega)
      have hb := behL_len L[i].behind hx
      unfold lineP at ht
      generalize linesR L (R.take k) = M at *
      clear i1 i2 i3 hat hp0 hlen hh hL2 hN hsm hnm
      generalize L[i] = p at *
      generalize R[k] = n at *
      subst hid
      generalize decI p.id = D at *
      generalize decN p.shelves.length = E at *
      repeat' first | refine SW.step good fun K hK => ?_ | refine X2 good fun K hK => ?_ | refine X3 good fun K hK => ?_ | refine SW.seqK fun J hJ => ?_ | refine SW.last good fun K hK => ?_ | (refine hK _ ?_; clear hK K) | (refine hJ _ _ (Wk.refl _) ?_; clear hJ J) | clear hK K | clear hJ J | refine SW.skip ?_ | refine SW.ret ?_ | refine SW.retT ?_ | refine SW.retB ?_ | refine SW.exit ?_ | refine SW.exitT ?_ | refine SW.exitB ?_ | refine XN ?_ | refine SW.block ?_ | refine SW.normB ?_ | refine SW.normT ?_ | refine XT ?_ | refine XF ?_ | refine XC (fun h => ?_) (fun h => ?_) | refine X0 ?_ | refine Xv ?_ | refine X1 (hp) ?_ | refine X1 (hd1) ?_ | simp only [go_sem, optI, Option.getD_some, Option.getD_none, Int.reduceToNat, reduceIte, Nat.reduceEqDiff, Nat.reduceAdd, Nat.reduceMul, Nat.reduceSub, Nat.reduceLT, Nat.reduceLeDiff, reduceCtorEq, *] | refine Xs _ (fun h => ?_) (fun h => ?_) | with_reducible refine And.intro ?_ ?_
      all_goals first | (intro r hr; simp at hr; subst hr; rfl) | (simp [bytesC]; omega) | (simp; done) | omega | rfl | skip
      refine SW.loopTo (α := Nat) (fun j => ⟨sl [(1, .ptr (.s 1 0) 0), (3, vS (M ++ (D ++ [32, 45, 62]) ++ behL (p.behind.take j))), (6, .ptr (.s 6 0) 0), (4, .own (.s 9 0)), (5, vI k), (7, vI j)], hl [(.s 1 0, .box [.c true (.sl (L.map peerC))]), (.s 6 0, .box [vI p.id, vB p.here, vI p.ahead, .c true (.sl (p.behind.map intC)), .c true (.sl (p.fingers.map intC)), .c true (.sl (p.shelves.map shelfC))]), (.s 9 0, .row false 3 1 (R.map intC))]⟩) (fun j => p.behind.length - j) 0 (fun j => j ≤ p.behind.length) ?_ (by simp) ?_
      · (refine Xto _ _ ?_ ?_ <;> simp only [go_sem, optI, Option.getD_some, Option.getD_none, Int.reduceToNat, reduceIte, Nat.reduceEqDiff, Nat.reduceAdd, Nat.reduceMul, Nat.reduceSub, Nat.reduceLT, Nat.reduceLeDiff, reduceCtorEq, Option.some.injEq, or_true, true_or] <;> (repeat' with_reducible apply And.intro) <;> (try rfl))
        all_goals first | (simp [behL]; done) | skip
      · intro j h3
        have hbj : (behL (p.behind.take j)).length ≤ 21 * j := by
          have := behL_len (p.behind.take j) (fun x hq => hx x (List.mem_of_mem_take hq))
          rw [List.length_take] at this; omega
        by_cases hj : j < p.behind.length
        · have f := getD_map p.behind intC [] hj
          have f1 : decide ((j : Int) < p.behind.length) = true := by simp; omega
          have hwj : IntKind.i64.wrap ((j : Int) + 1) = ((j + 1 : Nat) : Int) := wrap64 (by omega) (by omega)
          have hfg := ac_l27Num p.behind[j] (hx _ (List.getElem_mem hj))
          have hfl := decI_len (hx _ (List.getElem_mem hj))
          have htj := behL_take hj
          generalize decI p.behind[j] = F at *
          generalize behL (p.behind.take j) = Y at *
          clear hb hp hd1 hd3 ht
          repeat' first | refine SW.step good fun K hK => ?_ | refine X2 good fun K hK => ?_ | refine X3 good fun K hK => ?_ | refine SW.seqK fun J hJ => ?_ | refine SW.last good fun K hK => ?_ | (refine hK _ ?_; clear hK K) | (refine hJ _ _ (Wk.refl _) ?_; clear hJ J) | clear hK K | clear hJ J | refine SW.skip ?_ | refine SW.ret ?_ | refine SW.retT ?_ | refine SW.retB ?_ | refine SW.exit ?_ | refine SW.exitT ?_ | refine SW.exitB ?_ | refine XN ?_ | refine SW.block ?_ | refine SW.normB ?_ | refine SW.normT ?_ | refine XT ?_ | refine XF ?_ | refine XC (fun h => ?_) (fun h => ?_) | refine X0 ?_ | refine Xv ?_ | refine X1 (hfg) ?_ | simp only [go_sem, optI, Option.getD_some, Option.getD_none, Int.reduceToNat, reduceIte, Nat.reduceEqDiff, Nat.reduceAdd, Nat.reduceMul, Nat.reduceSub, Nat.reduceLT, Nat.reduceLeDiff, reduceCtorEq, *] | refine Xs _ (fun h => ?_) (fun h => ?_) | with_reducible refine And.intro ?_ ?_
          all_goals first | (intro r hr; simp at hr; subst hr; rfl) | (simp [bytesC]; omega) | (simp; done) | omega | rfl | (simp only [List.length_append, List.length_cons, List.length_nil]; omega) | skip
          all_goals refine ⟨j + 1, by omega, by omega, ?_⟩
          all_goals (refine Xto _ _ ?_ ?_ <;> simp only [go_sem, optI, Option.getD_some, Option.getD_none, Int.reduceToNat, reduceIte, Nat.reduceEqDiff, Nat.reduceAdd, Nat.reduceMul, Nat.reduceSub, Nat.reduceLT, Nat.reduceLeDiff, reduceCtorEq, Option.some.injEq, or_true, true_or] <;> (repeat' with_reducible apply And.intro) <;> (try rfl))
          all_goals first | (rw [htj]; simp; done) | skip
        · have hj' : j = p.behind.length := by omega
          subst hj'
          have f1 : decide ((p.behind.length : Int) < p.behind.length) = false := by simp
          rw [List.take_length] at hbj ⊢
          generalize behL p.behind = Y at *
          repeat' first | refine SW.step good fun K hK => ?_ | refine X2 good fun K hK => ?_ | refine X3 good fun K hK => ?_ | refine SW.seqK fun J hJ => ?_ | refine SW.last good fun K hK => ?_ | (refine hK _ ?_; clear hK K) | (refine hJ _ _ (Wk.refl _) ?_; clear hJ J) | clear hK K | clear hJ J | refine SW.skip ?_ | refine SW.ret ?_ | refine SW.retT ?_ | refine SW.retB ?_ | refine SW.exit ?_ | refine SW.exitT ?_ | refine SW.exitB ?_ | refine XN ?_ | refine SW.block ?_ | refine SW.normB ?_ | refine SW.normT ?_ | refine XT ?_ | refine XF ?_ | refine XC (fun h => ?_) (fun h => ?_) | refine X0 ?_ | refine Xv ?_ | refine X1 (hd3) ?_ | simp only [go_sem, optI, Option.getD_some, Option.getD_none, Int.reduceToNat, reduceIte, Nat.reduceEqDiff, Nat.reduceAdd, Nat.reduceMul, Nat.reduceSub, Nat.reduceLT, Nat.reduceLeDiff, reduceCtorEq, *] | refine Xs _ (fun h => ?_) (fun h => ?_) | with_reducible refine And.intro ?_ ?_
          all_goals first | (intro r hr; simp at hr; subst hr; rfl) | (simp [bytesC]; omega) | (simp; done) | omega | rfl | (simp only [List.length_append, List.length_cons, List.length_nil]; omega) | skip
          all_goals refine ⟨k + 1, by omega, by omega, ?_⟩
          all_goals (refine Xto _ _ ?_ ?_ <;> simp only [go_sem, optI, Option.getD_some, Option.getD_none, Int.reduceToNat, reduceIte, Nat.reduceEqDiff, Nat.reduceAdd, Nat.reduceMul, Nat.reduceSub, Nat.reduceLT, Nat.reduceLeDiff, reduceCtorEq, Option.some.injEq, or_true, true_or] <;> (repeat' with_reducible apply And.intro) <;> (try rfl))
          all_goals first | (rw [ht]; simp; done) | skip
    · have hk : k = R.length := by omega
      subst hk
      have e1 : decide ((R.length : Int) < R.length) = false := by simp
      rw [List.take_length]
      repeat' first | refine SW.step good fun K hK => ?_ | refine X2 good fun K hK => ?_ | refine X3 good fun K hK => ?_ | refine SW.seqK fun J hJ => ?_ | refine SW.last good fun K hK => ?_ | (refine hK _ ?_; clear hK K) | (refine hJ _ _ (Wk.refl _) ?_; clear hJ J) | clear hK K | clear hJ J | refine SW.skip ?_ | refine SW.ret ?_ | refine SW.retT ?_ | refine SW.retB ?_ | refine SW.exit ?_ | refine SW.exitT ?_ | refine SW.exitB ?_ | refine XN ?_ | refine SW.block ?_ | refine SW.normB ?_ | refine SW.normT ?_ | refine XT ?_ | refine XF ?_ | refine XC (fun h => ?_) (fun h => ?_) | simp only [go_sem, optI, Option.getD_some, Option.getD_none, Int.reduceToNat, reduceIte, Nat.reduceEqDiff, Nat.reduceAdd, Nat.reduceMul, Nat.reduceSub, Nat.reduceLT, Nat.reduceLeDiff, reduceCtorEq, *] | refine Xs _ (fun h => ?_) (fun h => ?_) | with_reducible refine And.intro ?_ ?_
      all_goals (refine Xrs ?_; rfl)
theorem wfR {n : Int} (h : (Lit.int .i64 n).wf = true) : n ≤ 9223372036854775807 := by
  simp [Lit.wf] at h
  omega
theorem hasIntsR {q : Nat} : ∀ {xs : List (List C)}, (∀ r, r ∈ xs → HasT Tryz.prog (q + 1) 3 r) → ∃ L : List Int, xs = L.map intC ∧ ∀ n, n ∈ L → n ≤ 9223372036854775807
  | [], _ => ⟨[], rfl, by simp⟩
  | r :: xs, h => by
    have h1 := h r (by simp)
    simp only [HasT, Tryz.underlying3] at h1
    obtain ⟨n, rfl, hn⟩ := h1
    obtain ⟨L, rfl, hL⟩ := hasIntsR (xs := xs) (fun r hr => h r (List.mem_cons_of_mem _ hr))
    exact ⟨n :: L, rfl, by simpa using ⟨wfR hn, hL⟩⟩
theorem hasPeerN {q : Nat} {cs : List C} (h : HasT Tryz.prog (q + 6) 111 cs) : ∃ e : Peer, cs = peerC e ∧ e.ok ∧ e.num := by
  simp only [HasT, Tryz.underlying111, Tryz.underlying109, Tryz.underlying25, Tryz.underlying3, Tryz.underlying4, HasFs] at h
  obtain ⟨_, _, rfl, ⟨id, rfl, hid⟩, _, _, rfl, ⟨he, rfl⟩, _, _, rfl, ⟨ah, rfl, _⟩, _, _, rfl, ⟨xs, rfl, h1, h2⟩, _, _, rfl, ⟨ys, rfl, h3, h4⟩, _, _, rfl, ⟨zs, rfl, h5, h6⟩, rfl⟩ := h
  obtain ⟨L, rfl, hb⟩ := hasIntsR (q := 0) (by intro r hr; have := h2 r hr; simp only [HasT, Tryz.underlying3]; exact this)
  obtain ⟨M, rfl, _⟩ := hasIntsR (q := 0) (by intro r hr; have := h4 r hr; simp only [HasT, Tryz.underlying3]; exact this)
  obtain ⟨Z, rfl, hZ⟩ := hasShelves h6
  rw [List.length_map] at h1 h3 h5
  exact ⟨⟨id, he, ah, L, M, Z⟩, rfl, ⟨by simpa [maxLen] using h1, by simpa [maxLen] using h3, by simpa [maxLen] using h5, hZ⟩, wfR hid, hb⟩
theorem hasPeersN {q : Nat} : ∀ {xs : List (List C)}, (∀ r, r ∈ xs → HasT Tryz.prog (q + 6) 111 r) → ∃ L : List Peer, xs = L.map peerC ∧ (∀ e, e ∈ L → e.ok) ∧ ∀ e, e ∈ L → e.num
  | [], _ => ⟨[], rfl, by simp, by simp⟩
  | r :: xs, h => by
    obtain ⟨e, rfl, he, hn⟩ := hasPeerN (h r (by simp))
    obtain ⟨L, rfl, hL, hM⟩ := hasPeersN (xs := xs) (fun r hr => h r (List.mem_cons_of_mem _ hr))
    exact ⟨e :: L, rfl, by simpa using ⟨he, hL⟩, by simpa using ⟨hn, hM⟩⟩
end Go.Proofs.YtkcnljgjlofgiaaGreatDoor.AB
