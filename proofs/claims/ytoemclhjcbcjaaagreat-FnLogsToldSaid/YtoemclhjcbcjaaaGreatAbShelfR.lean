/- strings.Repeat: the shelf's contract, laid. -/
import Derived.Test.YtoemclhjcbcjaaaGreatAbHbBlock
import Derived.Shelf.Strings.Repeat
import Derived.Test.YtoemclhjcbcjaaaGreatProg
namespace Go.Proofs.YtoemclhjcbcjaaaGreat.AB
open Go
set_option maxRecDepth 100000
set_option linter.unusedSimpArgs false
set_option linter.unusedVariables false
abbrev nC (n : Int) : List C := [cI n]
/-- views of this row are forgotten -/
def clrV (i : Id) : AV → AV
  | .vw j lo n => if j = i then .dead else .vw j lo n
  | x => x
def clrS (i : Id) (o : Ob) (st : St) : St := ⟨fun d => (st.t d).on (clrV i), fun j => if j = i then some o else (st.h j).map (Ob.on (clrV i))⟩
theorem Im.flat {S S' : Nat → Prop} {w w' : World} {v : Value} {x : C} (hs : C.scal x = true) (h : Im S w v x) : Im S' w' v x := h.scal_any hs
/-- a row of numbers holds nothing that is lent -/
theorem Wk.flat {st : St} (i : Id) {b : Bool} {e sz : Nat} {xs : List (List C)} (hi : st.h i = some (.row b e sz xs)) (hs : ∀ r, r ∈ xs → ∀ c, c ∈ r → C.scal c = true) : Wk st (clrS i (.row false e sz xs) st) := by
  rintro Γ a w ⟨S, ν, q⟩
  have hh : ∀ j o, (clrS i (.row false e sz xs) st).h j = some o → (j = i ∧ o = .row false e sz xs) ∨ (j ≠ i ∧ ∃ o0, st.h j = some o0 ∧ o = Ob.on (clrV i) o0) := by
    intro j o hj
    simp only [clrS] at hj
    split at hj
    · rename_i e1; exact .inl ⟨e1, (Option.some.inj hj).symm⟩
    · rename_i e1
      obtain ⟨o0, h1, h2⟩ := Option.map_eq_some_iff.1 hj
      exact .inr ⟨e1, o0, h1, h2.symm⟩
  have hl : ∀ j, ((clrS i (.row false e sz xs) st).h j).isSome = true → (st.h j).isSome = true := by
    intro j hj
    obtain ⟨o, ho⟩ := Option.isSome_iff_exists.1 hj
    rcases hh j o ho with ⟨rfl, _⟩ | ⟨_, o0, h1, _⟩
    · rw [hi]; rfl
    · rw [h1]; rfl
  have hrow : ∀ j b' e' sz' xs', st.h j = some (.row b' e' sz' xs') → ∃ b'', (clrS i (.row false e sz xs) st).h j = some (.row b'' e' sz' xs') ∧ (j ≠ i → b'' = b') := by
    intro j b' e' sz' xs' hj
    by_cases e1 : j = i
    · subst e1
      rw [hi] at hj
      obtain ⟨rfl, rfl, rfl, rfl⟩ := Ob.row.inj (Option.some.inj hj)
      exact ⟨false, by simp [clrS], fun q => absurd rfl q⟩
    · exact ⟨b', by simp [clrS, e1, hj, Ob.on], fun _ => rfl⟩
  have hbox : ∀ j cs, st.h j = some (.box cs) → (clrS i (.row false e sz xs) st).h j = some (.box (AV.onL (clrV i) cs)) := by
    intro j cs hj
    by_cases e1 : j = i
    · subst e1; rw [hi] at hj; cases hj
    · simp [clrS, e1, hj, Ob.on]
  have hreg : ∀ j, st.h j = some .reg → (clrS i (.row false e sz xs) st).h j = some .reg := by
    intro j hj
    by_cases e1 : j = i
    · subst e1; rw [hi] at hj; cases hj
    · simp [clrS, e1, hj, Ob.on]
  have hreg' : ∀ j, (clrS i (.row false e sz xs) st).h j = some .reg → st.h j = some .reg := by
    intro j hj
    rcases hh j _ hj with ⟨_, h2⟩ | ⟨_, o0, h1, h2⟩
    · cases h2
    · cases o0 with
      | box => cases h2
      | row => cases h2
      | reg => exact h1
  have hg : ∀ x v, x.leaf = true → VR S Γ.B ν st.h w x v → VR S Γ.B ν (clrS i (.row false e sz xs) st).h w (clrV i x) v := by
    intro x v hlf hv
    cases hv with
    | c hk => exact .c hk
    | agg => cases hlf
    | tup => cases hlf
    | own hk =>
      obtain ⟨b'', h1, _⟩ := hrow _ _ _ _ _ hk
      exact .own h1
    | vw hk hle hv =>
      simp only [clrV]; split
      · exact .dead
      · rename_i e1
        obtain ⟨b'', h1, h2⟩ := hrow _ _ _ _ _ hk
        rw [h2 e1] at h1
        exact .vw h1 hle hv
    | nil => exact .nil
    | ptr hk hν => exact .ptr (hbox _ _ hk) hν
    | ept hk hν hn =>
      obtain ⟨b'', h1, _⟩ := hrow _ _ _ _ _ hk
      exact .ept h1 hν hn
    | ip u hs hb hu hi => exact .ip u hs hb hu hi
    | fn => cases hlf
    | rx hk q => exact .rx (hreg _ hk) q
    | rg hk q => exact .rg (hreg _ hk) q
    | rp hk hs hb q => exact .rp (hreg _ hk) hs hb q
    | dead => exact .dead
  refine ⟨S, ν, q.defers, q.size, q.s0, q.s1, q.fr, ⟨fun j cs hj => ?_, fun j bor e' sz' xs' hj => ?_, fun j hj => q.ok.reg j (hreg' j hj), fun j k b hjk h1 h2 => q.ok.sep j k b hjk (hl j h1) (hl k h2), fun j b h1 => q.ok.out j b (hl j h1), q.ok.lt⟩,
    fun j b h1 => q.mine j b (hl j h1), fun k hk => q.came k (hl _ hk), q.um, fun k hk => q.kp k (hreg' _ hk), q.lay, fun d => (q.t d).on hg⟩
  · rcases hh j _ hj with ⟨_, h2⟩ | ⟨_, o0, h1, h2⟩
    · cases h2
    · cases o0 with
      | row => cases h2
      | reg => cases h2
      | box cs0 =>
        obtain rfl := Ob.box.inj h2
        obtain ⟨b, us, TT, hv, hw, hsz, hc⟩ := q.ok.box j cs0 h1
        refine ⟨b, us, TT, hv, hw, by rw [hsz, AV.onL_map, List.length_map], fun n x u hx hu => ?_⟩
        rw [AV.onL_map, List.getElem?_map] at hx
        obtain ⟨y, hy, rfl⟩ := Option.map_eq_some_iff.1 hx
        exact ⟨(hc n y u hy hu).1.on hg, (hc n y u hy hu).2⟩
  · rcases hh j _ hj with ⟨rfl, h2⟩ | ⟨_, o0, h1, h2⟩
    · obtain ⟨rfl, rfl, rfl, rfl⟩ := Ob.row.inj h2
      obtain ⟨h0, hl', us, hown, hc⟩ := q.ok.row _ _ _ _ _ hi
      refine ⟨h0, hl', us, hown, fun n r o c hr hcc => ?_⟩
      obtain ⟨u, hu, h1, him⟩ := hc n r o c hr hcc
      exact ⟨u, hu, h1, him.scal_any (hs r (List.mem_of_getElem? hr) c (List.mem_of_getElem? hcc))⟩
    · cases o0 with
      | box => cases h2
      | reg => cases h2
      | row b0 e0 sz0 xs0 =>
        obtain ⟨rfl, rfl, rfl, rfl⟩ := Ob.row.inj h2
        exact q.ok.row j _ _ _ _ h1
theorem clr_t (i : Id) (o : Ob) (st : St) (d : Nat) : (clrS i o st).t d = (st.t d).on (clrV i) := rfl
theorem clr_h (i : Id) (o : Ob) (st : St) (j : Id) : (clrS i o st).h j = if j = i then some o else (st.h j).map (Ob.on (clrV i)) := rfl
attribute [go_sem] clr_t clr_h clrV layC
theorem nC_flat {A : List Int} : ∀ r, r ∈ A.map nC → ∀ c, c ∈ r → C.scal c = true := by
  intro r hr c hc
  obtain ⟨n, _, rfl⟩ := List.mem_map.1 hr
  simp at hc; subst hc; rfl
theorem nC_len {A : List Int} : ∀ r, r ∈ A.map nC → r.length = 1 := by
  intro r hr
  obtain ⟨n, _, rfl⟩ := List.mem_map.1 hr
  rfl
theorem nC_get {l : List Int} {j : Nat} (h : j < l.length) : (l.map nC).getD j [] = nC (l.getD j 0) := by
  simp [List.getD_eq_getElem?_getD, List.getElem?_map, List.getElem?_eq_getElem h]
/-- numbers of a row, so far -/
def uR (A : List Int) (k : Nat) : List Int := A.take k ++ List.replicate (8 - k) 0
theorem uR_len {A : List Int} {k : Nat} (hA : A.length = 8) (h : k ≤ 8) : ((uR A k).map uC).length = 8 := by simp [uR, hA]; omega
theorem uR_set {A : List Int} {k : Nat} (hA : A.length = 8) (h : k < 8) : ((uR A k).map uC).set k (uC (A.getD k 0)) = (uR A (k + 1)).map uC := by
  unfold uR
  have h1 : (List.map uC (A.take k)).length = k := by simp [hA]; omega
  rw [List.map_append, List.set_append_right _ _ (by omega), h1, Nat.sub_self, show 8 - k = (8 - (k + 1)) + 1 by omega, List.replicate_succ, List.map_cons, List.set_cons_zero, List.take_add_one, List.getElem?_eq_getElem (by omega), List.getD_eq_getElem?_getD, List.getElem?_eq_getElem (by omega)]
  simp only [Option.toList_some, Option.getD_some, List.map_append, List.append_assoc, List.map_cons, List.map_nil, List.cons_append, List.nil_append]
theorem uR_get {A : List Int} {k : Nat} (hA : A.length = 8) (h : k < 8) : ((uR A k).map uC).getD k [] = uC 0 := by
  rw [uC_get (by have := uR_len (A := A) (k := k) hA (by omega); rw [List.length_map] at this; omega)]
  unfold uR
  rw [List.getD_eq_getElem?_getD, List.getElem?_append_right (by rw [List.length_take]; omega), List.length_take, List.getElem?_replicate, if_pos (by omega)]; rfl
theorem uR_all {A : List Int} (hA : A.length = 8) : uR A 8 = A := by
  unfold uR
  rw [List.take_of_length_le (by omega)]; simp
theorem q6 (x : Int) : AC Tryz.prog 78 [vU x, vI 6] (vU (tn x 6)) [] := ac_turn x 6 (by omega) (by omega)
theorem q11 (x : Int) : AC Tryz.prog 78 [vU x, vI 11] (vU (tn x 11)) [] := ac_turn x 11 (by omega) (by omega)
theorem q25 (x : Int) : AC Tryz.prog 78 [vU x, vI 25] (vU (tn x 25)) [] := ac_turn x 25 (by omega) (by omega)
theorem q2 (x : Int) : AC Tryz.prog 78 [vU x, vI 2] (vU (tn x 2)) [] := ac_turn x 2 (by omega) (by omega)
theorem q13 (x : Int) : AC Tryz.prog 78 [vU x, vI 13] (vU (tn x 13)) [] := ac_turn x 13 (by omega) (by omega)
theorem q22 (x : Int) : AC Tryz.prog 78 [vU x, vI 22] (vU (tn x 22)) [] := ac_turn x 22 (by omega) (by omega)
theorem unx (e : Int) : IntKind.u32.wrap (((BitVec.ofInt 32 (if IntKind.u32.signed = true then -1 else IntKind.u32.max)) ^^^ BitVec.ofInt 32 e).toNat) = xorK .u32 e 4294967295 := by
  unfold xorK
  rw [BitVec.xor_comm]; rfl
set_option maxHeartbeats 4000000 in
theorem ac_ShaBlock (A : List Int) (b : List UInt8) (hA : A.length = 8) (hA2 : ∀ n, n ∈ A → 0 ≤ n ∧ n ≤ 4294967295) (hb : b.length = 64) : AC Tryz.prog 61 [.c true (.sl (A.map nC)), vS b] (.own (.r 0)) [.row false 3 1 ((blockS' b A).map nC)] := by
  have hAl : (A.map nC).length = 8 := by simp [hA]
  have hfl := nC_len (A := A)
  refine XA good (fn := Tryz.f61) rfl ?_
  simp only [entry, List.getD_cons_zero, List.getD_cons_succ]
  repeat' first | refine SW.step good fun K hK => ?_ | refine X2 good fun K hK => ?_ | refine X3 good fun K hK => ?_ | refine SW.seqK fun J hJ => ?_ | refine SW.last good fun K hK => ?_ | (refine hK _ ?_; clear hK K) | (refine hJ _ _ (Wk.refl _) ?_; clear hJ J) | clear hK K | clear hJ J | refine SW.skip ?_ | refine SW.ret ?_ | refine SW.retT ?_ | refine SW.retB ?_ | refine SW.exit ?_ | refine SW.exitT ?_ | refine SW.exitB ?_ | refine XN ?_ | refine SW.block ?_ | refine SW.normB ?_ | refine SW.normT ?_ | refine XT ?_ | refine XF ?_ | refine XC (fun h => ?_) (fun h => ?_) | refine X0 ?_ | refine Xv ?_ | refine X1 (ac_in _ _ _) ?_ | refine X1 (ac_schedule b hb) ?_ | refine X1 (rounds_are) ?_ | simp only [go_sem, optI, Option.getD_some, Option.getD_none, Int.reduceToNat, reduceIte, Nat.reduceEqDiff, Nat.reduceAdd, Nat.reduceMul, Nat.reduceSub, Nat.reduceLT, Nat.reduceLeDiff, reduceCtorEq, *] | refine Xs _ (fun h => ?_) (fun h => ?_) | with_reducible refine And.intro ?_ ?_
  all_goals first | omega | exact hfl | (exfalso; simp at *; done) | skip
  · rfl
  refine SW.weak ?_ (Wk.flat (.s 18 0) (by simp only [go_sem, optI, Option.getD_some, Option.getD_none, Int.reduceToNat, reduceIte, Nat.reduceEqDiff, Nat.reduceAdd, Nat.reduceMul, Nat.reduceSub, Nat.reduceLT, Nat.reduceLeDiff, reduceCtorEq] <;> rfl) nC_flat)
  refine SW.loopTo (α := Nat) (fun k => ⟨sl [(1, vS b), (5, .own (.s 18 0)), (6, .own (.s 30 0)), (31, .c true (.sl (A.map nC))), (32, vI 8), (33, vI k)], hl [(.s 18 0, .row false 3 1 (A.map nC)), (.s 30 0, .row false 89 1 ((uR A k).map uC))]⟩) (fun k => 8 - k) 0 (fun k => k ≤ 8) ?_ (by simp) ?_
  · (refine Xto _ _ ?_ ?_ <;> simp only [go_sem, optI, Option.getD_some, Option.getD_none, Int.reduceToNat, reduceIte, Nat.reduceEqDiff, Nat.reduceAdd, Nat.reduceMul, Nat.reduceSub, Nat.reduceLT, Nat.reduceLeDiff, reduceCtorEq, Option.some.injEq, or_true, true_or] <;> (repeat' with_reducible apply And.intro) <;> (try rfl))
    all_goals first | rfl | (simp [uR]; done) | skip
  · intro k h2
    by_cases hk : k < 8
    · have e := nC_get (l := A) (j := k) (by omega)
      have e1 : decide ((k : Int) < 8) = true := by simp; omega
      have hw : IntKind.i64.wrap ((k : Int) + 1) = ((k + 1 : Nat) : Int) := wrap64 (by omega) (by omega)
      have hm : A.getD k 0 ∈ A := by rw [List.getD_eq_getElem?_getD, List.getElem?_eq_getElem (by omega)]; exact List.getElem_mem _
      obtain ⟨r1, r2⟩ := hA2 _ hm
      have hin : decide (0 ≤ A.getD k 0 ∧ A.getD k 0 ≤ 4294967295) = true := by simp only [decide_eq_true_eq]; exact ⟨r1, r2⟩
      have h32 := wrap32 r1 r2
      have hset := uR_set hA hk
      have hg0 := uR_get hA hk
      have hul := uR_len (A := A) (k := k) hA (by omega)
      have hc := ac_in (A.getD k 0) 0 4294967295
      rw [hin] at hc
      clear hm hA2 hin r1 r2
      generalize A.getD k 0 = u at *
      repeat' first | refine SW.step good fun K hK => ?_ | refine X2 good fun K hK => ?_ | refine X3 good fun K hK => ?_ | refine SW.seqK fun J hJ => ?_ | refine SW.last good fun K hK => ?_ | (refine hK _ ?_; clear hK K) | (refine hJ _ _ (Wk.refl _) ?_; clear hJ J) | clear hK K | clear hJ J | refine SW.skip ?_ | refine SW.ret ?_ | refine SW.retT ?_ | refine SW.retB ?_ | refine SW.exit ?_ | refine SW.exitT ?_ | refine SW.exitB ?_ | refine XN ?_ | refine SW.block ?_ | refine SW.normB ?_ | refine SW.normT ?_ | refine XT ?_ | refine XF ?_ | refine XC (fun h => ?_) (fun h => ?_) | refine X0 ?_ | refine Xv ?_ | refine X1 (hc) ?_ | simp only [go_sem, optI, Option.getD_some, Option.getD_none, Int.reduceToNat, reduceIte, Nat.reduceEqDiff, Nat.reduceAdd, Nat.reduceMul, Nat.reduceSub, Nat.reduceLT, Nat.reduceLeDiff, reduceCtorEq, *] | refine Xs _ (fun h => ?_) (fun h => ?_) | with_reducible refine And.intro ?_ ?_
      all_goals first | omega | (simp; omega) | skip
      all_goals refine ⟨k + 1, by omega, by omega, ?_⟩
      all_goals (refine Xto _ _ ?_ ?_ <;> simp only [go_sem, optI, Option.getD_some, Option.getD_none, Int.reduceToNat, reduceIte, Nat.reduceEqDiff, Nat.reduceAdd, Nat.reduceMul, Nat.reduceSub, Nat.reduceLT, Nat.reduceLeDiff, reduceCtorEq, Option.some.injEq, or_true, true_or] <;> (repeat' with_reducible apply And.intro) <;> (try rfl))
      all_goals first | exact hset | skip
    · have hk : k = 8 := by omega
      subst hk
      have e1 : decide (((8 : Nat) : Int) < 8) = false := rfl
      have hsc := ac_schedule b hb
      have hrr := rounds_are
      rw [uR_all hA]
      have hA3 : ∀ k, k < 8 → IntKind.u32.wrap (A.getD k 0) = A.getD k 0 := fun k hk => by
        have hm : A.getD k 0 ∈ A := by rw [List.getD_eq_getElem?_getD, List.getElem?_eq_getElem (by omega)]; exact List.getElem_mem _
        obtain ⟨r1, r2⟩ := hA2 _ hm
        exact wrap32 r1 r2
      clear hA2
      have hkl : (kW.map uC).length = 64 := rfl
      have hkg : ∀ j, j < 64 → (kW.map uC).getD j [] = uC (kW.getD j 0) := fun j hj => uC_get (by rw [List.length_map] at hkl; omega)
      have hwl : ((schW b 64).map uC).length = 64 := by rw [List.length_map, schW_len]
      have hwg : ∀ j, j < 64 → ((schW b 64).map uC).getD j [] = uC ((schW b 64).getD j 0) := fun j hj => uC_get (by rw [schW_len]; omega)
      have hun := unx
      have hB : blockS' b A = List.zipWith ad A (rs b A 64) := rfl
      generalize hS : rs b A = R at *
      have hR0 : R 0 = A := by rw [← hS]; rfl
      have hRs : ∀ n m, m = n + 1 → R m = rnd (R n) (kW.getD n 0) ((schW b 64).getD n 0) := fun n m hm => by subst hm; rw [← hS]; rfl
      have hRl : ∀ n, (R n).length = 8 := fun n => by rw [← hS]; exact rs_len hA b n
      clear hS
      generalize schW b 64 = sW at *
      generalize kW = K at *
      repeat' first | refine SW.step good fun K hK => ?_ | refine X2 good fun K hK => ?_ | refine X3 good fun K hK => ?_ | refine SW.seqK fun J hJ => ?_ | refine SW.last good fun K hK => ?_ | (refine hK _ ?_; clear hK K) | (refine hJ _ _ (Wk.refl _) ?_; clear hJ J) | clear hK K | clear hJ J | refine SW.skip ?_ | refine SW.ret ?_ | refine SW.retT ?_ | refine SW.retB ?_ | refine SW.exit ?_ | refine SW.exitT ?_ | refine SW.exitB ?_ | refine XN ?_ | refine SW.block ?_ | refine SW.normB ?_ | refine SW.normT ?_ | refine XT ?_ | refine XF ?_ | refine XC (fun h => ?_) (fun h => ?_) | refine X0 ?_ | refine Xv ?_ | refine X1 (hsc) ?_ | refine X1 (hrr) ?_ | simp only [go_sem, optI, Option.getD_some, Option.getD_none, Int.reduceToNat, reduceIte, Nat.reduceEqDiff, Nat.reduceAdd, Nat.reduceMul, Nat.reduceSub, Nat.reduceLT, Nat.reduceLeDiff, reduceCtorEq, *] | refine Xs _ (fun h => ?_) (fun h => ?_) | with_reducible refine And.intro ?_ ?_
      refine SW.loopTo (α := Nat) (fun k => ⟨sl [(5, .own (.s 18 0)), (6, .own (.s 30 0)), (9, .own (.s 48 0)), (50, .own (.s 50 0)), (51, vI 64), (52, vI k)], hl [(.s 18 0, .row false 3 1 (A.map nC)), (.s 30 0, .row false 89 1 ((R k).map uC)), (.s 48 0, .row false 89 1 (K.map uC)), (.s 50 0, .row false 89 1 (sW.map uC))]⟩) (fun k => 64 - k) 0 (fun k => k ≤ 64) ?_ (by simp) ?_
      · (refine Xto _ _ ?_ ?_ <;> simp only [go_sem, optI, Option.getD_some, Option.getD_none, Int.reduceToNat, reduceIte, Nat.reduceEqDiff, Nat.reduceAdd, Nat.reduceMul, Nat.reduceSub, Nat.reduceLT, Nat.reduceLeDiff, reduceCtorEq, Option.some.injEq, or_true, true_or] <;> (repeat' with_reducible apply And.intro) <;> (try rfl))
        all_goals first | (rw [hR0]; done) | skip
      · intro k h2
        clear e1 hR0 hsc hrr
        by_cases hk : k < 64
        · have e1 : decide ((k : Int) < 64) = true := by simp; omega
          have hw : IntKind.i64.wrap ((k : Int) + 1) = ((k + 1 : Nat) : Int) := wrap64 (by omega) (by omega)
          have z1 := hkg k hk
          have z2 := hwg k hk
          have hset := hRs k (k + 1) rfl
          have h8 := hRl k
          clear hkg hwg hRs hRl hfl hAl
          generalize hR' : R (k + 1) = R' at *
          generalize R k = r at *
          obtain ⟨c0, c1, c2, c3, c4, c5, c6, c7, rfl⟩ := eight h8
          unfold rnd at hset
          simp only [ad, bs0, bs1, chU, mjU] at hset
          clear h8
          repeat' first | refine SW.step good fun K hK => ?_ | refine X2 good fun K hK => ?_ | refine X3 good fun K hK => ?_ | refine SW.seqK fun J hJ => ?_ | refine SW.last good fun K hK => ?_ | (refine hK _ ?_; clear hK K) | (refine hJ _ _ (Wk.refl _) ?_; clear hJ J) | clear hK K | clear hJ J | refine SW.skip ?_ | refine SW.ret ?_ | refine SW.retT ?_ | refine SW.retB ?_ | refine SW.exit ?_ | refine SW.exitT ?_ | refine SW.exitB ?_ | refine XN ?_ | refine SW.block ?_ | refine SW.normB ?_ | refine SW.normT ?_ | refine XT ?_ | refine XF ?_ | refine XC (fun h => ?_) (fun h => ?_) | refine X0 ?_ | refine Xv ?_ | refine X1 (q6 _) ?_ | refine X1 (q11 _) ?_ | refine X1 (q25 _) ?_ | refine X1 (q2 _) ?_ | refine X1 (q13 _) ?_ | refine X1 (q22 _) ?_ | simp only [go_sem, optI, Option.getD_some, Option.getD_none, Int.reduceToNat, reduceIte, Nat.reduceEqDiff, Nat.reduceAdd, Nat.reduceMul, Nat.reduceSub, Nat.reduceLT, Nat.reduceLeDiff, reduceCtorEq, *] | refine Xs _ (fun h => ?_) (fun h => ?_) | with_reducible refine And.intro ?_ ?_
          clear z1 z2
          all_goals first | omega | (simp; done) | skip
          all_goals refine ⟨k + 1, by omega, by omega, ?_⟩
          all_goals (refine Wk.to _ _ [(.s 30 0, .s 149 0)] ?_ (by simp [ren]) ?_ (by simp [ren]) <;> simp only [go_sem, optI, Option.getD_some, Option.getD_none, Int.reduceToNat, reduceIte, Nat.reduceEqDiff, Nat.reduceAdd, Nat.reduceMul, Nat.reduceSub, Nat.reduceLT, Nat.reduceLeDiff, reduceCtorEq, Option.some.injEq, or_true, true_or] <;> (repeat' with_reducible apply And.intro) <;> (try rfl))
          all_goals first | (rw [hR', hset, ← unx c4]; rfl) | skip
          all_goals trace_state
        · have hk : k = 64 := by omega
          subst hk
          have e1 : decide (((64 : Nat) : Int) < 64) = false := rfl
          clear hkg hwg hRs
          have h8 := hRl 64
          clear hRl
          generalize R 64 = r at *
          have fl : ∀ k, k ≤ 8 → ((hx A r k).map nC).length = 8 := fun k h => by rw [List.length_map]; exact hx_len hA h8 h
          have fg : ∀ k, k < 8 → ((hx A r k).map nC).getD k [] = nC (A.getD k 0) := fun k h => by rw [nC_get (by rw [hx_len hA h8 (by omega)]; omega), hx_get hA h8 h]
          have fr : ∀ k, k < 8 → (r.map uC).getD k [] = uC (r.getD k 0) := fun k h => uC_get (by omega)
          have fs : ∀ k, k < 8 → ((hx A r k).map nC).set k (nC (ad (A.getD k 0) (r.getD k 0))) = (hx A r (k + 1)).map nC := fun k h => by
            have hk8 : k < (hx A r k).length := by rw [hx_len hA h8 (by omega)]; exact h
            rw [← hx_set hA h8 h, ← List.map_set, List.set_eq_take_append_cons_drop, if_pos hk8]
            simp
          have f0 : hx A r 0 = A := by simp [hx]
          have f8 : List.zipWith ad A r = hx A r 8 := (hx_all hA h8).symm
          have hrl : (r.map uC).length = 8 := by rw [List.length_map]; exact h8
          clear h8 hfl hkl hwl hun
          generalize hx A r = H at *
          repeat' first | refine SW.step good fun K hK => ?_ | refine X2 good fun K hK => ?_ | refine X3 good fun K hK => ?_ | refine SW.seqK fun J hJ => ?_ | refine SW.last good fun K hK => ?_ | (refine hK _ ?_; clear hK K) | (refine hJ _ _ (Wk.refl _) ?_; clear hJ J) | clear hK K | clear hJ J | refine SW.skip ?_ | refine SW.ret ?_ | refine SW.retT ?_ | refine SW.retB ?_ | refine SW.exit ?_ | refine SW.exitT ?_ | refine SW.exitB ?_ | refine XN ?_ | refine SW.block ?_ | refine SW.normB ?_ | refine SW.normT ?_ | refine XT ?_ | refine XF ?_ | refine XC (fun h => ?_) (fun h => ?_) | simp only [go_sem, optI, Option.getD_some, Option.getD_none, Int.reduceToNat, reduceIte, Nat.reduceEqDiff, Nat.reduceAdd, Nat.reduceMul, Nat.reduceSub, Nat.reduceLT, Nat.reduceLeDiff, reduceCtorEq, *] | refine Xs _ (fun h => ?_) (fun h => ?_) | with_reducible refine And.intro ?_ ?_
          refine SW.loopTo (α := Nat) (fun k => ⟨sl [(5, .own (.s 18 0)), (151, .own (.s 30 0)), (152, vI 8), (153, vI k)], hl [(.s 18 0, .row false 3 1 ((H k).map nC)), (.s 30 0, .row false 89 1 (r.map uC))]⟩) (fun k => 8 - k) 0 (fun k => k ≤ 8) ?_ (by simp) ?_
          · (refine Xto _ _ ?_ ?_ <;> simp only [go_sem, optI, Option.getD_some, Option.getD_none, Int.reduceToNat, reduceIte, Nat.reduceEqDiff, Nat.reduceAdd, Nat.reduceMul, Nat.reduceSub, Nat.reduceLT, Nat.reduceLeDiff, reduceCtorEq, Option.some.injEq, or_true, true_or] <;> (repeat' with_reducible apply And.intro) <;> (try rfl))
            all_goals first | (rw [f0]; done) | skip
          · intro k h2
            clear e1 f0
            by_cases hk : k < 8
            · have e1 : decide ((k : Int) < 8) = true := by simp; omega
              have hw : IntKind.i64.wrap ((k : Int) + 1) = ((k + 1 : Nat) : Int) := wrap64 (by omega) (by omega)
              have p1 := fl k (by omega)
              have p2 := fg k hk
              have p3 := fr k hk
              have p4 := fs k hk
              have p5 := hA3 k hk
              clear fl fg fr fs hA3 f8
              generalize A.getD k 0 = u at *
              generalize r.getD k 0 = v at *
              have p6 : IntKind.i64.wrap (IntKind.u32.wrap (u + v)) = ad u v := by
                have : 0 ≤ IntKind.u32.wrap (u + v) ∧ IntKind.u32.wrap (u + v) ≤ 4294967295 := by
                  simp only [IntKind.wrap, IntKind.bits, IntKind.signed]
                  simp
                  omega
                exact wrap64 (by omega) (by omega)
              repeat' first | refine SW.step good fun K hK => ?_ | refine X2 good fun K hK => ?_ | refine X3 good fun K hK => ?_ | refine SW.seqK fun J hJ => ?_ | refine SW.last good fun K hK => ?_ | (refine hK _ ?_; clear hK K) | (refine hJ _ _ (Wk.refl _) ?_; clear hJ J) | clear hK K | clear hJ J | refine SW.skip ?_ | refine SW.ret ?_ | refine SW.retT ?_ | refine SW.retB ?_ | refine SW.exit ?_ | refine SW.exitT ?_ | refine SW.exitB ?_ | refine XN ?_ | refine SW.block ?_ | refine SW.normB ?_ | refine SW.normT ?_ | refine XT ?_ | refine XF ?_ | refine XC (fun h => ?_) (fun h => ?_) | simp only [go_sem, optI, Option.getD_some, Option.getD_none, Int.reduceToNat, reduceIte, Nat.reduceEqDiff, Nat.reduceAdd, Nat.reduceMul, Nat.reduceSub, Nat.reduceLT, Nat.reduceLeDiff, reduceCtorEq, *] | refine Xs _ (fun h => ?_) (fun h => ?_) | with_reducible refine And.intro ?_ ?_
              clear p2 p3 p5 p6
              all_goals first | omega | (simp; omega) | skip
              all_goals refine ⟨k + 1, by omega, by omega, ?_⟩
              all_goals (refine Xto _ _ ?_ ?_ <;> simp only [go_sem, optI, Option.getD_some, Option.getD_none, Int.reduceToNat, reduceIte, Nat.reduceEqDiff, Nat.reduceAdd, Nat.reduceMul, Nat.reduceSub, Nat.reduceLT, Nat.reduceLeDiff, reduceCtorEq, Option.some.injEq, or_true, true_or] <;> (repeat' with_reducible apply And.intro) <;> (try rfl))
              all_goals first | exact p4 | skip
            · have hk : k = 8 := by omega
              subst hk
              have e1 : decide (((8 : Nat) : Int) < 8) = false := rfl
              clear fl fg fr fs hA3
              repeat' first | refine SW.step good fun K hK => ?_ | refine X2 good fun K hK => ?_ | refine X3 good fun K hK => ?_ | refine SW.seqK fun J hJ => ?_ | refine SW.last good fun K hK => ?_ | (refine hK _ ?_; clear hK K) | (refine hJ _ _ (Wk.refl _) ?_; clear hJ J) | clear hK K | clear hJ J | refine SW.skip ?_ | refine SW.ret ?_ | refine SW.retT ?_ | refine SW.retB ?_ | refine SW.exit ?_ | refine SW.exitT ?_ | refine SW.exitB ?_ | refine XN ?_ | refine SW.block ?_ | refine SW.normB ?_ | refine SW.normT ?_ | refine XT ?_ | refine XF ?_ | refine XC (fun h => ?_) (fun h => ?_) | simp only [go_sem, optI, Option.getD_some, Option.getD_none, Int.reduceToNat, reduceIte, Nat.reduceEqDiff, Nat.reduceAdd, Nat.reduceMul, Nat.reduceSub, Nat.reduceLT, Nat.reduceLeDiff, reduceCtorEq, *] | refine Xs _ (fun h => ?_) (fun h => ?_) | with_reducible refine And.intro ?_ ?_
              all_goals refine Xro (i := .s 18 0) ?_ ?_
              all_goals simp [Wn.leO, resOf, Wn.le, Wn.leL, Wn.cw, C.scal, scal, outW, idsTo, hrOf, f8, hB]
              all_goals trace_state
end Go.Proofs.YtoemclhjcbcjaaaGreat.AB
namespace Go.Proofs
open Go.Shelf
def Tryz.lays105_ren : Go.Shelf.Ren := ⟨fun | 105 => 75 | 212 => 83 | 99 => 84 | 165 => 85 | 166 => 86 | 170 => 87 | 169 => 88 | 263 => 92 | 264 => 93 | 206 => 94 | 240 => 95 | 241 => 96 | 276 => 99 | 277 => 100 | n => n, fun | 9 => 9 | 3 => 3 | 4 => 4 | 20 => 20 | 0 => 0 | 46 => 75 | 109 => 115 | 5 => 5 | 72 => 120 | 76 => 124 | 51 => 89 | 146 => 130 | 53 => 132 | 148 => 133 | 70 => 118 | 37 => 22 | 75 => 123 | 127 => 135 | 164 => 138 | 80 => 61 | n => n, fun | n => n⟩
theorem Tryz.lays105 : Go.Proofs.Lays.n105 Tryz.prog Tryz.lays105_ren := {
  mixed := by kernel_rfl
  f99 := Tryz.func84.trans (congrArg some (by kernel_rfl))
  f105 := Tryz.func75.trans (congrArg some (by kernel_rfl))
  f165 := Tryz.func85.trans (congrArg some (by kernel_rfl))
  f166 := Tryz.func86.trans (congrArg some (by kernel_rfl))
  f169 := Tryz.func88.trans (congrArg some (by kernel_rfl))
  f170 := Tryz.func87.trans (congrArg some (by kernel_rfl))
  f206 := Tryz.func94.trans (congrArg some (by kernel_rfl))
  f212 := Tryz.func83.trans (congrArg some (by kernel_rfl))
  f240 := Tryz.func95.trans (congrArg some (by kernel_rfl))
  f241 := Tryz.func96.trans (congrArg some (by kernel_rfl))
  f263 := Tryz.func92.trans (congrArg some (by kernel_rfl))
  f264 := Tryz.func93.trans (congrArg some (by kernel_rfl))
  f276 := Tryz.func99.trans (congrArg some (by kernel_rfl))
  f277 := Tryz.func100.trans (congrArg some (by kernel_rfl))
  t0 := Tryz.underlying0
  a0 := Tryz.isAgg0
  z0 := Tryz.sizeOf0
  v0 := Tryz.zeroValue0
  t3 := Tryz.underlying3
  a3 := Tryz.isAgg3
  z3 := Tryz.sizeOf3
  v3 := Tryz.zeroValue3
  t4 := Tryz.underlying4
  a4 := Tryz.isAgg4
  z4 := Tryz.sizeOf4
  v4 := Tryz.zeroValue4
  t5 := Tryz.underlying5
  a5 := Tryz.isAgg5
  z5 := Tryz.sizeOf5
  v5 := Tryz.zeroValue5
  t9 := Tryz.underlying9
  a9 := Tryz.isAgg9
  z9 := Tryz.sizeOf9
  v9 := Tryz.zeroValue9
  t20 := Tryz.underlying20
  a20 := Tryz.isAgg20
  z20 := Tryz.sizeOf20
  v20 := Tryz.zeroValue20
  t37 := Tryz.underlying22
  a37 := Tryz.isAgg22
  z37 := Tryz.sizeOf22
  v37 := Tryz.zeroValue22
  t46 := Tryz.underlying75
  a46 := Tryz.isAgg75
  z46 := Tryz.sizeOf75
  v46 := Tryz.zeroValue75
  t51 := Tryz.underlying89
  a51 := Tryz.isAgg89
  z51 := Tryz.sizeOf89
  v51 := Tryz.zeroValue89
  t53 := Tryz.underlying132
  a53 := Tryz.isAgg132
  z53 := Tryz.sizeOf132
  v53 := Tryz.zeroValue132
  t70 := Tryz.underlying118
  a70 := Tryz.isAgg118
  z70 := Tryz.sizeOf118
  v70 := Tryz.zeroValue118
  t72 := Tryz.underlying120
  a72 := Tryz.isAgg120
  z72 := Tryz.sizeOf120
  v72 := Tryz.zeroValue120
  t75 := Tryz.underlying123
  a75 := Tryz.isAgg123
  z75 := Tryz.sizeOf123
  v75 := Tryz.zeroValue123
  t76 := Tryz.underlying124
  a76 := Tryz.isAgg124
  z76 := Tryz.sizeOf124
  v76 := Tryz.zeroValue124
  t109 := Tryz.underlying115
  a109 := Tryz.isAgg115
  z109 := Tryz.sizeOf115
  v109 := Tryz.zeroValue115
  t127 := Tryz.underlying135
  a127 := Tryz.isAgg135
  z127 := Tryz.sizeOf135
  v127 := Tryz.zeroValue135
  t146 := Tryz.underlying130
  a146 := Tryz.isAgg130
  z146 := Tryz.sizeOf130
  v146 := Tryz.zeroValue130
  t148 := Tryz.underlying133
  a148 := Tryz.isAgg133
  z148 := Tryz.sizeOf133
  v148 := Tryz.zeroValue133
  t164 := Tryz.underlying138
  a164 := Tryz.isAgg138
  z164 := Tryz.sizeOf138
  v164 := Tryz.zeroValue138 }
theorem Tryz.Builder_Extra_105 : Builder.Extra Tryz.prog Tryz.lays105_ren := {
  sizeBuilder := by kernel_rfl
  liesBuilder := by kernel_rfl
  t5 := Tryz.underlying5
  a5 := Tryz.isAgg5
  z5 := Tryz.sizeOf5
  v5 := Tryz.zeroValue5
  infoByte := by kernel_rfl
  cellsByte := by kernel_rfl
  sizeByte := by kernel_rfl
  neB5 := by decide }
open Go.RowKit Go.Lib in
theorem Tryz.strings_Repeat (s : ByteArray) (c : Nat) (w : World) (hc : c ≤ 9223372036854775807) (hlen : s.size * c ≤ 140737488355328) :
    Calls Tryz.prog 75 #[.string s, .int .i64 c] w fun e w' => e = .returned (.string ⟨(Lib.repeatL s.data.toList c).toArray⟩) ∧ Below w.heap.size w w' := Any.strings_Repeat Tryz.lays105 Tryz.Builder_Extra_105 s c w hc hlen
end Go.Proofs
