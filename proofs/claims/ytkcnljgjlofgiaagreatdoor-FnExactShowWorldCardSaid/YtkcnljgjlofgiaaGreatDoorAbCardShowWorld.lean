/- The tied card of the law FnExactShowWorld: true for every world that comes in; the library's three listed tables hold what the program's text lays. -/
import Derived.Shelf.Strings.OnBuilder
import Derived.Test.YtkcnljgjlofgiaaGreatDoorProg
import Derived.Test.YtkcnljgjlofgiaaGreatDoorAbFaVar
import Derived.Test.YtkcnljgjlofgiaaGreatDoorAbDkWorld
import Derived.Test.YtkcnljgjlofgiaaGreatDoorAbDgRing
import Derived.Test.YtkcnljgjlofgiaaGreatDoorAbDeAnswer
import Derived.LaidLaws
import Derived.LaidHandle
import Derived.Stop.LaidErr
import Derived.Lib.LaidTab
import Derived.Test.YtkcnljgjlofgiaaGreatDoorTie
import Derived.Test.YtkcnljgjlofgiaaGreatDoorCards
import Derived.SevenTiedAt
namespace Go.Proofs
open Go.Shelf
def Tryz.lays156_ren : Go.Shelf.Ren := ⟨fun | 156 => 23 | 165 => 47 | 166 => 48 | 169 => 49 | 240 => 72 | 241 => 73 | 276 => 90 | 277 => 91 | n => n, fun | 31 => 59 | 9 => 9 | 3 => 3 | 4 => 4 | 0 => 0 | 20 => 20 | 72 => 97 | 76 => 101 | 70 => 94 | 37 => 95 | 75 => 100 | 127 => 126 | 164 => 143 | 5 => 5 | 80 => 103 | n => n, fun | n => n⟩
theorem Tryz.lays156 : Go.Proofs.Lays.n156 Tryz.prog Tryz.lays156_ren := {
  mixed := by kernel_rfl
  f156 := Tryz.func23.trans (congrArg some (by kernel_rfl))
  f165 := Tryz.func47.trans (congrArg some (by kernel_rfl))
  f166 := Tryz.func48.trans (congrArg some (by kernel_rfl))
  f169 := Tryz.func49.trans (congrArg some (by kernel_rfl))
  f240 := Tryz.func72.trans (congrArg some (by kernel_rfl))
  f241 := Tryz.func73.trans (congrArg some (by kernel_rfl))
  f276 := Tryz.func90.trans (congrArg some (by kernel_rfl))
  f277 := Tryz.func91.trans (congrArg some (by kernel_rfl))
  t0 := Tryz.underlying0
  a0 := Tryz.isAgg0
  z0 := Tryz.sizeOf0
  v0 := Tryz.zeroValue0
  t3 := Tryz.underlying3
  a3 := Tryz.isAgg3
  z3 := Tryz.sizeOf3
  v3 := Tryz.zeroValue3
  t4 := Tryz.underlying4
  a4 := Tryz.isAgg4
  z4 := Tryz.sizeOf4
  v4 := Tryz.zeroValue4
  t9 := Tryz.underlying9
  a9 := Tryz.isAgg9
  z9 := Tryz.sizeOf9
  v9 := Tryz.zeroValue9
  t20 := Tryz.underlying20
  a20 := Tryz.isAgg20
  z20 := Tryz.sizeOf20
  v20 := Tryz.zeroValue20
  t31 := Tryz.underlying59
  a31 := Tryz.isAgg59
  z31 := Tryz.sizeOf59
  v31 := Tryz.zeroValue59
  t37 := Tryz.underlying95
  a37 := Tryz.isAgg95
  z37 := Tryz.sizeOf95
  v37 := Tryz.zeroValue95
  t70 := Tryz.underlying94
  a70 := Tryz.isAgg94
  z70 := Tryz.sizeOf94
  v70 := Tryz.zeroValue94
  t72 := Tryz.underlying97
  a72 := Tryz.isAgg97
  z72 := Tryz.sizeOf97
  v72 := Tryz.zeroValue97
  t75 := Tryz.underlying100
  a75 := Tryz.isAgg100
  z75 := Tryz.sizeOf100
  v75 := Tryz.zeroValue100
  t76 := Tryz.underlying101
  a76 := Tryz.isAgg101
  z76 := Tryz.sizeOf101
  v76 := Tryz.zeroValue101
  t127 := Tryz.underlying126
  a127 := Tryz.isAgg126
  z127 := Tryz.sizeOf126
  v127 := Tryz.zeroValue126
  t164 := Tryz.underlying143
  a164 := Tryz.isAgg143
  z164 := Tryz.sizeOf143
  v164 := Tryz.zeroValue143 }
theorem Tryz.Builder_Extra_156 : Builder.Extra Tryz.prog Tryz.lays156_ren := {
  sizeBuilder := by kernel_rfl
  liesBuilder := by kernel_rfl
  t5 := Tryz.underlying5
  a5 := Tryz.isAgg5
  z5 := Tryz.sizeOf5
  v5 := Tryz.zeroValue5
  infoByte := by kernel_rfl
  cellsByte := by kernel_rfl
  sizeByte := by kernel_rfl
  neB5 := by decide }
open Go.RowKit in
theorem Tryz.strings_Join_none (a : Option Addr) (c : Nat) (sep : ByteArray) (w : World) :
    Calls Tryz.prog 23 #[.slice a 0 c, .string sep] w fun e w' => e = .returned (.string ⟨#[]⟩) ∧ w' = w := Any.strings_Join_none Tryz.lays156 Tryz.Builder_Extra_156 a c sep w
open Go.RowKit in
theorem Tryz.strings_Join (bk o c : Nat) (xs : List ByteArray) (sep : ByteArray) (w : World) (hcells : ∀ (j : Nat) x, xs[j]? = some x → w.cell? ⟨bk, o + j, none⟩ = some (.string x)) (hbk : bk < w.heap.size) (hN : xs.length ≤ 140737488355328) (hcap : xs.length ≤ c) (hlen : (Lib.join (xs.map (·.data.toList)) sep.data.toList).length ≤ 140737488355328) :
    Calls Tryz.prog 23 #[.slice (some ⟨bk, o, none⟩) xs.length c, .string sep] w fun e w' => e = .returned (.string ⟨(Lib.join (xs.map (·.data.toList)) sep.data.toList).toArray⟩) ∧ Below w.heap.size w w' := Any.strings_Join Tryz.lays156 Tryz.Builder_Extra_156 bk o c xs sep w hcells hbk hN hcap hlen
end Go.Proofs
namespace Go.Proofs.YtkcnljgjlofgiaaGreatDoor.AB
open Go
set_option maxRecDepth 100000
set_option linter.unusedSimpArgs false
set_option linter.unusedVariables false
def strC (s : List UInt8) : List C := [.v (.string ⟨s.toArray⟩)]
attribute [go_sem] strC
theorem join_empty : ∀ Q : List (List UInt8), Lib.join Q [] = Q.flatten
  | [] => rfl
  | x :: r => by rw [Lib.join_cons]; simp [Lib.joinTail]
theorem ac_Join (Q : List (List UInt8)) (hQ1 : 1 ≤ Q.length) (hQN : Q.length ≤ 140737488355328) (hQl : Q.flatten.length ≤ 140737488355328) :
    AC Tryz.prog 23 [.c true (.sl (Q.map strC)), vS []] (vS Q.flatten) [] := by
  refine ⟨by simp, fun w S B ν vs hlt _ hl hv => .inl ⟨run_enter Tryz.func23 (by decide +kernel) (by kernel_rfl), ?_⟩⟩
  have hsz : vs.size = 2 := hl.symm
  obtain ⟨v0, v1, rfl⟩ : ∃ v0 v1, vs = #[v0, v1] := by
    refine ⟨vs[0], vs[1], ?_⟩
    apply Array.ext
    · simpa using hsz
    · intro i h1 h2
      have : i = 0 ∨ i = 1 := by omega
      rcases this with rfl | rfl <;> rfl
  have h0 := hv 0 _ v0 rfl rfl
  have h1 := hv 1 _ v1 rfl rfl
  obtain ⟨rfl, _⟩ := h1.scal_eq
  obtain ⟨bk, o, n, cap, rfl, hn, hc, hm, hb, hcell⟩ : ∃ bk o n cap, v0 = .slice (some ⟨bk, o, none⟩) n cap ∧ Q.length = n ∧ n ≤ cap ∧ cap ≤ maxLen ∧ bk < w.heap.size ∧ ∀ (j : Nat) s, Q[j]? = some s → w.cell? ⟨bk, o + j, none⟩ = some (.string ⟨s.toArray⟩) := by
    cases h0 with
    | c k =>
      generalize hX : (C.sl (Q.map strC)) = X at k
      have hne : Q.map strC ≠ [] := by
        intro h; rw [List.map_eq_nil_iff] at h; subst h; simp at hQ1
      cases k with
      | v => cases hX
      | nil => exact absurd (by simpa using hX) hne
      | sl u hs hS hn hc hm hz hu hi =>
        injection hX with hX
        subst hX
        rename_i a n cap sz
        obtain ⟨bk, o, sp⟩ := a
        have hsp := hs hne
        simp only at hsp
        subst hsp
        have hS1 := hS hne
        refine ⟨bk, o, n, cap, rfl, by simpa using hn, hc, hm, hlt bk (by simpa [rd] using hS1), fun j s hj => ?_⟩
        have hr : (Q.map strC)[j]? = some (strC s) := by rw [List.getElem?_map, hj]; rfl
        have hsz1 : sz = 1 := (hz (strC s) (List.mem_of_getElem? hr)).symm
        subst hsz1
        have h2 := hu j (strC s) 0 _ hr rfl
        have h3 := hi j (strC s) 0 _ hr rfl
        rw [Nat.mul_one, Nat.add_zero] at h2 h3
        have ha : (⟨bk, o, none⟩ : Addr).add j = ⟨bk, o + j, none⟩ := by unfold Addr.add; split <;> simp_all
        rw [ha] at h2
        rw [h2]
        generalize u j = y at h3 ⊢
        cases h3; rfl
  have hfin : ∀ (v : Value) (w' : Go.World), v = .string ⟨Q.flatten.toArray⟩ → Go.RowKit.Below w.heap.size w w' → ∃ S' ν', CPost S B w [] (vS Q.flatten) S' ν' v w' := by
    rintro v w' rfl hb
    refine ⟨S, ν, ⟨hb.os, hb.tape, hb.output, hb.size, fun b h _ => hb.block b h⟩, fun b h => h, fun b h => .inl h, ⟨fun i cs hi => ?_, fun i b e sz xs hi => ?_, fun i hi => ?_, fun i j b _ hi => ?_, fun i b hi => ?_, fun b h => Nat.lt_of_lt_of_le (hlt b h) hb.size⟩, fun i b hi => ?_, fun b h => .inl h, .c (.v rfl)⟩
    · cases i <;> simp [hrOf] at hi
    · cases i <;> simp [hrOf] at hi
    · cases i <;> simp [hrOf] at hi
    · cases i <;> simp [hrOf] at hi
    · cases i <;> simp [hrOf] at hi
    · cases i <;> simp [hrOf] at hi
  have hQm : (Q.map fun s => (⟨s.toArray⟩ : ByteArray)).map (·.data.toList) = Q := by simp [Function.comp_def]
  have hl2 : (Lib.join ((Q.map fun s => (⟨s.toArray⟩ : ByteArray)).map (·.data.toList)) (⟨#[]⟩ : ByteArray).data.toList).length ≤ 140737488355328 := by
    rw [hQm]; show (Lib.join Q []).length ≤ _; rw [join_empty]; exact hQl
  have hj := Tryz.strings_Join bk o cap (Q.map fun s => (⟨s.toArray⟩ : ByteArray)) ⟨#[]⟩ w (fun j x hx => by
    rw [List.getElem?_map] at hx
    obtain ⟨s, hs, rfl⟩ := Option.map_eq_some_iff.1 hx
    exact hcell j s hs) hb (by rw [List.length_map]; omega) (by rw [List.length_map]; omega) hl2
  rw [List.length_map, hn] at hj
  refine hj.mono ?_
  rintro e w' ⟨rfl, hbel⟩
  refine ⟨_, rfl, hfin _ _ ?_ hbel⟩
  rw [hQm]
  show Value.string ⟨(Lib.join Q []).toArray⟩ = _
  rw [join_empty]
end Go.Proofs.YtkcnljgjlofgiaaGreatDoor.AB
namespace Go.Proofs.YtkcnljgjlofgiaaGreatDoor.AB
open Go
set_option maxRecDepth 100000
set_option linter.unusedSimpArgs false
set_option linter.unusedVariables false
def Answer.num (a : Answer) : Prop := a.looked ≤ 9223372036854775807
def World.num (w : World) : Prop := (∀ p, p ∈ w.ring → p.num) ∧ ∀ a, a ∈ w.answers → a.num
def showAll (L : List Answer) : List UInt8 := L.flatMap showAns
def showWorld (w : World) : List UInt8 := showRing w.ring ++ showAll w.answers
theorem showAns_len {a : Answer} (h : a.small) (hn : a.num) : (showAns a).length ≤ 22020196 := by
  have h0 := h.1
  have h1 := ansHead_len (g := a.granted) (decN_len (n := a.steps.length) (by omega)) (decI_len hn)
  have h2 := linesCr_len (credsI a.steps)
  have h3 := credsI_len a.steps
  unfold showAns
  rw [List.length_append]; omega
theorem showAll_len : ∀ {L : List Answer}, (∀ a, a ∈ L → a.small) → (∀ a, a ∈ L → a.num) → (showAll L).length ≤ 22020196 * L.length
  | [], _, _ => by simp [showAll]
  | a :: L, h, hn => by
    have h1 := showAll_len (L := L) (fun x hx => h x (List.mem_cons_of_mem _ hx)) (fun x hx => hn x (List.mem_cons_of_mem _ hx))
    have h2 := showAns_len (h a (by simp)) (hn a (by simp))
    unfold showAll at *
    simp only [List.flatMap_cons, List.length_append, List.length_cons] at *; omega
theorem showAll_take {L : List Answer} {k : Nat} (h : k < L.length) : showAll (L.take (k + 1)) = showAll (L.take k) ++ showAns L[k] := by
  unfold showAll
  rw [List.take_add_one, List.getElem?_eq_getElem h, List.flatMap_append]
  simp
theorem showRing_len {L : List Peer} (hL : L.length ≤ 1048576) (h : ∀ p, p ∈ L → p.small) (hn : ∀ p, p ∈ L → p.num) : (showRing L).length ≤ 23089799757824 := by
  have h1 := linesR_len h hn (hereS L)
  have h2 := hereS_len L
  unfold showRing; omega
set_option maxHeartbeats 4000000 in
theorem ac_ShowWorld' (w : World) (h : w.small) (hn : w.num) : AC Tryz.prog 5 [encWorld true w] (vS (showWorld w)) [] := by
  have hr := ac_ShowRing' w.ring h.ring h.peer hn.1
  have hl1 := showRing_len h.ring h.peer hn.1
  have hA1 := h.answers
  have hA2 := h.ans
  have hA3 := hn.2
  unfold showWorld
  generalize showRing w.ring = Z at *
  unfold encRing at hr
  refine XA good (fn := Tryz.f5) rfl ?_
  simp only [entry, List.getD_cons_zero, List.getD_cons_succ]
  repeat' first | refine SW.step good fun K hK => ?_ | refine X2 good fun K hK => ?_ | refine X3 good fun K hK => ?_ | refine SW.seqK fun J hJ => ?_ | refine SW.last good fun K hK => ?_ | (refine hK _ ?_; clear hK K) | (refine hJ _ _ (Wk.refl _) ?_; clear hJ J) | clear hK K | clear hJ J | refine SW.skip ?_ | refine SW.ret ?_ | refine SW.retT ?_ | refine SW.retB ?_ | refine SW.exit ?_ | refine SW.exitT ?_ | refine SW.exitB ?_ | refine XN ?_ | refine SW.block ?_ | refine SW.normB ?_ | refine SW.normT ?_ | refine XT ?_ | refine XF ?_ | refine XC (fun h => ?_) (fun h => ?_) | refine X0 ?_ | refine Xv ?_ | refine X1 (hr) ?_ | simp only [go_sem, optI, Option.getD_some, Option.getD_none, Int.reduceToNat, reduceIte, Nat.reduceEqDiff, Nat.reduceAdd, Nat.reduceMul, Nat.reduceSub, Nat.reduceLT, Nat.reduceLeDiff, reduceCtorEq, *] | refine Xs _ (fun h => ?_) (fun h => ?_) | with_reducible refine And.intro ?_ ?_
  all_goals first | (intro r hr; simp at hr; subst hr; rfl) | (simp [bytesC]; omega) | (simp; done) | omega | rfl | skip
  clear hr
  refine SW.loopTo (α := Nat) (fun k => ⟨sl [(1, .ptr (.s 1 0) 0), (3, vS (Z ++ showAll (w.answers.take k))), (4, vI k)], hl [(.s 1 0, .box [.c true (.sl (w.ring.map peerC)), vI w.now, .c true (.sl (w.used.map intC)), .c true (.sl (w.said.map credC)), .c true (.sl (w.back.map credC)), .c true (.sl (w.answers.map answerC)), .c true (.sl (w.asked.map factC)), .c true (.sl (w.codes.map intC))])]⟩) (fun k => w.answers.length - k) 0 (fun k => k ≤ w.answers.length) ?_ (by simp) ?_
  · (refine Xto _ _ ?_ ?_ <;> simp only [go_sem, optI, Option.getD_some, Option.getD_none, Int.reduceToNat, reduceIte, Nat.reduceEqDiff, Nat.reduceAdd, Nat.reduceMul, Nat.reduceSub, Nat.reduceLT, Nat.reduceLeDiff, reduceCtorEq, Option.some.injEq, or_true, true_or] <;> (repeat' with_reducible apply And.intro) <;> (try rfl))
    all_goals first | (simp [showAll]; done) | skip
  · intro k h2
    have hln := showAll_len (L := w.answers.take k) (fun a ha => hA2 a (List.mem_of_mem_take ha)) (fun a ha => hA3 a (List.mem_of_mem_take ha))
    rw [List.length_take] at hln
    by_cases hk : k < w.answers.length
    · have e := getD_map w.answers answerC [] hk
      have e1 : decide ((k : Int) < w.answers.length) = true := by simp; omega
      have hw : IntKind.i64.wrap ((k : Int) + 1) = ((k + 1 : Nat) : Int) := wrap64 (by omega) (by omega)
      have ht := showAll_take hk
      have hm := List.getElem_mem hk
      have hs := ac_ShowAnswer' w.answers[k] (hA2 _ hm).1 (hA3 _ hm)
      have hsl := showAns_len (hA2 _ hm) (hA3 _ hm)
      unfold encAnswer at hs
      generalize showAll (w.answers.take k) = M at *
      generalize showAns w.answers[k] = A at *
      clear hA2 hA3
      repeat' first | refine SW.step good fun K hK => ?_ | refine X2 good fun K hK => ?_ | refine X3 good fun K hK => ?_ | refine SW.seqK fun J hJ => ?_ | refine SW.last good fun K hK => ?_ | (refine hK _ ?_; clear hK K) | (refine hJ _ _ (Wk.refl _) ?_; clear hJ J) | clear hK K | clear hJ J | refine SW.skip ?_ | refine SW.ret ?_ | refine SW.retT ?_ | refine SW.retB ?_ | refine SW.exit ?_ | refine SW.exitT ?_ | refine SW.exitB ?_ | refine XN ?_ | refine SW.block ?_ | refine SW.normB ?_ | refine SW.normT ?_ | refine XT ?_ | refine XF ?_ | refine XC (fun h => ?_) (fun h => ?_) | refine X0 ?_ | refine Xv ?_ | refine X1 (hs) ?_ | simp only [go_sem, optI, Option.getD_some, Option.getD_none, Int.reduceToNat, reduceIte, Nat.reduceEqDiff, Nat.reduceAdd, Nat.reduceMul, Nat.reduceSub, Nat.reduceLT, Nat.reduceLeDiff, reduceCtorEq, *] | refine Xs _ (fun h => ?_) (fun h => ?_) | with_reducible refine And.intro ?_ ?_
      all_goals first | (intro r hr; simp at hr; subst hr; rfl) | (simp [bytesC]; omega) | (simp; done) | omega | rfl | (simp only [List.length_append]; omega) | skip
      all_goals refine ⟨k + 1, by omega, by omega, ?_⟩
      all_goals (refine Xto _ _ ?_ ?_ <;> simp only [go_sem, optI, Option.getD_some, Option.getD_none, Int.reduceToNat, reduceIte, Nat.reduceEqDiff, Nat.reduceAdd, Nat.reduceMul, Nat.reduceSub, Nat.reduceLT, Nat.reduceLeDiff, reduceCtorEq, Option.some.injEq, or_true, true_or] <;> (repeat' with_reducible apply And.intro) <;> (try rfl))
      all_goals first | (rw [ht]; simp; done) | skip
    · have hk : k = w.answers.length := by omega
      subst hk
      have e1 : decide ((w.answers.length : Int) < w.answers.length) = false := by simp
      rw [List.take_length]
      repeat' first | refine SW.step good fun K hK => ?_ | refine X2 good fun K hK => ?_ | refine X3 good fun K hK => ?_ | refine SW.seqK fun J hJ => ?_ | refine SW.last good fun K hK => ?_ | (refine hK _ ?_; clear hK K) | (refine hJ _ _ (Wk.refl _) ?_; clear hJ J) | clear hK K | clear hJ J | refine SW.skip ?_ | refine SW.ret ?_ | refine SW.retT ?_ | refine SW.retB ?_ | refine SW.exit ?_ | refine SW.exitT ?_ | refine SW.exitB ?_ | refine XN ?_ | refine SW.block ?_ | refine SW.normB ?_ | refine SW.normT ?_ | refine XT ?_ | refine XF ?_ | refine XC (fun h => ?_) (fun h => ?_) | simp only [go_sem, optI, Option.getD_some, Option.getD_none, Int.reduceToNat, reduceIte, Nat.reduceEqDiff, Nat.reduceAdd, Nat.reduceMul, Nat.reduceSub, Nat.reduceLT, Nat.reduceLeDiff, reduceCtorEq, *] | refine Xs _ (fun h => ?_) (fun h => ?_) | with_reducible refine And.intro ?_ ?_
      all_goals (refine Xrs ?_; rfl)
theorem words_len {Z : List UInt8} {L : List Answer} : (Z :: L.map showAns).flatten = Z ++ showAll L := by
  unfold showAll; rw [List.flatten_cons, List.flatMap_def]
set_option maxHeartbeats 4000000 in
theorem ac_ShowWorld (w : World) (h : w.small) (hn : w.num) : AC Tryz.prog 7 [encWorld true w] (vS (showWorld w)) [] := by
  have hr := ac_ShowRing w.ring h.ring h.peer hn.1
  have hl1 := showRing_len h.ring h.peer hn.1
  have hl2 := showAll_len h.ans hn.2
  have hA1 := h.answers
  have hA2 := h.ans
  have hA3 := hn.2
  have hj := ac_Join (showRing w.ring :: w.answers.map showAns) (by simp) (by simp; omega) (by rw [words_len, List.length_append]; omega)
  rw [words_len] at hj
  unfold showWorld
  generalize showRing w.ring = Z at *
  unfold encRing at hr
  refine XA good (fn := Tryz.f7) rfl ?_
  simp only [entry, List.getD_cons_zero, List.getD_cons_succ]
  repeat' first | refine SW.step good fun K hK => ?_ | refine X2 good fun K hK => ?_ | refine X3 good fun K hK => ?_ | refine SW.seqK fun J hJ => ?_ | refine SW.last good fun K hK => ?_ | (refine hK _ ?_; clear hK K) | (refine hJ _ _ (Wk.refl _) ?_; clear hJ J) | clear hK K | clear hJ J | refine SW.skip ?_ | refine SW.ret ?_ | refine SW.retT ?_ | refine SW.retB ?_ | refine SW.exit ?_ | refine SW.exitT ?_ | refine SW.exitB ?_ | refine XN ?_ | refine SW.block ?_ | refine SW.normB ?_ | refine SW.normT ?_ | refine XT ?_ | refine XF ?_ | refine XC (fun h => ?_) (fun h => ?_) | refine X0 ?_ | refine Xv ?_ | refine X1 (hr) ?_ | simp only [go_sem, optI, Option.getD_some, Option.getD_none, Int.reduceToNat, reduceIte, Nat.reduceEqDiff, Nat.reduceAdd, Nat.reduceMul, Nat.reduceSub, Nat.reduceLT, Nat.reduceLeDiff, reduceCtorEq, *] | refine Xs _ (fun h => ?_) (fun h => ?_) | with_reducible refine And.intro ?_ ?_
  all_goals first | (intro r hr; simp at hr; subst hr; rfl) | (simp [bytesC]; omega) | (simp; done) | omega | rfl | skip
  clear hr
  refine SW.loopTo (α := Nat) (fun k => ⟨sl [(3, .own (.s 9 0)), (11, .c true (.sl (w.answers.map answerC))), (12, vI w.answers.length), (13, vI k)], hl [(.s 9 0, .row false 9 1 ((Z :: (w.answers.take k).map showAns).map strC))]⟩) (fun k => w.answers.length - k) 0 (fun k => k ≤ w.answers.length) ?_ (by simp) ?_
  · (refine Xto _ _ ?_ ?_ <;> simp only [go_sem, optI, Option.getD_some, Option.getD_none, Int.reduceToNat, reduceIte, Nat.reduceEqDiff, Nat.reduceAdd, Nat.reduceMul, Nat.reduceSub, Nat.reduceLT, Nat.reduceLeDiff, reduceCtorEq, Option.some.injEq, or_true, true_or] <;> (repeat' with_reducible apply And.intro) <;> (try rfl))
    all_goals first | (simp [strC]; done) | skip
  · intro k h2
    by_cases hk : k < w.answers.length
    · have e := getD_map w.answers answerC [] hk
      have e1 : decide ((k : Int) < w.answers.length) = true := by simp; omega
      have hw : IntKind.i64.wrap ((k : Int) + 1) = ((k + 1 : Nat) : Int) := wrap64 (by omega) (by omega)
      have hm := List.getElem_mem hk
      have hs := ac_ShowAnswer w.answers[k] (hA2 _ hm).1 (hA3 _ hm)
      have ht : (w.answers.take (k + 1)).map showAns = (w.answers.take k).map showAns ++ [showAns w.answers[k]] := by
        rw [List.take_add_one, List.getElem?_eq_getElem hk, List.map_append]; rfl
      have hlk : ((Z :: (w.answers.take k).map showAns).map strC).length = k + 1 := by simp; omega
      unfold encAnswer at hs
      generalize showAns w.answers[k] = A at *
      clear hA2 hA3 hj
      repeat' first | refine SW.step good fun K hK => ?_ | refine X2 good fun K hK => ?_ | refine X3 good fun K hK => ?_ | refine SW.seqK fun J hJ => ?_ | refine SW.last good fun K hK => ?_ | (refine hK _ ?_; clear hK K) | (refine hJ _ _ (Wk.refl _) ?_; clear hJ J) | clear hK K | clear hJ J | refine SW.skip ?_ | refine SW.ret ?_ | refine SW.retT ?_ | refine SW.retB ?_ | refine SW.exit ?_ | refine SW.exitT ?_ | refine SW.exitB ?_ | refine XN ?_ | refine SW.block ?_ | refine SW.normB ?_ | refine SW.normT ?_ | refine XT ?_ | refine XF ?_ | refine XC (fun h => ?_) (fun h => ?_) | refine X0 ?_ | refine Xv ?_ | refine X1 (hs) ?_ | simp only [go_sem, optI, Option.getD_some, Option.getD_none, Int.reduceToNat, reduceIte, Nat.reduceEqDiff, Nat.reduceAdd, Nat.reduceMul, Nat.reduceSub, Nat.reduceLT, Nat.reduceLeDiff, reduceCtorEq, *] | refine Xs _ (fun h => ?_) (fun h => ?_) | with_reducible refine And.intro ?_ ?_
      all_goals first | (intro r hr; simp at hr; subst hr; rfl) | (simp [bytesC]; omega) | (simp; done) | omega | rfl | skip
      all_goals refine ⟨k + 1, by omega, by omega, ?_⟩
      all_goals (refine Xto _ _ ?_ ?_ <;> simp only [go_sem, optI, Option.getD_some, Option.getD_none, Int.reduceToNat, reduceIte, Nat.reduceEqDiff, Nat.reduceAdd, Nat.reduceMul, Nat.reduceSub, Nat.reduceLT, Nat.reduceLeDiff, reduceCtorEq, Option.some.injEq, or_true, true_or] <;> (repeat' with_reducible apply And.intro) <;> (try rfl))
      all_goals first | (rw [ht]; simp [strC]; done) | skip
    · have hk : k = w.answers.length := by omega
      subst hk
      have e1 : decide ((w.answers.length : Int) < w.answers.length) = false := by simp
      rw [List.take_length]
      repeat' first | refine SW.step good fun K hK => ?_ | refine X2 good fun K hK => ?_ | refine X3 good fun K hK => ?_ | refine SW.seqK fun J hJ => ?_ | refine SW.last good fun K hK => ?_ | (refine hK _ ?_; clear hK K) | (refine hJ _ _ (Wk.refl _) ?_; clear hJ J) | clear hK K | clear hJ J | refine SW.skip ?_ | refine SW.ret ?_ | refine SW.retT ?_ | refine SW.retB ?_ | refine SW.exit ?_ | refine SW.exitT ?_ | refine SW.exitB ?_ | refine XN ?_ | refine SW.block ?_ | refine SW.normB ?_ | refine SW.normT ?_ | refine XT ?_ | refine XF ?_ | refine XC (fun h => ?_) (fun h => ?_) | refine X0 ?_ | refine Xv ?_ | refine X1 (hj) ?_ | simp only [go_sem, optI, Option.getD_some, Option.getD_none, Int.reduceToNat, reduceIte, Nat.reduceEqDiff, Nat.reduceAdd, Nat.reduceMul, Nat.reduceSub, Nat.reduceLT, Nat.reduceLeDiff, reduceCtorEq, *] | refine Xs _ (fun h => ?_) (fun h => ?_) | with_reducible refine And.intro ?_ ?_
      all_goals first | (intro r hr; simp at hr; subst hr; rfl) | (simp [bytesC]; omega) | (simp; done) | omega | rfl | skip
      all_goals (refine Xrs ?_; rfl)
set_option maxHeartbeats 1000000 in
theorem ac_lawShowWorld (w : World) (hw : w.ok) (hn : w.num) :
    AC Tryz.prog 3 [encWorld false w] (vB true) [] := by
  have hs1 := ac_szWorld w 1048576 (by omega) (by omega) hw
  by_cases h1 : (1048576 : Int) < (worldSz w : Nat)
  · rw [szOf_n h1] at hs1
    refine XA good (fn := Tryz.f3) rfl ?_
    simp only [entry, List.getD_cons_zero, List.getD_cons_succ]
    repeat' first | refine SW.step good fun K hK => ?_ | refine X2 good fun K hK => ?_ | refine X3 good fun K hK => ?_ | refine SW.seqK fun J hJ => ?_ | refine SW.last good fun K hK => ?_ | (refine hK _ ?_; clear hK K) | (refine hJ _ _ (Wk.refl _) ?_; clear hJ J) | clear hK K | clear hJ J | refine SW.skip ?_ | refine SW.ret ?_ | refine SW.retT ?_ | refine SW.retB ?_ | refine SW.exit ?_ | refine SW.exitT ?_ | refine SW.exitB ?_ | refine XN ?_ | refine SW.block ?_ | refine SW.normB ?_ | refine SW.normT ?_ | refine XT ?_ | refine XF ?_ | refine XC (fun h => ?_) (fun h => ?_) | refine X0 ?_ | refine Xv ?_ | refine X1 (hs1) ?_ | simp only [go_sem, optI, Option.getD_some, Option.getD_none, Int.reduceToNat, reduceIte, Nat.reduceEqDiff, Nat.reduceAdd, Nat.reduceMul, Nat.reduceSub, Nat.reduceLT, Nat.reduceLeDiff, reduceCtorEq, *] | refine Xs _ (fun h => ?_) (fun h => ?_) | with_reducible refine And.intro ?_ ?_
    all_goals refine Xrb ?_
    all_goals rfl
  · rw [szOf_p h1] at hs1
    have e1 : decide ((1048576 : Int) - (worldSz w : Nat) < 0) = false := by simp only [decide_eq_false_iff_not]; omega
    have h2 : worldSz w ≤ 1048576 := by omega
    have hs := world_small h2
    refine XA good (fn := Tryz.f3) rfl ?_
    simp only [entry, List.getD_cons_zero, List.getD_cons_succ]
    repeat' first | refine SW.step good fun K hK => ?_ | refine X2 good fun K hK => ?_ | refine X3 good fun K hK => ?_ | refine SW.seqK fun J hJ => ?_ | refine SW.last good fun K hK => ?_ | (refine hK _ ?_; clear hK K) | (refine hJ _ _ (Wk.refl _) ?_; clear hJ J) | clear hK K | clear hJ J | refine SW.skip ?_ | refine SW.ret ?_ | refine SW.retT ?_ | refine SW.retB ?_ | refine SW.exit ?_ | refine SW.exitT ?_ | refine SW.exitB ?_ | refine XN ?_ | refine SW.block ?_ | refine SW.normB ?_ | refine SW.normT ?_ | refine XT ?_ | refine XF ?_ | refine XC (fun h => ?_) (fun h => ?_) | refine X0 ?_ | refine Xv ?_ | refine X1 (hs1) ?_ | refine X1 (ac_toWorld w hs) ?_ | refine X1 (ac_ShowWorld' w hs hn) ?_ | refine X1 (ac_ShowWorld w hs hn) ?_ | refine X1 (ac_eqWorld w hs) ?_ | simp only [go_sem, optI, Option.getD_some, Option.getD_none, Int.reduceToNat, reduceIte, Nat.reduceEqDiff, Nat.reduceAdd, Nat.reduceMul, Nat.reduceSub, Nat.reduceLT, Nat.reduceLeDiff, reduceCtorEq, *] | refine Xs _ (fun h => ?_) (fun h => ?_) | with_reducible refine And.intro ?_ ?_
    all_goals first | omega | (simp; omega) | skip
    all_goals first | (refine Xrb ?_; rfl) | skip
end Go.Proofs.YtkcnljgjlofgiaaGreatDoor.AB
namespace Go.Proofs.YtkcnljgjlofgiaaGreatDoor.AB
open Go
set_option maxRecDepth 100000
theorem hasCredW {q : Nat} {cs : List C} (h : HasT Tryz.prog (q + 3) 87 cs) : ∃ c : Cred, cs = credC c := by
  simp only [HasT, Tryz.underlying87, Tryz.underlying85, Tryz.underlying3, HasFs] at h
  obtain ⟨_, _, rfl, ⟨k, rfl, _⟩, _, _, rfl, ⟨_, _, rfl, ⟨o1, rfl, _⟩, _, _, rfl, ⟨o2, rfl, _⟩, rfl⟩, _, _, rfl, ⟨w, rfl, _⟩, _, _, rfl, ⟨_, _, rfl, ⟨a1, rfl, _⟩, _, _, rfl, ⟨a2, rfl, _⟩, rfl⟩, _, _, rfl, ⟨_, _, rfl, ⟨b1, rfl, _⟩, _, _, rfl, ⟨b2, rfl, _⟩, rfl⟩, _, _, rfl, ⟨t, rfl, _⟩, _, _, rfl, ⟨n, rfl, _⟩, rfl⟩ := h
  exact ⟨⟨k, ⟨o1, o2⟩, w, ⟨a1, a2⟩, ⟨b1, b2⟩, t, n⟩, rfl⟩
theorem hasFactW {q : Nat} {cs : List C} (h : HasT Tryz.prog (q + 3) 93 cs) : ∃ c : Fact, cs = factC c := by
  simp only [HasT, Tryz.underlying93, Tryz.underlying85, Tryz.underlying3, HasFs] at h
  obtain ⟨_, _, rfl, ⟨_, _, rfl, ⟨o1, rfl, _⟩, _, _, rfl, ⟨o2, rfl, _⟩, rfl⟩, _, _, rfl, ⟨w, rfl, _⟩, rfl⟩ := h
  exact ⟨⟨⟨o1, o2⟩, w⟩, rfl⟩
theorem hasCredsW {q : Nat} : ∀ {xs : List (List C)}, (∀ r, r ∈ xs → HasT Tryz.prog (q + 3) 87 r) → ∃ L : List Cred, xs = L.map credC
  | [], _ => ⟨[], rfl⟩
  | r :: xs, h => by
    obtain ⟨e, rfl⟩ := hasCredW (h r (by simp))
    obtain ⟨L, rfl⟩ := hasCredsW (xs := xs) (fun r hr => h r (List.mem_cons_of_mem _ hr))
    exact ⟨e :: L, rfl⟩
theorem hasFactsW {q : Nat} : ∀ {xs : List (List C)}, (∀ r, r ∈ xs → HasT Tryz.prog (q + 3) 93 r) → ∃ L : List Fact, xs = L.map factC
  | [], _ => ⟨[], rfl⟩
  | r :: xs, h => by
    obtain ⟨e, rfl⟩ := hasFactW (h r (by simp))
    obtain ⟨L, rfl⟩ := hasFactsW (xs := xs) (fun r hr => h r (List.mem_cons_of_mem _ hr))
    exact ⟨e :: L, rfl⟩
theorem hasStepW {q : Nat} {cs : List C} (h : HasT Tryz.prog (q + 4) 133 cs) : ∃ e : Step, cs = stepC e ∧ e.src.length ≤ 9223372036854775807 := by
  simp only [HasT, Tryz.underlying133, Tryz.underlying93, Tryz.underlying87, Tryz.underlying85, Tryz.underlying25, Tryz.underlying3, HasFs] at h
  obtain ⟨_, _, rfl, ⟨_, _, rfl, ⟨k, rfl, _⟩, _, _, rfl, ⟨_, _, rfl, ⟨o1, rfl, _⟩, _, _, rfl, ⟨o2, rfl, _⟩, rfl⟩, _, _, rfl, ⟨w, rfl, _⟩, _, _, rfl, ⟨_, _, rfl, ⟨a1, rfl, _⟩, _, _, rfl, ⟨a2, rfl, _⟩, rfl⟩, _, _, rfl, ⟨_, _, rfl, ⟨b1, rfl, _⟩, _, _, rfl, ⟨b2, rfl, _⟩, rfl⟩, _, _, rfl, ⟨t, rfl, _⟩, _, _, rfl, ⟨n, rfl, _⟩, rfl⟩, _, _, rfl, ⟨_, _, rfl, ⟨_, _, rfl, ⟨f1, rfl, _⟩, _, _, rfl, ⟨f2, rfl, _⟩, rfl⟩, _, _, rfl, ⟨f3, rfl, _⟩, rfl⟩, _, _, rfl, ⟨xs, rfl, h1, h2⟩, rfl⟩ := h
  obtain ⟨L, rfl, _⟩ := hasIntsR (q := 0) (by intro r hr; have := h2 r hr; simp only [HasT, Tryz.underlying3]; exact this)
  rw [List.length_map] at h1
  exact ⟨⟨⟨k, ⟨o1, o2⟩, w, ⟨a1, a2⟩, ⟨b1, b2⟩, t, n⟩, ⟨f1, f2⟩, f3, L⟩, rfl, by simpa [maxLen] using h1⟩
theorem hasStepsW {q : Nat} : ∀ {xs : List (List C)}, (∀ r, r ∈ xs → HasT Tryz.prog (q + 4) 133 r) → ∃ L : List Step, xs = L.map stepC ∧ ∀ e, e ∈ L → e.src.length ≤ 9223372036854775807
  | [], _ => ⟨[], rfl, by simp⟩
  | r :: xs, h => by
    obtain ⟨e, rfl, he⟩ := hasStepW (h r (by simp))
    obtain ⟨L, rfl, hL⟩ := hasStepsW (xs := xs) (fun r hr => h r (List.mem_cons_of_mem _ hr))
    exact ⟨e :: L, rfl, by simpa using ⟨he, hL⟩⟩
theorem hasAnswerW {q : Nat} {cs : List C} (h : HasT Tryz.prog (q + 6) 70 cs) : ∃ a : Answer, cs = answerC a ∧ a.ok ∧ a.num := by
  simp only [HasT, Tryz.underlying70, Tryz.underlying68, Tryz.underlying3, Tryz.underlying4, HasFs] at h
  obtain ⟨_, _, rfl, ⟨g, rfl⟩, _, _, rfl, ⟨xs, rfl, h1, h2⟩, _, _, rfl, ⟨n, rfl, hn⟩, _, _, rfl, ⟨fa, rfl⟩, _, _, rfl, ⟨fu, rfl⟩, rfl⟩ := h
  obtain ⟨L, rfl, hL⟩ := hasStepsW h2
  rw [List.length_map] at h1
  exact ⟨⟨g, L, n, fa, fu⟩, rfl, ⟨by simpa [maxLen] using h1, hL⟩, wfR hn⟩
theorem hasAnswersW {q : Nat} : ∀ {xs : List (List C)}, (∀ r, r ∈ xs → HasT Tryz.prog (q + 6) 70 r) → ∃ L : List Answer, xs = L.map answerC ∧ (∀ e, e ∈ L → e.ok) ∧ ∀ e, e ∈ L → e.num
  | [], _ => ⟨[], rfl, by simp, by simp⟩
  | r :: xs, h => by
    obtain ⟨e, rfl, he, hn⟩ := hasAnswerW (h r (by simp))
    obtain ⟨L, rfl, hL, hM⟩ := hasAnswersW (xs := xs) (fun r hr => h r (List.mem_cons_of_mem _ hr))
    exact ⟨e :: L, rfl, by simpa using ⟨he, hL⟩, by simpa using ⟨hn, hM⟩⟩
theorem args_FnExactShowWorld {xss : List (List C)} (hx : AllT Tryz.prog 11 [30] xss) : AC Tryz.prog 3 (argsAV Tryz.prog false [30] xss) (vB true) [] := by
  obtain ⟨cs, rfl, hcs⟩ := AllT_one hx
  have h := hcs
  simp only [HasT, Tryz.underlying30, Tryz.underlying24, Tryz.underlying22, Tryz.underlying25, Tryz.underlying26, Tryz.underlying27, Tryz.underlying28, Tryz.underlying3, HasFs] at h
  obtain ⟨_, _, rfl, ⟨_, _, rfl, ⟨ps, rfl, p1, p2⟩, rfl⟩, _, _, rfl, ⟨now, rfl, _⟩, _, _, rfl, ⟨us, rfl, u1, u2⟩, _, _, rfl, ⟨ss, rfl, s1, s2⟩, _, _, rfl, ⟨bs, rfl, b1, b2⟩, _, _, rfl, ⟨rs, rfl, r1, r2⟩, _, _, rfl, ⟨fs, rfl, f1, f2⟩, _, _, rfl, ⟨es, rfl, e1, e2⟩, rfl⟩ := h
  obtain ⟨P, rfl, p3, p4⟩ := hasPeersN (q := 2) p2
  obtain ⟨U, rfl, _⟩ := hasIntsR (q := 8) (by intro r hr; have := u2 r hr; simp only [HasT, Tryz.underlying3]; exact this)
  obtain ⟨S, rfl⟩ := hasCredsW (q := 6) s2
  obtain ⟨B, rfl⟩ := hasCredsW (q := 6) b2
  obtain ⟨R, rfl, r3, r4⟩ := hasAnswersW (q := 3) r2
  obtain ⟨F, rfl⟩ := hasFactsW (q := 6) f2
  obtain ⟨E, rfl, _⟩ := hasIntsR (q := 8) (by intro r hr; have := e2 r hr; simp only [HasT, Tryz.underlying3]; exact this)
  rw [List.length_map] at p1 u1 s1 b1 r1 f1 e1
  unfold maxLen at p1 u1 s1 b1 r1 f1 e1
  have hagg : aggOf Tryz.prog 30 = true := by kernel_rfl
  simpa only [argsAV, argAV_agg hagg, List.map_cons, List.map_nil, List.append_nil, List.cons_append, List.nil_append, cvC, encWorld] using ac_lawShowWorld ⟨P, now, U, S, B, R, F, E⟩ ⟨by simpa using p1, p3, by simpa using u1, by simpa using s1, by simpa using b1, by simpa using r1, r3, by simpa using f1, by simpa using e1⟩ ⟨p4, r4⟩
end Go.Proofs.YtkcnljgjlofgiaaGreatDoor.AB
namespace Go.Proofs.YtkcnljgjlofgiaaGreatDoor
open AB
theorem lay_of {W : World} (h : laidMetH Tryz.prog Rows.fnExactShowWorldRow.laid W) : Lay (fun b => allB W b ∨ False) W := by
  have h1 : laidMet Tryz.prog Rows.fnExactShowWorldRow.laid W := h
  have h2 := (laidMet.tail (laidMet.tail h1))
  have ht : Lib.TabIs Tryz.prog W "internal/strconv.uint64pow10" .u64 Lib.pow10Tab :=
    Lib.tabIs_of_head (g := 1) (n := 20) (t := 194) (e := 168) (by kernel_rfl) (by kernel_rfl) (by kernel_rfl) (by kernel_rfl) (by kernel_rfl) (by kernel_rfl) h2
  have hg : Tryz.prog.globalNamed "internal/strconv.uint64pow10" = some 1 := by kernel_rfl
  unfold Lib.TabIs World.var? at ht
  simp only [hg, Option.bind_some] at ht
  cases h0 : W.heap[1]? with
  | none => rw [h0] at ht; cases ht
  | some o =>
    rw [h0] at ht
    cases o with
    | cells cs t fz =>
      have e : cs = pow10V := (show cs = (List.map (fun z => Value.int .u64 z) Lib.pow10Tab).toArray by simpa using ht).trans (by rfl)
      subst e
      exact ⟨.inl (by have := (Array.getElem?_eq_some_iff.1 h0).1; exact this), t, fz, h0⟩
    | _ => cases ht
noncomputable def tabCells (d : DataW Unit) : Array Value := match d with
  | .agg l => (l.map fun x => match x with | .lit (.int k z) => Value.int k z | _ => .bool false).toArray
  | _ => #[]
noncomputable def laidWorld (os : Os) : World :=
  let w0 := World.holding Tryz.prog os ⟨#[], #[], []⟩
  { w0 with heap := ((w0.heap.modify 1 fun | .cells _ t fz => .cells pow10V t fz | o => o).modify 2 fun | .cells _ t fz => .cells (tabCells Rows.laid_math_bits_deBruijn32tab) t fz | o => o).modify 3 fun | .cells _ t fz => .cells (tabCells Rows.laid_math_bits_deBruijn64tab) t fz | o => o }
set_option maxRecDepth 100000 in
theorem laidWorld_met (os : Os) (args : Array Value) : laidMetH Tryz.prog Rows.fnExactShowWorldRow.laid ((laidWorld os).forCall (fun _ _ => 0) ⟨#[], args, []⟩).memory :=
  laidMetH_of_parts (laidMet_of_run' 8 (by kernel_rfl) (by kernel_rfl)) (by kernel_rfl)
set_option maxRecDepth 100000 in
theorem lifted_FnExactShowWorld (os : Os) (started : os.Started) (H : Type) (enc : TypeId × Value → H) :
    ReturnsInHanded {} Tryz.checked os 3 .any (fun w args => (Rows.fnExactShowWorldSpec.pre enc Tryz.prog Tryz.f3 [] false w args ∧ laidMetH Tryz.prog Rows.fnExactShowWorldRow.laid w) ∧ sizedMet enc Tryz.prog Tryz.f3 (OpenSpec.ofChange Rows.fnExactShowWorldSpec) false w args)
      (Rows.fnExactShowWorldSpec.post enc Tryz.prog Tryz.f3 false true false false) := by
  refine returnsInHanded_of_change_and (C := Tryz.checked) (X := fun w _ => laidMetH Tryz.prog Rows.fnExactShowWorldRow.laid w) (fun _ _ _ hh h => h.of_heap hh) own started (by kernel_rfl) Tryz.func3
    (ChangeSpec.witness_at (enc := enc) (C := Tryz.checked) (os := os) (X := fun w _ => laidMetH Tryz.prog Rows.fnExactShowWorldRow.laid w) false (laidWorld os) #[.agg #[.slice none 0 0, .int .i64 0, .slice none 0 0, .slice none 0 0, .slice none 0 0, .slice none 0 0, .slice none 0 0, .slice none 0 0]] 8 rfl (by kernel_rfl) (by kernel_rfl) (by kernel_rfl) (by kernel_rfl) (by kernel_rfl) (laidWorld_met os _)) ?_
  intro W base args ds gs before hval hW _ _ hL _
  refine law_contract good (t4 := 4) (q := 11) laidOut Tryz.func3 (by kernel_rfl) (by kernel_rfl) rfl (by kernel_rfl) (by kernel_rfl) ⟨rfl, fun ds hds => ?_⟩ (fun xss hx => ?_) W base args ds gs before (lay_of hL) hval hW
  · have hds' : ds.length = 1 := by rw [Tryz.params3] at hds; exact hds
    obtain ⟨d, rfl⟩ := List.length_eq_one_iff.1 hds'
    exact Eq.refl _
  · rw [Tryz.params3] at hx ⊢
    exact args_FnExactShowWorld hx
theorem fnExactShowWorld_holds : Rows.FnExactShowWorldSaid :=
  OpenClaim.holds_of_wide 3 Tryz.f3 rfl rfl rfl rfl rfl rfl rfl ⟨rfl, rfl, rfl, rfl, rfl⟩ rfl rfl rfl rfl rfl (by kernel_rfl) Tryz.func3 (by kernel_rfl)
    (of_decide_eq_true (by kernel_rfl)) (by unfold Func.isWrapper; first | (rw [if_pos (by decide +kernel)]; kernel_rfl) | (rw [if_neg (by decide +kernel)]; exact ⟨rfl, rfl⟩))
    (fun os started H enc _ => lifted_FnExactShowWorld os started H enc)
#print axioms fnExactShowWorld_holds
end Go.Proofs.YtkcnljgjlofgiaaGreatDoor
namespace Go.Proofs.YtkcnljgjlofgiaaGreatDoor
set_option maxRecDepth 100000
theorem fnExactShowWorld_card : Rows.FnExactShowWorldCardSaid :=
  Claim7.holds_tied_plain_at .later [] [.data, .data, .data] true (true, "fae8809577ded08b0d66268296c3dfc6174406a2eab961517ef88cd9bd712922") false
    fnExactShowWorld_holds (fun _ h => by cases h) (by kernel_rfl) (fun _ h => by cases h) fnExactShowWorld_row_tie rfl ⟨rfl, rfl⟩ (by kernel_rfl) rfl
    (fun f fn hf hfn => by
      obtain rfl : f = 3 := Option.some.inj ((show Tryz.prog.funcNamed "loop.example/g00474/laws.FnExactShowWorld" = some 3 by kernel_rfl).symm.trans hf) |>.symm
      obtain rfl : fn = Tryz.f3 := (Option.some.inj (Tryz.func3.symm.trans hfn)).symm
      exact ⟨by kernel_rfl, fun j t ht => by
        rw [Tryz.params3] at ht
        have h3 : t = 30 := by
          rcases j with _ | j
          · simpa using ht.symm
          · simp at ht
        subst h3
        exact (show Tryz.prog.wantsStandIn 30 = false by kernel_rfl)⟩)
    (by kernel_rfl)
#print axioms fnExactShowWorld_card
end Go.Proofs.YtkcnljgjlofgiaaGreatDoor
