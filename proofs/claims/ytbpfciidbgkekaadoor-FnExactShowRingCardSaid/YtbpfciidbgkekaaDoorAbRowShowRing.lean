/- The law FnExactShowRing returns true for every ring; the condition is the library's tables alone. -/
import Derived.Test.YtbpfciidbgkekaaDoorAbDgRing
import Derived.LaidLaws
import Derived.LaidHandle
import Derived.Stop.LaidErr
import Derived.Lib.LaidTab
namespace Go.Proofs.YtbpfciidbgkekaaDoor
open AB
theorem lay_of {W : World} (h : laidMetH Tryd.prog Rows.fnExactShowRingRow.laid W) : Lay (fun b => allB W b ∨ False) W := by
  have h1 : laidMet Tryd.prog Rows.fnExactShowRingRow.laid W := h
  have h2 := (laidMet.tail (laidMet.tail h1))
  have ht : Lib.TabIs Tryd.prog W "internal/strconv.uint64pow10" .u64 Lib.pow10Tab :=
    Lib.tabIs_of_head (g := 0) (n := 20) (t := 158) (e := 132) (by kernel_rfl) (by kernel_rfl) (by kernel_rfl) (by kernel_rfl) (by kernel_rfl) (by kernel_rfl) h2
  have hg : Tryd.prog.globalNamed "internal/strconv.uint64pow10" = some 0 := by kernel_rfl
  unfold Lib.TabIs World.var? at ht
  simp only [hg, Option.bind_some] at ht
  cases h0 : W.heap[0]? with
  | none => rw [h0] at ht; cases ht
  | some o =>
    rw [h0] at ht
    cases o with
    | cells cs t fz =>
      have e : cs = pow10V := (show cs = (List.map (fun z => Value.int .u64 z) Lib.pow10Tab).toArray by simpa using ht).trans (by rfl)
      subst e
      exact ⟨.inl (by have := (Array.getElem?_eq_some_iff.1 h0).1; exact this), t, fz, h0⟩
    | _ => cases ht
noncomputable def tabCells (d : DataW Unit) : Array Value := match d with
  | .agg l => (l.map fun x => match x with | .lit (.int k z) => Value.int k z | _ => .bool false).toArray
  | _ => #[]
noncomputable def laidWorld (os : Os) : World :=
  let w0 := World.holding Tryd.prog os ⟨#[], #[], []⟩
  { w0 with heap := ((w0.heap.modify 0 fun | .cells _ t fz => .cells pow10V t fz | o => o).modify 1 fun | .cells _ t fz => .cells (tabCells Rows.laid_math_bits_deBruijn32tab) t fz | o => o).modify 2 fun | .cells _ t fz => .cells (tabCells Rows.laid_math_bits_deBruijn64tab) t fz | o => o }
set_option maxRecDepth 100000 in
theorem laidWorld_met (os : Os) (args : Array Value) : laidMetH Tryd.prog Rows.fnExactShowRingRow.laid ((laidWorld os).forCall (fun _ _ => 0) ⟨#[], args, []⟩).memory :=
  laidMetH_of_parts (laidMet_of_run' 8 (by kernel_rfl) (by kernel_rfl)) (by kernel_rfl)
set_option maxRecDepth 100000 in
theorem lifted_FnExactShowRing (os : Os) (started : os.Started) (H : Type) (enc : TypeId × Value → H) :
    ReturnsInHanded {} Tryd.checked os 4 .any (fun w args => (Rows.fnExactShowRingSpec.pre enc Tryd.prog Tryd.f4 [] false w args ∧ laidMetH Tryd.prog Rows.fnExactShowRingRow.laid w) ∧ sizedMet enc Tryd.prog Tryd.f4 (OpenSpec.ofChange Rows.fnExactShowRingSpec) false w args)
      (Rows.fnExactShowRingSpec.post enc Tryd.prog Tryd.f4 false true false false) := by
  refine returnsInHanded_of_change_and (C := Tryd.checked) (X := fun w _ => laidMetH Tryd.prog Rows.fnExactShowRingRow.laid w) (fun _ _ _ hh h => h.of_heap hh) own started (by kernel_rfl) Tryd.func4
    (ChangeSpec.witness_at (enc := enc) (C := Tryd.checked) (os := os) (X := fun w _ => laidMetH Tryd.prog Rows.fnExactShowRingRow.laid w) false (laidWorld os) #[.agg #[.slice none 0 0]] 8 rfl (by kernel_rfl) (by kernel_rfl) (by kernel_rfl) (by kernel_rfl) (by kernel_rfl) (laidWorld_met os _)) ?_
  intro W base args ds gs before hval hW _ _ hL _
  refine law_contract good (t4 := 4) (q := 9) laidOut Tryd.func4 (by kernel_rfl) (by kernel_rfl) rfl (by kernel_rfl) (by kernel_rfl) ⟨rfl, fun ds hds => ?_⟩ (fun xss hx => ?_) W base args ds gs before (lay_of hL) hval hW
  · have hds' : ds.length = 1 := by rw [Tryd.params4] at hds; exact hds
    obtain ⟨d, rfl⟩ := List.length_eq_one_iff.1 hds'
    exact Eq.refl _
  · rw [Tryd.params4] at hx ⊢
    exact args_FnExactShowRing hx
theorem fnExactShowRing_holds : Rows.FnExactShowRingSaid :=
  OpenClaim.holds_of_wide 4 Tryd.f4 rfl rfl rfl rfl rfl rfl rfl ⟨rfl, rfl, rfl, rfl, rfl⟩ rfl rfl rfl rfl rfl (by kernel_rfl) Tryd.func4 (by kernel_rfl)
    (of_decide_eq_true (by kernel_rfl)) (by unfold Func.isWrapper; first | (rw [if_pos (by decide +kernel)]; kernel_rfl) | (rw [if_neg (by decide +kernel)]; exact ⟨rfl, rfl⟩))
    (fun os started H enc _ => lifted_FnExactShowRing os started H enc)
#print axioms fnExactShowRing_holds
end Go.Proofs.YtbpfciidbgkekaaDoor
