/- Words as texts, and shown. -/
import Derived.Test.YtkcnljgjlofgiaaGreatDoorAbFbCred
namespace Go.Proofs.YtkcnljgjlofgiaaGreatDoor.AB
open Go
set_option maxRecDepth 100000
set_option linter.unusedSimpArgs false
set_option linter.unusedVariables false
def varL (ns : List Int) : List UInt8 := ns.flatMap varI
def credText (c : Cred) : List UInt8 := if credOk c then varL c.nums else []
theorem credOk_nums {c : Cred} (h : credOk c = true) : ∀ n, n ∈ c.nums → 0 ≤ n ∧ n ≤ 9999 := by
  simp only [credOk, Bool.and_eq_true, inB, roleOk, roleNone, decide_eq_true_eq] at h
  simp only [Cred.nums, List.mem_cons, List.not_mem_nil, or_false, forall_eq_or_imp, forall_eq]
  obtain ⟨h1, h2, h3, h4⟩ := h
  split at h4
  · simp_all; omega
  · split at h4
    · simp_all; omega
    · split at h4
      · simp_all; omega
      · split at h4
        · simp_all; omega
        · cases h4
theorem varL_len (ns : List Int) : (varL ns).length ≤ 10 * ns.length := by
  induction ns with
  | nil => simp [varL]
  | cons n ns ih => have := varI_len n; simp only [varL, List.flatMap_cons, List.length_append, List.length_cons] at ih ⊢; omega
theorem varL_take (ns : List Int) {k : Nat} (h : k < ns.length) : varL (ns.take (k + 1)) = varL (ns.take k) ++ varI ns[k] := by
  unfold varL
  rw [List.take_add_one, List.getElem?_eq_getElem h, List.flatMap_append]; simp
theorem getD_map {α β : Type} (L : List α) (f : α → β) (d : β) {k : Nat} (h : k < L.length) : (L.map f).getD k d = f L[k] := by
  simp [List.getD_eq_getElem?_getD, List.getElem?_eq_getElem h]
theorem credText_len (c : Cred) : (credText c).length ≤ 100 := by
  unfold credText
  split
  · have := varL_len c.nums; rw [show c.nums.length = 10 from rfl] at this; omega
  · simp
end Go.Proofs.YtkcnljgjlofgiaaGreatDoor.AB
