/- Lists in order, each number once: what is compacted behind a sort is what is marked in a table. -/
import Derived.Test.YtbpfciidbgkekaaAbHkClip
namespace Go.Proofs.Ytbpfciidbgkekaa.AB
open Go
/-- rising lists with the same members are the same -/
theorem rising_eq : ∀ {a b : List Int}, a.Pairwise (· < ·) → b.Pairwise (· < ·) → (∀ x, x ∈ a ↔ x ∈ b) → a = b
  | [], [], _, _, _ => rfl
  | [], y :: b, _, _, h => by have := (h y).2 (by simp); simp at this
  | x :: a, [], _, _, h => by have := (h x).1 (by simp); simp at this
  | x :: a, y :: b, ha, hb, h => by
    rw [List.pairwise_cons] at ha hb
    have hxy : x = y := by
      have h1 := (h x).1 (by simp)
      have h2 := (h y).2 (by simp)
      rcases List.mem_cons.1 h1 with e | h1
      · exact e
      · rcases List.mem_cons.1 h2 with e | h2
        · exact e.symm
        · have := hb.1 x h1; have := ha.1 y h2; omega
    subst hxy
    rw [rising_eq ha.2 hb.2 (fun z => ?_)]
    constructor
    · intro hz
      rcases List.mem_cons.1 ((h z).1 (List.mem_cons_of_mem _ hz)) with e | hz'
      · have := ha.1 z hz; omega
      · exact hz'
    · intro hz
      rcases List.mem_cons.1 ((h z).2 (List.mem_cons_of_mem _ hz)) with e | hz'
      · have := hb.1 z hz; omega
      · exact hz'
theorem sortI_le (L : List Int) : (sortI L).Pairwise (· ≤ ·) := by
  have := List.pairwise_mergeSort (le := fun x y : Int => decide (x ≤ y)) (fun a b c h1 h2 => by simp at *; omega) (fun a b => by simp; omega) L
  exact this.imp (fun h => by simpa using h)
theorem sortI_mem (L : List Int) (x : Int) : x ∈ sortI L ↔ x ∈ L := (List.mergeSort_perm L _).mem_iff
theorem comp_rising {L : List Int} (h : L.Pairwise (· ≤ ·)) : (Lib.compact L).Pairwise (· < ·) := by
  unfold Lib.compact Lib.compactUpTo
  rw [List.pairwise_map]
  refine List.Pairwise.imp_of_mem (fun {i j} hi hj hij => ?_) (List.Pairwise.filter _ (List.pairwise_lt_range (n := L.length)))
  simp only [List.mem_filter, List.mem_range, Lib.keeps, decide_eq_true_eq] at hi hj
  have hle : ∀ a b : Nat, a ≤ b → b < L.length → L.toArray[a]! ≤ L.toArray[b]! := by
    intro a b hab hb
    rw [getElem!_pos L.toArray a (by simp; omega), getElem!_pos L.toArray b (by simpa using hb)]
    simp only [List.getElem_toArray]
    by_cases e : a = b
    · subst e; omega
    · exact List.pairwise_iff_getElem.1 h a b (by omega) hb (by omega)
  have h1 := hle i (j - 1) (by omega) (by omega)
  have h2 := hle (j - 1) j (by omega) hj.1
  have h3 : L.toArray[j]! ≠ L.toArray[j - 1]! := hj.2.resolve_left (by omega)
  omega
theorem comp_mem (L : List Int) (x : Int) : x ∈ Lib.compact L ↔ x ∈ L := by
  unfold Lib.compact Lib.compactUpTo
  simp only [List.mem_map, List.mem_filter, List.mem_range, Lib.keeps, decide_eq_true_eq]
  have hat : ∀ j, j < L.length → L.toArray[j]! = L[j]! := by
    intro j hj
    rw [getElem!_pos L.toArray j (by simpa using hj), getElem!_pos L j hj]; simp
  constructor
  · rintro ⟨j, ⟨hj, _⟩, rfl⟩
    rw [hat j hj, getElem!_pos L j hj]
    exact List.getElem_mem hj
  · intro hx
    obtain ⟨n, hn, rfl⟩ := List.getElem_of_mem hx
    have key : ∀ m, ∀ hm : m < L.length, ∃ a, (a < L.length ∧ (a = 0 ∨ L.toArray[a]! ≠ L.toArray[a - 1]!)) ∧ L.toArray[a]! = L[m] := by
      intro m
      induction m with
      | zero => intro hm; exact ⟨0, ⟨hm, .inl rfl⟩, by rw [hat 0 hm, getElem!_pos L 0 hm]⟩
      | succ m ih =>
        intro hm
        by_cases e : L.toArray[m + 1]! = L.toArray[m]!
        · obtain ⟨a, h1, h2⟩ := ih (by omega)
          refine ⟨a, h1, h2.trans ?_⟩
          rw [hat _ hm, hat m (by omega), getElem!_pos L _ hm, getElem!_pos L m (by omega)] at e
          exact e.symm
        · exact ⟨m + 1, ⟨hm, .inr (by simpa using e)⟩, by rw [hat _ hm, getElem!_pos L _ hm]⟩
    exact key n hn
/-- a table of the numbers of the ring -/
def inTab (K : List Int) (i : Nat) : Bool := K.contains (i : Int)
def tabI (K : List Int) : List Int := ((List.range 256).filter (inTab K)).map fun (i : Nat) => (i : Int)
theorem tab_is {K : List Int} (hK : ∀ x, x ∈ K → 0 ≤ x ∧ x ≤ 255) : Lib.compact (sortI K) = tabI K := by
  refine rising_eq (comp_rising (sortI_le K)) ?_ (fun x => ?_)
  · unfold tabI
    rw [List.pairwise_map]
    exact (List.Pairwise.filter _ List.pairwise_lt_range).imp (fun h => by omega)
  · rw [comp_mem, sortI_mem]
    unfold tabI inTab
    simp only [List.mem_map, List.mem_filter, List.mem_range, List.contains_iff_mem]
    constructor
    · intro hx
      obtain ⟨h1, h2⟩ := hK x hx
      exact ⟨x.toNat, ⟨by omega, by rw [show ((x.toNat : Nat) : Int) = x by omega]; exact hx⟩, by omega⟩
    · rintro ⟨i, ⟨_, h2⟩, rfl⟩; exact h2
end Go.Proofs.Ytbpfciidbgkekaa.AB
