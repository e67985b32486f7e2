/- How much each carries, and the most: both functions, and the law. -/
import Derived.Test.YtbpfciidbgkekaaDoorAbGmHere
import Derived.Test.YtbpfciidbgkekaaDoorAbGuHere
namespace Go.Proofs.YtbpfciidbgkekaaDoor.AB
open Go
set_option maxRecDepth 100000
set_option linter.unusedSimpArgs false
set_option linter.unusedVariables false
theorem mc_Sort (M : List Int) (hM : M.length ≤ 1048576) : MC Tryd.prog 47 [.own (.a 0)] [.row false 3 1 (M.map intC)] (.tup []) [some (.row false 3 1 ((sortI M).map intC))] [] :=
  calls_Sort _ M hM Tryd.func47 (by decide +kernel) (by kernel_rfl) (fun blk cap w h1 h2 => Tryd.slices_Sort_int blk 0 cap M w h1 h2 (by omega)) (fun w => Tryd.slices_Sort_int_none none 0 w)
theorem ac_HereI (L : List Peer) (hL : L.length ≤ 1048576) : AC Tryd.prog 29 [encRing true L] (.own (.r 0)) [.row false 3 1 ((hereS L).map intC)] := ac_HereOf mc_Sort L hL
theorem hereS_mem {L : List Peer} {n : Int} (h : n ∈ hereS L) : ∃ p, p ∈ L ∧ hereB n p = true := by
  have h1 := (sortI_perm _).mem_iff.1 h
  unfold hereI at h1
  obtain ⟨p, hp, rfl⟩ := List.mem_map.1 h1
  rw [List.mem_filter] at hp
  exact ⟨p, hp.1, by simp [hereB, hp.2]⟩
theorem here_at {L : List Peer} {n : Int} (h : n ∈ hereS L) : ∃ i, ∃ hi : i < L.length, idx (hereB n) L 0 = (i : Int) ∧ L.find? (hereB n) = some L[i] ∧ hereB n L[i] = true := by
  rcases idx_spec (hereB n) L 0 with ⟨_, h2⟩ | ⟨i, hi, h1, h2, h3⟩
  · obtain ⟨p, hp, hb⟩ := hereS_mem h
    have := List.find?_eq_none.1 h2 p hp
    exact absurd hb this
  · exact ⟨i, hi, by simpa using h1, h2, h3⟩
/-- what the first with this Id that is there carries -/
def loadAt (L : List Peer) (n : Int) : Int := match L.find? (hereB n) with
  | some p => (peerItems p : Nat)
  | none => 0
def loadsOf (L : List Peer) : List Int := (hereS L).map (loadAt L)
theorem loadAt_le (L : List Peer) (n : Int) : 0 ≤ loadAt L n ∧ loadAt L n ≤ (sumOf peerItems L : Nat) := by
  unfold loadAt
  split
  · rename_i p hp
    have := sumOf_mem (f := peerItems) (List.mem_of_find?_eq_some hp)
    omega
  · omega
def mostOf (l : List Int) : Int := l.foldl max 0
theorem mostOf_take (l : List Int) {k : Nat} (h : k < l.length) : mostOf (l.take (k + 1)) = max (mostOf (l.take k)) l[k] := by
  unfold mostOf; rw [List.take_add_one, List.getElem?_eq_getElem h, List.foldl_append]; rfl
theorem loadsOf_len (L : List Peer) : (loadsOf L).length = (hereS L).length := by simp [loadsOf]
end Go.Proofs.YtbpfciidbgkekaaDoor.AB
