/- How many items lie in a ring. -/
import Derived.Test.YtbgeagbgfioaaaaGreatAbFqRing
namespace Go.Proofs.YtbgeagbgfioaaaaGreat.AB
open Go
set_option maxRecDepth 100000
set_option linter.unusedSimpArgs false
set_option linter.unusedVariables false
def itemsOf (s : Shelf) : Nat := s.items.length
theorem sumOf_mono {α : Type} {f g : α → Nat} : ∀ (L : List α), (∀ x, x ∈ L → f x ≤ g x) → sumOf f L ≤ sumOf g L
  | [], _ => by simp [sumOf]
  | x :: L, h => by
    have h1 := h x (by simp)
    have h2 := sumOf_mono L (fun y hy => h y (List.mem_cons_of_mem _ hy))
    simp only [sumOf, List.map_cons, List.sum_cons] at h2 ⊢; omega
theorem sumOf_mem {α : Type} {f : α → Nat} : ∀ {L : List α} {x : α}, x ∈ L → f x ≤ sumOf f L
  | y :: L, x, h => by
    simp only [sumOf, List.map_cons, List.sum_cons]
    rcases List.mem_cons.1 h with rfl | h
    · omega
    · have := sumOf_mem (f := f) h; simp only [sumOf] at this; omega
def peerItems (p : Peer) : Nat := sumOf itemsOf p.shelves
theorem itemsOf_le (s : Shelf) : itemsOf s ≤ shelfSz s := by unfold itemsOf shelfSz itemsSz; omega
theorem peerItems_le (p : Peer) : peerItems p ≤ peerSz p := by
  unfold peerItems peerSz shelvesSz
  have := sumOf_mono (f := itemsOf) (g := shelfSz) p.shelves (fun s _ => itemsOf_le s)
  omega
theorem ringItems_le (L : List Peer) : sumOf peerItems L ≤ peersSz L := by
  unfold peersSz
  have := sumOf_mono (f := peerItems) (g := peerSz) L (fun s _ => peerItems_le s)
  omega
theorem Peer.small_of {p : Peer} (h : peerSz p ≤ 1048576) : p.small := by
  unfold peerSz shelvesSz at h
  refine ⟨by omega, by omega, by omega, fun s hs => ?_⟩
  have h1 := sumOf_mem (f := shelfSz) hs
  have h2 := itemsOf_le s
  unfold itemsOf at h2; omega
theorem peers_small {L : List Peer} (h : peersSz L ≤ 1048576) : L.length ≤ 1048576 ∧ ∀ p, p ∈ L → p.small := by
  unfold peersSz at h
  refine ⟨by omega, fun p hp => Peer.small_of ?_⟩
  have := sumOf_mem (f := peerSz) hp; omega
end Go.Proofs.YtbgeagbgfioaaaaGreat.AB
