/- What a ring that comes in is. -/
import Derived.Test.YtkcnljgjlofgiaaGreatDoorAbFrItems
namespace Go.Proofs.YtkcnljgjlofgiaaGreatDoor.AB
open Go
set_option maxRecDepth 100000
theorem hasInts {q : Nat} : ∀ {xs : List (List C)}, (∀ r, r ∈ xs → HasT Tryz.prog (q + 1) 3 r) → ∃ L : List Int, xs = L.map intC
  | [], _ => ⟨[], rfl⟩
  | r :: xs, h => by
    have h1 := h r (by simp)
    simp only [HasT, Tryz.underlying3] at h1
    obtain ⟨n, rfl, _⟩ := h1
    obtain ⟨L, rfl⟩ := hasInts (xs := xs) (fun r hr => h r (List.mem_cons_of_mem _ hr))
    exact ⟨n :: L, rfl⟩
theorem hasItem {q : Nat} {cs : List C} (h : HasT Tryz.prog (q + 2) 186 cs) : ∃ e : Item, cs = itemC e ∧ itemSz e ≤ 9223372036854775807 := by
  simp only [HasT, Tryz.underlying186, Tryz.underlying4, Tryz.underlying9, HasFs] at h
  obtain ⟨_, _, rfl, ⟨s, rfl, hs⟩, _, _, rfl, ⟨b, rfl⟩, rfl⟩ := h
  exact ⟨⟨s, b⟩, rfl, by unfold itemSz; rw [sb, Array.length_toList]; exact hs⟩
theorem hasItems {q : Nat} : ∀ {xs : List (List C)}, (∀ r, r ∈ xs → HasT Tryz.prog (q + 2) 186 r) → ∃ L : List Item, xs = L.map itemC ∧ ∀ e, e ∈ L → itemSz e ≤ 9223372036854775807
  | [], _ => ⟨[], rfl, by simp⟩
  | r :: xs, h => by
    obtain ⟨e, rfl, he⟩ := hasItem (h r (by simp))
    obtain ⟨L, rfl, hL⟩ := hasItems (xs := xs) (fun r hr => h r (List.mem_cons_of_mem _ hr))
    exact ⟨e :: L, rfl, by simpa using ⟨he, hL⟩⟩
theorem hasShelf {q : Nat} {cs : List C} (h : HasT Tryz.prog (q + 4) 151 cs) : ∃ e : Shelf, cs = shelfC e ∧ e.ok := by
  simp only [HasT, Tryz.underlying151, Tryz.underlying149, Tryz.underlying3, HasFs] at h
  obtain ⟨_, _, rfl, ⟨k, rfl, _⟩, _, _, rfl, ⟨xs, rfl, h1, h2⟩, rfl⟩ := h
  obtain ⟨L, rfl, hL⟩ := hasItems h2
  rw [List.length_map] at h1
  exact ⟨⟨k, L⟩, rfl, by simpa [maxLen] using h1, hL⟩
theorem hasShelves {q : Nat} : ∀ {xs : List (List C)}, (∀ r, r ∈ xs → HasT Tryz.prog (q + 4) 151 r) → ∃ L : List Shelf, xs = L.map shelfC ∧ ∀ e, e ∈ L → e.ok
  | [], _ => ⟨[], rfl, by simp⟩
  | r :: xs, h => by
    obtain ⟨e, rfl, he⟩ := hasShelf (h r (by simp))
    obtain ⟨L, rfl, hL⟩ := hasShelves (xs := xs) (fun r hr => h r (List.mem_cons_of_mem _ hr))
    exact ⟨e :: L, rfl, by simpa using ⟨he, hL⟩⟩
theorem hasPeer {q : Nat} {cs : List C} (h : HasT Tryz.prog (q + 6) 111 cs) : ∃ e : Peer, cs = peerC e ∧ e.ok := by
  simp only [HasT, Tryz.underlying111, Tryz.underlying109, Tryz.underlying25, Tryz.underlying3, Tryz.underlying4, HasFs] at h
  obtain ⟨_, _, rfl, ⟨id, rfl, _⟩, _, _, rfl, ⟨he, rfl⟩, _, _, rfl, ⟨ah, rfl, _⟩, _, _, rfl, ⟨xs, rfl, h1, h2⟩, _, _, rfl, ⟨ys, rfl, h3, h4⟩, _, _, rfl, ⟨zs, rfl, h5, h6⟩, rfl⟩ := h
  obtain ⟨L, rfl⟩ := hasInts (q := 0) (by intro r hr; have := h2 r hr; simp only [HasT, Tryz.underlying3]; exact this)
  obtain ⟨M, rfl⟩ := hasInts (q := 0) (by intro r hr; have := h4 r hr; simp only [HasT, Tryz.underlying3]; exact this)
  obtain ⟨Z, rfl, hZ⟩ := hasShelves h6
  rw [List.length_map] at h1 h3 h5
  exact ⟨⟨id, he, ah, L, M, Z⟩, rfl, by simpa [maxLen] using h1, by simpa [maxLen] using h3, by simpa [maxLen] using h5, hZ⟩
theorem hasPeers {q : Nat} : ∀ {xs : List (List C)}, (∀ r, r ∈ xs → HasT Tryz.prog (q + 6) 111 r) → ∃ L : List Peer, xs = L.map peerC ∧ ∀ e, e ∈ L → e.ok
  | [], _ => ⟨[], rfl, by simp⟩
  | r :: xs, h => by
    obtain ⟨e, rfl, he⟩ := hasPeer (h r (by simp))
    obtain ⟨L, rfl, hL⟩ := hasPeers (xs := xs) (fun r hr => h r (List.mem_cons_of_mem _ hr))
    exact ⟨e :: L, rfl, by simpa using ⟨he, hL⟩⟩
theorem hasRing {q : Nat} {cs : List C} (h : HasT Tryz.prog (q + 8) 24 cs) : ∃ L : List Peer, cs = [.sl (L.map peerC)] ∧ L.length ≤ 9223372036854775807 ∧ ∀ p, p ∈ L → p.ok := by
  simp only [HasT, Tryz.underlying24, Tryz.underlying22, HasFs] at h
  obtain ⟨_, _, rfl, ⟨xs, rfl, h1, h2⟩, rfl⟩ := h
  obtain ⟨L, rfl, hL⟩ := hasPeers h2
  rw [List.length_map] at h1
  exact ⟨L, rfl, by simpa [maxLen] using h1, hL⟩
end Go.Proofs.YtkcnljgjlofgiaaGreatDoor.AB
