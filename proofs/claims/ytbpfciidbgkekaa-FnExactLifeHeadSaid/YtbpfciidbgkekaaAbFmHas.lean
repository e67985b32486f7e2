/- What an event that comes in is. -/
import Derived.Test.YtbpfciidbgkekaaAbFeEv
namespace Go.Proofs.Ytbpfciidbgkekaa.AB
open Go
set_option maxRecDepth 100000
theorem hasEvent {q : Nat} {cs : List C} (h : HasT Try.prog (q + 4) 43 cs) : ∃ e : Event, cs = evC e ∧ (sb e.text).length ≤ 9223372036854775807 := by
  simp only [HasT, Try.underlying43, Try.underlying29, Try.underlying23, Try.underlying3, Try.underlying9, HasFs] at h
  obtain ⟨_, _, rfl, ⟨kd, rfl, _⟩, _, _, rfl, ⟨pl, rfl, _⟩, _, _, rfl, ⟨nu, rfl, _⟩, _, _, rfl, ⟨_, _, rfl, ⟨k, rfl, _⟩, _, _, rfl, ⟨_, _, rfl, ⟨o1, rfl, _⟩, _, _, rfl, ⟨o2, rfl, _⟩, rfl⟩, _, _, rfl, ⟨w, rfl, _⟩, _, _, rfl, ⟨_, _, rfl, ⟨a1, rfl, _⟩, _, _, rfl, ⟨a2, rfl, _⟩, rfl⟩, _, _, rfl, ⟨_, _, rfl, ⟨b1, rfl, _⟩, _, _, rfl, ⟨b2, rfl, _⟩, rfl⟩, _, _, rfl, ⟨t, rfl, _⟩, _, _, rfl, ⟨n, rfl, _⟩, rfl⟩, _, _, rfl, ⟨s, rfl, hs⟩, rfl⟩ := h
  exact ⟨⟨kd, pl, nu, ⟨k, ⟨o1, o2⟩, w, ⟨a1, a2⟩, ⟨b1, b2⟩, t, n⟩, s⟩, rfl, by rw [sb, Array.length_toList]; exact hs⟩
theorem hasEvents {q : Nat} : ∀ {xs : List (List C)}, (∀ r, r ∈ xs → HasT Try.prog (q + 4) 43 r) → ∃ L : List Event, xs = L.map evC ∧ ∀ e, e ∈ L → (sb e.text).length ≤ 9223372036854775807
  | [], _ => ⟨[], rfl, by simp⟩
  | r :: xs, h => by
    obtain ⟨e, rfl, he⟩ := hasEvent (h r (by simp))
    obtain ⟨L, rfl, hL⟩ := hasEvents (xs := xs) (fun r hr => h r (List.mem_cons_of_mem _ hr))
    exact ⟨e :: L, rfl, by simpa using ⟨he, hL⟩⟩
end Go.Proofs.Ytbpfciidbgkekaa.AB
