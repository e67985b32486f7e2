/- What an answer that comes in is. -/
import Derived.Test.YtbpfciidbgkekaaDoorAbDeAnswer
namespace Go.Proofs.YtbpfciidbgkekaaDoor.AB
open Go
set_option maxRecDepth 100000
theorem wf64 {n : Int} (h : (Lit.int .i64 n).wf = true) : n ≤ 9223372036854775807 := by
  simp [Lit.wf] at h
  omega
theorem hasIntsD {q : Nat} : ∀ {xs : List (List C)}, (∀ r, r ∈ xs → HasT Tryd.prog (q + 1) 3 r) → ∃ L : List Int, xs = L.map intC ∧ ∀ n, n ∈ L → n ≤ 9223372036854775807
  | [], _ => ⟨[], rfl, by simp⟩
  | r :: xs, h => by
    have h1 := h r (by simp)
    simp only [HasT, Tryd.underlying3] at h1
    obtain ⟨n, rfl, hn⟩ := h1
    obtain ⟨L, rfl, hL⟩ := hasIntsD (xs := xs) (fun r hr => h r (List.mem_cons_of_mem _ hr))
    exact ⟨n :: L, rfl, by simpa using ⟨wf64 hn, hL⟩⟩
theorem hasStep {q : Nat} {cs : List C} (h : HasT Tryd.prog (q + 4) 71 cs) : ∃ e : Step, cs = stepC e ∧ e.src.length ≤ 9223372036854775807 := by
  simp only [HasT, Tryd.underlying71, Tryd.underlying69, Tryd.underlying67, Tryd.underlying65, Tryd.underlying56, Tryd.underlying3, HasFs] at h
  obtain ⟨_, _, rfl, ⟨_, _, rfl, ⟨k, rfl, _⟩, _, _, rfl, ⟨_, _, rfl, ⟨o1, rfl, _⟩, _, _, rfl, ⟨o2, rfl, _⟩, rfl⟩, _, _, rfl, ⟨w, rfl, _⟩, _, _, rfl, ⟨_, _, rfl, ⟨a1, rfl, _⟩, _, _, rfl, ⟨a2, rfl, _⟩, rfl⟩, _, _, rfl, ⟨_, _, rfl, ⟨b1, rfl, _⟩, _, _, rfl, ⟨b2, rfl, _⟩, rfl⟩, _, _, rfl, ⟨t, rfl, _⟩, _, _, rfl, ⟨n, rfl, _⟩, rfl⟩, _, _, rfl, ⟨_, _, rfl, ⟨_, _, rfl, ⟨f1, rfl, _⟩, _, _, rfl, ⟨f2, rfl, _⟩, rfl⟩, _, _, rfl, ⟨f3, rfl, _⟩, rfl⟩, _, _, rfl, ⟨xs, rfl, h1, h2⟩, rfl⟩ := h
  obtain ⟨L, rfl, _⟩ := hasIntsD (q := 0) (by intro r hr; have := h2 r hr; simp only [HasT, Tryd.underlying3]; exact this)
  rw [List.length_map] at h1
  exact ⟨⟨⟨k, ⟨o1, o2⟩, w, ⟨a1, a2⟩, ⟨b1, b2⟩, t, n⟩, ⟨f1, f2⟩, f3, L⟩, rfl, by simpa [maxLen] using h1⟩
theorem hasSteps {q : Nat} : ∀ {xs : List (List C)}, (∀ r, r ∈ xs → HasT Tryd.prog (q + 4) 71 r) → ∃ L : List Step, xs = L.map stepC ∧ ∀ e, e ∈ L → e.src.length ≤ 9223372036854775807
  | [], _ => ⟨[], rfl, by simp⟩
  | r :: xs, h => by
    obtain ⟨e, rfl, he⟩ := hasStep (h r (by simp))
    obtain ⟨L, rfl, hL⟩ := hasSteps (xs := xs) (fun r hr => h r (List.mem_cons_of_mem _ hr))
    exact ⟨e :: L, rfl, by simpa using ⟨he, hL⟩⟩
theorem hasAnswer {q : Nat} {cs : List C} (h : HasT Tryd.prog (q + 6) 24 cs) : ∃ a : Answer, cs = [.v (.bool a.granted), .sl (a.steps.map stepC), cI a.looked, .v (.bool a.failed), .v (.bool a.full)] ∧ a.steps.length ≤ 9223372036854775807 ∧ (∀ s, s ∈ a.steps → s.src.length ≤ 9223372036854775807) ∧ a.looked ≤ 9223372036854775807 := by
  simp only [HasT, Tryd.underlying24, Tryd.underlying22, Tryd.underlying3, Tryd.underlying4, HasFs] at h
  obtain ⟨_, _, rfl, ⟨g, rfl⟩, _, _, rfl, ⟨xs, rfl, h1, h2⟩, _, _, rfl, ⟨n, rfl, hn⟩, _, _, rfl, ⟨fa, rfl⟩, _, _, rfl, ⟨fu, rfl⟩, rfl⟩ := h
  obtain ⟨L, rfl, hL⟩ := hasSteps h2
  rw [List.length_map] at h1
  exact ⟨⟨g, L, n, fa, fu⟩, rfl, by simpa [maxLen] using h1, hL, wf64 hn⟩
theorem args_FnExactShowAnswer {xss : List (List C)} (hx : AllT Tryd.prog 9 [24] xss) : AC Tryd.prog 3 (argsAV Tryd.prog false [24] xss) (vB true) [] := by
  obtain ⟨cs, rfl, hcs⟩ := AllT_one hx
  obtain ⟨a, rfl, h3, h4, h5⟩ := hasAnswer (q := 3) hcs
  have hagg : aggOf Tryd.prog 24 = true := by kernel_rfl
  simpa only [argsAV, argAV_agg hagg, List.map_cons, List.map_nil, cvC, encAnswer] using ac_lawShowAnswer a h3 h4 h5
end Go.Proofs.YtbpfciidbgkekaaDoor.AB
