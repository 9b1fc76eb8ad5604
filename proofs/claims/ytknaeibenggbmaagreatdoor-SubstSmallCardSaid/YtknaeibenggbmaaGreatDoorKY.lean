/- What the known package-level variables read as leads to no new memory. -/
import Derived.Test.YtknaeibenggbmaaGreatDoorKE
import Derived.Test.YtknaeibenggbmaaGreatDoorLD
set_option linter.all false
namespace Go.Proofs.Tryz
open Go Go.Iv

theorem ages_raw : ∀ l : List IV, (∀ x ∈ l, ∃ v, x = .raw v) → ages l = l
  | [], _ => rfl
  | x :: l, h => by
    obtain ⟨v, rfl⟩ := h x (by simp)
    simp only [ages, age, ages_raw l fun y hy => h y (by simp [hy])]
theorem aged0 : agedG gl0 := by
  intro g x hx
  match g, hx with
  | 0, hx =>
    cases hx
    simp only [age]
    rw [ages_raw _ fun y hy => ?_]
    obtain ⟨op, _, hy⟩ := List.mem_flatMap.1 hy
    unfold rowI at hy
    simp only [List.mem_cons, List.not_mem_nil, or_false] at hy
    rcases hy with rfl | rfl | rfl | rfl | rfl <;> exact ⟨_, rfl⟩
  | 1, hx =>
    cases hx
    simp only [age]
    rw [ages_raw _ fun y hy => ?_]
    obtain ⟨z, _, rfl⟩ := List.mem_map.1 hy
    exact ⟨_, rfl⟩
end Go.Proofs.Tryz
