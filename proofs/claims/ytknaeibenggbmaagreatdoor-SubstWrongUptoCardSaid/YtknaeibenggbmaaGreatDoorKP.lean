/- A byte that is an argument. -/
import Derived.Test.YtknaeibenggbmaaGreatDoorKE
set_option linter.all false
namespace Go.Proofs.Tryz
open Go Go.Iv

theorem uByte : prog.underlying 5 = some (.int .u8) := by kernel_rfl
theorem byte_val {α : Prop} {W : World} {base : Nat} {v : Value} (h : Value.okWide prog W .any base 5 v) (_ : α) : ∃ b : Nat, v = .int .u8 b ∧ V 0 (L0 W) W (.int .u8 b) (.raw (.int .u8 b)) ∧ b < 256 := by
  simp only [Value.okWide, uByte, Cell.okWide] at h
  cases v <;> simp_all [Cell.ok]
  rename_i k n
  obtain ⟨rfl, h1, h2⟩ := h
  have e1 : IntKind.u8.min = 0 := by decide
  have e2 : IntKind.u8.max = 255 := by decide
  rw [e1] at h1
  rw [e2] at h2
  refine ⟨n.toNat, ?_, ?_, ?_⟩
  · omega
  · exact .raw _ trivial
  · omega
end Go.Proofs.Tryz
