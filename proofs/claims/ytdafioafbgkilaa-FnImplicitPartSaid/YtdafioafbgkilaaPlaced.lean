/- The contract of placed, of the program. No condition. -/
import Derived.Test.YtdafioafbgkilaaSet
namespace Go.Proofs.Ytdafioafbgkilaa
open Go.RowKit
set_option linter.unusedVariables false

def plB (xs : List T) (i : Int) : Bool := svB xs && (decide (0 ≤ i) && decide (i < xs.length))
theorem plB_iff (xs : List T) (i : Int) : plB xs i = true ↔ svB xs = true ∧ 0 ≤ i ∧ i < xs.length := by simp [plB]
theorem plB_no (xs : List T) (i : Int) (h : ¬ (svB xs = true ∧ 0 ≤ i ∧ i < xs.length)) : plB xs i = false := by
  rw [Bool.eq_false_iff]; intro h'; exact h ((plB_iff xs i).1 h')
theorem plB_at {xs : List T} {n : Nat} {i : Int} (hl : xs.length = n) (h : plB xs i = true) : svB xs = true ∧ ∃ k : Nat, i = k ∧ k < n := by
  obtain ⟨h1, h2, h3⟩ := (plB_iff xs i).1 h
  exact ⟨h1, i.toNat, by omega, by omega⟩


end Go.Proofs.Ytdafioafbgkilaa
