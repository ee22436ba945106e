/- The contracts of TaskValid and SetValid, of the program and of the reference: both compute the same test of the tasks. No condition. -/
import Derived.Test.YtbfdpegjflhboaaChecked
import Derived.Test.YtbfdpegjflhboaaBase
namespace Go.Proofs.Ytbfdpegjflhboaa
open Go.RowKit
set_option linter.unusedVariables false

/-- a task is valid -/
def tvB (t : T) : Bool := decide (1 ≤ t.low) && (decide (t.low ≤ t.high) && (decide (t.high ≤ t.due) && (decide (t.due ≤ t.every) && (decide (t.every ≤ 20) && (t.crit || decide (t.low = t.high))))))
/-- tasks are valid -/
def svB (xs : List T) : Bool := decide (xs.length ≤ 5) && xs.all tvB

theorem tvB_iff (t : T) : tvB t = true ↔ 1 ≤ t.low ∧ t.low ≤ t.high ∧ t.high ≤ t.due ∧ t.due ≤ t.every ∧ t.every ≤ 20 ∧ (t.crit = true ∨ t.low = t.high) := by
  simp [tvB]
theorem tvB_no (t : T) (h : ¬ (1 ≤ t.low ∧ t.low ≤ t.high ∧ t.high ≤ t.due ∧ t.due ≤ t.every ∧ t.every ≤ 20 ∧ (t.crit = true ∨ t.low = t.high))) : tvB t = false := by
  rw [Bool.eq_false_iff]; intro h'; exact h ((tvB_iff t).1 h')

set_option maxHeartbeats 400000 in
theorem taskValid_impl (t : T) (w : World) :
    Calls Try.prog 46 #[.agg #[.int .i64 t.low, .int .i64 t.high, .int .i64 t.due, .int .i64 t.every, .bool t.crit]] w fun r w' => r = .returned (.bool (tvB t)) ∧ Below w.heap.size w w' := by
  obtain ⟨a, b, c, d, e⟩ := t
  dsimp only
  cases e
  all_goals
    go_enter Try.func46, Try.ntmps46
    go_wp2
    all_goals go_ret
    all_goals refine ⟨ret_bool ?_, (Below.refl _ _).alloc (Nat.le_refl _) _⟩
    all_goals rw [Bool.eq_iff_iff, tvB_iff]
    all_goals first | (simp; done) | (simp; omega)

set_option maxHeartbeats 400000 in
theorem taskValid_spec (t : T) (w : World) :
    Calls Try.prog 64 #[.agg #[.int .i64 t.low, .int .i64 t.high, .int .i64 t.due, .int .i64 t.every, .bool t.crit]] w fun r w' => r = .returned (.bool (tvB t)) ∧ Below w.heap.size w w' := by
  obtain ⟨a, b, c, d, e⟩ := t
  dsimp only
  cases e
  all_goals
    go_enter Try.func64, Try.ntmps64
    go_wp2
    all_goals go_ret
    all_goals refine ⟨ret_bool ?_, (Below.refl _ _).alloc (Nat.le_refl _) _⟩
    all_goals rw [Bool.eq_iff_iff, tvB_iff]
    all_goals first | (simp; done) | (simp; omega)

end Go.Proofs.Ytbfdpegjflhboaa
