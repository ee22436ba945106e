/- The contract of eqShare at equal fractions; '==' and '!=' of fractions. No condition. -/
import Derived.Test.YtdafioafbgkilaaShare
namespace Go.Proofs.Ytdafioafbgkilaa
open Go.RowKit
set_option linter.unusedVariables false

set_option maxHeartbeats 800000 in
theorem eqShare_same (v : S) (w : World) :
    Calls Try.prog 23 #[.agg #[.int .i64 v.num, .int .i64 v.den], .agg #[.int .i64 v.num, .int .i64 v.den]] w fun e w' => e = .returned (.bool true) ∧ Below w.heap.size w w' := by
  have h1 : (v.num != v.num) = false := by simp
  have h2 : (v.den != v.den) = false := by simp
  go_enter Try.func23, Try.ntmps23
  go_wp2
  go_ret
  exact ⟨rfl, ((Below.refl _ _).alloc (Nat.le_refl _) _).alloc (by simp) _⟩

theorem neq_share (a b : Int) (w : World) : (binOp .neq 28 (.agg #[.int .i64 a, .int .i64 b]) (.agg #[.int .i64 a, .int .i64 b])).run Try.prog w = .ok (.bool false) w := by
  simp only [binOp]
  simp [go_sem, Op.equal, Op.maxDepth, run_equalIn_struct]
theorem eql_share_no (a b c d : Int) (h : ¬ (a = c ∧ b = d)) (w : World) : (binOp .eql 28 (.agg #[.int .i64 a, .int .i64 b]) (.agg #[.int .i64 c, .int .i64 d])).run Try.prog w = .ok (.bool false) w := by
  simp only [binOp]
  by_cases h1 : a = c
  · have h2 : ¬ b = d := fun e => h ⟨h1, e⟩
    simp [go_sem, Op.equal, Op.maxDepth, run_equalIn_struct, h1, h2]
  · simp [go_sem, Op.equal, Op.maxDepth, run_equalIn_struct, h1]

end Go.Proofs.Ytdafioafbgkilaa
