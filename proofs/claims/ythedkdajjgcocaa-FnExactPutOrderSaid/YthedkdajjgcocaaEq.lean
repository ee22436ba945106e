/- '!=' of a task and itself; dmTasks of two lists that read alike. No condition. -/
import Derived.Test.YthedkdajjgcocaaChecked
import Derived.Test.YthedkdajjgcocaaBase
import Derived.Laws.StructEq
namespace Go.Proofs.Ythedkdajjgcocaa
open Go.RowKit
set_option linter.unusedVariables false

theorem neq_task (x : T) (w : World) : (binOp .neq 61 (.agg #[.int .i64 x.low, .int .i64 x.high, .int .i64 x.due, .int .i64 x.every, .bool x.crit]) (.agg #[.int .i64 x.low, .int .i64 x.high, .int .i64 x.due, .int .i64 x.every, .bool x.crit])).run Try.prog w = .ok (.bool false) w := by
  simp only [binOp]
  simp [go_sem, Op.equal, Op.maxDepth, run_equalIn_struct]

set_option maxHeartbeats 1600000 in
theorem dmTasks_same (A A' : Option Addr) (n c c' : Nat) (xs : List T) (w : World) (h : RdT w A n c xs) (h' : RdT w A' n c' xs) :
    Calls Try.prog 38 #[.slice A n c, .slice A' n c'] w fun e w' => e = .returned (.bool true) ∧ Below w.heap.size w w' := by
  have hm : n ≤ maxLen := Nat.le_trans h.cap h.max
  unfold maxLen at hm
  have hne : ((n : Int) != n) = false := by simp
  go_enter Try.func38, Try.ntmps38
  go_wp2
  go_loopw [5] (fun i wr => ∃ k : Nat, k ≤ n ∧ i = .int .i64 k ∧ Below w.heap.size w wr) (fun i _ => n - (intOf i).toNat)
  case atStart => exact ⟨0, Nat.zero_le _, rfl, Below.refl _ _⟩
  case round =>
    obtain ⟨k, hk, rfl, hbel⟩ := hrel
    by_cases hlt : k < n
    · obtain ⟨b, off, x, rfl, hx, hb, c0, c1, c2, c3, c4⟩ := (h.below hbel).taskAt hlt
      obtain ⟨b', off', x', rfl, hx', hb', d0, d1, d2, d3, d4⟩ := (h'.below hbel).taskAt hlt
      rw [hx] at hx'
      injection hx' with hx'
      subst hx'
      have i0 : (0 : Int) ≤ (k : Int) := by omega
      have i1 : (k : Int) < (n : Int) := by omega
      have heq := fun w => neq_task x w
      clear hx h h'
      go_wp2_with fail
      go_quiet (fail)
      go_wp2
      go_roundw
      case rel => exact ⟨k + 1, by omega, by go_num, ⟨hbel.os, hbel.tape, hbel.output, hbel.size, hbel.block⟩⟩
      case measure => simp [intOf]; omega
    · have hkn : k = n := by omega
      subst hkn
      clear h h'
      go_wp2
      go_ret
      exact ⟨rfl, hbel⟩

end Go.Proofs.Ythedkdajjgcocaa
