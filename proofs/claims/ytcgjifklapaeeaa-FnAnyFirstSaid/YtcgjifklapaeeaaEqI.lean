/- dmInts of two lists that read alike. No condition. -/
import Derived.Test.YtcgjifklapaeeaaChecked
import Derived.Test.YtcgjifklapaeeaaBase
import Derived.Laws.StructEq
import Derived.BigQuiet
namespace Go.Proofs.Ytcgjifklapaeeaa
open Go.RowKit
set_option linter.unusedVariables false

set_option maxHeartbeats 1600000 in
theorem dmInts_same (A A' : Option Addr) (n c c' : Nat) (xs : List Int) (w : World) (h : RdI w A n c xs) (h' : RdI w A' n c' xs) :
    Calls Try.prog 18 #[.slice A n c, .slice A' n c'] w fun e w' => e = .returned (.bool true) ∧ Below w.heap.size w w' := by
  have hm : n ≤ maxLen := Nat.le_trans h.cap h.max
  unfold maxLen at hm
  have hne : ((n : Int) != n) = false := by simp
  go_enter Try.func18, Try.ntmps18
  go_wp2
  go_loopw [5] (fun i wr => ∃ k : Nat, k ≤ n ∧ i = .int .i64 k ∧ Below w.heap.size w wr) (fun i _ => n - (intOf i).toNat)
  case atStart => exact ⟨0, Nat.zero_le _, rfl, Below.refl _ _⟩
  case round =>
    obtain ⟨k, hk, rfl, hbel⟩ := hrel
    by_cases hlt : k < n
    · obtain ⟨b, off, x, rfl, hx, hb, c0⟩ := (h.below hbel).intAt hlt
      obtain ⟨b', off', x', rfl, hx', hb', d0⟩ := (h'.below hbel).intAt hlt
      rw [hx] at hx'
      injection hx' with hx'
      subst hx'
      have i0 : (0 : Int) ≤ (k : Int) := by omega
      have i1 : (k : Int) < (n : Int) := by omega
      have heq : (x != x) = false := by simp
      clear hx h h'
      go_wp2_with fail
      go_quiet (fail)
      go_wp2
      go_roundw
      case rel => exact ⟨k + 1, by omega, by go_num, ⟨hbel.os, hbel.tape, hbel.output, hbel.size, hbel.block⟩⟩
      case measure => simp [intOf]; omega
    · have hkn : k = n := by omega
      subst hkn
      clear h h'
      go_wp2
      go_ret
      exact ⟨rfl, hbel⟩

end Go.Proofs.Ytcgjifklapaeeaa
