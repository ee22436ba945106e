/- The contracts of the greatest common divisor, of the program and of the reference. Condition: neither number is negative. -/
import Derived.Test.YtcgjifklapaeeaaChecked
import Derived.Test.YtcgjifklapaeeaaBase
namespace Go.Proofs.Ytcgjifklapaeeaa
open Go.RowKit
set_option linter.unusedVariables false

def gcdI (a b : Int) : Int := (Int.gcd a b : Int)
theorem gcdI_nat (p q : Nat) : gcdI (p : Int) (q : Int) = ((p.gcd q : Nat) : Int) := rfl
theorem gcd_step (p q : Nat) : q.gcd (p % q) = p.gcd q := by rw [Nat.gcd_comm p q, Nat.gcd_rec q p, Nat.gcd_comm]
theorem gcdI_pos {a b : Int} (hb : 1 ≤ b) : 1 ≤ gcdI a b := by
  have h : 0 < Int.gcd a b := Int.gcd_pos_of_ne_zero_right _ (by omega)
  unfold gcdI; omega
theorem gcdI_pos' {a b : Int} (hb : 1 ≤ a) : 1 ≤ gcdI a b := by
  have h : 0 < Int.gcd a b := Int.gcd_pos_of_ne_zero_left _ (by omega)
  unfold gcdI; omega
theorem gcdI_comm (a b : Int) : gcdI a b = gcdI b a := by unfold gcdI; rw [Int.gcd_comm]



end Go.Proofs.Ytcgjifklapaeeaa
