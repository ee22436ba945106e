/- The contracts of the greatest common divisor, of the program and of the reference. Condition: neither number is negative. -/
import Derived.Test.YtbfdpegjflhboaaChecked
import Derived.Test.YtbfdpegjflhboaaBase
namespace Go.Proofs.Ytbfdpegjflhboaa
open Go.RowKit
set_option linter.unusedVariables false

def gcdI (a b : Int) : Int := (Int.gcd a b : Int)
theorem gcdI_nat (p q : Nat) : gcdI (p : Int) (q : Int) = ((p.gcd q : Nat) : Int) := rfl
theorem gcd_step (p q : Nat) : q.gcd (p % q) = p.gcd q := by rw [Nat.gcd_comm p q, Nat.gcd_rec q p, Nat.gcd_comm]
theorem gcdI_pos {a b : Int} (hb : 1 ≤ b) : 1 ≤ gcdI a b := by
  have h : 0 < Int.gcd a b := Int.gcd_pos_of_ne_zero_right _ (by omega)
  unfold gcdI; omega
theorem gcdI_pos' {a b : Int} (hb : 1 ≤ a) : 1 ≤ gcdI a b := by
  have h : 0 < Int.gcd a b := Int.gcd_pos_of_ne_zero_left _ (by omega)
  unfold gcdI; omega
theorem gcdI_comm (a b : Int) : gcdI a b = gcdI b a := by unfold gcdI; rw [Int.gcd_comm]

set_option maxHeartbeats 800000 in
theorem common_any (a b : Int) (w : World) (ha : 0 ≤ a) (hb : 0 ≤ b) :
    Calls Try.prog 66 #[.int .i64 a, .int .i64 b] w fun e w' => e = .returned (.int .i64 (gcdI a b)) ∧ Below w.heap.size w w' := by
  obtain ⟨p0, rfl⟩ := Int.eq_ofNat_of_zero_le ha
  obtain ⟨q0, rfl⟩ := Int.eq_ofNat_of_zero_le hb
  rw [gcdI_nat]
  generalize hg : p0.gcd q0 = g
  have Hg := Lib.hid hg
  clear hg
  go_enter Try.func66, Try.ntmps66
  go_wp2
  go_loopw [0, 1] (fun x y wr => ∃ p q : Nat, x = .int .i64 p ∧ y = .int .i64 q ∧ p.gcd q = g ∧ Below w.heap.size w wr) (fun _ y _ => (intOf y).toNat)
  case atStart => exact ⟨_, _, rfl, rfl, Hg.out, Below.refl _ _⟩
  case round =>
    obtain ⟨p, q, rfl, rfl, hpq, hbel⟩ := hrel
    have Hpq := Lib.hid hpq
    clear hpq
    by_cases hq : 1 ≤ q
    · have hne : ((q : Int) != 0) = true := by simp; omega
      have hne2 : ((q : Int) == 0) = false := by simp; omega
      have h0 : (0 : Int) ≤ (p : Int) := by omega
      have h1 : (1 : Int) ≤ (q : Int) := by omega
      have hd : Below w.heap.size w wr.drew := hbel.drew
      have hm : p % q < q := Nat.mod_lt _ hq
      go_wp2_with fail
      go_quiet (fail)
      go_wp2
      go_roundw
      case rel => exact ⟨q, p % q, rfl, by rw [Int.natCast_emod], (gcd_step p q).trans Hpq.out, ⟨hbel.os, hbel.tape, hbel.output, hbel.size, hbel.block⟩⟩
      case measure => simp [intOf, ← Int.natCast_emod]; omega
    · have hq0 : q = 0 := by omega
      subst hq0
      have HE := Lib.hid ((Nat.gcd_zero_right p).symm.trans Hpq.out)
      go_wp2
      go_ret
      exact ⟨ret_int (by rw [HE.out]), hbel⟩

set_option maxHeartbeats 800000 in
theorem l1Gcd_any (a b : Int) (w : World) (ha : 0 ≤ a) (hb : 0 ≤ b) :
    Calls Try.prog 67 #[.int .i64 a, .int .i64 b] w fun e w' => e = .returned (.int .i64 (gcdI a b)) ∧ Below w.heap.size w w' := by
  obtain ⟨p0, rfl⟩ := Int.eq_ofNat_of_zero_le ha
  obtain ⟨q0, rfl⟩ := Int.eq_ofNat_of_zero_le hb
  rw [gcdI_nat]
  generalize hg : p0.gcd q0 = g
  have Hg := Lib.hid hg
  clear hg
  go_enter Try.func67, Try.ntmps67
  go_wp2
  go_loopw [0, 1] (fun x y wr => ∃ p q : Nat, x = .int .i64 p ∧ y = .int .i64 q ∧ p.gcd q = g ∧ Below w.heap.size w wr) (fun _ y _ => (intOf y).toNat)
  case atStart => exact ⟨_, _, rfl, rfl, Hg.out, Below.refl _ _⟩
  case round =>
    obtain ⟨p, q, rfl, rfl, hpq, hbel⟩ := hrel
    have Hpq := Lib.hid hpq
    clear hpq
    by_cases hq : 1 ≤ q
    · have hne : ((q : Int) != 0) = true := by simp; omega
      have hne2 : ((q : Int) == 0) = false := by simp; omega
      have h0 : (0 : Int) ≤ (p : Int) := by omega
      have h1 : (1 : Int) ≤ (q : Int) := by omega
      have hm : p % q < q := Nat.mod_lt _ hq
      go_wp2
      go_roundw
      case rel => exact ⟨q, p % q, rfl, by rw [Int.natCast_emod], (gcd_step p q).trans Hpq.out, hbel⟩
      case measure => simp [intOf, ← Int.natCast_emod]; omega
    · have hq0 : q = 0 := by omega
      subst hq0
      have HE := Lib.hid ((Nat.gcd_zero_right p).symm.trans Hpq.out)
      go_wp2
      go_ret
      exact ⟨ret_int (by rw [HE.out]), hbel⟩

end Go.Proofs.Ytbfdpegjflhboaa
