/- The contract of placed, of the program. No condition. -/
import Derived.Test.YtbfdpegjflhboaaSet
namespace Go.Proofs.Ytbfdpegjflhboaa
open Go.RowKit
set_option linter.unusedVariables false

def plB (xs : List T) (i : Int) : Bool := svB xs && (decide (0 ≤ i) && decide (i < xs.length))
theorem plB_iff (xs : List T) (i : Int) : plB xs i = true ↔ svB xs = true ∧ 0 ≤ i ∧ i < xs.length := by simp [plB]
theorem plB_no (xs : List T) (i : Int) (h : ¬ (svB xs = true ∧ 0 ≤ i ∧ i < xs.length)) : plB xs i = false := by
  rw [Bool.eq_false_iff]; intro h'; exact h ((plB_iff xs i).1 h')
theorem plB_at {xs : List T} {n : Nat} {i : Int} (hl : xs.length = n) (h : plB xs i = true) : svB xs = true ∧ ∃ k : Nat, i = k ∧ k < n := by
  obtain ⟨h1, h2, h3⟩ := (plB_iff xs i).1 h
  exact ⟨h1, i.toNat, by omega, by omega⟩

set_option maxHeartbeats 800000 in
theorem placed_impl (A : Option Addr) (n c : Nat) (xs : List T) (i : Int) (w : World) (h : RdT w A n c xs) :
    Calls Try.prog 40 #[.slice A n c, .int .i64 i] w fun e w' => e = .returned (.bool (plB xs i)) ∧ Below w.heap.size w w' := by
  have hm : n ≤ maxLen := Nat.le_trans h.cap h.max
  unfold maxLen at hm
  have hl := h.len
  cases hs : svB xs
  · have HB := Lib.hid (plB_no xs i (by rw [hs]; simp))
    have HV := Lib.hid (setValid_impl A n c xs w h)
    rw [hs] at HV
    clear h hs
    go_enter Try.func40, Try.ntmps40
    go_wp2_with fail
    refine HV.out.mono ?_
    rintro e w1 ⟨rfl, hb1⟩
    go_wp2
    go_ret
    exact ⟨ret_bool (by first | exact HB.out.symm | (rw [HB.out]; simp; omega)), hb1⟩
  · have HV := Lib.hid (setValid_impl A n c xs w h)
    rw [hs] at HV
    by_cases h0 : 0 ≤ i
    · by_cases h1 : i < n
      · have HB := Lib.hid ((plB_iff xs i).2 ⟨hs, h0, by rw [hl]; exact h1⟩)
        clear h hs hl
        go_enter Try.func40, Try.ntmps40
        go_wp2_with fail
        refine HV.out.mono ?_
        rintro e w1 ⟨rfl, hb1⟩
        go_wp2
        go_ret
        exact ⟨ret_bool (by first | exact HB.out.symm | (rw [HB.out]; simp; omega)), hb1⟩
      · have HB := Lib.hid (plB_no xs i (by omega))
        clear h hs hl
        go_enter Try.func40, Try.ntmps40
        go_wp2_with fail
        refine HV.out.mono ?_
        rintro e w1 ⟨rfl, hb1⟩
        go_wp2
        go_ret
        exact ⟨ret_bool (by first | exact HB.out.symm | (rw [HB.out]; simp; omega)), hb1⟩
    · have HB := Lib.hid (plB_no xs i (by omega))
      clear h hs hl
      go_enter Try.func40, Try.ntmps40
      go_wp2_with fail
      refine HV.out.mono ?_
      rintro e w1 ⟨rfl, hb1⟩
      go_wp2
      go_ret
      exact ⟨ret_bool (by first | exact HB.out.symm | (rw [HB.out]; simp; omega)), hb1⟩

end Go.Proofs.Ytbfdpegjflhboaa
