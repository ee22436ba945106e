/- The contract of l3At, of the reference. No condition. -/
import Derived.Test.YtbfdpegjflhboaaPlaced
namespace Go.Proofs.Ytbfdpegjflhboaa
open Go.RowKit
set_option linter.unusedVariables false

set_option maxHeartbeats 800000 in
theorem placed_spec (A : Option Addr) (n c : Nat) (xs : List T) (i : Int) (w : World) (h : RdT w A n c xs) :
    Calls Try.prog 44 #[.slice A n c, .int .i64 i] w fun e w' => e = .returned (.bool (plB xs i)) ∧ Below w.heap.size w w' := by
  have hm : n ≤ maxLen := Nat.le_trans h.cap h.max
  unfold maxLen at hm
  have hl := h.len
  cases hs : svB xs
  · have HB := Lib.hid (plB_no xs i (by rw [hs]; simp))
    have HV := Lib.hid (setValid_spec A n c xs w h)
    rw [hs] at HV
    clear h hs
    go_enter Try.func44, Try.ntmps44
    go_wp2_with fail
    refine HV.out.mono ?_
    rintro e w1 ⟨rfl, hb1⟩
    go_wp2
    go_ret
    exact ⟨ret_bool (by first | exact HB.out.symm | (rw [HB.out]; simp; omega)), hb1⟩
  · have HV := Lib.hid (setValid_spec A n c xs w h)
    rw [hs] at HV
    by_cases h0 : 0 ≤ i
    · by_cases h1 : i < n
      · have HB := Lib.hid ((plB_iff xs i).2 ⟨hs, h0, by rw [hl]; exact h1⟩)
        clear h hs hl
        go_enter Try.func44, Try.ntmps44
        go_wp2_with fail
        refine HV.out.mono ?_
        rintro e w1 ⟨rfl, hb1⟩
        go_wp2
        go_ret
        exact ⟨ret_bool (by first | exact HB.out.symm | (rw [HB.out]; simp; omega)), hb1⟩
      · have HB := Lib.hid (plB_no xs i (by omega))
        clear h hs hl
        go_enter Try.func44, Try.ntmps44
        go_wp2_with fail
        refine HV.out.mono ?_
        rintro e w1 ⟨rfl, hb1⟩
        go_wp2
        go_ret
        exact ⟨ret_bool (by first | exact HB.out.symm | (rw [HB.out]; simp; omega)), hb1⟩
    · have HB := Lib.hid (plB_no xs i (by omega))
      clear h hs hl
      go_enter Try.func44, Try.ntmps44
      go_wp2_with fail
      refine HV.out.mono ?_
      rintro e w1 ⟨rfl, hb1⟩
      go_wp2
      go_ret
      exact ⟨ret_bool (by first | exact HB.out.symm | (rw [HB.out]; simp; omega)), hb1⟩

end Go.Proofs.Ytbfdpegjflhboaa
