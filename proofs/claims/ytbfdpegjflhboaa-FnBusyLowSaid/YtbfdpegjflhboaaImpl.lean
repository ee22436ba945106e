/- The contracts of Implicit, of the program and of the reference. No condition. -/
import Derived.Test.YtbfdpegjflhboaaSet
namespace Go.Proofs.Ytbfdpegjflhboaa
open Go.RowKit
set_option linter.unusedVariables false

def dueB (t : T) : Bool := decide (t.due = t.every)
def impB (xs : List T) : Bool := svB xs && xs.all dueB

theorem alld_take_succ {xs : List T} {k : Nat} {x : T} (h : xs[k]? = some x) : (xs.take (k + 1)).all dueB = ((xs.take k).all dueB && dueB x) := by
  rw [take_succ_of h]; simp
theorem impB_no {xs : List T} {k : Nat} {x : T} (h : xs[k]? = some x) (hx : ¬ x.due = x.every) : impB xs = false := by
  rw [Bool.eq_false_iff]
  intro hs
  simp only [impB, Bool.and_eq_true, List.all_eq_true] at hs
  have := hs.2 x (List.mem_of_getElem? h)
  simp [dueB, hx] at this
theorem impB_end {xs : List T} {n : Nat} (hl : xs.length = n) (h : (xs.take n).all dueB = true) : impB xs = svB xs := by
  rw [List.take_of_length_le (by omega)] at h
  simp [impB, h]
theorem impB_bad {xs : List T} (h : svB xs = false) : impB xs = false := by simp [impB, h]



end Go.Proofs.Ytbfdpegjflhboaa
