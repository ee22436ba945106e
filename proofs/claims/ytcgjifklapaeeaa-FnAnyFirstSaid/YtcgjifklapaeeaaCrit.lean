/- The contracts of CriticalOf, of the program and of the reference. No condition. -/
import Derived.Test.YtcgjifklapaeeaaFr
import Derived.Test.YtcgjifklapaeeaaDrawL
namespace Go.Proofs.Ytcgjifklapaeeaa
open Go.RowKit
set_option linter.unusedVariables false

def critV (xs : List T) : List T := if svB xs = true then critL xs else []
theorem critV_no {xs : List T} (h : svB xs = false) : critV xs = [] := by simp [critV, h]
theorem critV_yes {xs : List T} (h : svB xs = true) : critV xs = critL xs := by simp [critV, h]
theorem below_ownC {w w1 w2 : World} {v : Value} {m : Nat} {L : List Value} {e : TypeId} {k : Nat} (hb : Below w.heap.size w w1) (ho : w1.ownsRow w.heap.size e k v m L) (hg : w1.grownBy w2 v.ownBlock) : Below w.heap.size w w2 :=
  hb.grown hg hb.size (fun g e => (ho.lt g e).1)
theorem OwnT.belowC {w w1 w2 : World} {v : Value} {m : Nat} {xs : List T} (h : OwnT w w1 v m xs) (hb : Below w1.heap.size w1 w2) : OwnT w w2 v m xs := ⟨own_below h.1 hb, h.2⟩



end Go.Proofs.Ytcgjifklapaeeaa
