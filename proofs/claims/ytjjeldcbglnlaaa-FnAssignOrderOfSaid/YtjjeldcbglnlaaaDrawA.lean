/- The contract of DrawAssignOrder. No condition. -/
import Derived.Test.YtjjeldcbglnlaaaDrawS
import Derived.Test.YtjjeldcbglnlaaaSortS
namespace Go.Proofs.Ytjjeldcbglnlaaa
open Go.RowKit
set_option linter.unusedVariables false

set_option maxRecDepth 100000 in
set_option maxHeartbeats 3200000 in
theorem drawAssignOrder_any (A : Option Addr) (n c : Nat) (bs : List UInt8) (w : World) (h : RdB w A n c bs) :
    Calls Try.prog 43 #[.slice A n c] w fun e w' => ∃ (D : Option Addr) (m d : Nat) (xs : List T), e = .returned (.slice D m d) ∧ m ≤ 6 ∧ OwnT w w' (.slice D m d) m xs ∧ Below w.heap.size w w' := by
  have H := Lib.hid h
  clear h
  go_enter Try.func43, Try.ntmps43
  go_wp2_with fail
  refine (open_any A n c bs w H.out).mono ?_
  rintro e w1 ⟨R, n1, bs1, rfl, hR, hr, hb1⟩
  have hRlt := hr.lt
  replace hr := Lib.hid hr
  replace hb1 := Lib.hid hb1
  go_wp2_with fail
  refine (l1Some_any R A n1 c bs1 0 w1 hr.out (by omega)).mono ?_
  rintro e w2 ⟨D, m, d, xs, rfl, hm6, ho, hD⟩
  have hb2 := hb1.out.grown hD.2.1 hb1.out.size (fun k e => by injection e with e; omega)
  have o2 := Lib.hid (ho.ext hb1.out.size)
  clear hr ho hD
  go_wp2
  go_ret
  exact ⟨D, m, d, xs, rfl, hm6, o2.out, hb2⟩

end Go.Proofs.Ytjjeldcbglnlaaa
