/- The contracts of l4Few, DrawAnyOrder and DrawCountOrders. No condition. -/
import Derived.Test.YtcgjifklapaeeaaDrawS
import Derived.Test.YtcgjifklapaeeaaSortS
namespace Go.Proofs.Ytcgjifklapaeeaa
open Go.RowKit
set_option linter.unusedVariables false

/-- a drawn list: never of five tasks -/
def FewPost (w : World) (e : Ending) (w' : World) : Prop :=
  ∃ (D : Option Addr) (m d : Nat) (xs : List T), e = .returned (.slice D m d) ∧ m ≤ 6 ∧ m ≠ 5 ∧ RdT w' D m d xs ∧ Below w.heap.size w w'

set_option maxRecDepth 100000 in
set_option maxHeartbeats 3200000 in
theorem l4Few_any (A : Option Addr) (n c : Nat) (bs : List UInt8) (w : World) (h : RdB w A n c bs) :
    Calls Try.prog 30 #[.slice A n c] w (FewPost w) := by
  have H := Lib.hid h
  clear h
  go_enter Try.func30, Try.ntmps30
  go_wp2_with fail
  refine (open_any A n c bs w H.out).mono ?_
  rintro e w1 ⟨R, n1, bs1, rfl, hR, hr, hb1⟩
  have hRlt := hr.lt
  replace hr := Lib.hid hr
  replace hb1 := Lib.hid hb1
  go_wp2_with fail
  refine (l1Some_any R A n1 c bs1 0 w1 hr.out (by omega)).mono ?_
  rintro e w2 ⟨D, m, d, xs, rfl, hm6, ho, hD⟩
  have hb2 := hb1.out.grown hD.2.1 hb1.out.size (fun k e => by injection e with e; omega)
  have r2 := Lib.hid ho.rdS
  have hcap := r2.out.cap
  clear hr ho hD
  by_cases hm5 : m = 5
  · subst hm5
    have r3 := Lib.hid (r2.out.take (m := 4) (by omega))
    go_wp2
    go_ret
    exact ⟨D, 4, d, _, rfl, by omega, by omega, r3.out, hb2⟩
  · have hne : ((m : Int) == 5) = false := by simp; omega
    go_wp2
    go_ret
    exact ⟨D, m, d, xs, rfl, hm6, hm5, r2.out, hb2⟩

set_option maxHeartbeats 800000 in
theorem drawAnyOrder_any (A : Option Addr) (n c : Nat) (bs : List UInt8) (w : World) (h : RdB w A n c bs) :
    Calls Try.prog 15 #[.slice A n c] w (FewPost w) := by
  have H := Lib.hid h
  clear h
  go_enter Try.func15, Try.ntmps15
  go_wp2_with fail
  refine (l4Few_any A n c bs w H.out).mono ?_
  rintro e w1 ⟨D, m, d, xs, rfl, h1, h2, h3, h4⟩
  have H3 := Lib.hid h3
  clear h3
  go_wp2
  go_ret
  exact ⟨D, m, d, xs, rfl, h1, h2, H3.out, h4⟩

set_option maxHeartbeats 800000 in
theorem drawCountOrders_any (A : Option Addr) (n c : Nat) (bs : List UInt8) (w : World) (h : RdB w A n c bs) :
    Calls Try.prog 10 #[.slice A n c] w (FewPost w) := by
  have H := Lib.hid h
  clear h
  go_enter Try.func10, Try.ntmps10
  go_wp2_with fail
  refine (l4Few_any A n c bs w H.out).mono ?_
  rintro e w1 ⟨D, m, d, xs, rfl, h1, h2, h3, h4⟩
  have H3 := Lib.hid h3
  clear h3
  go_wp2
  go_ret
  exact ⟨D, m, d, xs, rfl, h1, h2, H3.out, h4⟩

end Go.Proofs.Ytcgjifklapaeeaa
