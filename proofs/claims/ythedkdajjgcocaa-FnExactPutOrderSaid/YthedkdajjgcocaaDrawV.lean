/- The contracts of DrawOrderValid, DrawPutOrder, DrawWorstJobs. No condition. -/
import Derived.Test.YthedkdajjgcocaaDrawO
namespace Go.Proofs.Ythedkdajjgcocaa
open Go.RowKit
set_option linter.unusedVariables false

theorem below_grown {w w1 w2 : World} {R : Nat} (hb : Below w.heap.size w w1) (hR : w.heap.size ≤ R) (hg : w1.grownBy w2 (some R)) : Below w.heap.size w w2 :=
  hb.grown hg hb.size (fun k e => by injection e with e; omega)

set_option maxHeartbeats 1600000 in
theorem drawOrderValid_any (A : Option Addr) (n c : Nat) (bs : List UInt8) (w : World) (h : RdB w A n c bs) :
    Calls Try.prog 30 #[.slice A n c] w fun e w' => ∃ (D : Option Addr) (m d : Nat) (xs : List T) (D' : Option Addr) (k d' : Nat) (ys : List Int), e = .returned (.tuple #[.slice D m d, .slice D' k d']) ∧ m ≤ 6 ∧ k ≤ 7 ∧ RdT w' D m d xs ∧ RdI w' D' k d' ys ∧ Below w.heap.size w w' := by
  have H := Lib.hid h
  clear h
  go_enter Try.func30, Try.ntmps30
  go_wp2_with fail
  refine (open_any A n c bs w H.out).mono ?_
  rintro e w1 ⟨R, n1, bs1, rfl, hR, hr, hb1⟩
  have hRlt := hr.lt
  replace hr := Lib.hid hr
  replace hb1 := Lib.hid hb1
  go_wp2_with fail
  refine (l1Some_any R A n1 c bs1 0 w1 hr.out (by omega)).mono ?_
  rintro e w2 ⟨D, m, d, xs, rfl, hm6, ho, hD⟩
  obtain ⟨q, hq0, hq1, hr2⟩ := hD.1
  have hb2 := Lib.hid (below_grown hb1.out hR hD.2.1)
  have hR2 := hr2.lt
  replace hr2 := Lib.hid hr2
  replace ho := Lib.hid ho
  clear hD hr hb1
  go_wp2_with fail
  refine (l4Draw_any R A n1 c bs1 q m w2 hr2.out (by omega) hm6).mono ?_
  rintro e w3 ⟨D', k, d', ys, rfl, hk7, hi, hD⟩
  have hb3 := Lib.hid (below_grown hb2.out hR hD.2.1)
  have ho3 := Lib.hid (ho.out.grown hRlt hD.2.1)
  replace hi := Lib.hid hi
  clear hD hr2 hb2 ho
  go_wp2
  go_ret2
  exact ⟨D, m, d, xs, D', k, d', ys, rfl, hm6, hk7, Rd.of_own T.cells_len ho3.out.1 ho3.out.2, Rd.of_own icells_len hi.out.1 hi.out.2, hb3.out⟩

set_option maxHeartbeats 1600000 in
theorem drawPutOrder_any (A : Option Addr) (n c : Nat) (bs : List UInt8) (w : World) (h : RdB w A n c bs) :
    Calls Try.prog 35 #[.slice A n c] w fun e w' => ∃ (D : Option Addr) (m d : Nat) (xs : List T) (D' : Option Addr) (k d' : Nat) (ys : List Int), e = .returned (.tuple #[.slice D m d, .slice D' k d']) ∧ m ≤ 6 ∧ k ≤ 7 ∧ RdT w' D m d xs ∧ RdI w' D' k d' ys ∧ Below w.heap.size w w' := by
  have H := Lib.hid h
  clear h
  go_enter Try.func35, Try.ntmps35
  go_wp2_with fail
  refine (drawOrderValid_any A n c bs w H.out).mono ?_
  rintro e w1 ⟨D, m, d, xs, D', k, d', ys, rfl, hm6, hk7, hT, hI, hb⟩
  replace hT := Lib.hid hT
  replace hI := Lib.hid hI
  replace hb := Lib.hid hb
  go_wp2
  go_ret2
  exact ⟨D, m, d, xs, D', k, d', ys, rfl, hm6, hk7, hT.out, hI.out, hb.out⟩

end Go.Proofs.Ythedkdajjgcocaa
