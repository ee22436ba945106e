/- The contracts of the drawing of tasks and a place: l3Case, and the draws over it. No condition. -/
import Derived.Test.YtbfdpegjflhboaaDrawS
import Derived.Test.YtbfdpegjflhboaaSortS
namespace Go.Proofs.Ytbfdpegjflhboaa
open Go.RowKit
set_option linter.unusedVariables false

set_option maxRecDepth 100000 in
set_option maxHeartbeats 3200000 in
theorem l3Case_any (A : Option Addr) (n c : Nat) (bs : List UInt8) (w : World) (h : RdB w A n c bs) :
    Calls Try.prog 39 #[.slice A n c] w fun e w' => ∃ (D : Option Addr) (m d : Nat) (xs : List T) (i : Int), e = .returned (.tuple #[.slice D m d, .int .i64 i]) ∧ m ≤ 6 ∧ OwnT w w' (.slice D m d) m xs ∧ Below w.heap.size w w' := by
  have H := Lib.hid h
  clear h
  go_enter Try.func39, Try.ntmps39
  go_wp2_with fail
  refine (open_any A n c bs w H.out).mono ?_
  rintro e w1 ⟨R, n1, bs1, rfl, hR, hr, hb1⟩
  have hRlt := hr.lt
  replace hr := Lib.hid hr
  replace hb1 := Lib.hid hb1
  go_wp2_with fail
  refine (l1Some_any R A n1 c bs1 0 w1 hr.out (by omega)).mono ?_
  rintro e w2 ⟨D, m, d, xs, rfl, hm6, ho, hD⟩
  have hs1 := hD.2.1.size
  have n2 := Lib.hid (rdI_new w2 3 #[.int .i64 1, .int .i64 0, .int .i64 2, .int .i64 3, .int .i64 (-1), .int .i64 5] w2.heap.size [1, 0, 2, 3, -1, 5] rfl rfl 6 rfl (by decide))
  replace hD := Lib.hid (hD.alloc (.cells #[.int .i64 1, .int .i64 0, .int .i64 2, .int .i64 3, .int .i64 (-1), .int .i64 5] 3))
  replace ho := Lib.hid (ho.alloc (.cells #[.int .i64 1, .int .i64 0, .int .i64 2, .int .i64 3, .int .i64 (-1), .int .i64 5] 3))
  clear hr
  go_wp2_with fail
  refine (hD.out.num (by omega) n2.out (by decide) (by decide) (by omega)).mono ?_
  rintro e w3 ⟨u, rfl, _, D3, g3⟩
  have o3 := Lib.hid (ho.out.grown hRlt g3)
  replace D3 := Lib.hid D3
  clear g3 n2 hD ho
  go_wp2_with fail
  refine (D3.out.pick (by omega) _).mono ?_
  rintro e w4 ⟨q, rfl, hq, D4, g4⟩
  have o4 := Lib.hid (o3.out.grown hRlt g4)
  replace D4 := Lib.hid D4
  have hq0 : 0 ≤ q := hq.1
  clear g4 hq o3 D3
  by_cases hqp : 0 < q
  · go_wp2_with fail
    refine (D4.out.set0 (by omega)).mono ?_
    rintro e w5 ⟨D', m', d', ys, rfl, hm5, ho5, D5⟩
    have hb5 := hb1.out.grown D5.2.1 hb1.out.size (fun k e => by injection e with e; omega)
    have o5 := Lib.hid ho5
    clear ho5 D5 D4 o4
    go_wp2_with fail
    refine (sortDue_spec D' m' d' ys w5 o5.out.rdS hm5).mono ?_
    rintro e w6 ⟨D2, m2, d2, zs, rfl, hm2, ho6, hb6⟩
    have o6 := Lib.hid (ho6.ext hb5.size)
    have hz6 := hb5.trans (hb6.mono hb5.size)
    clear ho6 hb6 hb5 o5
    go_wp2
    go_ret2
    exact ⟨D2, m2, d2, zs, u, rfl, by omega, o6.out, hz6⟩
  · have hb4 := hb1.out.grown D4.out.2.1 hb1.out.size (fun k e => by injection e with e; omega)
    have o5 := Lib.hid (o4.out.ext hb1.out.size)
    clear o4 D4
    go_wp2
    go_ret2
    exact ⟨D, m, d, xs, u, rfl, hm6, o5.out, hb4⟩

set_option maxHeartbeats 1600000 in
theorem drawResponseLow_any (A : Option Addr) (n c : Nat) (bs : List UInt8) (w : World) (h : RdB w A n c bs) :
    Calls Try.prog 15 #[.slice A n c] w fun e w' => ∃ (D : Option Addr) (m d : Nat) (xs : List T) (i : Int), e = .returned (.tuple #[.slice D m d, .int .i64 i]) ∧ m ≤ 6 ∧ OwnT w w' (.slice D m d) m xs ∧ Below w.heap.size w w' := by
  have H := Lib.hid h
  clear h
  go_enter Try.func15, Try.ntmps15
  go_wp2_with fail
  refine (l3Case_any A n c bs w H.out).mono ?_
  rintro e w1 ⟨D, m, d, xs, i, rfl, hm6, ho, hb1⟩
  replace ho := Lib.hid ho
  go_wp2
  go_ret2
  exact ⟨D, m, d, xs, i, rfl, hm6, ho.out, hb1⟩

set_option maxHeartbeats 1600000 in
theorem drawResponseHigh_any (A : Option Addr) (n c : Nat) (bs : List UInt8) (w : World) (h : RdB w A n c bs) :
    Calls Try.prog 30 #[.slice A n c] w fun e w' => ∃ (D : Option Addr) (m d : Nat) (xs : List T) (i : Int), e = .returned (.tuple #[.slice D m d, .int .i64 i]) ∧ m ≤ 6 ∧ OwnT w w' (.slice D m d) m xs ∧ Below w.heap.size w w' := by
  have H := Lib.hid h
  clear h
  go_enter Try.func30, Try.ntmps30
  go_wp2_with fail
  refine (l3Case_any A n c bs w H.out).mono ?_
  rintro e w1 ⟨D, m, d, xs, i, rfl, hm6, ho, hb1⟩
  replace ho := Lib.hid ho
  go_wp2
  go_ret2
  exact ⟨D, m, d, xs, i, rfl, hm6, ho.out, hb1⟩

set_option maxHeartbeats 1600000 in
theorem drawResponseSwitch_any (A : Option Addr) (n c : Nat) (bs : List UInt8) (w : World) (h : RdB w A n c bs) :
    Calls Try.prog 34 #[.slice A n c] w fun e w' => ∃ (D : Option Addr) (m d : Nat) (xs : List T) (i : Int), e = .returned (.tuple #[.slice D m d, .int .i64 i]) ∧ m ≤ 6 ∧ OwnT w w' (.slice D m d) m xs ∧ Below w.heap.size w w' := by
  have H := Lib.hid h
  clear h
  go_enter Try.func34, Try.ntmps34
  go_wp2_with fail
  refine (l3Case_any A n c bs w H.out).mono ?_
  rintro e w1 ⟨D, m, d, xs, i, rfl, hm6, ho, hb1⟩
  replace ho := Lib.hid ho
  go_wp2
  go_ret2
  exact ⟨D, m, d, xs, i, rfl, hm6, ho.out, hb1⟩


set_option maxHeartbeats 1600000 in
theorem drawHoldsLow_any (A : Option Addr) (n c : Nat) (bs : List UInt8) (w : World) (h : RdB w A n c bs) :
    Calls Try.prog 53 #[.slice A n c] w fun e w' => ∃ (D : Option Addr) (m d : Nat) (xs : List T), e = .returned (.slice D m d) ∧ m ≤ 6 ∧ OwnT w w' (.slice D m d) m xs ∧ Below w.heap.size w w' := by
  have H := Lib.hid h
  clear h
  go_enter Try.func53, Try.ntmps53
  go_wp2_with fail
  refine (l3Case_any A n c bs w H.out).mono ?_
  rintro e w1 ⟨D, m, d, xs, i, rfl, hm6, ho, hb1⟩
  replace ho := Lib.hid ho
  go_wp2
  go_ret
  exact ⟨D, m, d, xs, rfl, hm6, ho.out, hb1⟩

set_option maxHeartbeats 1600000 in
theorem drawHoldsBoth_any (A : Option Addr) (n c : Nat) (bs : List UInt8) (w : World) (h : RdB w A n c bs) :
    Calls Try.prog 38 #[.slice A n c] w fun e w' => ∃ (D : Option Addr) (m d : Nat) (xs : List T), e = .returned (.slice D m d) ∧ m ≤ 6 ∧ OwnT w w' (.slice D m d) m xs ∧ Below w.heap.size w w' := by
  have H := Lib.hid h
  clear h
  go_enter Try.func38, Try.ntmps38
  go_wp2_with fail
  refine (drawHoldsLow_any A n c bs w H.out).mono ?_
  rintro e w1 ⟨D, m, d, xs, rfl, hm6, ho, hb1⟩
  replace ho := Lib.hid ho
  go_wp2
  go_ret
  exact ⟨D, m, d, xs, rfl, hm6, ho.out, hb1⟩

set_option maxHeartbeats 1600000 in
theorem drawFirstBad_any (A : Option Addr) (n c : Nat) (bs : List UInt8) (w : World) (h : RdB w A n c bs) :
    Calls Try.prog 37 #[.slice A n c] w fun e w' => ∃ (D : Option Addr) (m d : Nat) (xs : List T), e = .returned (.slice D m d) ∧ m ≤ 6 ∧ OwnT w w' (.slice D m d) m xs ∧ Below w.heap.size w w' := by
  have H := Lib.hid h
  clear h
  go_enter Try.func37, Try.ntmps37
  go_wp2_with fail
  refine (drawHoldsLow_any A n c bs w H.out).mono ?_
  rintro e w1 ⟨D, m, d, xs, rfl, hm6, ho, hb1⟩
  replace ho := Lib.hid ho
  go_wp2
  go_ret
  exact ⟨D, m, d, xs, rfl, hm6, ho.out, hb1⟩

set_option maxHeartbeats 1600000 in
theorem drawBusyLow_any (A : Option Addr) (n c : Nat) (bs : List UInt8) (w : World) (h : RdB w A n c bs) :
    Calls Try.prog 27 #[.slice A n c] w fun e w' => ∃ (D : Option Addr) (m d : Nat) (xs : List T), e = .returned (.slice D m d) ∧ m ≤ 6 ∧ OwnT w w' (.slice D m d) m xs ∧ Below w.heap.size w w' := by
  have H := Lib.hid h
  clear h
  go_enter Try.func27, Try.ntmps27
  go_wp2_with fail
  refine (drawHoldsLow_any A n c bs w H.out).mono ?_
  rintro e w1 ⟨D, m, d, xs, rfl, hm6, ho, hb1⟩
  replace ho := Lib.hid ho
  go_wp2
  go_ret
  exact ⟨D, m, d, xs, rfl, hm6, ho.out, hb1⟩

end Go.Proofs.Ytbfdpegjflhboaa
