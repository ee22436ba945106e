/- The program's CountOrders returns what the reference's returns, and its argument reads as before, for all arguments. No condition. -/
import Derived.Test.YtcgjifklapaeeaaOpen
import Derived.Test.YtcgjifklapaeeaaOrdC
import Derived.Test.YtcgjifklapaeeaaAnyS
import Derived.Test.YtcgjifklapaeeaaConvT
namespace Go.Proofs.Ytcgjifklapaeeaa
open Go.ChangeShapes Go.WideShapes Go.ChangeAt Go.RowKit
set_option linter.unusedVariables false

set_option maxHeartbeats 1600000 in
theorem walk_FnExactCountOrders (A : Option Addr) (n c : Nat) (xs : List T) (w : World) (h : RdT w A n c xs) :
    Calls Try.prog 5 #[.slice A n c] w fun e w' => e = .returned (.bool true) ∧ Below w.heap.size w w' := by
  have hz0 := Below.refl w.heap.size w
  have hl := Lib.hid h.len
  have q0 := Lib.hid h
  by_cases hn : n ≤ 1048576
  · have hne : ((cntV xs : Int) != (cntV xs : Int)) = false := by simp
    clear h
    go_enter Try.func5, Try.ntmps5
    go_wp2_with fail
    refine (szTaskS_small A n c w hn).mono ?_
    rintro e w1 ⟨rfl, hb1⟩
    have hz1 := hz0.trans (hb1.mono hz0.size)
    replace q0 := Lib.hid (q0.out.below hb1)
    clear hb1
    go_wp2_with fail
    refine (toTaskS_any A n c xs w1 q0.out hn).mono ?_
    rintro e w2 ⟨g2, rfl, o2, hb2⟩
    have hz2 := hz1.trans (hb2.mono hz1.size)
    replace q0 := Lib.hid (q0.out.below hb2)
    clear hb2
    have q2 := Lib.hid (Rd.of_own T.cells_len o2 hl.out)
    clear o2
    go_wp2_with fail
    refine (countOrders_spec _ n n xs w2 q2.out).mono ?_
    rintro e w3 ⟨rfl, hb3⟩
    have hz3 := hz2.trans (hb3.mono hz2.size)
    replace q0 := Lib.hid (q0.out.below hb3)
    clear hb3
    go_wp2_with fail
    refine (toTaskS_any A n c xs w3 q0.out hn).mono ?_
    rintro e w4 ⟨g4, rfl, o4, hb4⟩
    have hz4 := hz3.trans (hb4.mono hz3.size)
    replace q0 := Lib.hid (q0.out.below hb4)
    clear hb4
    have q4 := Lib.hid (Rd.of_own T.cells_len o4 hl.out)
    clear o4
    go_wp2_with fail
    refine (countOrders_impl _ n n xs w4 q4.out).mono ?_
    rintro e w5 ⟨rfl, hb5⟩
    have hz5 := hz4.trans (hb5.mono hz4.size)
    replace q0 := Lib.hid (q0.out.below hb5)
    replace q4 := Lib.hid (q4.out.below hb5)
    clear hb5
    go_wp2_with fail
    refine (toTaskS_any A n c xs w5 q0.out hn).mono ?_
    rintro e w6 ⟨g6, rfl, o6, hb6⟩
    have hz6 := hz5.trans (hb6.mono hz5.size)
    replace q0 := Lib.hid (q0.out.below hb6)
    replace q4 := Lib.hid (q4.out.below hb6)
    clear hb6
    have q6 := Lib.hid (Rd.of_own T.cells_len o6 hl.out)
    clear o6
    go_wp2_with fail
    refine (eqTaskS_same _ _ n n n xs w6 q4.out q6.out).mono ?_
    rintro e w7 ⟨rfl, hb7⟩
    have hz7 := hz6.trans (hb7.mono hz6.size)
    replace q0 := Lib.hid (q0.out.below hb7)
    clear hb7
    go_wp2
    go_ret
    exact ⟨rfl, hz7⟩
  · have hn' : 1048576 < n := by omega
    clear h
    go_enter Try.func5, Try.ntmps5
    go_wp2_with fail
    refine (szTaskS_big A n c xs w q0.out hn').mono ?_
    rintro e w1 ⟨rfl, hb1⟩
    have hz1 := hz0.trans (hb1.mono hz0.size)
    replace q0 := Lib.hid (q0.out.below hb1)
    clear hb1
    go_wp2
    go_ret
    exact ⟨rfl, hz1⟩

namespace top_FnExactCountOrders
set_option maxRecDepth 100000 in
theorem lifted (os : Os) (started : os.Started) (H : Type) (enc : TypeId × Value → H) :
    ReturnsInHanded {} Try.checked os 5 .any (Rows.fnExactCountOrdersSpec.pre6 enc Try.prog Try.f5 Rows.fnExactCountOrdersRow.domain false) (Rows.fnExactCountOrdersSpec.post enc Try.prog Try.f5 false true false false) := by
  refine returnsInHanded_of_change (C := Try.checked) ownKnob_none started (by kernel_rfl) Try.func5
    (ChangeSpec.witness6 (enc := enc) (C := Try.checked) false ⟨#[], #[.slice none 0 0], []⟩ 8 (by kernel_rfl) (by kernel_rfl) (by kernel_rfl) (by kernel_rfl)) ?_
  intro W base args ds gs before hval0 hW hcnd _
  have hval : ∀ (j : Nat) t v, Try.f5.params[j]? = some t → args[j]? = some v → Value.okWide Try.prog W .any base t v := hval0
  have hW' := hW
  obtain ⟨p, q, hA0, hV, rfl, hfz, hnd⟩ := hW
  have hA : DataW.TrodAll enc Try.prog W 0 (fun _ => true) true Try.f5.params.toList args.toList ds p := hA0
  rw [Try.params5] at hA hval
  obtain ⟨v0, vs0, d0, ds0, p0, q0, hargs, rfl, rfl, h0, r0⟩ := trodAll_cons hA
  obtain ⟨rfl, rfl, rfl⟩ := trodAll_nil r0
  obtain rfl : args = #[v0] := by cases args; simp_all
  obtain ⟨rfl, rfl⟩ := trodVars_none hV
  have k0 := h0
  have lt0 : ∀ x ∈ p0, x.block < W.heap.size := by obtain ⟨m, hm⟩ := k0; exact DataW.trod_lt m _ _ _ hm
  obtain ⟨a0, n0, c0, rfl⟩ := okWide_slice Try.underlying34 (hval 0 34 v0 rfl rfl)
  obtain ⟨x0, w0⟩ : ∃ xs, RdT W a0 n0 c0 xs := by
    obtain ⟨fuel, hf⟩ := h0
    obtain ⟨A, n, c, xs, hcs, hR⟩ := open_tasks hf
    simp [Value.cells] at hcs
    obtain ⟨rfl, rfl, rfl⟩ := hcs
    exact ⟨xs, hR⟩
  clear hA0 hval0
  refine (walk_FnExactCountOrders a0 n0 c0 x0 W w0).mono fun e W' ⟨he, bel⟩ => ?_
  subst he
  exact ⟨_, rfl, _, _, _, [], _, [], hW', trodAll_mk1 (shut_bool Try.underlying4 _), (trodAll_cons_mk (Below.trod laidOut (by kernel_rfl) (of_decide_eq_true (by kernel_rfl)) k0 bel lt0) trodAll_mk0), rfl, bel.frame _, fun h => by cases h⟩

theorem over : Rows.fnExactCountOrdersRow.holds Try.pinned (OpenSpec.ofChange Rows.fnExactCountOrdersSpec) :=
  OpenClaim.holds_of_wide 5 Try.f5 rfl rfl rfl rfl rfl rfl rfl ⟨rfl, rfl, rfl, rfl, rfl⟩ rfl rfl rfl rfl rfl (by kernel_rfl) Try.func5 (by kernel_rfl)
    (of_decide_eq_true (by kernel_rfl)) (by unfold Func.isWrapper; first | (rw [if_pos (by decide +kernel)]; kernel_rfl) | (rw [if_neg (by decide +kernel)]; exact ⟨rfl, rfl⟩))
    (fun os started H enc _ => lifted os started H enc)
end top_FnExactCountOrders

theorem FnExactCountOrders_holds : Rows.FnExactCountOrdersSaid := top_FnExactCountOrders.over
#print axioms FnExactCountOrders_holds

end Go.Proofs.Ytcgjifklapaeeaa
