/- Both modes fit: the law returns true for every input. No condition. -/
import Derived.Test.YtdafioafbgkilaaOpen
import Derived.Test.YtdafioafbgkilaaL5L
import Derived.Test.YtdafioafbgkilaaL5W
import Derived.Test.YtdafioafbgkilaaEqS
import Derived.Test.YtdafioafbgkilaaDraw5
namespace Go.Proofs.Ytdafioafbgkilaa
open Go.ChangeShapes Go.WideShapes Go.ChangeAt Go.RowKit
set_option linter.unusedVariables false


set_option maxRecDepth 100000 in
set_option maxHeartbeats 6400000 in
theorem walk_FnVirtualLow (A : Option Addr) (n c : Nat) (bs : List UInt8) (w : World) (h : RdB w A n c bs) :
    Calls Try.prog 12 #[.slice A n c] w fun e w' => e = .returned (.bool true) ∧ Below w.heap.size w w' := by
  have hz0 := Below.refl w.heap.size w
  have H := Lib.hid h
  have hmx : n ≤ maxLen := Nat.le_trans h.cap h.max
  unfold maxLen at hmx
  clear h
  by_cases hn : n ≤ 1048576
  · go_enter Try.func12, Try.ntmps12
    go_wp2_with fail
    refine (drawHoldsVirtual_any A n c bs w H.out).mono ?_
    rintro e w1 ⟨D, m, d, xs, rfl, hm6, ho, hz1⟩
    have qT := Lib.hid ho.rd5
    clear ho
    go_wp2_with fail
    refine (holdsVirtual_impl D m d xs w1 qT.out).mono ?_
    rintro e w2 ⟨rfl, hb2⟩
    have hz2 := hz1.trans (hb2.mono hz1.size)
    replace qT := Lib.hid (qT.out.below hb2)
    clear hb2
    have hee : (virtB xs != virtB xs) = false := by simp
    have hee2 : (virtB xs == virtB xs) = true := by simp
    go_wp2_with fail
    refine (holdsVirtual_spec D m d xs w2 qT.out).mono ?_
    rintro e w3 ⟨rfl, hb3⟩
    have hz3 := hz2.trans (hb3.mono hz2.size)
    replace qT := Lib.hid (qT.out.below hb3)
    clear hb3
    cases hv : virtB xs
    · have Hv := Lib.hid hv
      clear hv hee hee2
      go_wp2_with fail
      refine (holdsVirtual_spec D m d xs w3 qT.out).mono ?_
      rw [Hv.out]
      rintro e w4 ⟨rfl, hb4⟩
      have hz4 := hz3.trans (hb4.mono hz3.size)
      clear hb4
      go_wp2
      go_ret
      exact ⟨rfl, hz4⟩
    · obtain ⟨hi, _, _⟩ := virt_fits hv
      have hs := imp_sv hi
      have k1 := virt_low hv
      have k2 := virt_high hv
      have sa := shr_is (c := false) nd_low hs
      have sb := shr_is (c := true) nd_low hs
      have hA := Lib.hid (fun w => addShares_impl (shr true T.low xs) (shr false T.low xs) w sb sa (sum_sm hs))
      have hCl := Lib.hid (fun w => compare_impl (plusV (shr true T.low xs) (shr false T.low xs)) ⟨1, 1⟩ w (sum_is hs) one_is)
      have hCh := Lib.hid (fun w => compare_impl (shr true T.high xs) ⟨1, 1⟩ w (shr_is nd_high hs) one_is)
      simp only [Int.mul_one, Int.one_mul] at k1 k2 hCl hCh
      clear hv hee hee2 hi hs sa sb
      have rX := Lib.hid (Blk.new w3 28 #[.int .i64 1, .int .i64 1])
      replace qT := Lib.hid (qT.out.alloc (.cells #[.int .i64 1, .int .i64 1] 28))
      have hz3a := hz3.alloc hz3.size (.cells #[.int .i64 1, .int .i64 1] 28)
      go_wp2_with fail
      refine (lowShare_impl D m d xs true _ qT.out).mono ?_
      rintro e w4 ⟨rfl, hb4⟩
      have hz4 := hz3a.trans (hb4.mono hz3a.size)
      replace qT := Lib.hid (qT.out.below hb4)
      replace rX := Lib.hid (rX.out.below hb4)
      clear hb4
      go_wp2_with fail
      refine (lowShare_impl D m d xs false w4 qT.out).mono ?_
      rintro e w5 ⟨rfl, hb5⟩
      have hz5 := hz4.trans (hb5.mono hz4.size)
      replace qT := Lib.hid (qT.out.below hb5)
      replace rX := Lib.hid (rX.out.below hb5)
      clear hb5
      go_wp2_with fail
      refine (hA.out w5).mono ?_
      rintro e w6 ⟨rfl, hb6⟩
      have hz6 := hz5.trans (hb6.mono hz5.size)
      replace qT := Lib.hid (qT.out.below hb6)
      replace rX := Lib.hid (rX.out.below hb6)
      clear hb6
      generalize plusV (shr true T.low xs) (shr false T.low xs) = p at *
      have E0 := cell_new_regrown w6 #[.int .i64 p.num, .int .i64 p.den] 28 0 _ rfl
      have E1 := cell_new_regrown w6 #[.int .i64 p.num, .int .i64 p.den] 28 1 _ rfl
      have F0 := cell_regrown ((World.cell?_alloc_past (w := w6) (.cells #[.int .i64 p.num, .int .i64 p.den] 28) _ _ rX.out.lt).trans (rX.out.cell (i := 0) rfl))
      have F1 := cell_regrown ((World.cell?_alloc_past (w := w6) (.cells #[.int .i64 p.num, .int .i64 p.den] 28) _ _ rX.out.lt).trans (rX.out.cell (i := 1) rfl))
      have qz := qT.out.alloc (.cells #[.int .i64 p.num, .int .i64 p.den] 28)
      have hza := hz6.alloc hz6.size (.cells #[.int .i64 p.num, .int .i64 p.den] 28)
      have hH := Lib.hid (fun dd os => Calls.regrown_of (highShare_impl D m d xs _ (qz.regrown dd os)))
      clear qz
      generalize shr true T.high xs = u at *
      go_wp2_with fail
      refine wp_region_quiet_below (by kernel_rfl) (by kernel_rfl) ?_
      repeat (go_big_quiet_step ((first | (go_at_call 32; exact hH.out _ _) | (go_at_call 31; first | (with_reducible exact Calls.regrown_of (hCl.out _)) | (with_reducible exact Calls.regrown_of (hCh.out _))))))
      refine wpQuiet_nil ?_
      intro w8 hwq
      have hbq := below_of_regrown hwq
      clear hwq
      go_wp2
      go_ret
      exact ⟨rfl, hza.trans (hbq.mono hza.size)⟩
  · go_enter Try.func12, Try.ntmps12
    go_wp2
    go_ret
    exact ⟨rfl, hz0⟩

namespace top_FnVirtualLow
set_option maxRecDepth 100000 in
theorem lifted (os : Os) (started : os.Started) (H : Type) (enc : TypeId × Value → H) :
    ReturnsInHanded {} Try.checked os 12 .any (Rows.fnVirtualLowSpec.pre6 enc Try.prog Try.f12 Rows.fnVirtualLowRow.domain false) (Rows.fnVirtualLowSpec.post enc Try.prog Try.f12 false true false false) := by
  refine returnsInHanded_of_change (C := Try.checked) ownKnob_none started (by kernel_rfl) Try.func12
    (ChangeSpec.witness6 (enc := enc) (C := Try.checked) false ⟨#[], #[.slice none 0 0], []⟩ 8 (by kernel_rfl) (by kernel_rfl) (by kernel_rfl) (by kernel_rfl)) ?_
  intro W base args ds gs before hval0 hW hcnd _
  have hval : ∀ (j : Nat) t v, Try.f12.params[j]? = some t → args[j]? = some v → Value.okWide Try.prog W .any base t v := hval0
  have hW' := hW
  obtain ⟨p, q, hA0, hV, rfl, hfz, hnd⟩ := hW
  have hA : DataW.TrodAll enc Try.prog W 0 (fun _ => true) true Try.f12.params.toList args.toList ds p := hA0
  rw [Try.params12] at hA hval
  obtain ⟨v0, vs0, d0, ds0, p0, q0, hargs, rfl, rfl, h0, r0⟩ := trodAll_cons hA
  obtain ⟨rfl, rfl, rfl⟩ := trodAll_nil r0
  obtain rfl : args = #[v0] := by cases args; simp_all
  obtain ⟨rfl, rfl⟩ := trodVars_none hV
  have k0 := h0
  have lt0 : ∀ x ∈ p0, x.block < W.heap.size := by obtain ⟨m, hm⟩ := k0; exact DataW.trod_lt m _ _ _ hm
  obtain ⟨a0, n0, c0, rfl⟩ := okWide_slice Try.underlying22 (hval 0 22 v0 rfl rfl)
  obtain ⟨x0, w0⟩ : ∃ xs, RdB W a0 n0 c0 xs := by
    obtain ⟨fuel, hf⟩ := h0
    obtain ⟨A, n, c, xs, hcs, hR⟩ := open_bytes hf
    simp [Value.cells] at hcs
    obtain ⟨rfl, rfl, rfl⟩ := hcs
    exact ⟨xs, hR⟩
  clear hA0 hval0
  refine (walk_FnVirtualLow a0 n0 c0 x0 W w0).mono fun e W' ⟨he, bel⟩ => ?_
  subst he
  exact ⟨_, rfl, _, _, _, [], _, [], hW', trodAll_mk1 (shut_bool Try.underlying4 _), (trodAll_cons_mk (Below.trod laidOut (by kernel_rfl) (of_decide_eq_true (by kernel_rfl)) k0 bel lt0) trodAll_mk0), rfl, bel.frame _, fun h => by cases h⟩

theorem over : Rows.fnVirtualLowRow.holds Try.pinned (OpenSpec.ofChange Rows.fnVirtualLowSpec) :=
  OpenClaim.holds_of_wide 12 Try.f12 rfl rfl rfl rfl rfl rfl rfl ⟨rfl, rfl, rfl, rfl, rfl⟩ rfl rfl rfl rfl rfl (by kernel_rfl) Try.func12 (by kernel_rfl)
    (of_decide_eq_true (by kernel_rfl)) (by unfold Func.isWrapper; first | (rw [if_pos (by decide +kernel)]; kernel_rfl) | (rw [if_neg (by decide +kernel)]; exact ⟨rfl, rfl⟩))
    (fun os started H enc _ => lifted os started H enc)
end top_FnVirtualLow

theorem FnVirtualLow_holds : Rows.FnVirtualLowSaid := top_FnVirtualLow.over
#print axioms FnVirtualLow_holds

end Go.Proofs.Ytdafioafbgkilaa
