/- Factors are not too small: the law returns true for every input. No condition. -/
import Derived.Test.YtdafioafbgkilaaOpen
import Derived.Test.YtdafioafbgkilaaL5L
import Derived.Test.YtdafioafbgkilaaEqS
import Derived.Test.YtdafioafbgkilaaDraw5
namespace Go.Proofs.Ytdafioafbgkilaa
open Go.ChangeShapes Go.WideShapes Go.ChangeAt Go.RowKit
set_option linter.unusedVariables false


set_option maxRecDepth 100000 in
set_option maxHeartbeats 6400000 in
theorem walk_FnFactorLow (A : Option Addr) (n c : Nat) (bs : List UInt8) (w : World) (h : RdB w A n c bs) :
    Calls Try.prog 6 #[.slice A n c] w fun e w' => e = .returned (.bool true) ∧ Below w.heap.size w w' := by
  have hz0 := Below.refl w.heap.size w
  have H := Lib.hid h
  have hmx : n ≤ maxLen := Nat.le_trans h.cap h.max
  unfold maxLen at hmx
  clear h
  by_cases hn : n ≤ 1048576
  · go_enter Try.func6, Try.ntmps6
    go_wp2_with fail
    refine (drawFactorOf_any A n c bs w H.out).mono ?_
    rintro e w1 ⟨D, m, d, xs, rfl, hm6, ho, hz1⟩
    have qT := Lib.hid ho.rd5
    clear ho
    go_wp2_with fail
    refine (factorOf_impl D m d xs w1 qT.out).mono ?_
    rintro e w2 ⟨rfl, hb2⟩
    have hz2 := hz1.trans (hb2.mono hz1.size)
    replace qT := Lib.hid (qT.out.below hb2)
    clear hb2
    have rX := Lib.hid (Blk.new w2 28 #[.int .i64 (factV xs).num, .int .i64 (factV xs).den])
    replace qT := Lib.hid (qT.out.alloc (.cells #[.int .i64 (factV xs).num, .int .i64 (factV xs).den] 28))
    have hz2a := hz2.alloc hz2.size (.cells #[.int .i64 (factV xs).num, .int .i64 (factV xs).den] 28)
    go_wp2_with fail
    refine (factorOf_spec D m d xs _ qT.out).mono ?_
    rintro e w3 ⟨rfl, hb3⟩
    have hz3 := hz2a.trans (hb3.mono hz2a.size)
    replace qT := Lib.hid (qT.out.below hb3)
    replace rX := Lib.hid (rX.out.below hb3)
    clear hb3
    generalize hr : factV xs = r at *
    have Hr := Lib.hid hr
    clear hr
    have c0 := rX.out.cell (i := 0) rfl
    have c1 := rX.out.cell (i := 1) rfl
    have clt := rX.out.lt
    replace qT := Lib.hid (qT.out.alloc (.cells #[.int .i64 r.num, .int .i64 r.den] 28))
    replace rX := Lib.hid (rX.out.alloc (.cells #[.int .i64 r.num, .int .i64 r.den] 28))
    have hz3a := hz3.alloc hz3.size (.cells #[.int .i64 r.num, .int .i64 r.den] 28)
    have hnq := fun w => neq_share r.num r.den w
    have hql := fun w => eql_share r.num r.den w
    have hee : (factB xs != factB xs) = false := by simp
    have hee2 : (factB xs == factB xs) = true := by simp
    cases hf : factB xs
    · clear hee hee2 hf
      go_wp2
      go_ret
      exact ⟨rfl, hz3a⟩
    · have hs := imp_sv (fact_imp hf)
      have k1 := low_le_fact hf
      rw [Hr.out] at k1
      have hC := Lib.hid (fun w => compare_impl (shr true T.low xs) r w (shr_is nd_low hs) (by rw [← Hr.out]; exact fact_is hf))
      have hL := Lib.hid (fun dd os => Calls.regrown_of (lowShare_impl D m d xs true _ (qT.out.regrown dd os)))
      generalize shr true T.low xs = u at *
      have F0 := cell_regrown (rX.out.cell (i := 0) rfl)
      have F1 := cell_regrown (rX.out.cell (i := 1) rfl)
      clear hee hee2 hf hs
      go_wp2_with fail
      refine wp_region_quiet_below (by kernel_rfl) (by kernel_rfl) ?_
      repeat (go_big_quiet_step ((first | (go_at_call 29; exact hL.out _ _) | (go_at_call 31; exact Calls.regrown_of (hC.out _)))))
      refine wpQuiet_nil ?_
      intro w4 hwq
      have hbq := below_of_regrown hwq
      clear hwq
      go_wp2
      go_ret
      exact ⟨rfl, hz3a.trans (hbq.mono hz3a.size)⟩
  · go_enter Try.func6, Try.ntmps6
    go_wp2
    go_ret
    exact ⟨rfl, hz0⟩

namespace top_FnFactorLow
set_option maxRecDepth 100000 in
theorem lifted (os : Os) (started : os.Started) (H : Type) (enc : TypeId × Value → H) :
    ReturnsInHanded {} Try.checked os 6 .any (Rows.fnFactorLowSpec.pre6 enc Try.prog Try.f6 Rows.fnFactorLowRow.domain false) (Rows.fnFactorLowSpec.post enc Try.prog Try.f6 false true false false) := by
  refine returnsInHanded_of_change (C := Try.checked) ownKnob_none started (by kernel_rfl) Try.func6
    (ChangeSpec.witness6 (enc := enc) (C := Try.checked) false ⟨#[], #[.slice none 0 0], []⟩ 8 (by kernel_rfl) (by kernel_rfl) (by kernel_rfl) (by kernel_rfl)) ?_
  intro W base args ds gs before hval0 hW hcnd _
  have hval : ∀ (j : Nat) t v, Try.f6.params[j]? = some t → args[j]? = some v → Value.okWide Try.prog W .any base t v := hval0
  have hW' := hW
  obtain ⟨p, q, hA0, hV, rfl, hfz, hnd⟩ := hW
  have hA : DataW.TrodAll enc Try.prog W 0 (fun _ => true) true Try.f6.params.toList args.toList ds p := hA0
  rw [Try.params6] at hA hval
  obtain ⟨v0, vs0, d0, ds0, p0, q0, hargs, rfl, rfl, h0, r0⟩ := trodAll_cons hA
  obtain ⟨rfl, rfl, rfl⟩ := trodAll_nil r0
  obtain rfl : args = #[v0] := by cases args; simp_all
  obtain ⟨rfl, rfl⟩ := trodVars_none hV
  have k0 := h0
  have lt0 : ∀ x ∈ p0, x.block < W.heap.size := by obtain ⟨m, hm⟩ := k0; exact DataW.trod_lt m _ _ _ hm
  obtain ⟨a0, n0, c0, rfl⟩ := okWide_slice Try.underlying22 (hval 0 22 v0 rfl rfl)
  obtain ⟨x0, w0⟩ : ∃ xs, RdB W a0 n0 c0 xs := by
    obtain ⟨fuel, hf⟩ := h0
    obtain ⟨A, n, c, xs, hcs, hR⟩ := open_bytes hf
    simp [Value.cells] at hcs
    obtain ⟨rfl, rfl, rfl⟩ := hcs
    exact ⟨xs, hR⟩
  clear hA0 hval0
  refine (walk_FnFactorLow a0 n0 c0 x0 W w0).mono fun e W' ⟨he, bel⟩ => ?_
  subst he
  exact ⟨_, rfl, _, _, _, [], _, [], hW', trodAll_mk1 (shut_bool Try.underlying4 _), (trodAll_cons_mk (Below.trod laidOut (by kernel_rfl) (of_decide_eq_true (by kernel_rfl)) k0 bel lt0) trodAll_mk0), rfl, bel.frame _, fun h => by cases h⟩

theorem over : Rows.fnFactorLowRow.holds Try.pinned (OpenSpec.ofChange Rows.fnFactorLowSpec) :=
  OpenClaim.holds_of_wide 6 Try.f6 rfl rfl rfl rfl rfl rfl rfl ⟨rfl, rfl, rfl, rfl, rfl⟩ rfl rfl rfl rfl rfl (by kernel_rfl) Try.func6 (by kernel_rfl)
    (of_decide_eq_true (by kernel_rfl)) (by unfold Func.isWrapper; first | (rw [if_pos (by decide +kernel)]; kernel_rfl) | (rw [if_neg (by decide +kernel)]; exact ⟨rfl, rfl⟩))
    (fun os started H enc _ => lifted os started H enc)
end top_FnFactorLow

theorem FnFactorLow_holds : Rows.FnFactorLowSaid := top_FnFactorLow.over
#print axioms FnFactorLow_holds

end Go.Proofs.Ytdafioafbgkilaa
