/- Loads are the greater ones: the law returns true for every input. No condition. -/
import Derived.Test.YtdafioafbgkilaaOpen
import Derived.Test.YtdafioafbgkilaaL5L
import Derived.Test.YtdafioafbgkilaaEqS
import Derived.Test.YtdafioafbgkilaaDraw5
namespace Go.Proofs.Ytdafioafbgkilaa
open Go.ChangeShapes Go.WideShapes Go.ChangeAt Go.RowKit
set_option linter.unusedVariables false


set_option maxRecDepth 100000 in
set_option maxHeartbeats 6400000 in
theorem walk_FnLoadOf (A : Option Addr) (n c : Nat) (bs : List UInt8) (w : World) (h : RdB w A n c bs) :
    Calls Try.prog 5 #[.slice A n c] w fun e w' => e = .returned (.bool true) ∧ Below w.heap.size w w' := by
  have hz0 := Below.refl w.heap.size w
  have H := Lib.hid h
  have hmx : n ≤ maxLen := Nat.le_trans h.cap h.max
  unfold maxLen at hmx
  clear h
  by_cases hn : n ≤ 1048576
  · go_enter Try.func5, Try.ntmps5
    go_wp2_with fail
    refine (drawLoadOf_any A n c bs w H.out).mono ?_
    rintro e w1 ⟨D, m, d, xs, rfl, hm6, ho, hz1⟩
    have qT := Lib.hid ho.rd5
    clear ho
    go_wp2_with fail
    refine (loadOf_impl D m d xs w1 qT.out).mono ?_
    rintro e w2 ⟨rfl, hb2⟩
    have hz2 := hz1.trans (hb2.mono hz1.size)
    replace qT := Lib.hid (qT.out.below hb2)
    clear hb2
    have rX := Lib.hid (Blk.new w2 28 #[.int .i64 (loadV xs).num, .int .i64 (loadV xs).den])
    replace qT := Lib.hid (qT.out.alloc (.cells #[.int .i64 (loadV xs).num, .int .i64 (loadV xs).den] 28))
    have hz2a := hz2.alloc hz2.size (.cells #[.int .i64 (loadV xs).num, .int .i64 (loadV xs).den] 28)
    go_wp2_with fail
    refine (loadOf_spec D m d xs _ qT.out).mono ?_
    rintro e w3 ⟨rfl, hb3⟩
    have hz3 := hz2a.trans (hb3.mono hz2a.size)
    replace qT := Lib.hid (qT.out.below hb3)
    replace rX := Lib.hid (rX.out.below hb3)
    clear hb3
    generalize hr : loadV xs = r at *
    have Hr := Lib.hid hr
    clear hr
    have c0 := rX.out.cell (i := 0) rfl
    have c1 := rX.out.cell (i := 1) rfl
    have clt := rX.out.lt
    replace qT := Lib.hid (qT.out.alloc (.cells #[.int .i64 r.num, .int .i64 r.den] 28))
    replace rX := Lib.hid (rX.out.alloc (.cells #[.int .i64 r.num, .int .i64 r.den] 28))
    have hz3a := hz3.alloc hz3.size (.cells #[.int .i64 r.num, .int .i64 r.den] 28)
    have hnq := fun w => neq_share r.num r.den w
    have hql := fun w => eql_share r.num r.den w
    have hee : (svB xs != svB xs) = false := by simp
    have hee2 : (svB xs == svB xs) = true := by simp
    have rW := Lib.hid (Blk.new w3 28 #[.int .i64 r.num, .int .i64 r.den])
    have hV := Lib.hid (setValid_impl D m d xs _ qT.out)
    cases hs : svB xs
    · rw [hs] at hV
      have Hs := Lib.hid hs
      clear hee hee2 hs
      go_wp2_with fail
      refine (hV.out).mono ?_
      rintro e w4 ⟨rfl, hb4⟩
      have hz4 := hz3a.trans (hb4.mono hz3a.size)
      replace qT := Lib.hid (qT.out.below hb4)
      replace rX := Lib.hid (rX.out.below hb4)
      replace rW := Lib.hid (rW.out.below hb4)
      clear hb4
      clear c0 c1 clt
      have x0 := rX.out.cell (i := 0) rfl
      have x1 := rX.out.cell (i := 1) rfl
      have xl := rX.out.lt
      have y0 := rW.out.cell (i := 0) rfl
      have y1 := rW.out.cell (i := 1) rfl
      have yl := rW.out.lt
      go_wp2_with fail
      refine (setValid_impl D m d xs w4 qT.out).mono ?_
      rw [Hs.out]
      rintro e w5 ⟨rfl, hb5⟩
      have hz5 := hz4.trans (hb5.mono hz4.size)
      clear hb5
      go_wp2
      go_ret
      exact ⟨rfl, hz5⟩
    · rw [hs] at hV
      have sa := shr_is (c := false) nd_low hs
      have sb := shr_is (c := true) nd_low hs
      have hA := Lib.hid (fun w => addShares_impl (shr true T.low xs) (shr false T.low xs) w sb sa (sum_sm hs))
      have k1 := low_le_load hs
      have k2 := high_le_load hs
      rw [Hr.out] at k1 k2
      have hVx := Lib.hid (fun w => shareValid_impl r w (by rw [← Hr.out]; exact load_is hs))
      have hCl := Lib.hid (fun w => compare_impl (plusV (shr true T.low xs) (shr false T.low xs)) r w (sum_is hs) (by rw [← Hr.out]; exact load_is hs))
      have hCh := Lib.hid (fun w => compare_impl (shr true T.high xs) r w (shr_is nd_high hs) (by rw [← Hr.out]; exact load_is hs))
      clear hee hee2 hs sa sb
      go_wp2_with fail
      refine (hV.out).mono ?_
      rintro e w4 ⟨rfl, hb4⟩
      have hz4 := hz3a.trans (hb4.mono hz3a.size)
      replace qT := Lib.hid (qT.out.below hb4)
      replace rX := Lib.hid (rX.out.below hb4)
      clear hb4
      clear c0 c1 clt
      go_wp2_with fail
      refine (lowShare_impl D m d xs true w4 qT.out).mono ?_
      rintro e w5 ⟨rfl, hb5⟩
      have hz5 := hz4.trans (hb5.mono hz4.size)
      replace qT := Lib.hid (qT.out.below hb5)
      replace rX := Lib.hid (rX.out.below hb5)
      clear hb5
      go_wp2_with fail
      refine (lowShare_impl D m d xs false w5 qT.out).mono ?_
      rintro e w6 ⟨rfl, hb6⟩
      have hz6 := hz5.trans (hb6.mono hz5.size)
      replace qT := Lib.hid (qT.out.below hb6)
      replace rX := Lib.hid (rX.out.below hb6)
      clear hb6
      go_wp2_with fail
      refine (hA.out w6).mono ?_
      rintro e w7 ⟨rfl, hb7⟩
      have hz7 := hz6.trans (hb7.mono hz6.size)
      replace qT := Lib.hid (qT.out.below hb7)
      replace rX := Lib.hid (rX.out.below hb7)
      clear hb7
      generalize plusV (shr true T.low xs) (shr false T.low xs) = p at *
      have E0 := cell_new_regrown w7 #[.int .i64 p.num, .int .i64 p.den] 28 0 _ rfl
      have E1 := cell_new_regrown w7 #[.int .i64 p.num, .int .i64 p.den] 28 1 _ rfl
      have F0 := cell_regrown ((World.cell?_alloc_past (w := w7) (.cells #[.int .i64 p.num, .int .i64 p.den] 28) _ _ rX.out.lt).trans (rX.out.cell (i := 0) rfl))
      have F1 := cell_regrown ((World.cell?_alloc_past (w := w7) (.cells #[.int .i64 p.num, .int .i64 p.den] 28) _ _ rX.out.lt).trans (rX.out.cell (i := 1) rfl))
      have qz := qT.out.alloc (.cells #[.int .i64 p.num, .int .i64 p.den] 28)
      have hza := hz7.alloc hz7.size (.cells #[.int .i64 p.num, .int .i64 p.den] 28)
      have hH := Lib.hid (fun dd os => Calls.regrown_of (highShare_impl D m d xs _ (qz.regrown dd os)))
      clear qz
      generalize shr true T.high xs = u at *
      go_wp2_with fail
      refine wp_region_quiet_below (by kernel_rfl) (by kernel_rfl) ?_
      repeat (go_big_quiet_step ((first | (go_at_call 30; exact Calls.regrown_of (hVx.out _)) | (go_at_call 32; exact hH.out _ _) | (go_at_call 31; first | (with_reducible exact Calls.regrown_of (hCl.out _)) | (with_reducible exact Calls.regrown_of (hCh.out _))))))
      refine wpQuiet_nil ?_
      intro w8 hwq
      have hbq := below_of_regrown hwq
      clear hwq
      go_wp2
      go_ret
      exact ⟨rfl, hza.trans (hbq.mono hza.size)⟩
  · go_enter Try.func5, Try.ntmps5
    go_wp2
    go_ret
    exact ⟨rfl, hz0⟩

namespace top_FnLoadOf
set_option maxRecDepth 100000 in
theorem lifted (os : Os) (started : os.Started) (H : Type) (enc : TypeId × Value → H) :
    ReturnsInHanded {} Try.checked os 5 .any (Rows.fnLoadOfSpec.pre6 enc Try.prog Try.f5 Rows.fnLoadOfRow.domain false) (Rows.fnLoadOfSpec.post enc Try.prog Try.f5 false true false false) := by
  refine returnsInHanded_of_change (C := Try.checked) ownKnob_none started (by kernel_rfl) Try.func5
    (ChangeSpec.witness6 (enc := enc) (C := Try.checked) false ⟨#[], #[.slice none 0 0], []⟩ 8 (by kernel_rfl) (by kernel_rfl) (by kernel_rfl) (by kernel_rfl)) ?_
  intro W base args ds gs before hval0 hW hcnd _
  have hval : ∀ (j : Nat) t v, Try.f5.params[j]? = some t → args[j]? = some v → Value.okWide Try.prog W .any base t v := hval0
  have hW' := hW
  obtain ⟨p, q, hA0, hV, rfl, hfz, hnd⟩ := hW
  have hA : DataW.TrodAll enc Try.prog W 0 (fun _ => true) true Try.f5.params.toList args.toList ds p := hA0
  rw [Try.params5] at hA hval
  obtain ⟨v0, vs0, d0, ds0, p0, q0, hargs, rfl, rfl, h0, r0⟩ := trodAll_cons hA
  obtain ⟨rfl, rfl, rfl⟩ := trodAll_nil r0
  obtain rfl : args = #[v0] := by cases args; simp_all
  obtain ⟨rfl, rfl⟩ := trodVars_none hV
  have k0 := h0
  have lt0 : ∀ x ∈ p0, x.block < W.heap.size := by obtain ⟨m, hm⟩ := k0; exact DataW.trod_lt m _ _ _ hm
  obtain ⟨a0, n0, c0, rfl⟩ := okWide_slice Try.underlying22 (hval 0 22 v0 rfl rfl)
  obtain ⟨x0, w0⟩ : ∃ xs, RdB W a0 n0 c0 xs := by
    obtain ⟨fuel, hf⟩ := h0
    obtain ⟨A, n, c, xs, hcs, hR⟩ := open_bytes hf
    simp [Value.cells] at hcs
    obtain ⟨rfl, rfl, rfl⟩ := hcs
    exact ⟨xs, hR⟩
  clear hA0 hval0
  refine (walk_FnLoadOf a0 n0 c0 x0 W w0).mono fun e W' ⟨he, bel⟩ => ?_
  subst he
  exact ⟨_, rfl, _, _, _, [], _, [], hW', trodAll_mk1 (shut_bool Try.underlying4 _), (trodAll_cons_mk (Below.trod laidOut (by kernel_rfl) (of_decide_eq_true (by kernel_rfl)) k0 bel lt0) trodAll_mk0), rfl, bel.frame _, fun h => by cases h⟩

theorem over : Rows.fnLoadOfRow.holds Try.pinned (OpenSpec.ofChange Rows.fnLoadOfSpec) :=
  OpenClaim.holds_of_wide 5 Try.f5 rfl rfl rfl rfl rfl rfl rfl ⟨rfl, rfl, rfl, rfl, rfl⟩ rfl rfl rfl rfl rfl (by kernel_rfl) Try.func5 (by kernel_rfl)
    (of_decide_eq_true (by kernel_rfl)) (by unfold Func.isWrapper; first | (rw [if_pos (by decide +kernel)]; kernel_rfl) | (rw [if_neg (by decide +kernel)]; exact ⟨rfl, rfl⟩))
    (fun os started H enc _ => lifted os started H enc)
end top_FnLoadOf

theorem FnLoadOf_holds : Rows.FnLoadOfSaid := top_FnLoadOf.over
#print axioms FnLoadOf_holds

end Go.Proofs.Ytdafioafbgkilaa
