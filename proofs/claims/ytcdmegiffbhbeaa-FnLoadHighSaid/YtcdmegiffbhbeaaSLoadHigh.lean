/- A load is that of one of the modes: the law returns true for every input. No condition. -/
import Derived.Test.YtcdmegiffbhbeaaOpen
import Derived.Test.YtcdmegiffbhbeaaL5S
import Derived.Test.YtcdmegiffbhbeaaEqS
import Derived.Test.YtcdmegiffbhbeaaDraw5
namespace Go.Proofs.Ytcdmegiffbhbeaa
open Go.ChangeShapes Go.WideShapes Go.ChangeAt Go.RowKit
set_option linter.unusedVariables false

theorem load_high {xs : List T} (hs : svB xs = true) : loadV xs = plusV (shr true T.low xs) (shr false T.low xs) ∨ (loadV xs = shr true T.high xs ∧ ¬ ((loadV xs).num = (plusV (shr true T.low xs) (shr false T.low xs)).num ∧ (loadV xs).den = (plusV (shr true T.low xs) (shr false T.low xs)).den)) := by
  rw [plusV_comm]
  by_cases hx : loA xs + loB xs < hiH xs
  · right
    have h1 := loadV_1 hs hx
    refine ⟨h1, fun ⟨e1, e2⟩ => ?_⟩
    have h2 := (load_lt hs).2 hx
    rw [h1] at e1 e2
    rw [← e1, ← e2] at h2
    omega
  · left; exact loadV_2 hs hx

set_option maxRecDepth 100000 in
set_option maxHeartbeats 6400000 in
theorem walk_FnLoadHigh (A : Option Addr) (n c : Nat) (bs : List UInt8) (w : World) (h : RdB w A n c bs) :
    Calls Try.prog 8 #[.slice A n c] w fun e w' => e = .returned (.bool true) ∧ Below w.heap.size w w' := by
  have hz0 := Below.refl w.heap.size w
  have H := Lib.hid h
  have hmx : n ≤ maxLen := Nat.le_trans h.cap h.max
  unfold maxLen at hmx
  clear h
  by_cases hn : n ≤ 1048576
  · go_enter Try.func8, Try.ntmps8
    go_wp2_with fail
    refine (drawLoadOf_any A n c bs w H.out).mono ?_
    rintro e w1 ⟨D, m, d, xs, rfl, hm6, ho, hz1⟩
    have qT := Lib.hid ho.rd5
    clear ho
    go_wp2_with fail
    refine (loadOf_impl D m d xs w1 qT.out).mono ?_
    rintro e w2 ⟨rfl, hb2⟩
    have hz2 := hz1.trans (hb2.mono hz1.size)
    replace qT := Lib.hid (qT.out.below hb2)
    clear hb2
    have rX := Lib.hid (Blk.new w2 27 #[.int .i64 (loadV xs).num, .int .i64 (loadV xs).den])
    replace qT := Lib.hid (qT.out.alloc (.cells #[.int .i64 (loadV xs).num, .int .i64 (loadV xs).den] 27))
    have hz2a := hz2.alloc hz2.size (.cells #[.int .i64 (loadV xs).num, .int .i64 (loadV xs).den] 27)
    go_wp2_with fail
    refine (loadOf_spec D m d xs _ qT.out).mono ?_
    rintro e w3 ⟨rfl, hb3⟩
    have hz3 := hz2a.trans (hb3.mono hz2a.size)
    replace qT := Lib.hid (qT.out.below hb3)
    replace rX := Lib.hid (rX.out.below hb3)
    clear hb3
    generalize hr : loadV xs = r at *
    have Hr := Lib.hid hr
    clear hr
    have c0 := rX.out.cell (i := 0) rfl
    have c1 := rX.out.cell (i := 1) rfl
    have clt := rX.out.lt
    replace qT := Lib.hid (qT.out.alloc (.cells #[.int .i64 r.num, .int .i64 r.den] 27))
    replace rX := Lib.hid (rX.out.alloc (.cells #[.int .i64 r.num, .int .i64 r.den] 27))
    have hz3a := hz3.alloc hz3.size (.cells #[.int .i64 r.num, .int .i64 r.den] 27)
    have hnq := fun w => neq_share r.num r.den w
    have hql := fun w => eql_share r.num r.den w
    have hee : (svB xs != svB xs) = false := by simp
    have hee2 : (svB xs == svB xs) = true := by simp
    cases hs : svB xs
    · clear hee hee2 hs
      go_wp2
      go_ret
      exact ⟨rfl, hz3a⟩
    · have sa := shr_is (c := false) nd_low hs
      have sb := shr_is (c := true) nd_low hs
      have sp : Sm (plusV (shr true T.low xs) (shr false T.low xs)) := by rw [plusV_comm]; exact plus_sm hs nd_low nd_low
      have hA := Lib.hid (fun w => addShares_impl (shr true T.low xs) (shr false T.low xs) w sb sa sp)
      have hL := load_high hs
      rw [Hr.out] at hL
      clear hee hee2 hs sa sb sp
      go_wp2_with fail
      refine (lowShare_impl D m d xs true _ qT.out).mono ?_
      rintro e w4 ⟨rfl, hb4⟩
      have hz4 := hz3a.trans (hb4.mono hz3a.size)
      replace qT := Lib.hid (qT.out.below hb4)
      replace rX := Lib.hid (rX.out.below hb4)
      clear hb4
      clear c0 c1 clt
      go_wp2_with fail
      refine (lowShare_impl D m d xs false w4 qT.out).mono ?_
      rintro e w5 ⟨rfl, hb5⟩
      have hz5 := hz4.trans (hb5.mono hz4.size)
      replace qT := Lib.hid (qT.out.below hb5)
      replace rX := Lib.hid (rX.out.below hb5)
      clear hb5
      go_wp2_with fail
      refine (hA.out w5).mono ?_
      rintro e w6 ⟨rfl, hb6⟩
      have hz6 := hz5.trans (hb6.mono hz5.size)
      replace qT := Lib.hid (qT.out.below hb6)
      replace rX := Lib.hid (rX.out.below hb6)
      clear hb6
      generalize plusV (shr true T.low xs) (shr false T.low xs) = p at *
      have F0 := cell_regrown ((World.cell?_alloc_past (w := w6) (.cells #[.int .i64 p.num, .int .i64 p.den] 27) _ _ rX.out.lt).trans (rX.out.cell (i := 0) rfl))
      have F1 := cell_regrown ((World.cell?_alloc_past (w := w6) (.cells #[.int .i64 p.num, .int .i64 p.den] 27) _ _ rX.out.lt).trans (rX.out.cell (i := 1) rfl))
      have E0 := cell_new_regrown w6 #[.int .i64 p.num, .int .i64 p.den] 27 0 _ rfl
      have E1 := cell_new_regrown w6 #[.int .i64 p.num, .int .i64 p.den] 27 1 _ rfl
      have q6 := qT.out.alloc (.cells #[.int .i64 p.num, .int .i64 p.den] 27)
      have hz6a := hz6.alloc hz6.size (.cells #[.int .i64 p.num, .int .i64 p.den] 27)
      have hH := Lib.hid (fun dd os => Calls.regrown_of (highShare_impl D m d xs _ (q6.regrown dd os)))
      clear q6
      rcases hL with hL | ⟨hL, hno⟩
      · subst hL
        go_wp2_with fail
        refine wp_region_quiet_below (by kernel_rfl) (by kernel_rfl) ?_
        repeat (go_big_quiet_step ((first | (go_at_call 34; exact hH.out _ _))))
        refine wpQuiet_nil ?_
        intro w7 hwq
        have hbq := below_of_regrown hwq
        clear hwq
        go_wp2
        go_ret
        exact ⟨rfl, hz6a.trans (hbq.mono hz6a.size)⟩
      · have hnx := fun w => eql_share_no r.num r.den p.num p.den hno w
        rw [← hL] at hH
        clear hno hL
        go_wp2_with fail
        refine wp_region_quiet_below (by kernel_rfl) (by kernel_rfl) ?_
        repeat (go_big_quiet_step ((first | (go_at_call 34; exact hH.out _ _))))
        refine wpQuiet_nil ?_
        intro w7 hwq
        have hbq := below_of_regrown hwq
        clear hwq
        go_wp2
        go_ret
        exact ⟨rfl, hz6a.trans (hbq.mono hz6a.size)⟩
  · go_enter Try.func8, Try.ntmps8
    go_wp2
    go_ret
    exact ⟨rfl, hz0⟩

namespace top_FnLoadHigh
set_option maxRecDepth 100000 in
theorem lifted (os : Os) (started : os.Started) (H : Type) (enc : TypeId × Value → H) :
    ReturnsInHanded {} Try.checked os 8 .any (Rows.fnLoadHighSpec.pre6 enc Try.prog Try.f8 Rows.fnLoadHighRow.domain false) (Rows.fnLoadHighSpec.post enc Try.prog Try.f8 false true false false) := by
  refine returnsInHanded_of_change (C := Try.checked) ownKnob_none started (by kernel_rfl) Try.func8
    (ChangeSpec.witness6 (enc := enc) (C := Try.checked) false ⟨#[], #[.slice none 0 0], []⟩ 8 (by kernel_rfl) (by kernel_rfl) (by kernel_rfl) (by kernel_rfl)) ?_
  intro W base args ds gs before hval0 hW hcnd _
  have hval : ∀ (j : Nat) t v, Try.f8.params[j]? = some t → args[j]? = some v → Value.okWide Try.prog W .any base t v := hval0
  have hW' := hW
  obtain ⟨p, q, hA0, hV, rfl, hfz, hnd⟩ := hW
  have hA : DataW.TrodAll enc Try.prog W 0 (fun _ => true) true Try.f8.params.toList args.toList ds p := hA0
  rw [Try.params8] at hA hval
  obtain ⟨v0, vs0, d0, ds0, p0, q0, hargs, rfl, rfl, h0, r0⟩ := trodAll_cons hA
  obtain ⟨rfl, rfl, rfl⟩ := trodAll_nil r0
  obtain rfl : args = #[v0] := by cases args; simp_all
  obtain ⟨rfl, rfl⟩ := trodVars_none hV
  have k0 := h0
  have lt0 : ∀ x ∈ p0, x.block < W.heap.size := by obtain ⟨m, hm⟩ := k0; exact DataW.trod_lt m _ _ _ hm
  obtain ⟨a0, n0, c0, rfl⟩ := okWide_slice Try.underlying22 (hval 0 22 v0 rfl rfl)
  obtain ⟨x0, w0⟩ : ∃ xs, RdB W a0 n0 c0 xs := by
    obtain ⟨fuel, hf⟩ := h0
    obtain ⟨A, n, c, xs, hcs, hR⟩ := open_bytes hf
    simp [Value.cells] at hcs
    obtain ⟨rfl, rfl, rfl⟩ := hcs
    exact ⟨xs, hR⟩
  clear hA0 hval0
  refine (walk_FnLoadHigh a0 n0 c0 x0 W w0).mono fun e W' ⟨he, bel⟩ => ?_
  subst he
  exact ⟨_, rfl, _, _, _, [], _, [], hW', trodAll_mk1 (shut_bool Try.underlying4 _), (trodAll_cons_mk (Below.trod laidOut (by kernel_rfl) (of_decide_eq_true (by kernel_rfl)) k0 bel lt0) trodAll_mk0), rfl, bel.frame _, fun h => by cases h⟩

theorem over : Rows.fnLoadHighRow.holds Try.pinned (OpenSpec.ofChange Rows.fnLoadHighSpec) :=
  OpenClaim.holds_of_wide 8 Try.f8 rfl rfl rfl rfl rfl rfl rfl ⟨rfl, rfl, rfl, rfl, rfl⟩ rfl rfl rfl rfl rfl (by kernel_rfl) Try.func8 (by kernel_rfl)
    (of_decide_eq_true (by kernel_rfl)) (by unfold Func.isWrapper; first | (rw [if_pos (by decide +kernel)]; kernel_rfl) | (rw [if_neg (by decide +kernel)]; exact ⟨rfl, rfl⟩))
    (fun os started H enc _ => lifted os started H enc)
end top_FnLoadHigh

theorem FnLoadHigh_holds : Rows.FnLoadHighSaid := top_FnLoadHigh.over
#print axioms FnLoadHigh_holds

end Go.Proofs.Ytcdmegiffbhbeaa
