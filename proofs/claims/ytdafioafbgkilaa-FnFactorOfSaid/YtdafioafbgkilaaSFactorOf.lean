/- Factors are shares: the law returns true for every input. No condition. -/
import Derived.Test.YtdafioafbgkilaaOpen
import Derived.Test.YtdafioafbgkilaaL5L
import Derived.Test.YtdafioafbgkilaaEqS
import Derived.Test.YtdafioafbgkilaaDraw5
namespace Go.Proofs.Ytdafioafbgkilaa
open Go.ChangeShapes Go.WideShapes Go.ChangeAt Go.RowKit
set_option linter.unusedVariables false


set_option maxRecDepth 100000 in
set_option maxHeartbeats 6400000 in
theorem walk_FnFactorOf (A : Option Addr) (n c : Nat) (bs : List UInt8) (w : World) (h : RdB w A n c bs) :
    Calls Try.prog 8 #[.slice A n c] w fun e w' => e = .returned (.bool true) ∧ Below w.heap.size w w' := by
  have hz0 := Below.refl w.heap.size w
  have H := Lib.hid h
  have hmx : n ≤ maxLen := Nat.le_trans h.cap h.max
  unfold maxLen at hmx
  clear h
  by_cases hn : n ≤ 1048576
  · go_enter Try.func8, Try.ntmps8
    go_wp2_with fail
    refine (drawFactorOf_any A n c bs w H.out).mono ?_
    rintro e w1 ⟨D, m, d, xs, rfl, hm6, ho, hz1⟩
    have qT := Lib.hid ho.rd5
    clear ho
    go_wp2_with fail
    refine (factorOf_impl D m d xs w1 qT.out).mono ?_
    rintro e w2 ⟨rfl, hb2⟩
    have hz2 := hz1.trans (hb2.mono hz1.size)
    replace qT := Lib.hid (qT.out.below hb2)
    clear hb2
    have rX := Lib.hid (Blk.new w2 28 #[.int .i64 (factV xs).num, .int .i64 (factV xs).den])
    replace qT := Lib.hid (qT.out.alloc (.cells #[.int .i64 (factV xs).num, .int .i64 (factV xs).den] 28))
    have hz2a := hz2.alloc hz2.size (.cells #[.int .i64 (factV xs).num, .int .i64 (factV xs).den] 28)
    go_wp2_with fail
    refine (factorOf_spec D m d xs _ qT.out).mono ?_
    rintro e w3 ⟨rfl, hb3⟩
    have hz3 := hz2a.trans (hb3.mono hz2a.size)
    replace qT := Lib.hid (qT.out.below hb3)
    replace rX := Lib.hid (rX.out.below hb3)
    clear hb3
    generalize hr : factV xs = r at *
    have Hr := Lib.hid hr
    clear hr
    have c0 := rX.out.cell (i := 0) rfl
    have c1 := rX.out.cell (i := 1) rfl
    have clt := rX.out.lt
    replace qT := Lib.hid (qT.out.alloc (.cells #[.int .i64 r.num, .int .i64 r.den] 28))
    replace rX := Lib.hid (rX.out.alloc (.cells #[.int .i64 r.num, .int .i64 r.den] 28))
    have hz3a := hz3.alloc hz3.size (.cells #[.int .i64 r.num, .int .i64 r.den] 28)
    have hnq := fun w => neq_share r.num r.den w
    have hql := fun w => eql_share r.num r.den w
    have hee : (factB xs != factB xs) = false := by simp
    have hee2 : (factB xs == factB xs) = true := by simp
    cases hf : factB xs
    · have HV := Lib.hid (virtB_1 hf)
      clear hee hee2 hf
      go_wp2_with fail
      refine (holdsVirtual_impl D m d xs _ qT.out).mono ?_
      rw [HV.out]
      rintro e w4 ⟨rfl, hb4⟩
      have hz4 := hz3a.trans (hb4.mono hz3a.size)
      clear hb4
      go_wp2
      go_ret
      exact ⟨rfl, hz4⟩
    · have hs := imp_sv (fact_imp hf)
      obtain ⟨a, b, e, h1, h2, h3, h4, h5, h6⟩ := fact_red hf
      have k1 := fact_le_one hf
      have hso := sum_one hs
      have sa := shr_is (c := false) nd_low hs
      have sb := shr_is (c := true) nd_low hs
      have hA := Lib.hid (fun w => addShares_impl (shr true T.low xs) (shr false T.low xs) w sb sa (sum_sm hs))
      have hVx := Lib.hid (fun w => shareValid_impl r w (by rw [← Hr.out]; exact fact_is hf))
      have hC := Lib.hid (fun w => compare_impl r ⟨1, 1⟩ w (by rw [← Hr.out]; exact fact_is hf) one_is)
      rw [Hr.out] at k1 h6
      simp only [Int.mul_one, Int.one_mul] at k1 hC
      clear hee hee2 hf hs sa sb e h1 h2 h3 h4 h5
      have rO := Lib.hid (Blk.new (w3.alloc (.cells #[.int .i64 r.num, .int .i64 r.den] 28)) 28 #[.int .i64 1, .int .i64 1])
      have hsz3 : (w3.alloc (.cells #[.int .i64 r.num, .int .i64 r.den] 28)).heap.size = w3.heap.size + 1 := by simp
      rw [hsz3] at rO
      replace qT := Lib.hid (qT.out.alloc (.cells #[.int .i64 1, .int .i64 1] 28))
      replace rX := Lib.hid (rX.out.alloc (.cells #[.int .i64 1, .int .i64 1] 28))
      have hz3b := hz3a.alloc hz3a.size (.cells #[.int .i64 1, .int .i64 1] 28)
      clear hsz3
      go_wp2_with fail
      refine (lowShare_impl D m d xs true _ qT.out).mono ?_
      rintro e w4 ⟨rfl, hb4⟩
      have hz4 := hz3b.trans (hb4.mono hz3b.size)
      replace qT := Lib.hid (qT.out.below hb4)
      replace rX := Lib.hid (rX.out.below hb4)
      replace rO := Lib.hid (rO.out.below hb4)
      clear hb4
      clear c0 c1 clt
      go_wp2_with fail
      refine (lowShare_impl D m d xs false w4 qT.out).mono ?_
      rintro e w5 ⟨rfl, hb5⟩
      have hz5 := hz4.trans (hb5.mono hz4.size)
      replace qT := Lib.hid (qT.out.below hb5)
      replace rX := Lib.hid (rX.out.below hb5)
      replace rO := Lib.hid (rO.out.below hb5)
      clear hb5
      go_wp2_with fail
      refine (hA.out w5).mono ?_
      rintro e w6 ⟨rfl, hb6⟩
      have hz6 := hz5.trans (hb6.mono hz5.size)
      replace qT := Lib.hid (qT.out.below hb6)
      replace rX := Lib.hid (rX.out.below hb6)
      replace rO := Lib.hid (rO.out.below hb6)
      clear hb6
      generalize plusV (shr true T.low xs) (shr false T.low xs) = p at *
      have E0 := cell_new_regrown w6 #[.int .i64 p.num, .int .i64 p.den] 28 0 _ rfl
      have E1 := cell_new_regrown w6 #[.int .i64 p.num, .int .i64 p.den] 28 1 _ rfl
      have F0 := cell_regrown ((World.cell?_alloc_past (w := w6) (.cells #[.int .i64 p.num, .int .i64 p.den] 28) _ _ rX.out.lt).trans (rX.out.cell (i := 0) rfl))
      have F1 := cell_regrown ((World.cell?_alloc_past (w := w6) (.cells #[.int .i64 p.num, .int .i64 p.den] 28) _ _ rX.out.lt).trans (rX.out.cell (i := 1) rfl))
      have G0 := cell_regrown ((World.cell?_alloc_past (w := w6) (.cells #[.int .i64 p.num, .int .i64 p.den] 28) _ _ rO.out.lt).trans (rO.out.cell (i := 0) rfl))
      have G1 := cell_regrown ((World.cell?_alloc_past (w := w6) (.cells #[.int .i64 p.num, .int .i64 p.den] 28) _ _ rO.out.lt).trans (rO.out.cell (i := 1) rfl))
      have qz := qT.out.alloc (.cells #[.int .i64 p.num, .int .i64 p.den] 28)
      have hza := hz6.alloc hz6.size (.cells #[.int .i64 p.num, .int .i64 p.den] 28)
      have hP := Lib.hid (fun dd os => Calls.regrown_of (holdsPlain_impl D m d xs _ (qz.regrown dd os)))
      clear qz hql hnq
      cases hp : plainB xs
      · rw [hp] at hP
        by_cases hsu : loA xs + loB xs = LL
        · have hr1 := h6.2 (Or.inr hsu)
          have hp1 := hso.2 hsu
          subst hr1
          subst hp1
          have hql := fun w => eql_share 1 1 w
          clear hp hsu h6 hso
          go_wp2_with fail
          refine wp_region_quiet_below (by kernel_rfl) (by kernel_rfl) ?_
          repeat (go_big_quiet_step ((first | (go_at_call 30; exact Calls.regrown_of (hVx.out _)) | (go_at_call 39; exact hP.out _ _) | (go_at_call 31; exact Calls.regrown_of (hC.out _)))))
          refine wpQuiet_nil ?_
          intro w7 hwq
          have hbq := below_of_regrown hwq
          clear hwq
          go_wp2
          go_ret
          exact ⟨rfl, hza.trans (hbq.mono hza.size)⟩
        · have hr1 : ¬ r = ⟨1, 1⟩ := fun e => by
            rcases h6.1 e with h7 | h7
            · rw [hp] at h7; cases h7
            · exact hsu h7
          have hp1 : ¬ p = ⟨1, 1⟩ := fun e => hsu (hso.1 e)
          have hqr := fun w => eql_share_no r.num r.den 1 1 (fun ⟨e1, e2⟩ => hr1 (by cases r; simp at e1 e2; rw [e1, e2])) w
          have hqp := fun w => eql_share_no p.num p.den 1 1 (fun ⟨e1, e2⟩ => hp1 (by cases p; simp at e1 e2; rw [e1, e2])) w
          clear hp hsu h6 hso hr1 hp1
          go_wp2_with fail
          refine wp_region_quiet_below (by kernel_rfl) (by kernel_rfl) ?_
          repeat (go_big_quiet_step ((first | (go_at_call 30; exact Calls.regrown_of (hVx.out _)) | (go_at_call 39; exact hP.out _ _) | (go_at_call 31; exact Calls.regrown_of (hC.out _)))))
          refine wpQuiet_nil ?_
          intro w7 hwq
          have hbq := below_of_regrown hwq
          clear hwq
          go_wp2
          go_ret
          exact ⟨rfl, hza.trans (hbq.mono hza.size)⟩
      · rw [hp] at hP
        have hr1 := h6.2 (Or.inl hp)
        subst hr1
        have hql := fun w => eql_share 1 1 w
        clear hp h6 hso
        go_wp2_with fail
        refine wp_region_quiet_below (by kernel_rfl) (by kernel_rfl) ?_
        repeat (go_big_quiet_step ((first | (go_at_call 30; exact Calls.regrown_of (hVx.out _)) | (go_at_call 39; exact hP.out _ _) | (go_at_call 31; exact Calls.regrown_of (hC.out _)))))
        refine wpQuiet_nil ?_
        intro w7 hwq
        have hbq := below_of_regrown hwq
        clear hwq
        go_wp2
        go_ret
        exact ⟨rfl, hza.trans (hbq.mono hza.size)⟩
  · go_enter Try.func8, Try.ntmps8
    go_wp2
    go_ret
    exact ⟨rfl, hz0⟩

namespace top_FnFactorOf
set_option maxRecDepth 100000 in
theorem lifted (os : Os) (started : os.Started) (H : Type) (enc : TypeId × Value → H) :
    ReturnsInHanded {} Try.checked os 8 .any (Rows.fnFactorOfSpec.pre6 enc Try.prog Try.f8 Rows.fnFactorOfRow.domain false) (Rows.fnFactorOfSpec.post enc Try.prog Try.f8 false true false false) := by
  refine returnsInHanded_of_change (C := Try.checked) ownKnob_none started (by kernel_rfl) Try.func8
    (ChangeSpec.witness6 (enc := enc) (C := Try.checked) false ⟨#[], #[.slice none 0 0], []⟩ 8 (by kernel_rfl) (by kernel_rfl) (by kernel_rfl) (by kernel_rfl)) ?_
  intro W base args ds gs before hval0 hW hcnd _
  have hval : ∀ (j : Nat) t v, Try.f8.params[j]? = some t → args[j]? = some v → Value.okWide Try.prog W .any base t v := hval0
  have hW' := hW
  obtain ⟨p, q, hA0, hV, rfl, hfz, hnd⟩ := hW
  have hA : DataW.TrodAll enc Try.prog W 0 (fun _ => true) true Try.f8.params.toList args.toList ds p := hA0
  rw [Try.params8] at hA hval
  obtain ⟨v0, vs0, d0, ds0, p0, q0, hargs, rfl, rfl, h0, r0⟩ := trodAll_cons hA
  obtain ⟨rfl, rfl, rfl⟩ := trodAll_nil r0
  obtain rfl : args = #[v0] := by cases args; simp_all
  obtain ⟨rfl, rfl⟩ := trodVars_none hV
  have k0 := h0
  have lt0 : ∀ x ∈ p0, x.block < W.heap.size := by obtain ⟨m, hm⟩ := k0; exact DataW.trod_lt m _ _ _ hm
  obtain ⟨a0, n0, c0, rfl⟩ := okWide_slice Try.underlying22 (hval 0 22 v0 rfl rfl)
  obtain ⟨x0, w0⟩ : ∃ xs, RdB W a0 n0 c0 xs := by
    obtain ⟨fuel, hf⟩ := h0
    obtain ⟨A, n, c, xs, hcs, hR⟩ := open_bytes hf
    simp [Value.cells] at hcs
    obtain ⟨rfl, rfl, rfl⟩ := hcs
    exact ⟨xs, hR⟩
  clear hA0 hval0
  refine (walk_FnFactorOf a0 n0 c0 x0 W w0).mono fun e W' ⟨he, bel⟩ => ?_
  subst he
  exact ⟨_, rfl, _, _, _, [], _, [], hW', trodAll_mk1 (shut_bool Try.underlying4 _), (trodAll_cons_mk (Below.trod laidOut (by kernel_rfl) (of_decide_eq_true (by kernel_rfl)) k0 bel lt0) trodAll_mk0), rfl, bel.frame _, fun h => by cases h⟩

theorem over : Rows.fnFactorOfRow.holds Try.pinned (OpenSpec.ofChange Rows.fnFactorOfSpec) :=
  OpenClaim.holds_of_wide 8 Try.f8 rfl rfl rfl rfl rfl rfl rfl ⟨rfl, rfl, rfl, rfl, rfl⟩ rfl rfl rfl rfl rfl (by kernel_rfl) Try.func8 (by kernel_rfl)
    (of_decide_eq_true (by kernel_rfl)) (by unfold Func.isWrapper; first | (rw [if_pos (by decide +kernel)]; kernel_rfl) | (rw [if_neg (by decide +kernel)]; exact ⟨rfl, rfl⟩))
    (fun os started H enc _ => lifted os started H enc)
end top_FnFactorOf

theorem FnFactorOf_holds : Rows.FnFactorOfSaid := top_FnFactorOf.over
#print axioms FnFactorOf_holds

end Go.Proofs.Ytdafioafbgkilaa
