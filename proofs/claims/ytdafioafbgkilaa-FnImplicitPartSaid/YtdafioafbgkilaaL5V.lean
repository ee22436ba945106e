/- The contracts of FactorOf, of the reference. No condition. -/
import Derived.Test.YtdafioafbgkilaaL5S
import Derived.Deep.DeepCutAuto
namespace Go.Proofs.Ytdafioafbgkilaa
open Go.RowKit
set_option linter.unusedVariables false

set_option maxRecDepth 100000 in
set_option maxHeartbeats 12800000 in
theorem factorOf_spec (A : Option Addr) (n c : Nat) (xs : List T) (w : World) (h : RdT w A n c xs) :
    Calls Try.prog 34 #[.slice A n c] w fun e w' => e = .returned (.tuple #[.agg #[.int .i64 (factV xs).num, .int .i64 (factV xs).den], .bool (factB xs)]) ∧ Below w.heap.size w w' := by
  have hz0 : Below w.heap.size w (w.alloc (.cells #[.int .i64 0, .int .i64 0] 28)) := (Below.refl _ _).alloc (Nat.le_refl _) _
  have q0 := Lib.hid (h.alloc (.cells #[.int .i64 0, .int .i64 0] 28))
  have rS := Lib.hid (Blk.new w 28 #[.int .i64 0, .int .i64 0])
  clear h
  cases hi : impB xs
  · have Hi := Lib.hid hi
    have HV := Lib.hid (factB_1 hi)
    clear hi
    go_enter Try.func34, Try.ntmps34
    go_wp2_with fail
    refine (implicit_spec A n c xs _ q0.out).mono ?_
    rw [Hi.out]
    rintro e w1 ⟨rfl, hb1⟩
    have hz1 := hz0.trans (hb1.mono hz0.size)
    replace rS := Lib.hid (rS.out.below hb1)
    clear hb1
    have r0 := rS.out.cell (i := 0) rfl
    have r1 := rS.out.cell (i := 1) rfl
    have f0 := rS.out.frozen 0
    have f1 := rS.out.frozen 1
    go_wp2
    exact bodyPost_ret (v := .tuple #[.agg #[.int .i64 0, .int .i64 0], .bool false]) (by simp [results, Try.results34, go_sem, r0, r1]) rfl ⟨by rw [HV.out.1, HV.out.2], (hz1.setCell (Nat.le_refl _) _).setCell (Nat.le_refl _) _⟩
  · have hs := imp_sv hi
    have Hi := Lib.hid hi
    cases hp : plainB xs
    · have Hp := Lib.hid hp
      have sa := Lib.hid (shr_sm (c := false) nd_low hs)
      have sb := Lib.hid (shr_sm (c := true) nd_low hs)
      have sp := Lib.hid (plus_sm (f := T.low) (g := T.low) hs nd_low nd_low)
      have ip := Lib.hid (plusV_is sa.out sb.out sp.out)
      have ia := Lib.hid (shr_is (c := false) nd_low hs)
      have hfit := fit_ab hs
      have hful := full_a hs
      by_cases hx : loA xs + loB xs ≤ LL
      · rw [decide_eq_true hx] at hfit
        by_cases hy : loA xs = LL
        · have HV := Lib.hid (factB_3 hi hp (Or.inr hy))
          have hab := Lib.hid (show (shr false T.low xs).num = (shr false T.low xs).den from hful.2 hy)
          have Hfit := Lib.hid hfit
          clear hi hp hx hy hs hfit hful
          go_enter Try.func34, Try.ntmps34
          go_wp2_with fail
          refine (implicit_spec A n c xs _ q0.out).mono ?_
          rw [Hi.out]
          rintro e w1 ⟨rfl, hb1⟩
          have hz1 := hz0.trans (hb1.mono hz0.size)
          replace q0 := Lib.hid (q0.out.below hb1)
          replace rS := Lib.hid (rS.out.below hb1)
          clear hb1
          go_wp2_with fail
          refine (holdsPlain_spec A n c xs w1 q0.out).mono ?_
          rw [Hp.out]
          rintro e w2 ⟨rfl, hb2⟩
          have hz2 := hz1.trans (hb2.mono hz1.size)
          replace q0 := Lib.hid (q0.out.below hb2)
          replace rS := Lib.hid (rS.out.below hb2)
          clear hb2
          go_wp2_with fail
          refine (lowShare_spec A n c xs false w2 q0.out).mono ?_
          rintro e w3 ⟨rfl, hb3⟩
          have hz3 := hz2.trans (hb3.mono hz2.size)
          replace q0 := Lib.hid (q0.out.below hb3)
          replace rS := Lib.hid (rS.out.below hb3)
          clear hb3
          have rA := Lib.hid (Blk.new w3 28 #[.int .i64 (shr false T.low xs).num, .int .i64 (shr false T.low xs).den])
          replace rS := Lib.hid (rS.out.alloc (.cells #[.int .i64 (shr false T.low xs).num, .int .i64 (shr false T.low xs).den] 28))
          replace q0 := Lib.hid (q0.out.alloc (.cells #[.int .i64 (shr false T.low xs).num, .int .i64 (shr false T.low xs).den] 28))
          have hz3a := hz3.alloc hz3.size (.cells #[.int .i64 (shr false T.low xs).num, .int .i64 (shr false T.low xs).den] 28)
          go_wp2_with fail
          refine (lowShare_spec A n c xs true _ q0.out).mono ?_
          rintro e w4 ⟨rfl, hb4⟩
          have hz4 := hz3a.trans (hb4.mono hz3a.size)
          replace rS := Lib.hid (rS.out.below hb4)
          replace rA := Lib.hid (rA.out.below hb4)
          clear hb4
          have rB := Lib.hid (Blk.new w4 28 #[.int .i64 (shr true T.low xs).num, .int .i64 (shr true T.low xs).den])
          have aa0 := rA.out.cell (i := 0) rfl
          have aa1 := rA.out.cell (i := 1) rfl
          have alt := rA.out.lt
          replace rS := Lib.hid (rS.out.alloc (.cells #[.int .i64 (shr true T.low xs).num, .int .i64 (shr true T.low xs).den] 28))
          replace rA := Lib.hid (rA.out.alloc (.cells #[.int .i64 (shr true T.low xs).num, .int .i64 (shr true T.low xs).den] 28))
          have hz4a := hz4.alloc hz4.size (.cells #[.int .i64 (shr true T.low xs).num, .int .i64 (shr true T.low xs).den] 28)
          go_wp2_with fail
          refine (l2Add_any (shr false T.low xs) (shr true T.low xs) _ sa.out sb.out sp.out).mono ?_
          rintro e w5 ⟨rfl, hb5⟩
          have hz5 := hz4a.trans (hb5.mono hz4a.size)
          replace rS := Lib.hid (rS.out.below hb5)
          replace rA := Lib.hid (rA.out.below hb5)
          replace rB := Lib.hid (rB.out.below hb5)
          clear hb5
          clear aa0 aa1 alt
          generalize plusV (shr false T.low xs) (shr true T.low xs) = p at *
          generalize shr false T.low xs = a at *
          generalize shr true T.low xs = b at *
          have F0 := (rA.out.cell (i := 0) rfl)
          have F1 := (rA.out.cell (i := 1) rfl)
          have flt := rA.out.lt
          replace F0 := cell_regrown ((World.cell?_alloc_past (w := w5) (.cells #[.int .i64 p.num, .int .i64 p.den] 28) _ _ flt).trans F0)
          replace F1 := cell_regrown ((World.cell?_alloc_past (w := w5) (.cells #[.int .i64 p.num, .int .i64 p.den] 28) _ _ flt).trans F1)
          have E0 := cell_new_regrown w5 #[.int .i64 p.num, .int .i64 p.den] 28 0 _ rfl
          have E1 := cell_new_regrown w5 #[.int .i64 p.num, .int .i64 p.den] 28 1 _ rfl
          replace rS := Lib.hid (rS.out.alloc (.cells #[.int .i64 p.num, .int .i64 p.den] 28))
          replace rA := Lib.hid (rA.out.alloc (.cells #[.int .i64 p.num, .int .i64 p.den] 28))
          replace rB := Lib.hid (rB.out.alloc (.cells #[.int .i64 p.num, .int .i64 p.den] 28))
          have hz5a := hz5.alloc hz5.size (.cells #[.int .i64 p.num, .int .i64 p.den] 28)
          have hcmp := (cmp_gt p.num p.den).trans (by rw [Hfit.out]; rfl : _ = false)
          have hcm2 := (cmp_eq a.num a.den).trans (decide_eq_true hab.out)
          go_wp2_with fail
          refine wp_region_quiet_below (by kernel_rfl) (by kernel_rfl) ?_
          repeat (go_big_quiet_step ((first | (go_at_call 54; exact Calls.regrown_of (l5One_any _)) | (go_at_call 53; first | (with_reducible exact Calls.regrown_of (compare_one p _ ip.out)) | (with_reducible exact Calls.regrown_of (compare_one a _ ia.out))))))
          refine wpQuiet_nil ?_
          intro w6 hwq
          have hbq := below_of_regrown hwq
          clear hwq
          have hz6 := hz5a.trans (hbq.mono hz5a.size)
          replace rS := Lib.hid (rS.out.below hbq)
          replace rA := Lib.hid (rA.out.below hbq)
          replace rB := Lib.hid (rB.out.below hbq)
          clear hbq
          have r0 := rS.out.cell (i := 0) rfl
          have r1 := rS.out.cell (i := 1) rfl
          have f0 := rS.out.frozen 0
          have f1 := rS.out.frozen 1
          clear E0 E1 F0 F1
          go_wp2
          exact bodyPost_ret (v := .tuple #[.agg #[.int .i64 0, .int .i64 0], .bool false]) (by simp [results, Try.results34, go_sem, r0, r1]) rfl ⟨by rw [HV.out.1, HV.out.2], (hz6.setCell (Nat.le_refl _) _).setCell (Nat.le_refl _) _⟩
        · have HV := Lib.hid (factB_4 hi hp hx hy)
          have hlt : sc false T.low xs < LL := by
            have := (low_nonneg hs).2.1
            unfold loA at hx hy this
            omega
          obtain ⟨u1, u2, u3, u4, u5, u6⟩ := fact_bd hs nd_low nd_low hlt
          have hab := Lib.hid (show ¬ (shr false T.low xs).num = (shr false T.low xs).den from fun e => hy (hful.1 e))
          obtain ⟨v1, v2, v3, v4⟩ := sa.out
          obtain ⟨w1', w2', w3', w4'⟩ := sb.out
          have he : red ((shr true T.low xs).num * (shr false T.low xs).den) ((shr true T.low xs).den * ((shr false T.low xs).den - (shr false T.low xs).num)) = factV xs := by rw [HV.out.2]; exact u6
          obtain ⟨⟨s1, s2, s3, s4⟩, hri⟩ := factV_sm HV.out.1
          have hM := Lib.hid (fun w => makeShare_spec (factV xs).num (factV xs).den w s1 s2 s3 s4)
          rw [hri] at hM
          have Hfit := Lib.hid hfit
          have e1 := red_gcd' ((shr true T.low xs).num * (shr false T.low xs).den) ((shr true T.low xs).den * ((shr false T.low xs).den - (shr false T.low xs).num))
          rw [he] at e1
          have hh := gcdI_pos' (b := (shr true T.low xs).num * (shr false T.low xs).den) u4
          have hC2 := Lib.hid (fun w => l1Gcd_any ((shr true T.low xs).den * ((shr false T.low xs).den - (shr false T.low xs).num)) ((shr true T.low xs).num * (shr false T.low xs).den) w (by omega) u2)
          clear hi hp hx hy hs hfit hful hlt u6 he hri s1 s2 s3 s4
          replace e1 := Lib.hid e1
          go_enter Try.func34, Try.ntmps34
          go_wp2_with fail
          refine (implicit_spec A n c xs _ q0.out).mono ?_
          rw [Hi.out]
          rintro e w1 ⟨rfl, hb1⟩
          have hz1 := hz0.trans (hb1.mono hz0.size)
          replace q0 := Lib.hid (q0.out.below hb1)
          replace rS := Lib.hid (rS.out.below hb1)
          clear hb1
          go_wp2_with fail
          refine (holdsPlain_spec A n c xs w1 q0.out).mono ?_
          rw [Hp.out]
          rintro e w2 ⟨rfl, hb2⟩
          have hz2 := hz1.trans (hb2.mono hz1.size)
          replace q0 := Lib.hid (q0.out.below hb2)
          replace rS := Lib.hid (rS.out.below hb2)
          clear hb2
          go_wp2_with fail
          refine (lowShare_spec A n c xs false w2 q0.out).mono ?_
          rintro e w3 ⟨rfl, hb3⟩
          have hz3 := hz2.trans (hb3.mono hz2.size)
          replace q0 := Lib.hid (q0.out.below hb3)
          replace rS := Lib.hid (rS.out.below hb3)
          clear hb3
          have rA := Lib.hid (Blk.new w3 28 #[.int .i64 (shr false T.low xs).num, .int .i64 (shr false T.low xs).den])
          replace rS := Lib.hid (rS.out.alloc (.cells #[.int .i64 (shr false T.low xs).num, .int .i64 (shr false T.low xs).den] 28))
          replace q0 := Lib.hid (q0.out.alloc (.cells #[.int .i64 (shr false T.low xs).num, .int .i64 (shr false T.low xs).den] 28))
          have hz3a := hz3.alloc hz3.size (.cells #[.int .i64 (shr false T.low xs).num, .int .i64 (shr false T.low xs).den] 28)
          go_wp2_with fail
          refine (lowShare_spec A n c xs true _ q0.out).mono ?_
          rintro e w4 ⟨rfl, hb4⟩
          have hz4 := hz3a.trans (hb4.mono hz3a.size)
          replace rS := Lib.hid (rS.out.below hb4)
          replace rA := Lib.hid (rA.out.below hb4)
          clear hb4
          have rB := Lib.hid (Blk.new w4 28 #[.int .i64 (shr true T.low xs).num, .int .i64 (shr true T.low xs).den])
          have aa0 := rA.out.cell (i := 0) rfl
          have aa1 := rA.out.cell (i := 1) rfl
          have alt := rA.out.lt
          replace rS := Lib.hid (rS.out.alloc (.cells #[.int .i64 (shr true T.low xs).num, .int .i64 (shr true T.low xs).den] 28))
          replace rA := Lib.hid (rA.out.alloc (.cells #[.int .i64 (shr true T.low xs).num, .int .i64 (shr true T.low xs).den] 28))
          have hz4a := hz4.alloc hz4.size (.cells #[.int .i64 (shr true T.low xs).num, .int .i64 (shr true T.low xs).den] 28)
          go_wp2_with fail
          refine (l2Add_any (shr false T.low xs) (shr true T.low xs) _ sa.out sb.out sp.out).mono ?_
          rintro e w5 ⟨rfl, hb5⟩
          have hz5 := hz4a.trans (hb5.mono hz4a.size)
          replace rS := Lib.hid (rS.out.below hb5)
          replace rA := Lib.hid (rA.out.below hb5)
          replace rB := Lib.hid (rB.out.below hb5)
          clear hb5
          clear aa0 aa1 alt
          generalize plusV (shr false T.low xs) (shr true T.low xs) = p at *
          generalize shr false T.low xs = a at *
          generalize shr true T.low xs = b at *
          have F0 := (rA.out.cell (i := 0) rfl)
          have F1 := (rA.out.cell (i := 1) rfl)
          have flt := rA.out.lt
          replace F0 := cell_regrown ((World.cell?_alloc_past (w := w5) (.cells #[.int .i64 p.num, .int .i64 p.den] 28) _ _ flt).trans F0)
          replace F1 := cell_regrown ((World.cell?_alloc_past (w := w5) (.cells #[.int .i64 p.num, .int .i64 p.den] 28) _ _ flt).trans F1)
          have E0 := cell_new_regrown w5 #[.int .i64 p.num, .int .i64 p.den] 28 0 _ rfl
          have E1 := cell_new_regrown w5 #[.int .i64 p.num, .int .i64 p.den] 28 1 _ rfl
          replace rS := Lib.hid (rS.out.alloc (.cells #[.int .i64 p.num, .int .i64 p.den] 28))
          replace rA := Lib.hid (rA.out.alloc (.cells #[.int .i64 p.num, .int .i64 p.den] 28))
          replace rB := Lib.hid (rB.out.alloc (.cells #[.int .i64 p.num, .int .i64 p.den] 28))
          have hz5a := hz5.alloc hz5.size (.cells #[.int .i64 p.num, .int .i64 p.den] 28)
          have hcmp := (cmp_gt p.num p.den).trans (by rw [Hfit.out]; rfl : _ = false)
          have hcm2 := (cmp_eq a.num a.den).trans (decide_eq_false hab.out)
          generalize hfv : factV xs = r at *
          replace hfv := Lib.hid hfv
          go_wp2_with fail
          refine wp_region_quiet_below (by kernel_rfl) (by kernel_rfl) ?_
          repeat (go_big_quiet_step ((first | (go_at_call 54; exact Calls.regrown_of (l5One_any _)) | (go_at_call 53; first | (with_reducible exact Calls.regrown_of (compare_one p _ ip.out)) | (with_reducible exact Calls.regrown_of (compare_one a _ ia.out))))))
          refine wpQuiet_nil ?_
          intro w6 hwq
          have hbq := below_of_regrown hwq
          clear hwq
          have hz6 := hz5a.trans (hbq.mono hz5a.size)
          replace rS := Lib.hid (rS.out.below hbq)
          replace rA := Lib.hid (rA.out.below hbq)
          replace rB := Lib.hid (rB.out.below hbq)
          clear hbq
          clear hcmp hcm2 E0 E1 F0 F1
          generalize hNN : b.num * a.den = NN at *
          generalize hDD : b.den * (a.den - a.num) = DD at *
          generalize gcdI DD NN = h at *
          have a0 := rA.out.cell (i := 0) rfl
          have a1 := rA.out.cell (i := 1) rfl
          have b0 := rB.out.cell (i := 0) rfl
          have b1 := rB.out.cell (i := 1) rfl
          go_wp2_with fail
          refine (hC2.out _).mono ?_
          rintro e w7 ⟨rfl, hb7⟩
          have hz7 := hz6.trans (hb7.mono hz6.size)
          replace rS := Lib.hid (rS.out.below hb7)
          have hDD0 : 0 ≤ DD := by omega
          have k7 : wrap64 (NN.tdiv h) = r.num := by rw [wrap_quo u2 (by omega) hh, e1.out]
          have k8 : wrap64 (DD.tdiv h) = r.den := by rw [wrap_quo (by omega) (by omega) hh, e1.out]
          have m7 : IntKind.i64.wrap (NN.tdiv h) = r.num := (wrap_i64_eq _).trans k7
          have m8 : IntKind.i64.wrap (DD.tdiv h) = r.den := (wrap_i64_eq _).trans k8
          have hh0 : ¬ h = 0 := by omega
          have c0 := rS.out.cell (i := 0) rfl
          have c1 := rS.out.cell (i := 1) rfl
          have f0 := rS.out.frozen 0
          have f1 := rS.out.frozen 1
          have hz := rS.out.lt
          clear hNN hDD a0 a1 b0 b1 hb7
          go_wp2_with fail
          go_region_held3 (fun w' => True) (trivial) (first | (go_at_call 50; (try simp only [k7, k8, m7, m8]); refine (hM.out _).mono ?_; rintro e w8 ⟨rfl, hb8⟩; have d0 := (hb8.cell (p := ⟨w.heap.size, 0, none⟩) hz).trans c0; have d1 := (hb8.cell (p := ⟨w.heap.size, 1, none⟩) hz).trans c1; have g0 := (hb8.frozen (p := ⟨w.heap.size, 0, none⟩) hz).trans f0; have g1 := (hb8.frozen (p := ⟨w.heap.size, 1, none⟩) hz).trans f1))
          all_goals
            go_wp2
            have hz8 : Below w.heap.size w w8 := hz7.trans (Below.mono ⟨hb8.os, hb8.tape, hb8.output, hb8.size, hb8.block⟩ hz7.size)
            exact bodyPost_ret (v := .tuple #[.agg #[.int .i64 r.num, .int .i64 r.den], .bool true]) (by simp [results, Try.results34, go_sem, d0, d1]) rfl ⟨by rw [HV.out.1, hfv.out], (hz8.setCell (Nat.le_refl _) _).setCell (Nat.le_refl _) _⟩
      · rw [decide_eq_false hx] at hfit
        have HV := Lib.hid (factB_3 hi hp (Or.inl hx))
        have Hfit := Lib.hid hfit
        clear hi hp hx hs hfit hful
        go_enter Try.func34, Try.ntmps34
        go_wp2_with fail
        refine (implicit_spec A n c xs _ q0.out).mono ?_
        rw [Hi.out]
        rintro e w1 ⟨rfl, hb1⟩
        have hz1 := hz0.trans (hb1.mono hz0.size)
        replace q0 := Lib.hid (q0.out.below hb1)
        replace rS := Lib.hid (rS.out.below hb1)
        clear hb1
        go_wp2_with fail
        refine (holdsPlain_spec A n c xs w1 q0.out).mono ?_
        rw [Hp.out]
        rintro e w2 ⟨rfl, hb2⟩
        have hz2 := hz1.trans (hb2.mono hz1.size)
        replace q0 := Lib.hid (q0.out.below hb2)
        replace rS := Lib.hid (rS.out.below hb2)
        clear hb2
        go_wp2_with fail
        refine (lowShare_spec A n c xs false w2 q0.out).mono ?_
        rintro e w3 ⟨rfl, hb3⟩
        have hz3 := hz2.trans (hb3.mono hz2.size)
        replace q0 := Lib.hid (q0.out.below hb3)
        replace rS := Lib.hid (rS.out.below hb3)
        clear hb3
        have rA := Lib.hid (Blk.new w3 28 #[.int .i64 (shr false T.low xs).num, .int .i64 (shr false T.low xs).den])
        replace rS := Lib.hid (rS.out.alloc (.cells #[.int .i64 (shr false T.low xs).num, .int .i64 (shr false T.low xs).den] 28))
        replace q0 := Lib.hid (q0.out.alloc (.cells #[.int .i64 (shr false T.low xs).num, .int .i64 (shr false T.low xs).den] 28))
        have hz3a := hz3.alloc hz3.size (.cells #[.int .i64 (shr false T.low xs).num, .int .i64 (shr false T.low xs).den] 28)
        go_wp2_with fail
        refine (lowShare_spec A n c xs true _ q0.out).mono ?_
        rintro e w4 ⟨rfl, hb4⟩
        have hz4 := hz3a.trans (hb4.mono hz3a.size)
        replace rS := Lib.hid (rS.out.below hb4)
        replace rA := Lib.hid (rA.out.below hb4)
        clear hb4
        have rB := Lib.hid (Blk.new w4 28 #[.int .i64 (shr true T.low xs).num, .int .i64 (shr true T.low xs).den])
        have aa0 := rA.out.cell (i := 0) rfl
        have aa1 := rA.out.cell (i := 1) rfl
        have alt := rA.out.lt
        replace rS := Lib.hid (rS.out.alloc (.cells #[.int .i64 (shr true T.low xs).num, .int .i64 (shr true T.low xs).den] 28))
        replace rA := Lib.hid (rA.out.alloc (.cells #[.int .i64 (shr true T.low xs).num, .int .i64 (shr true T.low xs).den] 28))
        have hz4a := hz4.alloc hz4.size (.cells #[.int .i64 (shr true T.low xs).num, .int .i64 (shr true T.low xs).den] 28)
        go_wp2_with fail
        refine (l2Add_any (shr false T.low xs) (shr true T.low xs) _ sa.out sb.out sp.out).mono ?_
        rintro e w5 ⟨rfl, hb5⟩
        have hz5 := hz4a.trans (hb5.mono hz4a.size)
        replace rS := Lib.hid (rS.out.below hb5)
        replace rA := Lib.hid (rA.out.below hb5)
        replace rB := Lib.hid (rB.out.below hb5)
        clear hb5
        clear aa0 aa1 alt
        generalize plusV (shr false T.low xs) (shr true T.low xs) = p at *
        generalize shr false T.low xs = a at *
        generalize shr true T.low xs = b at *
        have F0 := (rA.out.cell (i := 0) rfl)
        have F1 := (rA.out.cell (i := 1) rfl)
        have flt := rA.out.lt
        replace F0 := cell_regrown ((World.cell?_alloc_past (w := w5) (.cells #[.int .i64 p.num, .int .i64 p.den] 28) _ _ flt).trans F0)
        replace F1 := cell_regrown ((World.cell?_alloc_past (w := w5) (.cells #[.int .i64 p.num, .int .i64 p.den] 28) _ _ flt).trans F1)
        have E0 := cell_new_regrown w5 #[.int .i64 p.num, .int .i64 p.den] 28 0 _ rfl
        have E1 := cell_new_regrown w5 #[.int .i64 p.num, .int .i64 p.den] 28 1 _ rfl
        replace rS := Lib.hid (rS.out.alloc (.cells #[.int .i64 p.num, .int .i64 p.den] 28))
        replace rA := Lib.hid (rA.out.alloc (.cells #[.int .i64 p.num, .int .i64 p.den] 28))
        replace rB := Lib.hid (rB.out.alloc (.cells #[.int .i64 p.num, .int .i64 p.den] 28))
        have hz5a := hz5.alloc hz5.size (.cells #[.int .i64 p.num, .int .i64 p.den] 28)
        have hcmp := (cmp_gt p.num p.den).trans (by rw [Hfit.out]; rfl : _ = true)
        go_wp2_with fail
        refine wp_region_quiet_below (by kernel_rfl) (by kernel_rfl) ?_
        repeat (go_big_quiet_step ((first | (go_at_call 54; exact Calls.regrown_of (l5One_any _)) | (go_at_call 53; first | (with_reducible exact Calls.regrown_of (compare_one p _ ip.out)) | (with_reducible exact Calls.regrown_of (compare_one a _ ia.out))))))
        refine wpQuiet_nil ?_
        intro w6 hwq
        have hbq := below_of_regrown hwq
        clear hwq
        have hz6 := hz5a.trans (hbq.mono hz5a.size)
        replace rS := Lib.hid (rS.out.below hbq)
        replace rA := Lib.hid (rA.out.below hbq)
        replace rB := Lib.hid (rB.out.below hbq)
        clear hbq
        have r0 := rS.out.cell (i := 0) rfl
        have r1 := rS.out.cell (i := 1) rfl
        have f0 := rS.out.frozen 0
        have f1 := rS.out.frozen 1
        clear E0 E1 F0 F1
        go_wp2
        exact bodyPost_ret (v := .tuple #[.agg #[.int .i64 0, .int .i64 0], .bool false]) (by simp [results, Try.results34, go_sem, r0, r1]) rfl ⟨by rw [HV.out.1, HV.out.2], (hz6.setCell (Nat.le_refl _) _).setCell (Nat.le_refl _) _⟩
    · have Hp := Lib.hid hp
      have HV := Lib.hid (factB_2 hi hp)
      clear hi hp hs
      go_enter Try.func34, Try.ntmps34
      go_wp2_with fail
      refine (implicit_spec A n c xs _ q0.out).mono ?_
      rw [Hi.out]
      rintro e w1 ⟨rfl, hb1⟩
      have hz1 := hz0.trans (hb1.mono hz0.size)
      replace q0 := Lib.hid (q0.out.below hb1)
      replace rS := Lib.hid (rS.out.below hb1)
      clear hb1
      go_wp2_with fail
      refine (holdsPlain_spec A n c xs w1 q0.out).mono ?_
      rw [Hp.out]
      rintro e w2 ⟨rfl, hb2⟩
      have hz2 := hz1.trans (hb2.mono hz1.size)
      replace rS := Lib.hid (rS.out.below hb2)
      clear hb2
      go_wp2_with fail
      refine (l5One_any w2).mono ?_
      rintro e w3 ⟨rfl, hb3⟩
      have hz3 := hz2.trans (hb3.mono hz2.size)
      replace rS := Lib.hid (rS.out.below hb3)
      clear hb3
      have r0 := rS.out.cell (i := 0) rfl
      have r1 := rS.out.cell (i := 1) rfl
      have f0 := rS.out.frozen 0
      have f1 := rS.out.frozen 1
      go_wp2
      exact bodyPost_ret (v := .tuple #[.agg #[.int .i64 1, .int .i64 1], .bool true]) (by simp [results, Try.results34, go_sem, r0, r1]) rfl ⟨by rw [HV.out.1, HV.out.2], (hz3.setCell (Nat.le_refl _) _).setCell (Nat.le_refl _) _⟩

end Go.Proofs.Ytdafioafbgkilaa
