/- The contracts of HoldsPlain, LoadOf, of the reference. No condition. -/
import Derived.Test.YtdafioafbgkilaaSumS
import Derived.Test.YtdafioafbgkilaaL5I
namespace Go.Proofs.Ytdafioafbgkilaa
open Go.RowKit
set_option linter.unusedVariables false

theorem plusV_is {a b : S} (ha : Sm a) (hb : Sm b) (h : Sm (plusV a b)) : isShare (plusV a b) := by
  obtain ⟨a1, a2, a3, a4⟩ := ha
  obtain ⟨b1, b2, b3, b4⟩ := hb
  obtain ⟨h1, h2, h3, h4⟩ := h
  refine ⟨h1, h2, h3, h4, ?_⟩
  unfold plusV
  exact red_idem (Int.add_nonneg (Int.mul_nonneg a1 (by omega)) (Int.mul_nonneg b1 (by omega))) (mul_ge_one a3 b3)
theorem one_is : isShare ⟨1, 1⟩ := by decide
/-- compared with the whole -/
theorem compare_one (a : S) (w : World) (ha : isShare a) :
    Calls Try.prog 53 #[.agg #[.int .i64 a.num, .int .i64 a.den], .agg #[.int .i64 1, .int .i64 1]] w fun e w' => e = .returned (.int .i64 (cmpI a.num a.den)) ∧ Below w.heap.size w w' := by
  have h := compare_spec a ⟨1, 1⟩ w ha one_is
  simp only [Int.mul_one, Int.one_mul] at h
  exact h
theorem cmp_le (x y : Int) : decide (cmpI x y ≤ 0) = decide (x ≤ y) := by
  unfold cmpI
  rw [decide_eq_decide]
  split <;> (try split) <;> omega
theorem cmp_gt (x y : Int) : decide (0 < cmpI x y) = !decide (x ≤ y) := by
  rw [Bool.eq_iff_iff]
  simp only [decide_eq_true_eq, Bool.not_eq_true', decide_eq_false_iff_not]
  unfold cmpI
  split <;> (try split) <;> omega
theorem cmp_lt (x y : Int) : decide (cmpI x y < 0) = decide (x < y) := by
  unfold cmpI
  rw [decide_eq_decide]
  split <;> (try split) <;> omega
theorem cmp_eq (x y : Int) : (cmpI x y == 0) = decide (x = y) := by
  rw [Bool.eq_iff_iff]
  simp only [beq_iff_eq, decide_eq_true_eq]
  unfold cmpI
  split <;> (try split) <;> omega

set_option maxRecDepth 100000 in
set_option maxHeartbeats 3200000 in
theorem holdsPlain_spec (A : Option Addr) (n c : Nat) (xs : List T) (w : World) (h : RdT w A n c xs) :
    Calls Try.prog 47 #[.slice A n c] w fun e w' => e = .returned (.bool (plainB xs)) ∧ Below w.heap.size w w' := by
  have q0 := Lib.hid h
  have hz0 := Below.refl w.heap.size w
  cases hi : impB xs
  · have Hi := Lib.hid hi
    have HP := Lib.hid (plainB_no hi)
    clear h hi
    go_enter Try.func47, Try.ntmps47
    go_wp2_with fail
    refine (implicit_spec A n c xs w q0.out).mono ?_
    rw [Hi.out]
    rintro e w1 ⟨rfl, hb1⟩
    have hz1 := hz0.trans (hb1.mono hz0.size)
    clear hb1
    go_wp2
    go_ret
    exact ⟨ret_bool HP.out.symm, hz1⟩
  · have Hi := Lib.hid hi
    have hs := imp_sv hi
    have HP := Lib.hid (plainB_yes hi)
    have sa := Lib.hid (shr_sm (c := false) nd_low hs)
    have sb := Lib.hid (shr_sm (c := true) nd_high hs)
    have sp := Lib.hid (plus_sm (f := T.low) (g := T.high) hs nd_low nd_high)
    have ip := Lib.hid (plusV_is sa.out sb.out sp.out)
    clear h hi hs
    go_enter Try.func47, Try.ntmps47
    go_wp2_with fail
    refine (implicit_spec A n c xs w q0.out).mono ?_
    rw [Hi.out]
    rintro e w1 ⟨rfl, hb1⟩
    have hz1 := hz0.trans (hb1.mono hz0.size)
    replace q0 := Lib.hid (q0.out.below hb1)
    clear hb1
    go_wp2_with fail
    refine (lowShare_spec A n c xs false w1 q0.out).mono ?_
    rintro e w2 ⟨rfl, hb2⟩
    have hz2 := hz1.trans (hb2.mono hz1.size)
    replace q0 := Lib.hid (q0.out.below hb2)
    clear hb2
    go_wp2_with fail
    refine (highShare_spec A n c xs w2 q0.out).mono ?_
    rintro e w3 ⟨rfl, hb3⟩
    have hz3 := hz2.trans (hb3.mono hz2.size)
    clear hb3
    go_wp2_with fail
    refine (l2Add_any (shr false T.low xs) (shr true T.high xs) w3 sa.out sb.out sp.out).mono ?_
    rintro e w4 ⟨rfl, hb4⟩
    have hz4 := hz3.trans (hb4.mono hz3.size)
    clear hb4
    generalize plusV (shr false T.low xs) (shr true T.high xs) = p at *
    have hz4a := hz4.alloc hz4.size (.cells #[.int .i64 p.num, .int .i64 p.den] 28)
    have E0 := cell_new_regrown w4 #[.int .i64 p.num, .int .i64 p.den] 28 0 _ rfl
    have E1 := cell_new_regrown w4 #[.int .i64 p.num, .int .i64 p.den] 28 1 _ rfl
    go_wp2_with fail
    refine wp_region_quiet_below (by kernel_rfl) (by kernel_rfl) ?_
    repeat (go_big_quiet_step ((first | (go_at_call 54; exact Calls.regrown_of (l5One_any _)) | (go_at_call 53; exact Calls.regrown_of (compare_one p _ ip.out)))))
    refine wpQuiet_nil ?_
    intro w5 hwq
    have hbq := below_of_regrown hwq
    clear hwq
    go_wp2
    go_ret
    exact ⟨ret_bool ((cmp_le _ _).trans HP.out), hz4a.trans (hbq.mono hz4a.size)⟩

set_option maxRecDepth 100000 in
set_option maxHeartbeats 6400000 in
theorem loadOf_spec (A : Option Addr) (n c : Nat) (xs : List T) (w : World) (h : RdT w A n c xs) :
    Calls Try.prog 27 #[.slice A n c] w fun e w' => e = .returned (.tuple #[.agg #[.int .i64 (loadV xs).num, .int .i64 (loadV xs).den], .bool (svB xs)]) ∧ Below w.heap.size w w' := by
  have hz0 : Below w.heap.size w (w.alloc (.cells #[.int .i64 0, .int .i64 0] 28)) := (Below.refl _ _).alloc (Nat.le_refl _) _
  have q0 := Lib.hid (h.alloc (.cells #[.int .i64 0, .int .i64 0] 28))
  have rS := Lib.hid (Blk.new w 28 #[.int .i64 0, .int .i64 0])
  clear h
  cases hs : svB xs
  · have Hs := Lib.hid hs
    have HV := Lib.hid (loadV_no hs)
    clear hs
    go_enter Try.func27, Try.ntmps27
    go_wp2_with fail
    refine (setValid_spec A n c xs _ q0.out).mono ?_
    rw [Hs.out]
    rintro e w1 ⟨rfl, hb1⟩
    have hz1 := hz0.trans (hb1.mono hz0.size)
    replace rS := Lib.hid (rS.out.below hb1)
    clear hb1
    have r0 := rS.out.cell (i := 0) rfl
    have r1 := rS.out.cell (i := 1) rfl
    have f0 := rS.out.frozen 0
    have f1 := rS.out.frozen 1
    go_wp2
    exact bodyPost_ret (v := .tuple #[.agg #[.int .i64 0, .int .i64 0], .bool false]) (by simp [results, Try.results27, go_sem, r0, r1]) rfl ⟨by rw [HV.out], (hz1.setCell (Nat.le_refl _) _).setCell (Nat.le_refl _) _⟩
  · have Hs := Lib.hid hs
    have sa := Lib.hid (shr_sm (c := false) nd_low hs)
    have sb := Lib.hid (shr_sm (c := true) nd_low hs)
    have sh := Lib.hid (shr_sm (c := true) nd_high hs)
    have sp := Lib.hid (plus_sm (f := T.low) (g := T.low) hs nd_low nd_low)
    have ip := Lib.hid (plusV_is sa.out sb.out sp.out)
    have ih := Lib.hid (shr_is (c := true) nd_high hs)
    have hlt := load_lt hs
    have hL1 := Lib.hid (fun h => loadV_1 (xs := xs) hs h)
    have hL2 := Lib.hid (fun h => loadV_2 (xs := xs) hs h)
    clear hs
    by_cases hx : loA xs + loB xs < hiH xs
    all_goals
      first
        | (have hq := Lib.hid (hlt.2 hx); have HV := Lib.hid (hL1.out hx))
        | (have hq := Lib.hid (fun e => hx (hlt.1 e)); have HV := Lib.hid (hL2.out hx))
      clear hx hlt hL1 hL2
      go_enter Try.func27, Try.ntmps27
      go_wp2_with fail
      refine (setValid_spec A n c xs _ q0.out).mono ?_
      rw [Hs.out]
      rintro e w1 ⟨rfl, hb1⟩
      have hz1 := hz0.trans (hb1.mono hz0.size)
      replace q0 := Lib.hid (q0.out.below hb1)
      replace rS := Lib.hid (rS.out.below hb1)
      clear hb1
      go_wp2_with fail
      refine (lowShare_spec A n c xs false w1 q0.out).mono ?_
      rintro e w2 ⟨rfl, hb2⟩
      have hz2 := hz1.trans (hb2.mono hz1.size)
      replace q0 := Lib.hid (q0.out.below hb2)
      replace rS := Lib.hid (rS.out.below hb2)
      clear hb2
      go_wp2_with fail
      refine (lowShare_spec A n c xs true w2 q0.out).mono ?_
      rintro e w3 ⟨rfl, hb3⟩
      have hz3 := hz2.trans (hb3.mono hz2.size)
      replace q0 := Lib.hid (q0.out.below hb3)
      replace rS := Lib.hid (rS.out.below hb3)
      clear hb3
      go_wp2_with fail
      refine (l2Add_any (shr false T.low xs) (shr true T.low xs) w3 sa.out sb.out sp.out).mono ?_
      rintro e w4 ⟨rfl, hb4⟩
      have hz4 := hz3.trans (hb4.mono hz3.size)
      replace q0 := Lib.hid (q0.out.below hb4)
      replace rS := Lib.hid (rS.out.below hb4)
      clear hb4
      have rP := Lib.hid (Blk.new w4 28 #[.int .i64 (plusV (shr false T.low xs) (shr true T.low xs)).num, .int .i64 (plusV (shr false T.low xs) (shr true T.low xs)).den])
      replace rS := Lib.hid (rS.out.alloc (.cells #[.int .i64 (plusV (shr false T.low xs) (shr true T.low xs)).num, .int .i64 (plusV (shr false T.low xs) (shr true T.low xs)).den] 28))
      replace q0 := Lib.hid (q0.out.alloc (.cells #[.int .i64 (plusV (shr false T.low xs) (shr true T.low xs)).num, .int .i64 (plusV (shr false T.low xs) (shr true T.low xs)).den] 28))
      have hz4a := hz4.alloc hz4.size (.cells #[.int .i64 (plusV (shr false T.low xs) (shr true T.low xs)).num, .int .i64 (plusV (shr false T.low xs) (shr true T.low xs)).den] 28)
      go_wp2_with fail
      refine (highShare_spec A n c xs _ q0.out).mono ?_
      rintro e w5 ⟨rfl, hb5⟩
      have hz5 := hz4a.trans (hb5.mono hz4a.size)
      replace rS := Lib.hid (rS.out.below hb5)
      replace rP := Lib.hid (rP.out.below hb5)
      clear hb5
      have hC := Lib.hid (fun w => compare_spec (plusV (shr false T.low xs) (shr true T.low xs)) (shr true T.high xs) w ip.out ih.out)
      generalize plusV (shr false T.low xs) (shr true T.low xs) = p at *
      generalize (shr true T.high xs) = u at *
      have pp0 := rP.out.cell (i := 0) rfl
      have pp1 := rP.out.cell (i := 1) rfl
      have plt := rP.out.lt
      have rU := Lib.hid (Blk.new w5 28 #[.int .i64 u.num, .int .i64 u.den])
      replace rS := Lib.hid (rS.out.alloc (.cells #[.int .i64 u.num, .int .i64 u.den] 28))
      replace rP := Lib.hid (rP.out.alloc (.cells #[.int .i64 u.num, .int .i64 u.den] 28))
      have hz5a := hz5.alloc hz5.size (.cells #[.int .i64 u.num, .int .i64 u.den] 28)
      go_wp2_with fail
      refine (hC.out _).mono ?_
      rintro e w6 ⟨rfl, hb6⟩
      have hz6 := hz5a.trans (hb6.mono hz5a.size)
      replace rS := Lib.hid (rS.out.below hb6)
      replace rP := Lib.hid (rP.out.below hb6)
      replace rU := Lib.hid (rU.out.below hb6)
      clear hb6
      clear pp0 pp1
      have r0 := rS.out.cell (i := 0) rfl
      have r1 := rS.out.cell (i := 1) rfl
      have f0 := rS.out.frozen 0
      have f1 := rS.out.frozen 1
      have p0 := rP.out.cell (i := 0) rfl
      have p1 := rP.out.cell (i := 1) rfl
      have u0 := rU.out.cell (i := 0) rfl
      have u1 := rU.out.cell (i := 1) rfl
      have hlz := rS.out.lt
      have hcmp := cmp_lt (p.num * u.den) (u.num * p.den)
      first
        | rw [decide_eq_true hq.out] at hcmp
        | rw [decide_eq_false hq.out] at hcmp
      go_wp2
      exact bodyPost_ret (v := .tuple #[.agg #[.int .i64 (loadV xs).num, .int .i64 (loadV xs).den], .bool true]) (by simp [results, Try.results27, go_sem, r0, r1, HV.out]) rfl ⟨rfl, (hz6.setCell (Nat.le_refl _) _).setCell (Nat.le_refl _) _⟩

end Go.Proofs.Ytdafioafbgkilaa
