/- The contracts of HoldsPlain, FactorOf, HoldsVirtual, VirtualDue, LoadOf, of the program. No condition. -/
import Derived.Test.YtdafioafbgkilaaSum
namespace Go.Proofs.Ytdafioafbgkilaa
open Go.RowKit
set_option linter.unusedVariables false

theorem imp_sv {xs : List T} (h : impB xs = true) : svB xs = true := by
  simp only [impB, Bool.and_eq_true] at h; exact h.1
theorem shr_is {c : Bool} {f : T → Int} (hf : Nd f) {xs : List T} (h : svB xs = true) : isShare (shr c f xs) := by
  obtain ⟨h1, h2, h3, h4⟩ := shr_sm (c := c) hf h
  refine ⟨h1, h2, h3, h4, ?_⟩
  rw [shr_sc hf h]
  exact red_idem (sc_nonneg hf (sv_all h).2) LL_pos
theorem plainB_no {xs : List T} (h : impB xs = false) : plainB xs = false := by simp [plainB, h]
theorem plainB_yes {xs : List T} (h : impB xs = true) : decide ((plusV (shr false T.low xs) (shr true T.high xs)).num ≤ (plusV (shr false T.low xs) (shr true T.high xs)).den) = plainB xs := by
  have hs := imp_sv h
  have a0 := sc_nonneg (c := false) nd_low (sv_all hs).2
  have b0 := sc_nonneg (c := true) nd_high (sv_all hs).2
  rw [plus_shr hs nd_low nd_high, fits_red (by omega) LL_pos, plainB, h, Bool.true_and]
  rfl
theorem low_nonneg {xs : List T} (h : svB xs = true) : 0 ≤ loA xs ∧ 0 ≤ loB xs ∧ 0 ≤ hiH xs :=
  ⟨sc_nonneg nd_low (sv_all h).2, sc_nonneg nd_low (sv_all h).2, sc_nonneg nd_high (sv_all h).2⟩
theorem fit_ab {xs : List T} (hs : svB xs = true) : decide ((plusV (shr false T.low xs) (shr true T.low xs)).num ≤ (plusV (shr false T.low xs) (shr true T.low xs)).den) = decide (loA xs + loB xs ≤ LL) := by
  have := low_nonneg hs
  rw [plus_shr hs nd_low nd_low]
  exact fits_red (by have := low_nonneg hs; unfold loA loB at this; omega) LL_pos
theorem full_a {xs : List T} (hs : svB xs = true) : (shr false T.low xs).num = (shr false T.low xs).den ↔ loA xs = LL := by
  rw [shr_sc nd_low hs]
  exact full_red (low_nonneg hs).1 LL_pos
theorem factB_1 {xs : List T} (h : impB xs = false) : factB xs = false ∧ factV xs = ⟨0, 0⟩ := by simp [factV, factB, h]
theorem factB_2 {xs : List T} (h : impB xs = true) (hp : plainB xs = true) : factB xs = true ∧ factV xs = ⟨1, 1⟩ := by simp [factV, factB, h, hp]
theorem factB_3 {xs : List T} (h : impB xs = true) (hp : plainB xs = false) (hx : ¬ loA xs + loB xs ≤ LL ∨ loA xs = LL) : factB xs = false ∧ factV xs = ⟨0, 0⟩ := by
  rcases hx with hx | hx <;> simp [factV, factB, h, hp, hx]
theorem factB_4 {xs : List T} (h : impB xs = true) (hp : plainB xs = false) (hx : loA xs + loB xs ≤ LL) (hy : ¬ loA xs = LL) : factB xs = true ∧ factV xs = red (loB xs) (LL - loA xs) := by
  simp [factV, factB, h, hp, hx, hy]

set_option maxRecDepth 100000 in
set_option maxHeartbeats 3200000 in
theorem holdsPlain_impl (A : Option Addr) (n c : Nat) (xs : List T) (w : World) (h : RdT w A n c xs) :
    Calls Try.prog 39 #[.slice A n c] w fun e w' => e = .returned (.bool (plainB xs)) ∧ Below w.heap.size w w' := by
  have q0 := Lib.hid h
  have hz0 := Below.refl w.heap.size w
  cases hi : impB xs
  · have Hi := Lib.hid hi
    have HP := Lib.hid (plainB_no hi)
    clear h hi
    go_enter Try.func39, Try.ntmps39
    go_wp2_with fail
    refine (implicit_impl A n c xs w q0.out).mono ?_
    rw [Hi.out]
    rintro e w1 ⟨rfl, hb1⟩
    have hz1 := hz0.trans (hb1.mono hz0.size)
    clear hb1
    go_wp2
    go_ret
    exact ⟨ret_bool HP.out.symm, hz1⟩
  · have Hi := Lib.hid hi
    have hs := imp_sv hi
    have HP := Lib.hid (plainB_yes hi)
    have sa := Lib.hid (shr_sm (c := false) nd_low hs)
    have sb := Lib.hid (shr_sm (c := true) nd_high hs)
    clear h hi hs
    go_enter Try.func39, Try.ntmps39
    go_wp2_with fail
    refine (implicit_impl A n c xs w q0.out).mono ?_
    rw [Hi.out]
    rintro e w1 ⟨rfl, hb1⟩
    have hz1 := hz0.trans (hb1.mono hz0.size)
    replace q0 := Lib.hid (q0.out.below hb1)
    clear hb1
    go_wp2_with fail
    refine (lowShare_impl A n c xs false w1 q0.out).mono ?_
    rintro e w2 ⟨rfl, hb2⟩
    have hz2 := hz1.trans (hb2.mono hz1.size)
    replace q0 := Lib.hid (q0.out.below hb2)
    clear hb2
    go_wp2_with fail
    refine (highShare_impl A n c xs w2 q0.out).mono ?_
    rintro e w3 ⟨rfl, hb3⟩
    have hz3 := hz2.trans (hb3.mono hz2.size)
    clear hb3
    go_wp2_with fail
    refine (plus_any (shr false T.low xs) (shr true T.high xs) w3 sa.out sb.out).mono ?_
    rintro e w4 ⟨rfl, hb4⟩
    have hz4 := hz3.trans (hb4.mono hz3.size)
    clear hb4
    go_wp2_with fail
    refine (fits_any (plusV (shr false T.low xs) (shr true T.high xs)) w4).mono ?_
    rw [HP.out]
    rintro e w5 ⟨rfl, hb5⟩
    have hz5 := hz4.trans (hb5.mono hz4.size)
    clear hb5
    go_wp2
    go_ret
    exact ⟨rfl, hz5⟩

set_option maxRecDepth 100000 in
set_option maxHeartbeats 6400000 in
theorem factorOf_impl (A : Option Addr) (n c : Nat) (xs : List T) (w : World) (h : RdT w A n c xs) :
    Calls Try.prog 18 #[.slice A n c] w fun e w' => e = .returned (.tuple #[.agg #[.int .i64 (factV xs).num, .int .i64 (factV xs).den], .bool (factB xs)]) ∧ Below w.heap.size w w' := by
  have hz0 : Below w.heap.size w (w.alloc (.cells #[.int .i64 0, .int .i64 0] 28)) := (Below.refl _ _).alloc (Nat.le_refl _) _
  have q0 := Lib.hid (h.alloc (.cells #[.int .i64 0, .int .i64 0] 28))
  have rS := Lib.hid (Blk.new w 28 #[.int .i64 0, .int .i64 0])
  clear h
  cases hi : impB xs
  · have Hi := Lib.hid hi
    have HV := Lib.hid (factB_1 hi)
    clear hi
    go_enter Try.func18, Try.ntmps18
    go_wp2_with fail
    refine (implicit_impl A n c xs _ q0.out).mono ?_
    rw [Hi.out]
    rintro e w1 ⟨rfl, hb1⟩
    have hz1 := hz0.trans (hb1.mono hz0.size)
    replace rS := Lib.hid (rS.out.below hb1)
    clear hb1
    have r0 := rS.out.cell (i := 0) rfl
    have r1 := rS.out.cell (i := 1) rfl
    have f0 := rS.out.frozen 0
    have f1 := rS.out.frozen 1
    go_wp2
    exact bodyPost_ret (v := .tuple #[.agg #[.int .i64 0, .int .i64 0], .bool false]) (by simp [results, Try.results18, go_sem, r0, r1]) rfl ⟨by rw [HV.out.1, HV.out.2], (hz1.setCell (Nat.le_refl _) _).setCell (Nat.le_refl _) _⟩
  · have hs := imp_sv hi
    have Hi := Lib.hid hi
    cases hp : plainB xs
    · have Hp := Lib.hid hp
      have sa := Lib.hid (shr_sm (c := false) nd_low hs)
      have sb := Lib.hid (shr_sm (c := true) nd_low hs)
      have hfit := Lib.hid (fit_ab hs)
      have hful := Lib.hid (full_a hs)
      by_cases hx : loA xs + loB xs ≤ LL
      · have Hx := Lib.hid (decide_eq_true hx)
        by_cases hy : loA xs = LL
        · have HV := Lib.hid (factB_3 hi hp (Or.inr hy))
          have hab := Lib.hid (show (shr false T.low xs).num = (shr false T.low xs).den from hful.out.2 hy)
          clear hi hp hx hy hs
          go_enter Try.func18, Try.ntmps18
          go_wp2_with fail
          refine (implicit_impl A n c xs _ q0.out).mono ?_
          rw [Hi.out]
          rintro e w1 ⟨rfl, hb1⟩
          have hz1 := hz0.trans (hb1.mono hz0.size)
          replace q0 := Lib.hid (q0.out.below hb1)
          replace rS := Lib.hid (rS.out.below hb1)
          clear hb1
          go_wp2_with fail
          refine (holdsPlain_impl A n c xs w1 q0.out).mono ?_
          rw [Hp.out]
          rintro e w2 ⟨rfl, hb2⟩
          have hz2 := hz1.trans (hb2.mono hz1.size)
          replace q0 := Lib.hid (q0.out.below hb2)
          replace rS := Lib.hid (rS.out.below hb2)
          clear hb2
          go_wp2_with fail
          refine (lowShare_impl A n c xs false w2 q0.out).mono ?_
          rintro e w3 ⟨rfl, hb3⟩
          have hz3 := hz2.trans (hb3.mono hz2.size)
          replace q0 := Lib.hid (q0.out.below hb3)
          replace rS := Lib.hid (rS.out.below hb3)
          clear hb3
          go_wp2_with fail
          refine (lowShare_impl A n c xs true w3 q0.out).mono ?_
          rintro e w4 ⟨rfl, hb4⟩
          have hz4 := hz3.trans (hb4.mono hz3.size)
          replace rS := Lib.hid (rS.out.below hb4)
          clear hb4
          have rA := Lib.hid ((Blk.new w4 28 #[.int .i64 (shr false T.low xs).num, .int .i64 (shr false T.low xs).den]).alloc (.cells #[.int .i64 (shr true T.low xs).num, .int .i64 (shr true T.low xs).den] 28))
          replace rS := Lib.hid ((rS.out.alloc (.cells #[.int .i64 (shr false T.low xs).num, .int .i64 (shr false T.low xs).den] 28)).alloc (.cells #[.int .i64 (shr true T.low xs).num, .int .i64 (shr true T.low xs).den] 28))
          have hz4a := hz4.alloc hz4.size (.cells #[.int .i64 (shr false T.low xs).num, .int .i64 (shr false T.low xs).den] 28)
          have hz4b := hz4a.alloc hz4a.size (.cells #[.int .i64 (shr true T.low xs).num, .int .i64 (shr true T.low xs).den] 28)
          go_wp2_with fail
          refine (plus_any (shr false T.low xs) (shr true T.low xs) _ sa.out sb.out).mono ?_
          rintro e w5 ⟨rfl, hb5⟩
          have hz5 := hz4b.trans (hb5.mono hz4b.size)
          replace rS := Lib.hid (rS.out.below hb5)
          replace rA := Lib.hid (rA.out.below hb5)
          clear hb5
          go_wp2_with fail
          refine (fits_any (plusV (shr false T.low xs) (shr true T.low xs)) w5).mono ?_
          rw [hfit.out, Hx.out]
          rintro e w6 ⟨rfl, hb6⟩
          have hz6 := hz5.trans (hb6.mono hz5.size)
          replace rS := Lib.hid (rS.out.below hb6)
          replace rA := Lib.hid (rA.out.below hb6)
          clear hb6
          have r0 := rS.out.cell (i := 0) rfl
          have r1 := rS.out.cell (i := 1) rfl
          have f0 := rS.out.frozen 0
          have f1 := rS.out.frozen 1
          have a0 := rA.out.cell (i := 0) rfl
          have a1 := rA.out.cell (i := 1) rfl
          have hnd : ((shr false T.low xs).num == (shr false T.low xs).den) = true := by rw [hab.out]; simp
          go_wp2
          exact bodyPost_ret (v := .tuple #[.agg #[.int .i64 0, .int .i64 0], .bool false]) (by simp [results, Try.results18, go_sem, r0, r1]) rfl ⟨by rw [HV.out.1, HV.out.2], (hz6.setCell (Nat.le_refl _) _).setCell (Nat.le_refl _) _⟩
        · have HV := Lib.hid (factB_4 hi hp hx hy)
          have hlt : sc false T.low xs < LL := by
            have := (low_nonneg hs).2.1
            unfold loA at hx hy this
            omega
          obtain ⟨u1, u2, u3, u4, u5, u6⟩ := fact_bd hs nd_low nd_low hlt
          have hab := Lib.hid (show ¬ (shr false T.low xs).num = (shr false T.low xs).den from fun e => hy (hful.out.1 e))
          obtain ⟨v1, v2, v3, v4⟩ := sa.out
          have HE := Lib.hid (show red ((shr true T.low xs).num * (shr false T.low xs).den) ((shr true T.low xs).den * ((shr false T.low xs).den - (shr false T.low xs).num)) = factV xs by rw [HV.out.2]; exact u6)
          have hC := Lib.hid (fun w => reduced_any ((shr true T.low xs).num * (shr false T.low xs).den) ((shr true T.low xs).den * ((shr false T.low xs).den - (shr false T.low xs).num)) w u2 (by omega) u4 (by omega))
          rw [HE.out] at hC
          clear hi hp hx hy hs hlt u6
          go_enter Try.func18, Try.ntmps18
          go_wp2_with fail
          refine (implicit_impl A n c xs _ q0.out).mono ?_
          rw [Hi.out]
          rintro e w1 ⟨rfl, hb1⟩
          have hz1 := hz0.trans (hb1.mono hz0.size)
          replace q0 := Lib.hid (q0.out.below hb1)
          replace rS := Lib.hid (rS.out.below hb1)
          clear hb1
          go_wp2_with fail
          refine (holdsPlain_impl A n c xs w1 q0.out).mono ?_
          rw [Hp.out]
          rintro e w2 ⟨rfl, hb2⟩
          have hz2 := hz1.trans (hb2.mono hz1.size)
          replace q0 := Lib.hid (q0.out.below hb2)
          replace rS := Lib.hid (rS.out.below hb2)
          clear hb2
          go_wp2_with fail
          refine (lowShare_impl A n c xs false w2 q0.out).mono ?_
          rintro e w3 ⟨rfl, hb3⟩
          have hz3 := hz2.trans (hb3.mono hz2.size)
          replace q0 := Lib.hid (q0.out.below hb3)
          replace rS := Lib.hid (rS.out.below hb3)
          clear hb3
          go_wp2_with fail
          refine (lowShare_impl A n c xs true w3 q0.out).mono ?_
          rintro e w4 ⟨rfl, hb4⟩
          have hz4 := hz3.trans (hb4.mono hz3.size)
          replace rS := Lib.hid (rS.out.below hb4)
          clear hb4
          have rA := Lib.hid ((Blk.new w4 28 #[.int .i64 (shr false T.low xs).num, .int .i64 (shr false T.low xs).den]).alloc (.cells #[.int .i64 (shr true T.low xs).num, .int .i64 (shr true T.low xs).den] 28))
          have rB := Lib.hid (show Blk ((w4.alloc (.cells #[.int .i64 (shr false T.low xs).num, .int .i64 (shr false T.low xs).den] 28)).alloc (.cells #[.int .i64 (shr true T.low xs).num, .int .i64 (shr true T.low xs).den] 28)) (w4.heap.size + 1) 28 #[.int .i64 (shr true T.low xs).num, .int .i64 (shr true T.low xs).den] by have := Blk.new (w4.alloc (.cells #[.int .i64 (shr false T.low xs).num, .int .i64 (shr false T.low xs).den] 28)) 28 #[.int .i64 (shr true T.low xs).num, .int .i64 (shr true T.low xs).den]; simpa using this)
          replace rS := Lib.hid ((rS.out.alloc (.cells #[.int .i64 (shr false T.low xs).num, .int .i64 (shr false T.low xs).den] 28)).alloc (.cells #[.int .i64 (shr true T.low xs).num, .int .i64 (shr true T.low xs).den] 28))
          have hz4a := hz4.alloc hz4.size (.cells #[.int .i64 (shr false T.low xs).num, .int .i64 (shr false T.low xs).den] 28)
          have hz4b := hz4a.alloc hz4a.size (.cells #[.int .i64 (shr true T.low xs).num, .int .i64 (shr true T.low xs).den] 28)
          go_wp2_with fail
          refine (plus_any (shr false T.low xs) (shr true T.low xs) _ sa.out sb.out).mono ?_
          rintro e w5 ⟨rfl, hb5⟩
          have hz5 := hz4b.trans (hb5.mono hz4b.size)
          replace rS := Lib.hid (rS.out.below hb5)
          replace rA := Lib.hid (rA.out.below hb5)
          replace rB := Lib.hid (rB.out.below hb5)
          clear hb5
          go_wp2_with fail
          refine (fits_any (plusV (shr false T.low xs) (shr true T.low xs)) w5).mono ?_
          rw [hfit.out, Hx.out]
          rintro e w6 ⟨rfl, hb6⟩
          have hz6 := hz5.trans (hb6.mono hz5.size)
          replace rS := Lib.hid (rS.out.below hb6)
          replace rA := Lib.hid (rA.out.below hb6)
          replace rB := Lib.hid (rB.out.below hb6)
          clear hb6
          have a0 := rA.out.cell (i := 0) rfl
          have a1 := rA.out.cell (i := 1) rfl
          have b0 := rB.out.cell (i := 0) rfl
          have b1 := rB.out.cell (i := 1) rfl
          have hnd : ((shr false T.low xs).num == (shr false T.low xs).den) = false := by simpa using hab.out
          go_wp2_with fail
          refine (hC.out _).mono ?_
          rintro e w7 ⟨rfl, hb7⟩
          have hz7 := hz6.trans (hb7.mono hz6.size)
          replace rS := Lib.hid (rS.out.below hb7)
          clear hb7
          have r0 := rS.out.cell (i := 0) rfl
          have r1 := rS.out.cell (i := 1) rfl
          have f0 := rS.out.frozen 0
          have f1 := rS.out.frozen 1
          clear a0 a1 b0 b1
          go_wp2
          exact bodyPost_ret (v := .tuple #[.agg #[.int .i64 (factV xs).num, .int .i64 (factV xs).den], .bool true]) (by simp [results, Try.results18, go_sem, r0, r1]) rfl ⟨by rw [HV.out.1], (hz7.setCell (Nat.le_refl _) _).setCell (Nat.le_refl _) _⟩
      · have Hx := Lib.hid (decide_eq_false hx)
        have HV := Lib.hid (factB_3 hi hp (Or.inl hx))
        clear hi hp hx hs
        go_enter Try.func18, Try.ntmps18
        go_wp2_with fail
        refine (implicit_impl A n c xs _ q0.out).mono ?_
        rw [Hi.out]
        rintro e w1 ⟨rfl, hb1⟩
        have hz1 := hz0.trans (hb1.mono hz0.size)
        replace q0 := Lib.hid (q0.out.below hb1)
        replace rS := Lib.hid (rS.out.below hb1)
        clear hb1
        go_wp2_with fail
        refine (holdsPlain_impl A n c xs w1 q0.out).mono ?_
        rw [Hp.out]
        rintro e w2 ⟨rfl, hb2⟩
        have hz2 := hz1.trans (hb2.mono hz1.size)
        replace q0 := Lib.hid (q0.out.below hb2)
        replace rS := Lib.hid (rS.out.below hb2)
        clear hb2
        go_wp2_with fail
        refine (lowShare_impl A n c xs false w2 q0.out).mono ?_
        rintro e w3 ⟨rfl, hb3⟩
        have hz3 := hz2.trans (hb3.mono hz2.size)
        replace q0 := Lib.hid (q0.out.below hb3)
        replace rS := Lib.hid (rS.out.below hb3)
        clear hb3
        go_wp2_with fail
        refine (lowShare_impl A n c xs true w3 q0.out).mono ?_
        rintro e w4 ⟨rfl, hb4⟩
        have hz4 := hz3.trans (hb4.mono hz3.size)
        replace rS := Lib.hid (rS.out.below hb4)
        clear hb4
        replace rS := Lib.hid ((rS.out.alloc (.cells #[.int .i64 (shr false T.low xs).num, .int .i64 (shr false T.low xs).den] 28)).alloc (.cells #[.int .i64 (shr true T.low xs).num, .int .i64 (shr true T.low xs).den] 28))
        have hz4a := hz4.alloc hz4.size (.cells #[.int .i64 (shr false T.low xs).num, .int .i64 (shr false T.low xs).den] 28)
        have hz4b := hz4a.alloc hz4a.size (.cells #[.int .i64 (shr true T.low xs).num, .int .i64 (shr true T.low xs).den] 28)
        go_wp2_with fail
        refine (plus_any (shr false T.low xs) (shr true T.low xs) _ sa.out sb.out).mono ?_
        rintro e w5 ⟨rfl, hb5⟩
        have hz5 := hz4b.trans (hb5.mono hz4b.size)
        replace rS := Lib.hid (rS.out.below hb5)
        clear hb5
        go_wp2_with fail
        refine (fits_any (plusV (shr false T.low xs) (shr true T.low xs)) w5).mono ?_
        rw [hfit.out, Hx.out]
        rintro e w6 ⟨rfl, hb6⟩
        have hz6 := hz5.trans (hb6.mono hz5.size)
        replace rS := Lib.hid (rS.out.below hb6)
        clear hb6
        have r0 := rS.out.cell (i := 0) rfl
        have r1 := rS.out.cell (i := 1) rfl
        have f0 := rS.out.frozen 0
        have f1 := rS.out.frozen 1
        go_wp2
        exact bodyPost_ret (v := .tuple #[.agg #[.int .i64 0, .int .i64 0], .bool false]) (by simp [results, Try.results18, go_sem, r0, r1]) rfl ⟨by rw [HV.out.1, HV.out.2], (hz6.setCell (Nat.le_refl _) _).setCell (Nat.le_refl _) _⟩
    · have Hp := Lib.hid hp
      have HV := Lib.hid (factB_2 hi hp)
      clear hi hp hs
      go_enter Try.func18, Try.ntmps18
      go_wp2_with fail
      refine (implicit_impl A n c xs _ q0.out).mono ?_
      rw [Hi.out]
      rintro e w1 ⟨rfl, hb1⟩
      have hz1 := hz0.trans (hb1.mono hz0.size)
      replace q0 := Lib.hid (q0.out.below hb1)
      replace rS := Lib.hid (rS.out.below hb1)
      clear hb1
      go_wp2_with fail
      refine (holdsPlain_impl A n c xs w1 q0.out).mono ?_
      rw [Hp.out]
      rintro e w2 ⟨rfl, hb2⟩
      have hz2 := hz1.trans (hb2.mono hz1.size)
      replace rS := Lib.hid (rS.out.below hb2)
      clear hb2
      have r0 := rS.out.cell (i := 0) rfl
      have r1 := rS.out.cell (i := 1) rfl
      have f0 := rS.out.frozen 0
      have f1 := rS.out.frozen 1
      go_wp2
      exact bodyPost_ret (v := .tuple #[.agg #[.int .i64 1, .int .i64 1], .bool true]) (by simp [results, Try.results18, go_sem, r0, r1]) rfl ⟨by rw [HV.out.1, HV.out.2], (hz2.setCell (Nat.le_refl _) _).setCell (Nat.le_refl _) _⟩


theorem virtB_1 {xs : List T} (h : factB xs = false) : virtB xs = false := by simp [virtB, h]
theorem virtB_2 {xs : List T} (h : factB xs = true) (hp : plainB xs = true) : virtB xs = true := by simp [virtB, h, hp]
theorem fact_imp {xs : List T} (h : factB xs = true) : impB xs = true := by
  simp only [factB, Bool.and_eq_true] at h; exact h.1
theorem plain_imp {xs : List T} (h : plainB xs = true) : impB xs = true := by
  simp only [plainB, Bool.and_eq_true] at h; exact h.1
theorem plain_fact {xs : List T} (h : plainB xs = true) : factB xs = true := (factB_2 (plain_imp h) h).1
theorem fact_lt {xs : List T} (h : factB xs = true) (hp : plainB xs = false) : loA xs + loB xs ≤ LL ∧ loA xs < LL ∧ factV xs = red (loB xs) (LL - loA xs) := by
  have hi := fact_imp h
  by_cases hx : loA xs + loB xs ≤ LL
  · by_cases hy : loA xs = LL
    · rw [(factB_3 hi hp (Or.inr hy)).1] at h; cases h
    · have := (low_nonneg (imp_sv hi)).2.1
      exact ⟨hx, by omega, (factB_4 hi hp hx hy).2⟩
  · rw [(factB_3 hi hp (Or.inl hx)).1] at h; cases h
theorem virtB_3 {xs : List T} (h : factB xs = true) (hp : plainB xs = false) :
    Sm (factV xs) ∧ Sm (timesV (factV xs) (shr false T.low xs)) ∧ Sm (plusV (timesV (factV xs) (shr false T.low xs)) (shr true T.high xs)) ∧
    decide ((plusV (timesV (factV xs) (shr false T.low xs)) (shr true T.high xs)).num ≤ (plusV (timesV (factV xs) (shr false T.low xs)) (shr true T.high xs)).den) = virtB xs := by
  obtain ⟨h1, h2, h3⟩ := fact_lt h hp
  have hs := imp_sv (fact_imp h)
  have hn := low_nonneg hs
  obtain ⟨v1, v2, v3, v4⟩ := virt_bd (f := T.low) (g := T.low) (u := T.high) hs nd_low nd_low nd_high h2
  rw [h3]
  unfold loA loB hiH at *
  refine ⟨v1, v2, v3, ?_⟩
  rw [v4, fits_red ?_ (mul_ge_one LL_pos (by omega))]
  · unfold virtB loA loB hiH
    rw [h, hp, Bool.true_and, Bool.false_or]
  · exact Int.add_nonneg (Int.mul_nonneg hn.2.1 hn.1) (Int.mul_nonneg hn.2.2 (by omega))
theorem factV_sm {xs : List T} (h : factB xs = true) : Sm (factV xs) ∧ red (factV xs).num (factV xs).den = factV xs := by
  cases hp : plainB xs
  · obtain ⟨h1, h2, h3⟩ := fact_lt h hp
    have hn := low_nonneg (imp_sv (fact_imp h))
    refine ⟨(virtB_3 h hp).1, ?_⟩
    rw [h3]
    exact red_idem hn.2.1 (by omega)
  · rw [(factB_2 (plain_imp hp) hp).2]
    exact ⟨⟨by decide, by decide, by decide, by decide⟩, red_one⟩

set_option maxRecDepth 100000 in
set_option maxHeartbeats 6400000 in
theorem holdsVirtual_impl (A : Option Addr) (n c : Nat) (xs : List T) (w : World) (h : RdT w A n c xs) :
    Calls Try.prog 14 #[.slice A n c] w fun e w' => e = .returned (.bool (virtB xs)) ∧ Below w.heap.size w w' := by
  have hz0 := Below.refl w.heap.size w
  have q0 := Lib.hid h
  clear h
  cases hf : factB xs
  · have Hf := Lib.hid hf
    have HV := Lib.hid (virtB_1 hf)
    clear hf
    go_enter Try.func14, Try.ntmps14
    go_wp2_with fail
    refine (factorOf_impl A n c xs w q0.out).mono ?_
    rw [Hf.out]
    rintro e w1 ⟨rfl, hb1⟩
    have hz1 := hz0.trans (hb1.mono hz0.size)
    clear hb1
    have hz1a := hz1.alloc hz1.size (.cells #[.int .i64 (factV xs).num, .int .i64 (factV xs).den] 28)
    go_wp2_with fail
    go_quiet (fail)
    go_wp2
    go_ret
    exact ⟨ret_bool HV.out.symm, ⟨hz1a.os, hz1a.tape, hz1a.output, hz1a.size, hz1a.block⟩⟩
  · have Hf := Lib.hid hf
    cases hp : plainB xs
    · have Hp := Lib.hid hp
      obtain ⟨v1, v2, v3, v4⟩ := virtB_3 hf hp
      have sa := shr_sm (c := false) nd_low (imp_sv (fact_imp hf))
      have sh := shr_sm (c := true) nd_high (imp_sv (fact_imp hf))
      have HV := Lib.hid v4
      have hT := Lib.hid (fun w => times_any (factV xs) (shr false T.low xs) w v1 sa)
      have hU := Lib.hid (fun w => plus_any (timesV (factV xs) (shr false T.low xs)) (shr true T.high xs) w v2 sh)
      have hF := Lib.hid (fun w => fits_any (plusV (timesV (factV xs) (shr false T.low xs)) (shr true T.high xs)) w)
      rw [HV.out] at hF
      clear hf hp v1 v2 v3 v4 sa sh HV
      go_enter Try.func14, Try.ntmps14
      go_wp2_with fail
      refine (factorOf_impl A n c xs w q0.out).mono ?_
      rw [Hf.out]
      rintro e w1 ⟨rfl, hb1⟩
      have hz1 := hz0.trans (hb1.mono hz0.size)
      replace q0 := Lib.hid (q0.out.below hb1)
      clear hb1
      have q1 := q0.out.alloc (.cells #[.int .i64 (factV xs).num, .int .i64 (factV xs).den] 28)
      have hP := Lib.hid (fun dd os => Calls.regrown_of (holdsPlain_impl A n c xs _ (q1.regrown dd os)))
      rw [Hp.out] at hP
      have hL := Lib.hid (fun dd os => Calls.regrown_of (lowShare_impl A n c xs false _ (q1.regrown dd os)))
      have hH := Lib.hid (fun dd os => Calls.regrown_of (highShare_impl A n c xs _ (q1.regrown dd os)))
      have E0 := cell_new_regrown w1 #[.int .i64 (factV xs).num, .int .i64 (factV xs).den] 28 0 _ rfl
      have E1 := cell_new_regrown w1 #[.int .i64 (factV xs).num, .int .i64 (factV xs).den] 28 1 _ rfl
      have hz1a := hz1.alloc hz1.size (.cells #[.int .i64 (factV xs).num, .int .i64 (factV xs).den] 28)
      clear q1
      go_wp2_with fail
      refine wp_region_quiet_below (by kernel_rfl) (by kernel_rfl) ?_
      repeat (go_big_quiet_step ((first | (go_at_call 39; exact hP.out _ _) | (go_at_call 29; exact hL.out _ _) | (go_at_call 32; exact hH.out _ _) | (go_at_call 46; exact Calls.regrown_of (hT.out _)) | (go_at_call 45; exact Calls.regrown_of (hU.out _)) | (go_at_call 44; exact Calls.regrown_of (hF.out _)))))
      refine wpQuiet_nil ?_
      intro w2 hwq
      have hbq := below_of_regrown hwq
      clear hwq
      go_wp2
      go_ret
      exact ⟨rfl, hz1a.trans (hbq.mono hz1a.size)⟩
    · have Hp := Lib.hid hp
      have HV := Lib.hid (virtB_2 hf hp)
      clear hf hp
      go_enter Try.func14, Try.ntmps14
      go_wp2_with fail
      refine (factorOf_impl A n c xs w q0.out).mono ?_
      rw [Hf.out]
      rintro e w1 ⟨rfl, hb1⟩
      have hz1 := hz0.trans (hb1.mono hz0.size)
      replace q0 := Lib.hid (q0.out.below hb1)
      clear hb1
      have q1 := q0.out.alloc (.cells #[.int .i64 (factV xs).num, .int .i64 (factV xs).den] 28)
      have hP := Lib.hid (fun dd os => Calls.regrown_of (holdsPlain_impl A n c xs _ (q1.regrown dd os)))
      rw [Hp.out] at hP
      have hz1a := hz1.alloc hz1.size (.cells #[.int .i64 (factV xs).num, .int .i64 (factV xs).den] 28)
      clear q1
      go_wp2_with fail
      refine wp_region_quiet_below (by kernel_rfl) (by kernel_rfl) ?_
      repeat (go_big_quiet_step ((first | (go_at_call 39; exact hP.out _ _))))
      refine wpQuiet_nil ?_
      intro w2 hwq
      have hbq := below_of_regrown hwq
      clear hwq
      go_wp2
      go_ret
      exact ⟨ret_bool HV.out.symm, hz1a.trans (hbq.mono hz1a.size)⟩

theorem loadV_no {xs : List T} (h : svB xs = false) : loadV xs = ⟨0, 0⟩ := by simp [loadV, h]
theorem loadV_1 {xs : List T} (h : svB xs = true) (hx : loA xs + loB xs < hiH xs) : loadV xs = shr true T.high xs := by
  simp only [loadV, h, if_true, hx]; rw [shr_sc nd_high h]; rfl
theorem loadV_2 {xs : List T} (h : svB xs = true) (hx : ¬ loA xs + loB xs < hiH xs) : loadV xs = plusV (shr false T.low xs) (shr true T.low xs) := by
  simp only [loadV, h, if_true, hx, if_false]; rw [plus_shr h nd_low nd_low]; rfl
theorem load_lt {xs : List T} (h : svB xs = true) : (plusV (shr false T.low xs) (shr true T.low xs)).num * (shr true T.high xs).den < (shr true T.high xs).num * (plusV (shr false T.low xs) (shr true T.low xs)).den ↔ loA xs + loB xs < hiH xs := by
  have hn := low_nonneg h
  rw [plus_shr h nd_low nd_low, shr_sc nd_high h]
  unfold loA loB hiH at *
  rw [red_lt (by omega) LL_pos hn.2.2 LL_pos]
  have hL := LL_pos
  constructor
  · intro h1; exact Int.lt_of_mul_lt_mul_right h1 (by omega)
  · intro h1; exact Int.mul_lt_mul_of_pos_right h1 (by omega)

set_option maxRecDepth 100000 in
set_option maxHeartbeats 6400000 in
theorem loadOf_impl (A : Option Addr) (n c : Nat) (xs : List T) (w : World) (h : RdT w A n c xs) :
    Calls Try.prog 26 #[.slice A n c] w fun e w' => e = .returned (.tuple #[.agg #[.int .i64 (loadV xs).num, .int .i64 (loadV xs).den], .bool (svB xs)]) ∧ Below w.heap.size w w' := by
  have hz0 : Below w.heap.size w (w.alloc (.cells #[.int .i64 0, .int .i64 0] 28)) := (Below.refl _ _).alloc (Nat.le_refl _) _
  have q0 := Lib.hid (h.alloc (.cells #[.int .i64 0, .int .i64 0] 28))
  have rS := Lib.hid (Blk.new w 28 #[.int .i64 0, .int .i64 0])
  clear h
  cases hs : svB xs
  · have Hs := Lib.hid hs
    have HV := Lib.hid (loadV_no hs)
    clear hs
    go_enter Try.func26, Try.ntmps26
    go_wp2_with fail
    refine (setValid_impl A n c xs _ q0.out).mono ?_
    rw [Hs.out]
    rintro e w1 ⟨rfl, hb1⟩
    have hz1 := hz0.trans (hb1.mono hz0.size)
    replace rS := Lib.hid (rS.out.below hb1)
    clear hb1
    have r0 := rS.out.cell (i := 0) rfl
    have r1 := rS.out.cell (i := 1) rfl
    have f0 := rS.out.frozen 0
    have f1 := rS.out.frozen 1
    go_wp2
    exact bodyPost_ret (v := .tuple #[.agg #[.int .i64 0, .int .i64 0], .bool false]) (by simp [results, Try.results26, go_sem, r0, r1]) rfl ⟨by rw [HV.out], (hz1.setCell (Nat.le_refl _) _).setCell (Nat.le_refl _) _⟩
  · have Hs := Lib.hid hs
    have sa := Lib.hid (shr_sm (c := false) nd_low hs)
    have sb := Lib.hid (shr_sm (c := true) nd_low hs)
    obtain ⟨sh1, sh2, sh3, sh4⟩ := shr_sm (c := true) nd_high hs
    obtain ⟨sp1, sp2, sp3, sp4⟩ := plus_sm (f := T.low) (g := T.low) hs nd_low nd_low
    obtain ⟨p1, p2⟩ := sm_mul (a := (plusV (shr false T.low xs) (shr true T.low xs)).num) (b := (shr true T.high xs).den) sp1 sp2 (by omega) sh4
    obtain ⟨p3, p4⟩ := sm_mul (a := (shr true T.high xs).num) (b := (plusV (shr false T.low xs) (shr true T.low xs)).den) sh1 sh2 (by omega) sp4
    have hlt := load_lt hs
    have hL1 := Lib.hid (fun h => loadV_1 (xs := xs) hs h)
    have hL2 := Lib.hid (fun h => loadV_2 (xs := xs) hs h)
    clear hs
    by_cases hx : loA xs + loB xs < hiH xs
    all_goals
      first
        | (have hq := hlt.2 hx; have HV := Lib.hid (hL1.out hx))
        | (have hq := fun e => hx (hlt.1 e); have HV := Lib.hid (hL2.out hx))
      clear hx hlt hL1 hL2
      go_enter Try.func26, Try.ntmps26
      go_wp2_with fail
      refine (setValid_impl A n c xs _ q0.out).mono ?_
      rw [Hs.out]
      rintro e w1 ⟨rfl, hb1⟩
      have hz1 := hz0.trans (hb1.mono hz0.size)
      replace q0 := Lib.hid (q0.out.below hb1)
      replace rS := Lib.hid (rS.out.below hb1)
      clear hb1
      go_wp2_with fail
      refine (lowShare_impl A n c xs false w1 q0.out).mono ?_
      rintro e w2 ⟨rfl, hb2⟩
      have hz2 := hz1.trans (hb2.mono hz1.size)
      replace q0 := Lib.hid (q0.out.below hb2)
      replace rS := Lib.hid (rS.out.below hb2)
      clear hb2
      go_wp2_with fail
      refine (lowShare_impl A n c xs true w2 q0.out).mono ?_
      rintro e w3 ⟨rfl, hb3⟩
      have hz3 := hz2.trans (hb3.mono hz2.size)
      replace q0 := Lib.hid (q0.out.below hb3)
      replace rS := Lib.hid (rS.out.below hb3)
      clear hb3
      go_wp2_with fail
      refine (plus_any (shr false T.low xs) (shr true T.low xs) w3 sa.out sb.out).mono ?_
      rintro e w4 ⟨rfl, hb4⟩
      have hz4 := hz3.trans (hb4.mono hz3.size)
      replace q0 := Lib.hid (q0.out.below hb4)
      replace rS := Lib.hid (rS.out.below hb4)
      clear hb4
      go_wp2_with fail
      refine (highShare_impl A n c xs w4 q0.out).mono ?_
      rintro e w5 ⟨rfl, hb5⟩
      have hz5 := hz4.trans (hb5.mono hz4.size)
      replace rS := Lib.hid (rS.out.below hb5)
      clear hb5
      have r0 := rS.out.cell (i := 0) rfl
      have r1 := rS.out.cell (i := 1) rfl
      have f0 := rS.out.frozen 0
      have f1 := rS.out.frozen 1
      have hlz := rS.out.lt
      generalize plusV (shr false T.low xs) (shr true T.low xs) = p at *
      generalize (shr true T.high xs) = u at *
      go_wp2
      exact bodyPost_ret (v := .tuple #[.agg #[.int .i64 (loadV xs).num, .int .i64 (loadV xs).den], .bool true]) (by simp [results, Try.results26, go_sem, r0, r1, HV.out, hlz]) rfl ⟨rfl, (fun X => (fun Y => Below.alloc Y Y.size _) (Below.alloc X X.size _)) ((hz5.setCell (Nat.le_refl _) _).setCell (Nat.le_refl _) _)⟩

end Go.Proofs.Ytdafioafbgkilaa
