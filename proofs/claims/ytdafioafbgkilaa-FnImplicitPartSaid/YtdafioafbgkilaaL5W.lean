/- The contract of HoldsVirtual, of the reference. No condition. -/
import Derived.Test.YtdafioafbgkilaaL5V
namespace Go.Proofs.Ytdafioafbgkilaa
open Go.RowKit
set_option linter.unusedVariables false

theorem timesV_is {a b : S} (ha : Sm a) (hb : Sm b) (h : Sm (timesV a b)) : isShare (timesV a b) := by
  obtain ⟨a1, a2, a3, a4⟩ := ha
  obtain ⟨b1, b2, b3, b4⟩ := hb
  obtain ⟨h1, h2, h3, h4⟩ := h
  refine ⟨h1, h2, h3, h4, ?_⟩
  unfold timesV
  exact red_idem (Int.mul_nonneg a1 b1) (mul_ge_one a3 b3)

set_option maxRecDepth 100000 in
set_option maxHeartbeats 12800000 in
theorem holdsVirtual_spec (A : Option Addr) (n c : Nat) (xs : List T) (w : World) (h : RdT w A n c xs) :
    Calls Try.prog 15 #[.slice A n c] w fun e w' => e = .returned (.bool (virtB xs)) ∧ Below w.heap.size w w' := by
  have hz0 := Below.refl w.heap.size w
  have q0 := Lib.hid h
  clear h
  cases hf : factB xs
  · have Hf := Lib.hid hf
    have HV := Lib.hid (virtB_1 hf)
    clear hf
    go_enter Try.func15, Try.ntmps15
    go_wp2_with fail
    refine (factorOf_spec A n c xs w q0.out).mono ?_
    rw [Hf.out]
    rintro e w1 ⟨rfl, hb1⟩
    have hz1 := hz0.trans (hb1.mono hz0.size)
    clear hb1
    have hz1a := hz1.alloc hz1.size (.cells #[.int .i64 (factV xs).num, .int .i64 (factV xs).den] 28)
    go_wp2
    go_ret
    exact ⟨ret_bool HV.out.symm, hz1a⟩
  · have Hf := Lib.hid hf
    cases hp : plainB xs
    · have Hp := Lib.hid hp
      obtain ⟨v1, v2, v3, v4⟩ := virtB_3 hf hp
      have sa := shr_sm (c := false) nd_low (imp_sv (fact_imp hf))
      have sh := shr_sm (c := true) nd_high (imp_sv (fact_imp hf))
      have hi := timesV_is v1 sa v2
      have ip := Lib.hid (plusV_is v2 sh v3)
      have HV := Lib.hid v4
      have hM := Lib.hid (fun w => makeShare_spec (timesV (factV xs) (shr false T.low xs)).num (timesV (factV xs) (shr false T.low xs)).den w hi.1 hi.2.1 hi.2.2.1 hi.2.2.2.1)
      rw [hi.2.2.2.2] at hM
      have hU := Lib.hid (fun w => l2Add_any (timesV (factV xs) (shr false T.low xs)) (shr true T.high xs) w v2 sh v3)
      have hCm := Lib.hid (fun w => compare_one (plusV (timesV (factV xs) (shr false T.low xs)) (shr true T.high xs)) w ip.out)
      obtain ⟨x1, x2, x3, x4⟩ := v1
      obtain ⟨a1, a2, a3, a4⟩ := sa
      obtain ⟨p1, p2⟩ := sm_mul (a := (factV xs).num) (b := (shr false T.low xs).num) x1 x2 a1 a2
      obtain ⟨_, r2⟩ := sm_mul (a := (factV xs).den) (b := (shr false T.low xs).den) (by omega) x4 (by omega) a4
      have r1 := mul_ge_one x3 a3
      have e1 : timesV (factV xs) (shr false T.low xs) = ⟨(factV xs).num * (shr false T.low xs).num / gcdI ((factV xs).den * (shr false T.low xs).den) ((factV xs).num * (shr false T.low xs).num), (factV xs).den * (shr false T.low xs).den / gcdI ((factV xs).den * (shr false T.low xs).den) ((factV xs).num * (shr false T.low xs).num)⟩ := red_gcd' _ _
      replace e1 := Lib.hid e1
      have hh := gcdI_pos' (b := (factV xs).num * (shr false T.low xs).num) r1
      have hC2 := Lib.hid (fun w => l1Gcd_any ((factV xs).den * (shr false T.low xs).den) ((factV xs).num * (shr false T.low xs).num) w (by omega) p1)
      clear hf hp v2 v3 v4 sh hi
      go_enter Try.func15, Try.ntmps15
      go_wp2_with fail
      refine (factorOf_spec A n c xs w q0.out).mono ?_
      rw [Hf.out]
      rintro e w1 ⟨rfl, hb1⟩
      have hz1 := hz0.trans (hb1.mono hz0.size)
      replace q0 := Lib.hid (q0.out.below hb1)
      clear hb1
      have rX := Lib.hid (Blk.new w1 28 #[.int .i64 (factV xs).num, .int .i64 (factV xs).den])
      replace q0 := Lib.hid (q0.out.alloc (.cells #[.int .i64 (factV xs).num, .int .i64 (factV xs).den] 28))
      have hz1a := hz1.alloc hz1.size (.cells #[.int .i64 (factV xs).num, .int .i64 (factV xs).den] 28)
      go_wp2_with fail
      refine (holdsPlain_spec A n c xs _ q0.out).mono ?_
      rw [Hp.out]
      rintro e w2 ⟨rfl, hb2⟩
      have hz2 := hz1a.trans (hb2.mono hz1a.size)
      replace q0 := Lib.hid (q0.out.below hb2)
      replace rX := Lib.hid (rX.out.below hb2)
      clear hb2
      go_wp2_with fail
      refine (lowShare_spec A n c xs false w2 q0.out).mono ?_
      rintro e w3 ⟨rfl, hb3⟩
      have hz3 := hz2.trans (hb3.mono hz2.size)
      replace q0 := Lib.hid (q0.out.below hb3)
      replace rX := Lib.hid (rX.out.below hb3)
      clear hb3
      have rA := Lib.hid (Blk.new w3 28 #[.int .i64 (shr false T.low xs).num, .int .i64 (shr false T.low xs).den])
      replace rX := Lib.hid (rX.out.alloc (.cells #[.int .i64 (shr false T.low xs).num, .int .i64 (shr false T.low xs).den] 28))
      replace q0 := Lib.hid (q0.out.alloc (.cells #[.int .i64 (shr false T.low xs).num, .int .i64 (shr false T.low xs).den] 28))
      have hz3a := hz3.alloc hz3.size (.cells #[.int .i64 (shr false T.low xs).num, .int .i64 (shr false T.low xs).den] 28)
      generalize timesV (factV xs) (shr false T.low xs) = t at *
      generalize shr false T.low xs = a at *
      generalize factV xs = x at *
      generalize hNN : x.num * a.num = NN at *
      generalize hDD : x.den * a.den = DD at *
      generalize gcdI DD NN = h at *
      have x0 := rX.out.cell (i := 0) rfl
      have x1' := rX.out.cell (i := 1) rfl
      have xl := rX.out.lt
      have b0 := rA.out.cell (i := 0) rfl
      have b1 := rA.out.cell (i := 1) rfl
      go_wp2_with fail
      refine (hC2.out _).mono ?_
      rintro e w4 ⟨rfl, hb4⟩
      have hz4 := hz3a.trans (hb4.mono hz3a.size)
      replace q0 := Lib.hid (q0.out.below hb4)
      clear hb4 x0 x1' xl b0 b1 hNN hDD rX rA
      have hDD0 : 0 ≤ DD := by omega
      have k7 : wrap64 (NN.tdiv h) = t.num := by rw [wrap_quo p1 (by omega) hh, e1.out]
      have k8 : wrap64 (DD.tdiv h) = t.den := by rw [wrap_quo (by omega) (by omega) hh, e1.out]
      have m7 : IntKind.i64.wrap (NN.tdiv h) = t.num := (wrap_i64_eq _).trans k7
      have m8 : IntKind.i64.wrap (DD.tdiv h) = t.den := (wrap_i64_eq _).trans k8
      have hh0 : ¬ h = 0 := by omega
      go_upto_region 10 with fail
      go_cut [9, 10] (fun s9 s10 wx => ∃ g : Nat, s9 = .pointer (some ⟨g, 0, none⟩) ∧ s10 = .bool true ∧ Blk wx g 28 #[.int .i64 t.num, .int .i64 t.den] ∧ Below w.heap.size w wx ∧ Below w4.heap.size w4 wx)
      case first =>
        go_region_with (first | (go_at_call 50; (try simp only [k7, k8, m7, m8]); refine (hM.out _).mono ?_; rintro e w5 ⟨rfl, hb5⟩; (try (have d0 := (hb5.cell (p := ⟨w4.heap.size, 0, none⟩) (by simp)).trans (World.cell?_alloc_at (w := w4) #[.int .i64 0, .int .i64 0] 28 w4.heap.size 0 rfl); have d1 := (hb5.cell (p := ⟨w4.heap.size, 1, none⟩) (by simp)).trans (World.cell?_alloc_at (w := w4) #[.int .i64 0, .int .i64 0] 28 w4.heap.size 1 rfl); have f0 := (hb5.frozen (p := ⟨w4.heap.size, 0, none⟩) (by simp)).trans (World.frozen?_alloc_at (w := w4) #[.int .i64 0, .int .i64 0] 28 w4.heap.size 0 rfl); have f1 := (hb5.frozen (p := ⟨w4.heap.size, 1, none⟩) (by simp)).trans (World.frozen?_alloc_at (w := w4) #[.int .i64 0, .int .i64 0] 28 w4.heap.size 1 rfl))))) 
        all_goals
          go_wp2_with fail
          go_meet
          first
            | (have hb : Below w4.heap.size w4 w5 := ⟨hb5.os, hb5.tape, hb5.output, hb5.size, hb5.block⟩
               exact ⟨_, rfl, rfl, Blk.new w5 _ _, (hz4.trans (hb.mono hz4.size)).alloc (Nat.le_trans hz4.size hb.size) _, hb.alloc hb.size _⟩)
            | (have hb : Below (w4.alloc (.cells #[.int .i64 0, .int .i64 0] 28)).heap.size (w4.alloc (.cells #[.int .i64 0, .int .i64 0] 28)) w5 := ⟨hb5.os, hb5.tape, hb5.output, hb5.size, hb5.block⟩
               have hb0 : Below w4.heap.size w4 w5 := ((Below.refl _ _).alloc (Nat.le_refl _) _).trans (hb.mono (by simp))
               have hk := (((Blk.new w4 28 #[.int .i64 0, .int .i64 0]).below hb).set_ 0 (.int .i64 t.num)).set_ 1 (.int .i64 t.den)
               exact ⟨_, rfl, rfl, hk, ((hz4.trans (hb0.mono hz4.size)).setCell hz4.size _).setCell hz4.size _, (hb0.setCell (Nat.le_refl _) _).setCell (Nat.le_refl _) _⟩)
      case rest =>
        obtain ⟨g, rfl, rfl, rP, hz6, hb46⟩ := hcut
        clear k7 k8 m7 m8 e1
        replace q0 := Lib.hid (q0.out.below hb46)
        have rT := Lib.hid rP
        have P0 := rP.cell (i := 0) rfl
        have P1 := rP.cell (i := 1) rfl
        have Plt := rP.lt
        clear rP hb46
        have qd := Lib.hid (q0.out.drew)
        have qa := Lib.hid ((q0.out.alloc (.cells #[.int .i64 0, .int .i64 0] 28)).drew)
        generalize hu : shr true T.high xs = u at *
        replace hu := Lib.hid hu
        generalize plusV t u = s at *
        go_upto_region 11 with fail
        go_cut [11, 12] (fun s11 s12 wx => ∃ g : Nat, s11 = .pointer (some ⟨g, 0, none⟩) ∧ s12 = .bool true ∧ Blk wx g 28 #[.int .i64 s.num, .int .i64 s.den] ∧ Below w.heap.size w wx)
        case first =>
          go_region_with (first
            | (go_at_call 52; first
                | (refine (highShare_spec A n c xs _ qd.out).mono ?_; rw [hu.out]; rintro e w7 ⟨rfl, hb7⟩; have d0 := (hb7.cell (p := ⟨g, 0, none⟩) Plt).trans P0; have d1 := (hb7.cell (p := ⟨g, 1, none⟩) Plt).trans P1; have dlt : g < w7.heap.size := Nat.lt_of_lt_of_le Plt hb7.size)
                | (refine (highShare_spec A n c xs _ qa.out).mono ?_; rw [hu.out]; rintro e w7 ⟨rfl, hb7⟩; have d0 := (hb7.cell (p := ⟨g, 0, none⟩) (Nat.lt_of_lt_of_le Plt (by simp))).trans ((World.cell?_alloc_past (w := wc) (.cells #[.int .i64 0, .int .i64 0] 28) _ _ Plt).trans P0); have d1 := (hb7.cell (p := ⟨g, 1, none⟩) (Nat.lt_of_lt_of_le Plt (by simp))).trans ((World.cell?_alloc_past (w := wc) (.cells #[.int .i64 0, .int .i64 0] 28) _ _ Plt).trans P1); have nc0 := (hb7.cell (p := ⟨wc.heap.size, 0, none⟩) (by simp)).trans (World.cell?_alloc_at (w := wc) #[.int .i64 0, .int .i64 0] 28 wc.heap.size 0 rfl); have nf0 := (hb7.frozen (p := ⟨wc.heap.size, 0, none⟩) (by simp)).trans (World.frozen?_alloc_at (w := wc) #[.int .i64 0, .int .i64 0] 28 wc.heap.size 0 rfl); have nc1 := (hb7.cell (p := ⟨wc.heap.size, 1, none⟩) (by simp)).trans (World.cell?_alloc_at (w := wc) #[.int .i64 0, .int .i64 0] 28 wc.heap.size 1 rfl); have nf1 := (hb7.frozen (p := ⟨wc.heap.size, 1, none⟩) (by simp)).trans (World.frozen?_alloc_at (w := wc) #[.int .i64 0, .int .i64 0] 28 wc.heap.size 1 rfl); have nlt : wc.heap.size < w7.heap.size := Nat.lt_of_lt_of_le (by simp) hb7.size; have dlt : g < w7.heap.size := Nat.lt_trans Plt nlt))
            | (go_at_call 51; refine (hU.out _).mono ?_; rintro e w8 ⟨rfl, hb8⟩; first
                | (have mc0 := (hb8.cell (p := ⟨wc.heap.size, 0, none⟩) nlt).trans nc0; have mc1 := (hb8.cell (p := ⟨wc.heap.size, 1, none⟩) nlt).trans nc1; have mf0 := (hb8.frozen (p := ⟨wc.heap.size, 0, none⟩) nlt).trans nf0; have mf1 := (hb8.frozen (p := ⟨wc.heap.size, 1, none⟩) nlt).trans nf1)
                | (have mc0 := (hb8.cell (p := ⟨w7.heap.size, 0, none⟩) (by simp)).trans (World.cell?_alloc_at (w := w7) #[.int .i64 0, .int .i64 0] 28 w7.heap.size 0 rfl); have mf0 := (hb8.frozen (p := ⟨w7.heap.size, 0, none⟩) (by simp)).trans (World.frozen?_alloc_at (w := w7) #[.int .i64 0, .int .i64 0] 28 w7.heap.size 0 rfl); have mc1 := (hb8.cell (p := ⟨w7.heap.size, 1, none⟩) (by simp)).trans (World.cell?_alloc_at (w := w7) #[.int .i64 0, .int .i64 0] 28 w7.heap.size 1 rfl); have mf1 := (hb8.frozen (p := ⟨w7.heap.size, 1, none⟩) (by simp)).trans (World.frozen?_alloc_at (w := w7) #[.int .i64 0, .int .i64 0] 28 w7.heap.size 1 rfl))
                | skip))
          all_goals
            go_wp2_with fail
            go_meet
            first
              | (have h7 : Below wc.heap.size wc w7 := ⟨hb7.os, hb7.tape, hb7.output, hb7.size, hb7.block⟩
                 first
                   | (have h8 : Below w7.heap.size w7 w8 := ⟨hb8.os, hb8.tape, hb8.output, hb8.size, hb8.block⟩
                      have h78 := h7.trans (h8.mono h7.size)
                      exact ⟨_, rfl, rfl, Blk.new w8 _ _, (hz6.trans (h78.mono hz6.size)).alloc (Nat.le_trans hz6.size h78.size) _⟩)
                   | (have h8 : Below (w7.alloc (.cells #[.int .i64 0, .int .i64 0] 28)).heap.size (w7.alloc (.cells #[.int .i64 0, .int .i64 0] 28)) w8 := ⟨hb8.os, hb8.tape, hb8.output, hb8.size, hb8.block⟩
                      have h80 : Below w7.heap.size w7 w8 := ((Below.refl _ _).alloc (Nat.le_refl _) _).trans (h8.mono (by simp))
                      have h78 := h7.trans (h80.mono h7.size)
                      have hk := (((Blk.new w7 28 #[.int .i64 0, .int .i64 0]).below h8).set_ 0 (.int .i64 s.num)).set_ 1 (.int .i64 s.den)
                      have hs7 : w.heap.size ≤ w7.heap.size := Nat.le_trans hz6.size h7.size
                      exact ⟨_, rfl, rfl, hk, ((hz6.trans (h78.mono hz6.size)).setCell hs7 _).setCell hs7 _⟩))
              | (have h7 : Below (wc.alloc (.cells #[.int .i64 0, .int .i64 0] 28)).heap.size (wc.alloc (.cells #[.int .i64 0, .int .i64 0] 28)) w7 := ⟨hb7.os, hb7.tape, hb7.output, hb7.size, hb7.block⟩
                 have h8 : Below w7.heap.size w7 w8 := ⟨hb8.os, hb8.tape, hb8.output, hb8.size, hb8.block⟩
                 have hb := h7.trans (h8.mono h7.size)
                 have h0 : Below wc.heap.size wc w8 := ((Below.refl _ _).alloc (Nat.le_refl _) _).trans (hb.mono (by simp))
                 have hk := (((Blk.new wc 28 #[.int .i64 0, .int .i64 0]).below hb).set_ 0 (.int .i64 s.num)).set_ 1 (.int .i64 s.den)
                 exact ⟨_, rfl, rfl, hk, ((hz6.trans (h0.mono hz6.size)).setCell hz6.size _).setCell hz6.size _⟩)
        case rest =>
          obtain ⟨g2, rfl, rfl, rS, hz9⟩ := hcut
          have S0 := cell_regrown (rS.cell (i := 0) rfl)
          have S1 := cell_regrown (rS.cell (i := 1) rfl)
          clear P0 P1 Plt rS
          go_wp2_with fail
          refine wp_region_quiet_below (by kernel_rfl) (by kernel_rfl) ?_
          repeat (go_big_quiet_step ((first | (go_at_call 54; exact Calls.regrown_of (l5One_any _)) | (go_at_call 53; exact Calls.regrown_of (hCm.out _)))))
          refine wpQuiet_nil ?_
          intro w10 hwq
          have hbq := below_of_regrown hwq
          clear hwq
          go_wp2
          go_ret
          exact ⟨ret_bool ((cmp_le _ _).trans HV.out), hz9.trans (hbq.mono hz9.size)⟩
    · have Hp := Lib.hid hp
      have HV := Lib.hid (virtB_2 hf hp)
      clear hf hp
      go_enter Try.func15, Try.ntmps15
      go_wp2_with fail
      refine (factorOf_spec A n c xs w q0.out).mono ?_
      rw [Hf.out]
      rintro e w1 ⟨rfl, hb1⟩
      have hz1 := hz0.trans (hb1.mono hz0.size)
      replace q0 := Lib.hid (q0.out.below hb1)
      clear hb1
      replace q0 := Lib.hid (q0.out.alloc (.cells #[.int .i64 (factV xs).num, .int .i64 (factV xs).den] 28))
      have hz1a := hz1.alloc hz1.size (.cells #[.int .i64 (factV xs).num, .int .i64 (factV xs).den] 28)
      go_wp2_with fail
      refine (holdsPlain_spec A n c xs _ q0.out).mono ?_
      rw [Hp.out]
      rintro e w2 ⟨rfl, hb2⟩
      have hz2 := hz1a.trans (hb2.mono hz1a.size)
      clear hb2
      go_wp2
      go_ret
      exact ⟨ret_bool HV.out.symm, hz2⟩

end Go.Proofs.Ytdafioafbgkilaa
