/- The contracts of ResponseLow, ResponseSwitch, ResponseHigh, BusyLow, l3Low, l3Both, FirstBad, HoldsBoth, HoldsLow, of the reference. No condition. -/
import Derived.Test.YtbfdpegjflhboaaRespI
namespace Go.Proofs.Ytbfdpegjflhboaa
open Go.RowKit
set_option linter.unusedVariables false

set_option maxRecDepth 100000 in
set_option maxHeartbeats 12800000 in
theorem responseLow_spec (A : Option Addr) (n c : Nat) (xs : List T) (i : Int) (w : World) (h : RdT w A n c xs) :
    Calls Try.prog 17 #[.slice A n c, .int .i64 i] w fun e w' => e = .returned (.tuple #[.int .i64 ((rlV xs i).getD 0), .bool (rlV xs i).isSome]) ∧ Below w.heap.size w w' := by
  have hz0 := Below.refl w.heap.size w
  have q0 := Lib.hid h
  have hl := Lib.hid h.len
  clear h
  cases hp : plB xs i
  · have Hp := Lib.hid hp
    have HV := Lib.hid (rlV_no hp)
    clear hp
    go_enter Try.func17, Try.ntmps17
    go_wp2_with fail
    refine (placed_spec A n c xs i _ q0.out).mono ?_
    rw [Hp.out]
    rintro e w1 ⟨rfl, hb1⟩
    have hz1 := hz0.trans (hb1.mono hz0.size)
    clear hb1
    go_wp2
    go_ret2
    exact ⟨by rw [HV.out]; rfl, hz1⟩
  · have Hp := Lib.hid hp
    obtain ⟨hs, k, rfl, hk⟩ := plB_at hl.out hp
    have hxl : xs[k]? = some (atT xs k) := atT_get (by rw [hl.out]; exact hk)
    have HV := Lib.hid (rlV_yes hp hxl)
    generalize atT xs k = x at *
    have Hx := Lib.hid hxl
    have Hs := Lib.hid hs
    obtain ⟨t1, t2, t3, t4⟩ := tv_bds (sv_at hs hxl)
    have hn5 : n ≤ 5 := by have := (sv_all hs).1; have := hl.out; omega
    have i0 : (0 : Int) ≤ (k : Int) := by omega
    have i1 : (k : Int) < (n : Int) := by omega
    have hmono := Lib.hid (low_monoF (base := x.low) (s := x.low) (by omega) (sv_take hs k))
    have hge := Lib.hid (low_ge (base := x.low) (w := x.low) (by omega) (sv_take hs k))
    obtain ⟨R, hR0⟩ : ∃ R, riseAt (respF x.low gLow (xs.take k)) x.due x.low = R := ⟨_, rfl⟩
    have HV' := Lib.hid (show rlV xs (k : Int) = R from HV.out.trans hR0)
    obtain ⟨F, hF⟩ : ∃ F, respF x.low gLow (xs.take k) = F := ⟨_, rfl⟩
    rw [hF] at hmono hge hR0
    replace hR0 := Lib.hid hR0
    replace hF := Lib.hid hF
    clear hp hxl hs HV
    go_enter Try.func17, Try.ntmps17
    go_wp2_with fail
    refine (placed_spec A n c xs k _ q0.out).mono ?_
    rw [Hp.out]
    rintro e w1 ⟨rfl, hb1⟩
    have hz1 := hz0.trans (hb1.mono hz0.size)
    replace q0 := Lib.hid (q0.out.below hb1)
    clear hb1
    obtain ⟨b, off, x', hA, hx', hb, c0, c1, c2, c3, c4⟩ := q0.out.taskAt hk
    rw [Hx.out] at hx'
    injection hx' with hx'
    subst hA
    subst hx'
    go_wp2_with fail
    go_loopw [6] (fun wv wr => ∃ v : Int, wv = .int .i64 v ∧ x.low ≤ v ∧ Hid (v ≤ F v) ∧ Hid (riseAt F x.due v = R) ∧ Below w.heap.size w wr ∧ Below w1.heap.size w1 wr) (fun wv _ => (x.due + 1 - intOf wv).toNat)
    case atStart => exact ⟨_, rfl, Int.le_refl _, hge, hR0, hz1, Below.refl _ _⟩
    case round =>
      obtain ⟨v, rfl, hv0, hv1, hR, hbel, hb1r⟩ := hrel
      have d0 := (hb1r.cell (p := ⟨b, off + k * 5, none⟩) hb).trans c0
      have d2 := (hb1r.cell (p := ⟨b, off + k * 5 + 2, none⟩) hb).trans c2
      have d3 := (hb1r.cell (p := ⟨b, off + k * 5 + 3, none⟩) hb).trans c3
      by_cases hle : v ≤ x.due
      · obtain ⟨wo, rfl⟩ : ∃ wo : World, wo = wr := ⟨_, rfl⟩
        go_wp2_with fail
        go_loopw [7, 8] (fun sv i wr => ∃ j : Nat, i = .int .i64 j ∧ j ≤ k ∧ sv = .int .i64 (respF x.low gLow (xs.take j) v) ∧ Below w.heap.size w wr ∧ Below w1.heap.size w1 wr) (fun _ i _ => k - (intOf i).toNat)
        case atStart => exact ⟨0, rfl, Nat.zero_le _, by rw [List.take_zero, respF_nil], hbel, hb1r⟩
        case round =>
          obtain ⟨j, rfl, hj, rfl, hbel2, hb1r2⟩ := hrel
          by_cases hjk : j < k
          · obtain ⟨b', off', y, hA, hy, hb', e0, e1, e2, e3, e4⟩ := (q0.out.below hb1r2).taskAt (i := j) (by omega)
            injection hA with hA
            injection hA with hA1 hA2
            subst hA1 hA2
            have hty := sv_at Hs.out hy
            have HS := Lib.hid (respF_round (base := x.low) (g := gLow) hy v)
            have hbd := low_bd (base := x.low) Hs.out j (v := v) (by omega) (by omega)
            have g0 := dem_nonneg (hi := false) (w := v) hty (by omega)
            have g1 := dem_le (hi := false) (w := v) hty (by omega)
            have hD := Lib.hid (fun w => demand_spec y v false w hty (by omega) (by omega))
            have hg : gLow y v = dem false y v := rfl
            rw [hg] at HS
            generalize dem false y v = dd at *
            generalize respF x.low gLow (xs.take j) v = s at *
            obtain ⟨b0, b1⟩ := hbd
            have j0 : (0 : Int) ≤ (j : Int) := by omega
            have j1 : (j : Int) < (n : Int) := by omega
            clear hy hbel hg d0 d2 d3 c0 c1 c2 c3 c4 hb1r
            go_wp2_with fail
            refine (hD.out _).mono ?_
            rintro e w2 ⟨rfl, hb2⟩
            go_wp2
            go_roundw
            case rel => exact ⟨j + 1, by go_num, by omega, by rw [HS.out], hbel2.trans (hb2.mono hbel2.size), hb1r2.trans (hb2.mono hb1r2.size)⟩
            case measure => simp [intOf]; omega
          · have hjk' : j = k := by omega
            subst hjk'
            have hFv : respF x.low gLow (xs.take j) v = F v := by rw [hF.out]
            rw [hFv]
            clear hFv
            by_cases he : F v = v
            · have HR := Lib.hid (show R = some v by rw [← hR.out, riseAt_here hle he])
              rw [he]
              have hb2 : ((v : Int) == v) = true := by simp
              clear he
              go_wp2
              go_ret2
              exact ⟨by rw [HV'.out, HR.out]; rfl, hbel2⟩
            · have hnx := Lib.hid (riseAt_next hmono.out hv0 hv1.out hle he)
              have hmn := Lib.hid (hmono.out v (F v) hv0 hv1.out)
              have hlt : v < F v := by have := hv1.out; omega
              generalize F v = u at *
              have hb : (u == v) = false := by simp; omega
              clear he
              go_wp2
              go_roundw
              case rel => exact ⟨u, rfl, by omega, hmn, Lib.hid (hnx.out.symm.trans hR.out), hbel2, hb1r2⟩
              case measure => simp [intOf]; omega
      · have HR := Lib.hid (show R = none by rw [← hR.out, riseAt_past hle])
        go_wp2
        go_ret2
        exact ⟨by rw [HV'.out, HR.out]; rfl, hbel⟩

set_option maxRecDepth 100000 in
set_option maxHeartbeats 12800000 in
theorem responseSwitch_spec (A : Option Addr) (n c : Nat) (xs : List T) (i : Int) (w : World) (h : RdT w A n c xs) :
    Calls Try.prog 35 #[.slice A n c, .int .i64 i] w fun e w' => e = .returned (.tuple #[.int .i64 ((rsV xs i).getD 0), .bool (rsV xs i).isSome]) ∧ Below w.heap.size w w' := by
  have hz0 := Below.refl w.heap.size w
  have q0 := Lib.hid h
  have hl := Lib.hid h.len
  clear h
  cases hp : plB xs i
  · have HL := Lib.hid (rlV_no hp)
    have HV := Lib.hid (rsV_no hp)
    clear hp
    go_enter Try.func35, Try.ntmps35
    go_wp2_with fail
    refine (responseLow_spec A n c xs i _ q0.out).mono ?_
    rw [HL.out]
    rintro e w1 ⟨rfl, hb1⟩
    have hz1 := hz0.trans (hb1.mono hz0.size)
    clear hb1
    go_wp2
    go_ret2
    exact ⟨by rw [HV.out]; rfl, hz1⟩
  · obtain ⟨hs, k, rfl, hk⟩ := plB_at hl.out hp
    have hxl : xs[k]? = some (atT xs k) := atT_get (by rw [hl.out]; exact hk)
    have hL := rlV_yes hp hxl
    have hV := rsV_yes hp hxl
    generalize atT xs k = x at *
    have Hx := Lib.hid hxl
    have Hs := Lib.hid hs
    have i0 : (0 : Int) ≤ (k : Int) := by omega
    have i1 : (k : Int) < (n : Int) := by omega
    cases hr : rlo (xs.take k) x with
    | none =>
      have HL := Lib.hid (hL.trans hr)
      have HV := Lib.hid (hV.trans (rsw_no hr))
      clear hp hxl hs hr hL hV
      go_enter Try.func35, Try.ntmps35
      go_wp2_with fail
      refine (responseLow_spec A n c xs k _ q0.out).mono ?_
      rw [HL.out]
      rintro e w1 ⟨rfl, hb1⟩
      have hz1 := hz0.trans (hb1.mono hz0.size)
      clear hb1
      go_wp2
      go_ret2
      exact ⟨by rw [HV.out]; rfl, hz1⟩
    | some low =>
      have HL := Lib.hid (hL.trans hr)
      obtain ⟨l0, l1⟩ := rlV_bd hs hxl hr
      cases hc : x.crit
      · have HV := Lib.hid (hV.trans (rsw_low hr hc))
        have Hc := Lib.hid hc
        clear hp hxl hs hr hL hV hc
        go_enter Try.func35, Try.ntmps35
        go_wp2_with fail
        refine (responseLow_spec A n c xs k _ q0.out).mono ?_
        rw [HL.out]
        rintro e w1 ⟨rfl, hb1⟩
        have hz1 := hz0.trans (hb1.mono hz0.size)
        replace q0 := Lib.hid (q0.out.below hb1)
        clear hb1
        obtain ⟨b, off, x', hA, hx', hb, c0, c1, c2, c3, c4⟩ := q0.out.taskAt hk
        rw [Hx.out] at hx'
        injection hx' with hx'
        subst hA
        subst hx'
        rw [Hc.out] at c4
        clear c0 c1 c2 c3
        go_wp2
        go_ret2
        exact ⟨by rw [HV.out]; rfl, hz1⟩
      · have hV2 := hV.trans (rsw_yes hr hc)
        have Hc := Lib.hid hc
        obtain ⟨t1, t2, t3, t4⟩ := tv_bds (sv_at hs hxl)
        have hn5 : n ≤ 5 := by have := (sv_all hs).1; have := hl.out; omega
        have hmono := Lib.hid (sw_monoF (base := x.high) (s := x.high) (low := low) (by omega) (sv_take hs k))
        have hge := Lib.hid (sw_ge (base := x.high) (w := x.high) (low := low) (by omega) l0 (sv_take hs k))
        obtain ⟨R, hR0⟩ : ∃ R, riseAt (respF x.high (gSw low) (xs.take k)) x.due x.high = R := ⟨_, rfl⟩
        have HV' := Lib.hid (show rsV xs (k : Int) = R from hV2.trans hR0)
        obtain ⟨F, hF⟩ : ∃ F, respF x.high (gSw low) (xs.take k) = F := ⟨_, rfl⟩
        rw [hF] at hmono hge hR0
        replace hR0 := Lib.hid hR0
        replace hF := Lib.hid hF
        clear hp hxl hs hr hL hV hV2 hc
        go_enter Try.func35, Try.ntmps35
        go_wp2_with fail
        refine (responseLow_spec A n c xs k _ q0.out).mono ?_
        rw [HL.out]
        rintro e w1 ⟨rfl, hb1⟩
        have hz1 := hz0.trans (hb1.mono hz0.size)
        replace q0 := Lib.hid (q0.out.below hb1)
        clear hb1
        obtain ⟨b, off, x', hA, hx', hb, c0, c1, c2, c3, c4⟩ := q0.out.taskAt hk
        rw [Hx.out] at hx'
        injection hx' with hx'
        subst hA
        subst hx'
        rw [Hc.out] at c4
        go_wp2_with fail
        go_loopw [8] (fun wv wr => ∃ v : Int, wv = .int .i64 v ∧ x.high ≤ v ∧ Hid (v ≤ F v) ∧ Hid (riseAt F x.due v = R) ∧ Below w.heap.size w wr ∧ Below w1.heap.size w1 wr) (fun wv _ => (x.due + 1 - intOf wv).toNat)
        case atStart => exact ⟨_, rfl, Int.le_refl _, hge, hR0, hz1, Below.refl _ _⟩
        case round =>
          obtain ⟨v, rfl, hv0, hv1, hR, hbel, hb1r⟩ := hrel
          have d0 := (hb1r.cell (p := ⟨b, off + k * 5 + 1, none⟩) hb).trans c1
          have d2 := (hb1r.cell (p := ⟨b, off + k * 5 + 2, none⟩) hb).trans c2
          have d3 := (hb1r.cell (p := ⟨b, off + k * 5 + 3, none⟩) hb).trans c3
          by_cases hle : v ≤ x.due
          · obtain ⟨wo, rfl⟩ : ∃ wo : World, wo = wr := ⟨_, rfl⟩
            go_wp2_with fail
            go_loopw [9, 10] (fun sv i wr => ∃ j : Nat, i = .int .i64 j ∧ j ≤ k ∧ sv = .int .i64 (respF x.high (gSw low) (xs.take j) v) ∧ Below w.heap.size w wr ∧ Below w1.heap.size w1 wr) (fun _ i _ => k - (intOf i).toNat)
            case atStart => exact ⟨0, rfl, Nat.zero_le _, by rw [List.take_zero, respF_nil], hbel, hb1r⟩
            case round =>
              obtain ⟨j, rfl, hj, rfl, hbel2, hb1r2⟩ := hrel
              by_cases hjk : j < k
              · obtain ⟨b', off', y, hA, hy, hb', e0, e1, e2, e3, e4⟩ := (q0.out.below hb1r2).taskAt (i := j) (by omega)
                injection hA with hA
                injection hA with hA1 hA2
                subst hA1 hA2
                have hty := sv_at Hs.out hy
                have HS := Lib.hid (respF_round (base := x.high) (g := gSw low) hy v)
                have hbd := sw_bd (base := x.high) (low := low) Hs.out j (v := v) (by omega) l0 (by omega)
                obtain ⟨g0, g1⟩ := gSw_bd l0 hty (w := v) (by omega)
                have hD := Lib.hid (fun w => demand_spec y v true w hty (by omega) (by omega))
                have hDl := Lib.hid (fun w => demand_spec y low false w hty l0 (by omega))
                have hg := Lib.hid (show gSw low y v = if y.crit = true then dem true y v else dem false y low from rfl)
                generalize respF x.high (gSw low) (xs.take j) v = s at *
                obtain ⟨b0, b1⟩ := hbd
                have j0 : (0 : Int) ≤ (j : Int) := by omega
                have j1 : (j : Int) < (n : Int) := by omega
                clear hy hbel d0 d2 d3 c0 c1 c2 c3 c4 hb1r
                cases hc : y.crit
                · rw [hc] at e4
                  have hg' := hg.out
                  rw [hc, if_neg (by decide)] at hg'
                  have Hg := Lib.hid hg'
                  rw [hg'] at g0 g1
                  rw [hc] at hDl
                  clear hg' hc hg hD
                  generalize dem false y low = dd at *
                  go_wp2_with fail
                  refine (hDl.out _).mono ?_
                  rintro e w2 ⟨rfl, hb2⟩
                  go_wp2
                  go_roundw
                  case rel => exact ⟨j + 1, by go_num, by omega, by rw [HS.out, Hg.out], hbel2.trans (hb2.mono hbel2.size), hb1r2.trans (hb2.mono hb1r2.size)⟩
                  case measure => simp [intOf]; omega
                · rw [hc] at e4
                  have hg' := hg.out
                  rw [hc, if_pos rfl] at hg'
                  have Hg := Lib.hid hg'
                  rw [hg'] at g0 g1
                  rw [hc] at hD
                  clear hg' hc hg hDl
                  generalize dem true y v = dd at *
                  go_wp2_with fail
                  refine (hD.out _).mono ?_
                  rintro e w2 ⟨rfl, hb2⟩
                  go_wp2
                  go_roundw
                  case rel => exact ⟨j + 1, by go_num, by omega, by rw [HS.out, Hg.out], hbel2.trans (hb2.mono hbel2.size), hb1r2.trans (hb2.mono hb1r2.size)⟩
                  case measure => simp [intOf]; omega
              · have hjk' : j = k := by omega
                subst hjk'
                have hFv : respF x.high (gSw low) (xs.take j) v = F v := by rw [hF.out]
                rw [hFv]
                clear hFv
                by_cases he : F v = v
                · have HR := Lib.hid (show R = some v by rw [← hR.out, riseAt_here hle he])
                  rw [he]
                  have hb2 : ((v : Int) == v) = true := by simp
                  clear he
                  go_wp2
                  go_ret2
                  exact ⟨by rw [HV'.out, HR.out]; rfl, hbel2⟩
                · have hnx := Lib.hid (riseAt_next hmono.out hv0 hv1.out hle he)
                  have hmn := Lib.hid (hmono.out v (F v) hv0 hv1.out)
                  have hlt : v < F v := by have := hv1.out; omega
                  generalize F v = u at *
                  have hb : (u == v) = false := by simp; omega
                  clear he
                  go_wp2
                  go_roundw
                  case rel => exact ⟨u, rfl, by omega, hmn, Lib.hid (hnx.out.symm.trans hR.out), hbel2, hb1r2⟩
                  case measure => simp [intOf]; omega
          · have HR := Lib.hid (show R = none by rw [← hR.out, riseAt_past hle])
            go_wp2
            go_ret2
            exact ⟨by rw [HV'.out, HR.out]; rfl, hbel⟩

set_option maxRecDepth 100000 in
set_option maxHeartbeats 12800000 in
theorem busyLow_spec (A : Option Addr) (n c : Nat) (xs : List T) (w : World) (h : RdT w A n c xs) :
    Calls Try.prog 29 #[.slice A n c] w fun e w' => e = .returned (.tuple #[.int .i64 ((busyV xs).getD 0), .bool (busyV xs).isSome]) ∧ Below w.heap.size w w' := by
  have hz0 := Below.refl w.heap.size w
  have q0 := Lib.hid h
  have hl := Lib.hid h.len
  clear h
  cases hs : svB xs
  · have Hs := Lib.hid hs
    have HV := Lib.hid (show busyV xs = none by simp [busyV, hs])
    clear hs
    go_enter Try.func29, Try.ntmps29
    go_wp2_with fail
    refine (setValid_spec A n c xs _ q0.out).mono ?_
    rw [Hs.out]
    rintro e w1 ⟨rfl, hb1⟩
    have hz1 := hz0.trans (hb1.mono hz0.size)
    clear hb1
    go_wp2
    go_ret2
    exact ⟨by rw [HV.out]; rfl, hz1⟩
  · have Hs := Lib.hid hs
    by_cases hn : n = 0
    · subst hn
      have HV := Lib.hid (show busyV xs = none by
        have : xs = [] := List.eq_nil_of_length_eq_zero hl.out
        subst this; simp [busyV])
      clear hs
      go_enter Try.func29, Try.ntmps29
      go_wp2_with fail
      refine (setValid_spec A 0 c xs _ q0.out).mono ?_
      rw [Hs.out]
      rintro e w1 ⟨rfl, hb1⟩
      have hz1 := hz0.trans (hb1.mono hz0.size)
      clear hb1
      go_wp2
      go_ret2
      exact ⟨by rw [HV.out]; rfl, hz1⟩
    · have hne : xs ≠ [] := fun e => by subst e; exact hn hl.out.symm
      have hn1 : 1 ≤ n := by omega
      have hn5 : n ≤ 5 := by have := (sv_all hs).1; have := hl.out; omega
      have hnb : ((n : Int) == 0) = false := by simp; omega
      obtain ⟨y1, y2⟩ := hyI_le hs
      have hv := sv_take hs n
      rw [List.take_of_length_le (by rw [hl.out]; exact Nat.le_refl _)] at hv
      have hmono := Lib.hid (low_monoF (base := 0) (s := 1) (by omega) hv)
      have hge := Lib.hid (busy_ge hs hne)
      obtain ⟨most, hM⟩ : ∃ most, hyI xs = most := ⟨_, rfl⟩
      obtain ⟨R, hR0⟩ : ∃ R, riseAt (respF 0 gLow xs) most 1 = R := ⟨_, rfl⟩
      have HV' := Lib.hid (show busyV xs = R by simp [busyV, hs, hne, hM, hR0])
      obtain ⟨F, hF⟩ : ∃ F, respF 0 gLow xs = F := ⟨_, rfl⟩
      rw [hF] at hmono hge hR0
      rw [hM] at y1 y2
      have HM := Lib.hid hM
      replace hR0 := Lib.hid hR0
      replace hF := Lib.hid hF
      clear hs hne hn hv hM
      go_enter Try.func29, Try.ntmps29
      go_wp2_with fail
      refine (setValid_spec A n c xs _ q0.out).mono ?_
      rw [Hs.out]
      rintro e w1 ⟨rfl, hb1⟩
      have hz1 := hz0.trans (hb1.mono hz0.size)
      replace q0 := Lib.hid (q0.out.below hb1)
      clear hb1
      go_wp2_with fail
      go_loopw [4] (fun wv wr => ∃ v : Int, wv = .int .i64 v ∧ 1 ≤ v ∧ Hid (v ≤ F v) ∧ Hid (riseAt F most v = R) ∧ Below w.heap.size w wr ∧ Below w1.heap.size w1 wr) (fun wv _ => (most + 1 - intOf wv).toNat)
      case atStart => exact ⟨_, rfl, Int.le_refl _, hge, hR0, hz1, Below.refl _ _⟩
      case round =>
        obtain ⟨v, rfl, hv0, hv1, hR, hbel, hb1r⟩ := hrel
        have hY := Lib.hid (hyperOf_spec A n c xs wr (q0.out.below hb1r))
        rw [HM.out] at hY
        go_wp2_with fail
        refine hY.out.mono ?_
        rintro e wq ⟨rfl, hbq⟩
        replace hbel := hbel.trans (hbq.mono hbel.size)
        replace hb1r := hb1r.trans (hbq.mono hb1r.size)
        clear hbq hY
        by_cases hle : v ≤ most
        · obtain ⟨wo, rfl⟩ : ∃ wo : World, wo = wq := ⟨_, rfl⟩
          go_wp2_with fail
          go_loopw [5, 6] (fun sv i wr => ∃ j : Nat, i = .int .i64 j ∧ j ≤ n ∧ sv = .int .i64 (respF 0 gLow (xs.take j) v) ∧ Below w.heap.size w wr ∧ Below w1.heap.size w1 wr) (fun _ i _ => n - (intOf i).toNat)
          case atStart => exact ⟨0, rfl, Nat.zero_le _, by rw [List.take_zero, respF_nil], hbel, hb1r⟩
          case round =>
            obtain ⟨j, rfl, hj, rfl, hbel2, hb1r2⟩ := hrel
            by_cases hjk : j < n
            · obtain ⟨b', off', y, hA, hy, hb', e0, e1, e2, e3, e4⟩ := (q0.out.below hb1r2).taskAt (i := j) (by omega)
              subst hA
              have hty := sv_at Hs.out hy
              have HS := Lib.hid (respF_round (base := 0) (g := gLow) hy v)
              have hbd := low_bd (base := 0) Hs.out j (v := v) (by omega) (by omega)
              have g0 := dem_nonneg (hi := false) (w := v) hty (by omega)
              have g1 := dem_le (hi := false) (w := v) hty (by omega)
              have hD := Lib.hid (fun w => demand_spec y v false w hty (by omega) (by omega))
              have hg : gLow y v = dem false y v := rfl
              rw [hg] at HS
              generalize dem false y v = dd at *
              generalize respF 0 gLow (xs.take j) v = s at *
              obtain ⟨b0, b1⟩ := hbd
              have j0 : (0 : Int) ≤ (j : Int) := by omega
              have j1 : (j : Int) < (n : Int) := by omega
              clear hy hbel hg hb1r
              go_wp2_with fail
              refine (hD.out _).mono ?_
              rintro e w2 ⟨rfl, hb2⟩
              go_wp2
              go_roundw
              case rel => exact ⟨j + 1, by go_num, by omega, by rw [HS.out], hbel2.trans (hb2.mono hbel2.size), hb1r2.trans (hb2.mono hb1r2.size)⟩
              case measure => simp [intOf]; omega
            · have hjk' : j = n := by omega
              subst hjk'
              have hFv : respF 0 gLow (xs.take j) v = F v := by rw [List.take_of_length_le (by rw [hl.out]; exact Nat.le_refl _), hF.out]
              rw [hFv]
              clear hFv
              by_cases he : F v = v
              · have HR := Lib.hid (show R = some v by rw [← hR.out, riseAt_here hle he])
                rw [he]
                have hb2 : ((v : Int) == v) = true := by simp
                clear he
                go_wp2
                go_ret2
                exact ⟨by rw [HV'.out, HR.out]; rfl, hbel2⟩
              · have hnx := Lib.hid (riseAt_next hmono.out hv0 hv1.out hle he)
                have hmn := Lib.hid (hmono.out v (F v) hv0 hv1.out)
                have hlt : v < F v := by have := hv1.out; omega
                generalize F v = u at *
                have hb : (u == v) = false := by simp; omega
                clear he
                go_wp2
                go_roundw
                case rel => exact ⟨u, rfl, by omega, hmn, Lib.hid (hnx.out.symm.trans hR.out), hbel2, hb1r2⟩
                case measure => simp [intOf]; omega
        · have HR := Lib.hid (show R = none by rw [← hR.out, riseAt_past hle])
          go_wp2
          go_ret2
          exact ⟨by rw [HV'.out, HR.out]; rfl, hbel⟩

set_option maxRecDepth 100000 in
set_option maxHeartbeats 12800000 in
theorem responseHigh_spec (A : Option Addr) (n c : Nat) (xs : List T) (i : Int) (w : World) (h : RdT w A n c xs) :
    Calls Try.prog 32 #[.slice A n c, .int .i64 i] w fun e w' => e = .returned (.tuple #[.int .i64 ((rhV xs i).getD 0), .bool (rhV xs i).isSome]) ∧ Below w.heap.size w w' := by
  have hz0 := Below.refl w.heap.size w
  have q0 := Lib.hid h
  have hl := Lib.hid h.len
  clear h
  cases hp : plB xs i
  · have Hp := Lib.hid hp
    have HV := Lib.hid (rhV_no hp)
    clear hp
    go_enter Try.func32, Try.ntmps32
    go_wp2_with fail
    refine (placed_spec A n c xs i _ q0.out).mono ?_
    rw [Hp.out]
    rintro e w1 ⟨rfl, hb1⟩
    have hz1 := hz0.trans (hb1.mono hz0.size)
    clear hb1
    go_wp2
    go_ret2
    exact ⟨by rw [HV.out]; rfl, hz1⟩
  · have Hp := Lib.hid hp
    obtain ⟨hs, k, rfl, hk⟩ := plB_at hl.out hp
    have hxl : xs[k]? = some (atT xs k) := atT_get (by rw [hl.out]; exact hk)
    generalize atT xs k = x at *
    have Hx := Lib.hid hxl
    have hn5 : n ≤ 5 := by have := (sv_all hs).1; have := hl.out; omega
    have i0 : (0 : Int) ≤ (k : Int) := by omega
    have i1 : (k : Int) < (n : Int) := by omega
    cases hc : x.crit
    · have HV := Lib.hid (rhV_low hxl hc)
      have Hc := Lib.hid hc
      clear hp hxl hs hc
      go_enter Try.func32, Try.ntmps32
      go_wp2_with fail
      refine (placed_spec A n c xs k _ q0.out).mono ?_
      rw [Hp.out]
      rintro e w1 ⟨rfl, hb1⟩
      have hz1 := hz0.trans (hb1.mono hz0.size)
      replace q0 := Lib.hid (q0.out.below hb1)
      clear hb1
      obtain ⟨b, off, x', hA, hx', hb, c0, c1, c2, c3, c4⟩ := q0.out.taskAt hk
      rw [Hx.out] at hx'
      injection hx' with hx'
      subst hA
      subst hx'
      rw [Hc.out] at c4
      go_wp2
      go_ret2
      exact ⟨by rw [HV.out]; rfl, hz1⟩
    · have HV := Lib.hid (rhV_yes hp hxl hc)
      have Hc := Lib.hid hc
      have hcv := Lib.hid (critV_yes hs)
      clear hp hxl hs hc
      go_enter Try.func32, Try.ntmps32
      go_wp2_with fail
      refine (placed_spec A n c xs k _ q0.out).mono ?_
      rw [Hp.out]
      rintro e w1 ⟨rfl, hb1⟩
      have hz1 := hz0.trans (hb1.mono hz0.size)
      replace q0 := Lib.hid (q0.out.below hb1)
      clear hb1
      obtain ⟨b, off, x', hA, hx', hb, c0, c1, c2, c3, c4⟩ := q0.out.taskAt hk
      rw [Hx.out] at hx'
      injection hx' with hx'
      subst hA
      subst hx'
      rw [Hc.out] at c4
      go_wp2_with fail
      refine (criticalOf_spec _ n c xs w1 q0.out).mono ?_
      rintro e w2 ⟨D2, k2, d2, rfl, o2, hb2⟩
      have hz2 := hz1.trans (hb2.mono hz1.size)
      replace q0 := Lib.hid (q0.out.below hb2)
      clear hb2
      have q2 := Lib.hid (show RdT w2 D2 k2 d2 (critL xs) from hcv.out ▸ Rd.of_own T.cells_len o2.1 o2.2)
      clear o2 c0 c1 c2 c3 c4 hb
      go_wp2_with fail
      go_loopw [7, 8] (fun pv i wr => ∃ j m : Nat, i = .int .i64 j ∧ j ≤ k ∧ pv = .int .i64 m ∧ m ≤ j ∧ Hid ((critL (xs.take j)).length = m) ∧ Below w.heap.size w wr ∧ Below w2.heap.size w2 wr) (fun _ i _ => k - (intOf i).toNat)
      case atStart => exact ⟨0, 0, rfl, Nat.zero_le _, rfl, Nat.le_refl _, Lib.hid rfl, hz2, Below.refl _ _⟩
      case round =>
        obtain ⟨j, m, rfl, hj, rfl, hmj, hm, hbel, hb2r⟩ := hrel
        by_cases hjk : j < k
        · obtain ⟨b', off', y, hA, hy, hb', e0, e1, e2, e3, e4⟩ := (q0.out.below hb2r).taskAt (i := j) (by omega)
          injection hA with hA
          injection hA with hA1 hA2
          subst hA1 hA2
          have j0 : (0 : Int) ≤ (j : Int) := by omega
          have j1 : (j : Int) < (n : Int) := by omega
          clear e0 e1 e2 e3
          cases hcy : y.crit
          · have hm' := Lib.hid (show (critL (xs.take (j + 1))).length = m by rw [take_succ_of hy, critL_snoc_no hcy]; exact hm.out)
            rw [hcy] at e4
            clear hy hcy
            go_wp2
            go_roundw
            case rel => exact ⟨j + 1, m, by go_num, by omega, rfl, by omega, hm', hbel, hb2r⟩
            case measure => simp [intOf]; omega
          · have hm' := Lib.hid (show (critL (xs.take (j + 1))).length = m + 1 by rw [take_succ_of hy, critL_snoc_yes hcy, List.length_append, hm.out]; rfl)
            rw [hcy] at e4
            clear hy hcy
            go_wp2
            go_roundw
            case rel => exact ⟨j + 1, m + 1, by go_num, by omega, by go_num, by omega, hm', hbel, hb2r⟩
            case measure => simp [intOf]; omega
        · have hjk' : j = k := by omega
          subst hjk'
          go_wp2_with fail
          refine (responseLow_spec D2 k2 d2 (critL xs) (m : Int) wr (q2.out.below hb2r)).mono ?_
          rintro e w3 ⟨rfl, hb3⟩
          have hz3 := hbel.trans (hb3.mono hbel.size)
          go_wp2
          go_ret2
          exact ⟨by rw [HV.out, hm.out]; rfl, hz3⟩

set_option maxRecDepth 100000 in
theorem l3Low_any (A : Option Addr) (n c : Nat) (xs : List T) (i : Int) (w : World) (h : RdT w A n c xs) :
    Calls Try.prog 65 #[.slice A n c, .int .i64 i] w fun e w' => e = .returned (.bool (rlV xs i).isSome) ∧ Below w.heap.size w w' := by
  have hz0 := Below.refl w.heap.size w
  have q0 := Lib.hid h
  clear h
  go_enter Try.func65, Try.ntmps65
  go_wp2_with fail
  refine (responseLow_spec A n c xs i _ q0.out).mono ?_
  rintro e w1 ⟨rfl, hb1⟩
  have hz1 := hz0.trans (hb1.mono hz0.size)
  clear hb1
  go_wp2
  go_ret
  exact ⟨rfl, hz1⟩

set_option maxRecDepth 100000 in
set_option maxHeartbeats 3200000 in
theorem l3Both_any (A : Option Addr) (n c : Nat) (xs : List T) (k : Nat) (w : World) (h : RdT w A n c xs) (hs : svB xs = true) (hk : k < n) :
    Calls Try.prog 49 #[.slice A n c, .int .i64 k] w fun e w' => e = .returned (.bool (endV xs k)) ∧ Below w.heap.size w w' := by
  have hz0 := Below.refl w.heap.size w
  have q0 := Lib.hid h
  have hp := plB_nat hs (show k < xs.length by rw [h.len]; exact hk)
  have hxl : xs[k]? = some (atT xs k) := atT_get (by rw [h.len]; exact hk)
  generalize atT xs k = x at *
  have Hx := Lib.hid hxl
  have i0 : (0 : Int) ≤ (k : Int) := by omega
  have i1 : (k : Int) < (n : Int) := by omega
  clear h
  obtain ⟨b, off, x', hA, hx', hb, c0, c1, c2, c3, c4⟩ := q0.out.taskAt hk
  rw [Hx.out] at hx'
  injection hx' with hx'
  subst hA
  subst hx'
  cases hc : x.crit
  · have HE := Lib.hid (endV_lo hp hxl hc)
    rw [hc] at c4
    clear hc hp hxl hs
    go_enter Try.func49, Try.ntmps49
    go_wp2_with fail
    refine (l3Low_any _ n c xs k w q0.out).mono ?_
    rintro e w1 ⟨rfl, hb1⟩
    have hz1 := hz0.trans (hb1.mono hz0.size)
    clear hb1
    generalize rlV xs (k : Int) = o at *
    go_wp2
    go_ret
    exact ⟨ret_bool HE.out.symm, hz1⟩
  · have HE := Lib.hid (endV_hi hp hxl hc)
    rw [hc] at c4
    clear hc hp hxl hs
    go_enter Try.func49, Try.ntmps49
    go_wp2_with fail
    refine (responseSwitch_spec _ n c xs k w q0.out).mono ?_
    rintro e w1 ⟨rfl, hb1⟩
    have hz1 := hz0.trans (hb1.mono hz0.size)
    clear hb1
    generalize rsV xs (k : Int) = o at *
    go_wp2
    go_ret
    exact ⟨ret_bool HE.out.symm, hz1⟩

set_option maxRecDepth 100000 in
set_option maxHeartbeats 6400000 in
theorem firstBad_spec (A : Option Addr) (n c : Nat) (xs : List T) (w : World) (h : RdT w A n c xs) :
    Calls Try.prog 21 #[.slice A n c] w fun e w' => e = .returned (.tuple #[.int .i64 (natO (badV xs)), .bool (badV xs).isSome]) ∧ Below w.heap.size w w' := by
  have hz0 := Below.refl w.heap.size w
  have q0 := Lib.hid h
  have hl := Lib.hid h.len
  have hm : n ≤ maxLen := Nat.le_trans h.cap h.max
  unfold maxLen at hm
  clear h
  go_enter Try.func21, Try.ntmps21
  go_wp2_with fail
  go_loopw [4] (fun i wr => ∃ k : Nat, i = .int .i64 k ∧ k ≤ n ∧ Hid (okTo xs k) ∧ Below w.heap.size w wr) (fun i _ => n - (intOf i).toNat)
  case atStart => exact ⟨0, rfl, Nat.zero_le _, Lib.hid (okTo_zero xs), hz0⟩
  case round =>
    obtain ⟨k, rfl, hk, hok, hbel⟩ := hrel
    by_cases hkn : k < n
    · have hV := Lib.hid (setValid_spec A n c xs wr (q0.out.below hbel))
      cases hs : svB xs
      · have HV := Lib.hid (badV_no hs)
        rw [hs] at hV
        have Hs := Lib.hid hs
        clear hs
        go_wp2_with fail
        refine hV.out.mono ?_
        rintro e w2 ⟨rfl, hb2⟩
        have hz2 := hbel.trans (hb2.mono hbel.size)
        go_wp2
        go_ret2
        exact ⟨by rw [HV.out]; rfl, hz2⟩
      · rw [hs] at hV
        have Hs := Lib.hid hs
        clear hs
        go_wp2_with fail
        refine hV.out.mono ?_
        rintro e w2 ⟨rfl, hb2⟩
        have hz2 := hbel.trans (hb2.mono hbel.size)
        have hC := Lib.hid (l3Both_any A n c xs k w2 (q0.out.below hz2) Hs.out hkn)
        cases he : endV xs k
        · have HV := Lib.hid (badV_at Hs.out hok.out (by rw [hl.out]; exact hkn) he)
          rw [he] at hC
          clear he
          go_wp2_with fail
          refine hC.out.mono ?_
          rintro e w3 ⟨rfl, hb3⟩
          have hz3 := hz2.trans (hb3.mono hz2.size)
          go_wp2
          go_ret2
          exact ⟨by rw [HV.out]; rfl, hz3⟩
        · have hok' := Lib.hid (okTo_succ hok.out he)
          rw [he] at hC
          clear he
          go_wp2_with fail
          refine hC.out.mono ?_
          rintro e w3 ⟨rfl, hb3⟩
          have hz3 := hz2.trans (hb3.mono hz2.size)
          go_wp2
          go_roundw
          case rel => exact ⟨k + 1, by go_num, by omega, hok', hz3⟩
          case measure => simp [intOf]; omega
    · have hkn' : k = n := by omega
      subst hkn'
      have HV := Lib.hid (badV_end hl.out hok.out)
      go_wp2
      go_ret2
      exact ⟨by rw [HV.out]; rfl, hbel⟩

set_option maxRecDepth 100000 in
set_option maxHeartbeats 6400000 in
theorem holdsBoth_spec (A : Option Addr) (n c : Nat) (xs : List T) (w : World) (h : RdT w A n c xs) :
    Calls Try.prog 25 #[.slice A n c] w fun e w' => e = .returned (.bool (bothB xs)) ∧ Below w.heap.size w w' := by
  have hz0 := Below.refl w.heap.size w
  have q0 := Lib.hid h
  have hl := Lib.hid h.len
  have hm : n ≤ maxLen := Nat.le_trans h.cap h.max
  unfold maxLen at hm
  clear h
  go_enter Try.func25, Try.ntmps25
  go_wp2_with fail
  go_loopw [3] (fun i wr => ∃ k : Nat, i = .int .i64 k ∧ k ≤ n ∧ Hid (okTo xs k) ∧ Below w.heap.size w wr) (fun i _ => n - (intOf i).toNat)
  case atStart => exact ⟨0, rfl, Nat.zero_le _, Lib.hid (okTo_zero xs), hz0⟩
  case round =>
    obtain ⟨k, rfl, hk, hok, hbel⟩ := hrel
    by_cases hkn : k < n
    · have hV := Lib.hid (setValid_spec A n c xs wr (q0.out.below hbel))
      cases hs : svB xs
      · have HV := Lib.hid (bothB_no hs)
        rw [hs] at hV
        have Hs := Lib.hid hs
        clear hs
        go_wp2_with fail
        refine hV.out.mono ?_
        rintro e w2 ⟨rfl, hb2⟩
        have hz2 := hbel.trans (hb2.mono hbel.size)
        have hV2 := Lib.hid (setValid_spec A n c xs w2 (q0.out.below hz2))
        rw [Hs.out] at hV2
        go_wp2_with fail
        refine hV2.out.mono ?_
        rintro e w3 ⟨rfl, hb3⟩
        have hz3 := hz2.trans (hb3.mono hz2.size)
        go_wp2
        go_ret
        exact ⟨ret_bool HV.out.symm, hz3⟩
      · rw [hs] at hV
        have Hs := Lib.hid hs
        clear hs
        go_wp2_with fail
        refine hV.out.mono ?_
        rintro e w2 ⟨rfl, hb2⟩
        have hz2 := hbel.trans (hb2.mono hbel.size)
        have hC := Lib.hid (l3Both_any A n c xs k w2 (q0.out.below hz2) Hs.out hkn)
        cases he : endV xs k
        · have HV := Lib.hid (bothB_at (by rw [hl.out]; exact hkn) he)
          rw [he] at hC
          clear he
          go_wp2_with fail
          refine hC.out.mono ?_
          rintro e w3 ⟨rfl, hb3⟩
          have hz3 := hz2.trans (hb3.mono hz2.size)
          go_wp2
          go_ret
          exact ⟨ret_bool HV.out.symm, hz3⟩
        · have hok' := Lib.hid (okTo_succ hok.out he)
          rw [he] at hC
          clear he
          go_wp2_with fail
          refine hC.out.mono ?_
          rintro e w3 ⟨rfl, hb3⟩
          have hz3 := hz2.trans (hb3.mono hz2.size)
          go_wp2
          go_roundw
          case rel => exact ⟨k + 1, by go_num, by omega, hok', hz3⟩
          case measure => simp [intOf]; omega
    · have hkn' : k = n := by omega
      subst hkn'
      have HV := Lib.hid (bothB_end hl.out hok.out)
      go_wp2_with fail
      refine (setValid_spec A k c xs wr (q0.out.below hbel)).mono ?_
      rintro e w2 ⟨rfl, hb2⟩
      have hz2 := hbel.trans (hb2.mono hbel.size)
      go_wp2
      go_ret
      exact ⟨ret_bool HV.out.symm, hz2⟩


end Go.Proofs.Ytbfdpegjflhboaa
