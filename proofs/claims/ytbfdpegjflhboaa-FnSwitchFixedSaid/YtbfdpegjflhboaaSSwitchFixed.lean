/- Responses at the switch are fixed points: the law returns true for every input. No condition. -/
import Derived.Test.YtbfdpegjflhboaaOpen
import Derived.Test.YtbfdpegjflhboaaRespS
import Derived.Test.YtbfdpegjflhboaaDraw3
import Derived.Test.YtbfdpegjflhboaaRespH
namespace Go.Proofs.Ytbfdpegjflhboaa
open Go.ChangeShapes Go.WideShapes Go.ChangeAt Go.RowKit
set_option linter.unusedVariables false

theorem rsV_some {xs : List T} {i r : Int} (h : rsV xs i = some r) : svB xs = true ∧ ∃ (k : Nat) (x : T), xs[k]? = some x ∧ i = k ∧ k < xs.length ∧ plB xs (k : Int) = true ∧ rsw (xs.take k) x = some r := by
  cases hp : plB xs i
  · rw [rsV_no hp] at h; cases h
  · obtain ⟨hs, k, rfl, hk⟩ := plB_at rfl hp
    have hx := atT_get hk
    rw [rsV_yes hp hx] at h
    exact ⟨hs, k, atT xs k, hx, rfl, hk, hp, h⟩
theorem rh_of {xs : List T} {k : Nat} {x : T} (hs : svB xs = true) (hp : plB xs (k : Int) = true) (hx : xs[k]? = some x) (hc : x.crit = true) : rhV xs (k : Int) = rlo (critL (xs.take k)) { x with low := x.high } := by
  have hat := critL_at hx hc
  have hlt := (List.getElem?_eq_some_iff.1 hat).1
  rw [rhV_yes hp hx hc, rlV_yes (plB_nat (critL_sv hs) hlt) hat, critL_take]


set_option maxRecDepth 100000 in
set_option maxHeartbeats 12800000 in
theorem walk_FnSwitchFixed (A : Option Addr) (n c : Nat) (bs : List UInt8) (w : World) (h : RdB w A n c bs) :
    Calls Try.prog 8 #[.slice A n c] w fun e w' => e = .returned (.bool true) ∧ Below w.heap.size w w' := by
  have hz0 := Below.refl w.heap.size w
  have H := Lib.hid h
  have hmx : n ≤ maxLen := Nat.le_trans h.cap h.max
  unfold maxLen at hmx
  clear h
  by_cases hn : n ≤ 1048576
  · go_enter Try.func8, Try.ntmps8
    go_wp2_with fail
    refine (drawResponseSwitch_any A n c bs w H.out).mono ?_
    rintro e w1 ⟨D, m, d, xs, i, rfl, hm6, ho, hz1⟩
    have qT := Lib.hid ho.rdS
    have hcap : m ≤ d := ho.rdS.cap
    have hmax : d ≤ maxLen := ho.rdS.max
    unfold maxLen at hmax
    clear ho
    go_wp2_with fail
    refine (responseSwitch_impl D m d xs i w1 qT.out).mono ?_
    rintro e w2 ⟨rfl, hb2⟩
    have hz2 := hz1.trans (hb2.mono hz1.size)
    replace qT := Lib.hid (qT.out.below hb2)
    clear hb2
    go_wp2_with fail
    refine (responseSwitch_spec D m d xs i w2 qT.out).mono ?_
    rintro e w3 ⟨rfl, hb3⟩
    have hz3 := hz2.trans (hb3.mono hz2.size)
    replace qT := Lib.hid (qT.out.below hb3)
    clear hb3
    generalize ho : rsV xs i = o at *
    have Ho := Lib.hid ho
    clear ho
    cases o with
    | none =>
      go_wp2
      go_ret
      exact ⟨rfl, hz3⟩
    | some r =>
      have hr1 : (r != r) = false := by simp
      have hr2 : (r == r) = true := by simp
      obtain ⟨hs, k, x, hxl, rfl, hk, hp, hrs⟩ := rsV_some Ho.out
      rw [qT.out.len] at hk
      obtain ⟨low, rh, e1, e2, f1, f2, f3, hc, f4, f5, hfix, f6⟩ := sw_facts (sv_take hs k) (sv_at hs hxl) hrs
      obtain ⟨t1, t2, t3, t4⟩ := tv_bds (sv_at hs hxl)
      have HF := Lib.hid hfix
      have HL := Lib.hid (show rlV xs (k : Int) = some low by rw [rlV_yes hp hxl]; exact e1)
      have Hx := Lib.hid hxl
      have Hs := Lib.hid hs
      have hm5 : m ≤ 5 := by have := (sv_all hs).1; have := qT.out.len; omega
      have i0 : (0 : Int) ≤ (k : Int) := by omega
      have i1 : (k : Int) < (m : Int) := by omega
      clear hs hp hxl hrs e1 e2 hc hfix
      go_wp2_with fail
      refine (responseLow_impl D m d xs k w3 qT.out).mono ?_
      rw [HL.out]
      rintro e w4 ⟨rfl, hb4⟩
      have hz4 := hz3.trans (hb4.mono hz3.size)
      replace qT := Lib.hid (qT.out.below hb4)
      clear hb4
      obtain ⟨b, off, x', hA, hx', hb, c0, c1, c2, c3, c4⟩ := qT.out.taskAt hk
      rw [Hx.out] at hx'
      injection hx' with hx'
      subst hA
      subst hx'
      clear c0 c2 c3 c4
      go_wp2_with fail
      go_loopw [11, 12] (fun sv iv wr => ∃ j : Nat, iv = .int .i64 j ∧ j ≤ k ∧ sv = .int .i64 (respF x.high (gSw low) (xs.take j) r) ∧ Below w.heap.size w wr ∧ Below w4.heap.size w4 wr) (fun _ iv _ => k - (intOf iv).toNat)
      case atStart => exact ⟨0, rfl, Nat.zero_le _, by rw [List.take_zero, respF_nil], hz4, Below.refl _ _⟩
      case round =>
        obtain ⟨j, rfl, hj, rfl, hbel, hb4r⟩ := hrel
        clear c1
        by_cases hjk : j < k
        · obtain ⟨b', off', y, hA, hy, hb', e0, e1, e2, e3, e4⟩ := (qT.out.below hb4r).taskAt (i := j) (by omega)
          injection hA with hA
          injection hA with hA1 hA2
          subst hA1 hA2
          have hty := sv_at Hs.out hy
          have HS := Lib.hid (respF_round (base := x.high) (g := gSw low) hy r)
          have hbd := sw_bd (base := x.high) (low := low) Hs.out j (v := r) (by omega) f4 (by omega)
          obtain ⟨g0, g1⟩ := gSw_bd f4 hty (w := r) (by omega)
          have hD := Lib.hid (fun w => demandOf_impl y r true w hty (by omega) (by omega))
          have hDl := Lib.hid (fun w => demandOf_impl y low false w hty f4 (by omega))
          have hg := Lib.hid (show gSw low y r = if y.crit = true then dem true y r else dem false y low from rfl)
          generalize respF x.high (gSw low) (xs.take j) r = s at *
          obtain ⟨b0, b1⟩ := hbd
          have j0 : (0 : Int) ≤ (j : Int) := by omega
          have j1 : (j : Int) < (m : Int) := by omega
          clear hy
          cases hcy : y.crit
          · rw [hcy] at e4
            have hg' := hg.out
            rw [hcy, if_neg (by decide)] at hg'
            have Hg := Lib.hid hg'
            rw [hg'] at g0 g1
            rw [hcy] at hDl
            have E0 := cell_regrown e0
            have E1 := cell_regrown e1
            have E2 := cell_regrown e2
            have E3 := cell_regrown e3
            have E4 := cell_regrown e4
            clear hg' hcy hg hD
            generalize dem false y low = dd at *
            have HC := Lib.hid (fun dq os => Calls.regrown_of (hDl.out (Go.Sort.grow (redrawn wr dq) os)))
            go_wp2_with fail
            refine wp_region_quiet_below (by kernel_rfl) (by kernel_rfl) ?_
            repeat (go_big_quiet_step ((go_at_call 36; exact HC.out _ _)))
            refine wpQuiet_nil ?_
            intro w6 hwq
            have hbq := below_of_regrown hwq
            clear hwq
            have hz6 := hbel.trans (hbq.mono hbel.size)
            have hc6 := hb4r.trans (hbq.mono hb4r.size)
            clear E0 E1 E2 E3 E4 hbq
            go_wp2
            go_roundw
            case rel => exact ⟨j + 1, by go_num, by omega, by rw [HS.out, Hg.out], hz6, hc6⟩
            case measure => simp [intOf]; omega
          · rw [hcy] at e4
            have hg' := hg.out
            rw [hcy, if_pos rfl] at hg'
            have Hg := Lib.hid hg'
            rw [hg'] at g0 g1
            rw [hcy] at hD
            have E0 := cell_regrown e0
            have E1 := cell_regrown e1
            have E2 := cell_regrown e2
            have E3 := cell_regrown e3
            have E4 := cell_regrown e4
            clear hg' hcy hg hDl
            generalize dem true y r = dd at *
            have HC := Lib.hid (fun dq os => Calls.regrown_of (hD.out (Go.Sort.grow (redrawn wr dq) os)))
            go_wp2_with fail
            refine wp_region_quiet_below (by kernel_rfl) (by kernel_rfl) ?_
            repeat (go_big_quiet_step ((go_at_call 36; exact HC.out _ _)))
            refine wpQuiet_nil ?_
            intro w6 hwq
            have hbq := below_of_regrown hwq
            clear hwq
            have hz6 := hbel.trans (hbq.mono hbel.size)
            have hc6 := hb4r.trans (hbq.mono hb4r.size)
            clear E0 E1 E2 E3 E4 hbq
            go_wp2
            go_roundw
            case rel => exact ⟨j + 1, by go_num, by omega, by rw [HS.out, Hg.out], hz6, hc6⟩
            case measure => simp [intOf]; omega
        · have hjk' : j = k := by omega
          subst hjk'
          rw [HF.out]
          go_wp2
          go_ret
          exact ⟨rfl, hbel⟩
  · go_enter Try.func8, Try.ntmps8
    go_wp2
    go_ret
    exact ⟨rfl, hz0⟩

namespace top_FnSwitchFixed
set_option maxRecDepth 100000 in
theorem lifted (os : Os) (started : os.Started) (H : Type) (enc : TypeId × Value → H) :
    ReturnsInHanded {} Try.checked os 8 .any (Rows.fnSwitchFixedSpec.pre6 enc Try.prog Try.f8 Rows.fnSwitchFixedRow.domain false) (Rows.fnSwitchFixedSpec.post enc Try.prog Try.f8 false true false false) := by
  refine returnsInHanded_of_change (C := Try.checked) ownKnob_none started (by kernel_rfl) Try.func8
    (ChangeSpec.witness6 (enc := enc) (C := Try.checked) false ⟨#[], #[.slice none 0 0], []⟩ 8 (by kernel_rfl) (by kernel_rfl) (by kernel_rfl) (by kernel_rfl)) ?_
  intro W base args ds gs before hval0 hW hcnd _
  have hval : ∀ (j : Nat) t v, Try.f8.params[j]? = some t → args[j]? = some v → Value.okWide Try.prog W .any base t v := hval0
  have hW' := hW
  obtain ⟨p, q, hA0, hV, rfl, hfz, hnd⟩ := hW
  have hA : DataW.TrodAll enc Try.prog W 0 (fun _ => true) true Try.f8.params.toList args.toList ds p := hA0
  rw [Try.params8] at hA hval
  obtain ⟨v0, vs0, d0, ds0, p0, q0, hargs, rfl, rfl, h0, r0⟩ := trodAll_cons hA
  obtain ⟨rfl, rfl, rfl⟩ := trodAll_nil r0
  obtain rfl : args = #[v0] := by cases args; simp_all
  obtain ⟨rfl, rfl⟩ := trodVars_none hV
  have k0 := h0
  have lt0 : ∀ x ∈ p0, x.block < W.heap.size := by obtain ⟨m, hm⟩ := k0; exact DataW.trod_lt m _ _ _ hm
  obtain ⟨a0, n0, c0, rfl⟩ := okWide_slice Try.underlying22 (hval 0 22 v0 rfl rfl)
  obtain ⟨x0, w0⟩ : ∃ xs, RdB W a0 n0 c0 xs := by
    obtain ⟨fuel, hf⟩ := h0
    obtain ⟨A, n, c, xs, hcs, hR⟩ := open_bytes hf
    simp [Value.cells] at hcs
    obtain ⟨rfl, rfl, rfl⟩ := hcs
    exact ⟨xs, hR⟩
  clear hA0 hval0
  refine (walk_FnSwitchFixed a0 n0 c0 x0 W w0).mono fun e W' ⟨he, bel⟩ => ?_
  subst he
  exact ⟨_, rfl, _, _, _, [], _, [], hW', trodAll_mk1 (shut_bool Try.underlying4 _), (trodAll_cons_mk (Below.trod laidOut (by kernel_rfl) (of_decide_eq_true (by kernel_rfl)) k0 bel lt0) trodAll_mk0), rfl, bel.frame _, fun h => by cases h⟩

theorem over : Rows.fnSwitchFixedRow.holds Try.pinned (OpenSpec.ofChange Rows.fnSwitchFixedSpec) :=
  OpenClaim.holds_of_wide 8 Try.f8 rfl rfl rfl rfl rfl rfl rfl ⟨rfl, rfl, rfl, rfl, rfl⟩ rfl rfl rfl rfl rfl (by kernel_rfl) Try.func8 (by kernel_rfl)
    (of_decide_eq_true (by kernel_rfl)) (by unfold Func.isWrapper; first | (rw [if_pos (by decide +kernel)]; kernel_rfl) | (rw [if_neg (by decide +kernel)]; exact ⟨rfl, rfl⟩))
    (fun os started H enc _ => lifted os started H enc)
end top_FnSwitchFixed

theorem FnSwitchFixed_holds : Rows.FnSwitchFixedSaid := top_FnSwitchFixed.over
#print axioms FnSwitchFixed_holds

end Go.Proofs.Ytbfdpegjflhboaa
