/- Busy times are fixed points: the law returns true for every input. No condition. -/
import Derived.Test.YtbfdpegjflhboaaOpen
import Derived.Test.YtbfdpegjflhboaaRespS
import Derived.Test.YtbfdpegjflhboaaRespI
import Derived.Test.YtbfdpegjflhboaaBusy
import Derived.Test.YtbfdpegjflhboaaDrawE
namespace Go.Proofs.Ytbfdpegjflhboaa
open Go.ChangeShapes Go.WideShapes Go.ChangeAt Go.RowKit
set_option linter.unusedVariables false

theorem busy_120 {xs : List T} {v : Int} (h : busyV xs = some v) (hE : Evs xs) : v ≤ 120 := by
  obtain ⟨hs, _, h1, _, _, hmin⟩ := busy_facts h
  refine hmin 120 (by omega) ?_
  have hd : ∀ t ∈ xs, t.every ∣ 120 := fun t ht => by
    have h2 := (tvB_iff t).1 ((sv_all hs).2 t ht)
    exact hE t ht (by omega) (by omega)
  have h2 := sum_mult (sv_all hs).2 hd
  have h3 := busy_share h
  have h4 : respF 0 gLow xs 120 * LL ≤ 120 * LL := by rw [h2]; exact Int.mul_le_mul_of_nonneg_left h3 (by omega)
  exact Int.le_of_mul_le_mul_right h4 (by decide)
theorem busy_resp {xs : List T} {v r : Int} {k : Nat} {x : T} (h : busyV xs = some v) (hx : xs[k]? = some x) (hr : rlo (xs.take k) x = some r) : r ≤ v := by
  obtain ⟨hs, _, h1, _, hfix, _⟩ := busy_facts h
  have htx := sv_at hs hx
  have hl := (tvB_iff x).1 htx
  have hva := (sv_all hs).2
  have hvk := sv_take hs k
  obtain ⟨_, _, _, hmin⟩ := riseAt_some (low_monoF (base := x.low) (s := x.low) (by omega) hvk) (low_ge (base := x.low) (w := x.low) (by omega) hvk) hr
  have hn : x.low ≤ gLow x v := dem_need (hi := false) htx h1
  have h2 : respF 0 gLow (xs.take (k + 1)) v = respF 0 gLow (xs.take k) v + gLow x v := respF_round hx v
  have h3 : respF 0 gLow (xs.take (k + 1)) v ≤ respF 0 gLow xs v := respF_sub (List.take_sublist _ _) (fun t ht => dem_nonneg (hva t ht) (by omega))
  have h4 : 0 ≤ respF 0 gLow (xs.take k) v := respF_ge (fun t ht => dem_nonneg (hva t (List.mem_of_mem_take ht)) (by omega))
  have h5 : respF x.low gLow (xs.take k) v = respF 0 gLow (xs.take k) v + x.low := by
    have := respF_base 0 x.low gLow (xs.take k) v
    rw [Int.zero_add] at this
    exact this
  exact hmin v (by omega) (by omega)
theorem busy_rl {xs : List T} {v r : Int} {k : Nat} {x : T} (h : busyV xs = some v) (hx : xs[k]? = some x) (hr : rlV xs (k : Int) = some r) : r ≤ v := by
  have hs := (busy_facts h).1
  rw [rlV_yes (plB_nat hs (List.getElem?_eq_some_iff.1 hx).1) hx] at hr
  exact busy_resp h hx hr

set_option maxRecDepth 100000 in
set_option maxHeartbeats 12800000 in
theorem walk_FnBusyLow (A : Option Addr) (n c : Nat) (bs : List UInt8) (w : World) (h : RdB w A n c bs) :
    Calls Try.prog 10 #[.slice A n c] w fun e w' => e = .returned (.bool true) ∧ Below w.heap.size w w' := by
  have hz0 := Below.refl w.heap.size w
  have H := Lib.hid h
  have hmx : n ≤ maxLen := Nat.le_trans h.cap h.max
  unfold maxLen at hmx
  clear h
  by_cases hn : n ≤ 1048576
  · go_enter Try.func10, Try.ntmps10
    go_wp2_with fail
    refine (drawBusyLowE_any A n c bs w H.out).mono ?_
    rintro e w1 ⟨D, m, d, xs, rfl, hm6, hE, ho, hz1⟩
    have qT := Lib.hid ho.rdS
    have HEv := Lib.hid hE
    have hcap : m ≤ d := ho.rdS.cap
    have hmax : d ≤ maxLen := ho.rdS.max
    unfold maxLen at hmax
    clear ho hE
    go_wp2_with fail
    refine (busyLow_impl D m d xs w1 qT.out).mono ?_
    rintro e w2 ⟨rfl, hb2⟩
    have hz2 := hz1.trans (hb2.mono hz1.size)
    replace qT := Lib.hid (qT.out.below hb2)
    clear hb2
    go_wp2_with fail
    refine (busyLow_spec D m d xs w2 qT.out).mono ?_
    rintro e w3 ⟨rfl, hb3⟩
    have hz3 := hz2.trans (hb3.mono hz2.size)
    replace qT := Lib.hid (qT.out.below hb3)
    clear hb3
    generalize ho : busyV xs = o at *
    have Ho := Lib.hid ho
    clear ho
    cases o with
    | none =>
      go_wp2
      go_ret
      exact ⟨rfl, hz3⟩
    | some v =>
      have hr1 : (v != v) = false := by simp
      have hr2 : (v == v) = true := by simp
      obtain ⟨hs, _, v1, _, hfix, _⟩ := busy_facts Ho.out
      have v2 := busy_120 Ho.out HEv.out
      have HF := Lib.hid hfix
      have Hs := Lib.hid hs
      have Hl := Lib.hid qT.out.len
      have hm5 : m ≤ 5 := by have := (sv_all hs).1; have := qT.out.len; omega
      clear hs hfix
      go_wp2_with fail
      go_loopw [8, 9] (fun sv iv wr => ∃ j : Nat, iv = .int .i64 j ∧ j ≤ m ∧ sv = .int .i64 (respF 0 gLow (xs.take j) v) ∧ Below w3.heap.size w3 wr) (fun _ iv _ => m - (intOf iv).toNat)
      case atStart => exact ⟨0, rfl, Nat.zero_le _, by rw [List.take_zero, respF_nil], Below.refl _ _⟩
      case round =>
        obtain ⟨j, rfl, hj, rfl, hb⟩ := hrel
        have hzr := hz3.trans (hb.mono hz3.size)
        by_cases hjm : j < m
        · obtain ⟨b, off, y, hA, hy, hlt, e0, e1, e2, e3, e4⟩ := (qT.out.below hb).taskAt hjm
          subst hA
          have hty := sv_at Hs.out hy
          have HS := Lib.hid (respF_round (base := 0) (g := gLow) hy v)
          have hbd := low_bd (base := 0) Hs.out j (v := v) (by omega) (by omega)
          have g0 := dem_nonneg (hi := false) hty (w := v) (by omega)
          have g1 := dem_le (hi := false) hty (w := v) (by omega)
          have hD := Lib.hid (fun w => demandOf_impl y v false w hty (by omega) (by omega))
          rw [show gLow y v = dem false y v from rfl] at HS
          generalize respF 0 gLow (xs.take j) v = s at *
          generalize dem false y v = dd at *
          obtain ⟨b0, b1⟩ := hbd
          have j0 : (0 : Int) ≤ (j : Int) := by omega
          have j1 : (j : Int) < (m : Int) := by omega
          have HRL := Lib.hid (fun r e => busy_rl (r := r) Ho.out hy e)
          have HR := Lib.hid (fun w h => responseLow_impl (some ⟨b, off, none⟩) m d xs (j : Int) w h)
          generalize hrv : rlV xs (j : Int) = rv at *
          clear hy hrv
          go_wp2_with fail
          refine (hD.out _).mono ?_
          rintro e w4 ⟨rfl, hb4⟩
          have hb34 := hb.trans (hb4.mono hb.size)
          clear hb4 e0 e1 e2 e3 e4
          cases rv with
          | none =>
            go_wp2_with fail
            refine (HR.out w4 (qT.out.below hb34)).mono ?_
            rintro e w5 ⟨rfl, hb5⟩
            have hb35 := hb34.trans (hb5.mono hb34.size)
            go_wp2
            go_roundw
            case rel => exact ⟨j + 1, by go_num, by omega, by rw [HS.out], hb35⟩
            case measure => simp [intOf]; omega
          | some r =>
            have hrv2 := HRL.out r rfl
            have hrv3 : decide (v < r) = false := by simp; omega
            go_wp2_with fail
            refine (HR.out w4 (qT.out.below hb34)).mono ?_
            rintro e w5 ⟨rfl, hb5⟩
            have hb35 := hb34.trans (hb5.mono hb34.size)
            go_wp2
            go_roundw
            case rel => exact ⟨j + 1, by go_num, by omega, by rw [HS.out], hb35⟩
            case measure => simp [intOf]; omega
        · have hjm' : j = m := by omega
          subst hjm'
          rw [List.take_of_length_le (by rw [Hl.out]; exact Nat.le_refl _), HF.out]
          go_wp2
          go_ret
          exact ⟨rfl, hzr⟩
  · go_enter Try.func10, Try.ntmps10
    go_wp2
    go_ret
    exact ⟨rfl, hz0⟩

namespace top_FnBusyLow
set_option maxRecDepth 100000 in
theorem lifted (os : Os) (started : os.Started) (H : Type) (enc : TypeId × Value → H) :
    ReturnsInHanded {} Try.checked os 10 .any (Rows.fnBusyLowSpec.pre6 enc Try.prog Try.f10 Rows.fnBusyLowRow.domain false) (Rows.fnBusyLowSpec.post enc Try.prog Try.f10 false true false false) := by
  refine returnsInHanded_of_change (C := Try.checked) ownKnob_none started (by kernel_rfl) Try.func10
    (ChangeSpec.witness6 (enc := enc) (C := Try.checked) false ⟨#[], #[.slice none 0 0], []⟩ 8 (by kernel_rfl) (by kernel_rfl) (by kernel_rfl) (by kernel_rfl)) ?_
  intro W base args ds gs before hval0 hW hcnd _
  have hval : ∀ (j : Nat) t v, Try.f10.params[j]? = some t → args[j]? = some v → Value.okWide Try.prog W .any base t v := hval0
  have hW' := hW
  obtain ⟨p, q, hA0, hV, rfl, hfz, hnd⟩ := hW
  have hA : DataW.TrodAll enc Try.prog W 0 (fun _ => true) true Try.f10.params.toList args.toList ds p := hA0
  rw [Try.params10] at hA hval
  obtain ⟨v0, vs0, d0, ds0, p0, q0, hargs, rfl, rfl, h0, r0⟩ := trodAll_cons hA
  obtain ⟨rfl, rfl, rfl⟩ := trodAll_nil r0
  obtain rfl : args = #[v0] := by cases args; simp_all
  obtain ⟨rfl, rfl⟩ := trodVars_none hV
  have k0 := h0
  have lt0 : ∀ x ∈ p0, x.block < W.heap.size := by obtain ⟨m, hm⟩ := k0; exact DataW.trod_lt m _ _ _ hm
  obtain ⟨a0, n0, c0, rfl⟩ := okWide_slice Try.underlying22 (hval 0 22 v0 rfl rfl)
  obtain ⟨x0, w0⟩ : ∃ xs, RdB W a0 n0 c0 xs := by
    obtain ⟨fuel, hf⟩ := h0
    obtain ⟨A, n, c, xs, hcs, hR⟩ := open_bytes hf
    simp [Value.cells] at hcs
    obtain ⟨rfl, rfl, rfl⟩ := hcs
    exact ⟨xs, hR⟩
  clear hA0 hval0
  refine (walk_FnBusyLow a0 n0 c0 x0 W w0).mono fun e W' ⟨he, bel⟩ => ?_
  subst he
  exact ⟨_, rfl, _, _, _, [], _, [], hW', trodAll_mk1 (shut_bool Try.underlying4 _), (trodAll_cons_mk (Below.trod laidOut (by kernel_rfl) (of_decide_eq_true (by kernel_rfl)) k0 bel lt0) trodAll_mk0), rfl, bel.frame _, fun h => by cases h⟩

theorem over : Rows.fnBusyLowRow.holds Try.pinned (OpenSpec.ofChange Rows.fnBusyLowSpec) :=
  OpenClaim.holds_of_wide 10 Try.f10 rfl rfl rfl rfl rfl rfl rfl ⟨rfl, rfl, rfl, rfl, rfl⟩ rfl rfl rfl rfl rfl (by kernel_rfl) Try.func10 (by kernel_rfl)
    (of_decide_eq_true (by kernel_rfl)) (by unfold Func.isWrapper; first | (rw [if_pos (by decide +kernel)]; kernel_rfl) | (rw [if_neg (by decide +kernel)]; exact ⟨rfl, rfl⟩))
    (fun os started H enc _ => lifted os started H enc)
end top_FnBusyLow

theorem FnBusyLow_holds : Rows.FnBusyLowSaid := top_FnBusyLow.over
#print axioms FnBusyLow_holds

end Go.Proofs.Ytbfdpegjflhboaa
