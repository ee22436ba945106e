/- High needs alone are low needs: the law returns true for every input. No condition. -/
import Derived.Test.YtbfdpegjflhboaaOpen
import Derived.Test.YtbfdpegjflhboaaRespS
import Derived.Test.YtbfdpegjflhboaaDraw3
import Derived.Test.YtbfdpegjflhboaaRespH
namespace Go.Proofs.Ytbfdpegjflhboaa
open Go.ChangeShapes Go.WideShapes Go.ChangeAt Go.RowKit
set_option linter.unusedVariables false


set_option maxRecDepth 100000 in
set_option maxHeartbeats 6400000 in
theorem walk_FnHighCritical (A : Option Addr) (n c : Nat) (bs : List UInt8) (w : World) (h : RdB w A n c bs) :
    Calls Try.prog 7 #[.slice A n c] w fun e w' => e = .returned (.bool true) ∧ Below w.heap.size w w' := by
  have hz0 := Below.refl w.heap.size w
  have H := Lib.hid h
  have hmx : n ≤ maxLen := Nat.le_trans h.cap h.max
  unfold maxLen at hmx
  clear h
  by_cases hn : n ≤ 1048576
  · go_enter Try.func7, Try.ntmps7
    go_wp2_with fail
    refine (drawResponseHigh_any A n c bs w H.out).mono ?_
    rintro e w1 ⟨D, m, d, xs, i, rfl, hm6, ho, hz1⟩
    have qT := Lib.hid ho.rdS
    have hcap : m ≤ d := ho.rdS.cap
    have hmax : d ≤ maxLen := ho.rdS.max
    unfold maxLen at hmax
    clear ho
    go_wp2_with fail
    refine (responseHigh_impl D m d xs i w1 qT.out).mono ?_
    rintro e w2 ⟨rfl, hb2⟩
    have hz2 := hz1.trans (hb2.mono hz1.size)
    replace qT := Lib.hid (qT.out.below hb2)
    clear hb2
    go_wp2_with fail
    refine (responseHigh_spec D m d xs i w2 qT.out).mono ?_
    rintro e w3 ⟨rfl, hb3⟩
    have hz3 := hz2.trans (hb3.mono hz2.size)
    replace qT := Lib.hid (qT.out.below hb3)
    clear hb3
    generalize ho : rhV xs i = o at *
    have Ho := Lib.hid ho
    clear ho
    cases o with
    | none =>
      go_wp2
      go_ret
      exact ⟨rfl, hz3⟩
    | some r =>
      have hr1 : (r != r) = false := by simp
      have hr2 : (r == r) = true := by simp
      obtain ⟨hs, k, x, hx, hc, _⟩ := rhV_some Ho.out
      have hcv := Lib.hid (critV_yes hs)
      have hpos := critL_pos hx hc
      clear hs hx hc
      go_wp2_with fail
      refine (criticalOf_impl D m d xs w3 qT.out).mono ?_
      rintro e w4 ⟨D2, k2, d2, rfl, o4, hb4⟩
      have hz4 := hz3.trans (hb4.mono hz3.size)
      clear hb4
      have hk2 : (critL xs).length = k2 := by rw [← hcv.out]; exact o4.2
      have hk3 : 0 < k2 := by rw [← hk2]; exact hpos
      have hcm := (Rd.of_own T.cells_len o4.1 o4.2).max
      have hcc := (Rd.of_own T.cells_len o4.1 o4.2).cap
      unfold maxLen at hcm
      have qC := Lib.hid (show RdT w4 D2 k2 d2 (critL xs) from hcv.out ▸ Rd.of_own T.cells_len o4.1 o4.2)
      have Hk := Lib.hid hk2
      clear o4 hk2 hpos
      go_wp2_with fail
      go_loopw [10] (fun i wr => ∃ j : Nat, i = .int .i64 j ∧ j ≤ k2 ∧ Below w.heap.size w wr ∧ Below w4.heap.size w4 wr) (fun i _ => k2 - (intOf i).toNat)
      case atStart => exact ⟨0, rfl, Nat.zero_le _, hz4, Below.refl _ _⟩
      case round =>
        obtain ⟨j, rfl, hj, hz5, hb5⟩ := hrel
        by_cases hjk : j < k2
        · have HE := Lib.hid (rh_crit xs j (by rw [Hk.out]; exact hjk))
          go_wp2_with fail
          refine (responseHigh_impl D2 k2 d2 (critL xs) j wr (qC.out.below hb5)).mono ?_
          rw [HE.out]
          rintro e w6 ⟨rfl, hb6⟩
          have hz6 := hz5.trans (hb6.mono hz5.size)
          have hc6 := hb5.trans (hb6.mono hb5.size)
          clear hb6
          go_wp2_with fail
          refine (responseLow_impl D2 k2 d2 (critL xs) j w6 (qC.out.below hc6)).mono ?_
          rintro e w7 ⟨rfl, hb7⟩
          have hz7 := hz6.trans (hb7.mono hz6.size)
          have hc7 := hc6.trans (hb7.mono hc6.size)
          clear hb7
          generalize (rlV (critL xs) (j : Int)).getD 0 = p at *
          generalize (rlV (critL xs) (j : Int)).isSome = q at *
          have hp1 : (p != p) = false := by simp
          have hq1 : (q != q) = false := by simp
          go_wp2
          go_roundw
          case rel => exact ⟨j + 1, by go_num, by omega, hz7, hc7⟩
          case measure => simp [intOf]; omega
        · have hjk' : j = k2 := by omega
          subst hjk'
          go_wp2
          go_ret
          exact ⟨rfl, hz5⟩
  · go_enter Try.func7, Try.ntmps7
    go_wp2
    go_ret
    exact ⟨rfl, hz0⟩

namespace top_FnHighCritical
set_option maxRecDepth 100000 in
theorem lifted (os : Os) (started : os.Started) (H : Type) (enc : TypeId × Value → H) :
    ReturnsInHanded {} Try.checked os 7 .any (Rows.fnHighCriticalSpec.pre6 enc Try.prog Try.f7 Rows.fnHighCriticalRow.domain false) (Rows.fnHighCriticalSpec.post enc Try.prog Try.f7 false true false false) := by
  refine returnsInHanded_of_change (C := Try.checked) ownKnob_none started (by kernel_rfl) Try.func7
    (ChangeSpec.witness6 (enc := enc) (C := Try.checked) false ⟨#[], #[.slice none 0 0], []⟩ 8 (by kernel_rfl) (by kernel_rfl) (by kernel_rfl) (by kernel_rfl)) ?_
  intro W base args ds gs before hval0 hW hcnd _
  have hval : ∀ (j : Nat) t v, Try.f7.params[j]? = some t → args[j]? = some v → Value.okWide Try.prog W .any base t v := hval0
  have hW' := hW
  obtain ⟨p, q, hA0, hV, rfl, hfz, hnd⟩ := hW
  have hA : DataW.TrodAll enc Try.prog W 0 (fun _ => true) true Try.f7.params.toList args.toList ds p := hA0
  rw [Try.params7] at hA hval
  obtain ⟨v0, vs0, d0, ds0, p0, q0, hargs, rfl, rfl, h0, r0⟩ := trodAll_cons hA
  obtain ⟨rfl, rfl, rfl⟩ := trodAll_nil r0
  obtain rfl : args = #[v0] := by cases args; simp_all
  obtain ⟨rfl, rfl⟩ := trodVars_none hV
  have k0 := h0
  have lt0 : ∀ x ∈ p0, x.block < W.heap.size := by obtain ⟨m, hm⟩ := k0; exact DataW.trod_lt m _ _ _ hm
  obtain ⟨a0, n0, c0, rfl⟩ := okWide_slice Try.underlying22 (hval 0 22 v0 rfl rfl)
  obtain ⟨x0, w0⟩ : ∃ xs, RdB W a0 n0 c0 xs := by
    obtain ⟨fuel, hf⟩ := h0
    obtain ⟨A, n, c, xs, hcs, hR⟩ := open_bytes hf
    simp [Value.cells] at hcs
    obtain ⟨rfl, rfl, rfl⟩ := hcs
    exact ⟨xs, hR⟩
  clear hA0 hval0
  refine (walk_FnHighCritical a0 n0 c0 x0 W w0).mono fun e W' ⟨he, bel⟩ => ?_
  subst he
  exact ⟨_, rfl, _, _, _, [], _, [], hW', trodAll_mk1 (shut_bool Try.underlying4 _), (trodAll_cons_mk (Below.trod laidOut (by kernel_rfl) (of_decide_eq_true (by kernel_rfl)) k0 bel lt0) trodAll_mk0), rfl, bel.frame _, fun h => by cases h⟩

theorem over : Rows.fnHighCriticalRow.holds Try.pinned (OpenSpec.ofChange Rows.fnHighCriticalSpec) :=
  OpenClaim.holds_of_wide 7 Try.f7 rfl rfl rfl rfl rfl rfl rfl ⟨rfl, rfl, rfl, rfl, rfl⟩ rfl rfl rfl rfl rfl (by kernel_rfl) Try.func7 (by kernel_rfl)
    (of_decide_eq_true (by kernel_rfl)) (by unfold Func.isWrapper; first | (rw [if_pos (by decide +kernel)]; kernel_rfl) | (rw [if_neg (by decide +kernel)]; exact ⟨rfl, rfl⟩))
    (fun os started H enc _ => lifted os started H enc)
end top_FnHighCritical

theorem FnHighCritical_holds : Rows.FnHighCriticalSaid := top_FnHighCritical.over
#print axioms FnHighCritical_holds

end Go.Proofs.Ytbfdpegjflhboaa
