/- Critical tasks hold alone: the law returns true for every input. No condition. -/
import Derived.Test.YtjjeldcbglnlaaaOpen
import Derived.Test.YtjjeldcbglnlaaaRespS
import Derived.Test.YtjjeldcbglnlaaaDraw3
import Derived.Test.YtjjeldcbglnlaaaLow5
namespace Go.Proofs.Ytjjeldcbglnlaaa
open Go.ChangeShapes Go.WideShapes Go.ChangeAt Go.RowKit
set_option linter.unusedVariables false


set_option maxRecDepth 100000 in
set_option maxHeartbeats 6400000 in
theorem walk_FnHoldsSwitch (A : Option Addr) (n c : Nat) (bs : List UInt8) (w : World) (h : RdB w A n c bs) :
    Calls Try.prog 9 #[.slice A n c] w fun e w' => e = .returned (.bool true) ∧ Below w.heap.size w w' := by
  have hz0 := Below.refl w.heap.size w
  have H := Lib.hid h
  have hmx : n ≤ maxLen := Nat.le_trans h.cap h.max
  unfold maxLen at hmx
  clear h
  by_cases hn : n ≤ 1048576
  · go_enter Try.func9, Try.ntmps9
    go_wp2_with fail
    refine (drawHoldsBoth_any A n c bs w H.out).mono ?_
    rintro e w1 ⟨D, m, d, xs, rfl, hm6, ho, hz1⟩
    have qT := Lib.hid ho.rdS
    have hcap : m ≤ d := ho.rdS.cap
    have hmax : d ≤ maxLen := ho.rdS.max
    unfold maxLen at hmax
    clear ho
    cases hb : bothB xs
    · have E1 := Lib.hid hb
      clear hb
      go_wp2_with fail
      refine (holdsBoth_impl D m d xs w1 qT.out).mono ?_
      rw [E1.out]
      rintro e w2 ⟨rfl, hb2⟩
      have hz2 := hz1.trans (hb2.mono hz1.size)
      replace qT := Lib.hid (qT.out.below hb2)
      clear hb2
      go_wp2_with fail
      refine (holdsBoth_spec D m d xs w2 qT.out).mono ?_
      rw [E1.out]
      rintro e w3 ⟨rfl, hb3⟩
      have hz3 := hz2.trans (hb3.mono hz2.size)
      replace qT := Lib.hid (qT.out.below hb3)
      clear hb3
      go_wp2_with fail
      refine (holdsBoth_spec D m d xs w3 qT.out).mono ?_
      rw [E1.out]
      rintro e w4 ⟨rfl, hb4⟩
      have hz4 := hz3.trans (hb4.mono hz3.size)
      clear hb4
      go_wp2
      go_ret
      exact ⟨rfl, hz4⟩
    · have E1 := Lib.hid hb
      have hcv := Lib.hid (critV_yes (bothB_iff.1 hb).1)
      have E2 := Lib.hid (both_crit hb)
      have E3 := Lib.hid (both_low (both_crit hb))
      clear hb
      go_wp2_with fail
      refine (holdsBoth_impl D m d xs w1 qT.out).mono ?_
      rw [E1.out]
      rintro e w2 ⟨rfl, hb2⟩
      have hz2 := hz1.trans (hb2.mono hz1.size)
      replace qT := Lib.hid (qT.out.below hb2)
      clear hb2
      go_wp2_with fail
      refine (holdsBoth_spec D m d xs w2 qT.out).mono ?_
      rw [E1.out]
      rintro e w3 ⟨rfl, hb3⟩
      have hz3 := hz2.trans (hb3.mono hz2.size)
      replace qT := Lib.hid (qT.out.below hb3)
      clear hb3
      go_wp2_with fail
      refine (criticalOf_impl D m d xs w3 qT.out).mono ?_
      rintro e w4 ⟨D2, k2, d2, rfl, o4, hb4⟩
      have hz4 := hz3.trans (hb4.mono hz3.size)
      replace qT := Lib.hid (qT.out.below hb4)
      clear hb4
      have qC := Lib.hid (show RdT w4 D2 k2 d2 (critL xs) from hcv.out ▸ Rd.of_own T.cells_len o4.1 o4.2)
      clear o4
      go_wp2_with fail
      refine (holdsLow_impl D2 k2 d2 (critL xs) w4 qC.out).mono ?_
      rw [E3.out]
      rintro e w5 ⟨rfl, hb5⟩
      have hz5 := hz4.trans (hb5.mono hz4.size)
      replace qT := Lib.hid (qT.out.below hb5)
      clear hb5
      go_wp2_with fail
      refine (criticalOf_impl D m d xs w5 qT.out).mono ?_
      rintro e w6 ⟨D3, k3, d3, rfl, o6, hb6⟩
      have hz6 := hz5.trans (hb6.mono hz5.size)
      clear hb6
      have qC3 := Lib.hid (show RdT w6 D3 k3 d3 (critL xs) from hcv.out ▸ Rd.of_own T.cells_len o6.1 o6.2)
      clear o6
      go_wp2_with fail
      refine (holdsBoth_impl D3 k3 d3 (critL xs) w6 qC3.out).mono ?_
      rw [E2.out]
      rintro e w7 ⟨rfl, hb7⟩
      have hz7 := hz6.trans (hb7.mono hz6.size)
      clear hb7
      go_wp2
      go_ret
      exact ⟨rfl, hz7⟩
  · go_enter Try.func9, Try.ntmps9
    go_wp2
    go_ret
    exact ⟨rfl, hz0⟩

namespace top_FnHoldsSwitch
set_option maxRecDepth 100000 in
theorem lifted (os : Os) (started : os.Started) (H : Type) (enc : TypeId × Value → H) :
    ReturnsInHanded {} Try.checked os 9 .any (Rows.fnHoldsSwitchSpec.pre6 enc Try.prog Try.f9 Rows.fnHoldsSwitchRow.domain false) (Rows.fnHoldsSwitchSpec.post enc Try.prog Try.f9 false true false false) := by
  refine returnsInHanded_of_change (C := Try.checked) ownKnob_none started (by kernel_rfl) Try.func9
    (ChangeSpec.witness6 (enc := enc) (C := Try.checked) false ⟨#[], #[.slice none 0 0], []⟩ 8 (by kernel_rfl) (by kernel_rfl) (by kernel_rfl) (by kernel_rfl)) ?_
  intro W base args ds gs before hval0 hW hcnd _
  have hval : ∀ (j : Nat) t v, Try.f9.params[j]? = some t → args[j]? = some v → Value.okWide Try.prog W .any base t v := hval0
  have hW' := hW
  obtain ⟨p, q, hA0, hV, rfl, hfz, hnd⟩ := hW
  have hA : DataW.TrodAll enc Try.prog W 0 (fun _ => true) true Try.f9.params.toList args.toList ds p := hA0
  rw [Try.params9] at hA hval
  obtain ⟨v0, vs0, d0, ds0, p0, q0, hargs, rfl, rfl, h0, r0⟩ := trodAll_cons hA
  obtain ⟨rfl, rfl, rfl⟩ := trodAll_nil r0
  obtain rfl : args = #[v0] := by cases args; simp_all
  obtain ⟨rfl, rfl⟩ := trodVars_none hV
  have k0 := h0
  have lt0 : ∀ x ∈ p0, x.block < W.heap.size := by obtain ⟨m, hm⟩ := k0; exact DataW.trod_lt m _ _ _ hm
  obtain ⟨a0, n0, c0, rfl⟩ := okWide_slice Try.underlying29 (hval 0 29 v0 rfl rfl)
  obtain ⟨x0, w0⟩ : ∃ xs, RdB W a0 n0 c0 xs := by
    obtain ⟨fuel, hf⟩ := h0
    obtain ⟨A, n, c, xs, hcs, hR⟩ := open_bytes hf
    simp [Value.cells] at hcs
    obtain ⟨rfl, rfl, rfl⟩ := hcs
    exact ⟨xs, hR⟩
  clear hA0 hval0
  refine (walk_FnHoldsSwitch a0 n0 c0 x0 W w0).mono fun e W' ⟨he, bel⟩ => ?_
  subst he
  exact ⟨_, rfl, _, _, _, [], _, [], hW', trodAll_mk1 (shut_bool Try.underlying4 _), (trodAll_cons_mk (Below.trod laidOut (by kernel_rfl) (of_decide_eq_true (by kernel_rfl)) k0 bel lt0) trodAll_mk0), rfl, bel.frame _, fun h => by cases h⟩

theorem over : Rows.fnHoldsSwitchRow.holds Try.pinned (OpenSpec.ofChange Rows.fnHoldsSwitchSpec) :=
  OpenClaim.holds_of_wide 9 Try.f9 rfl rfl rfl rfl rfl rfl rfl ⟨rfl, rfl, rfl, rfl, rfl⟩ rfl rfl rfl rfl rfl (by kernel_rfl) Try.func9 (by kernel_rfl)
    (of_decide_eq_true (by kernel_rfl)) (by unfold Func.isWrapper; first | (rw [if_pos (by decide +kernel)]; kernel_rfl) | (rw [if_neg (by decide +kernel)]; exact ⟨rfl, rfl⟩))
    (fun os started H enc _ => lifted os started H enc)
end top_FnHoldsSwitch

theorem FnHoldsSwitch_holds : Rows.FnHoldsSwitchSaid := top_FnHoldsSwitch.over
#print axioms FnHoldsSwitch_holds

end Go.Proofs.Ytjjeldcbglnlaaa
