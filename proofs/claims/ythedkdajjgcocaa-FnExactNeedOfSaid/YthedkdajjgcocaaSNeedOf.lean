/- The program's NeedOf returns what the reference's returns, and its arguments read as before, for all arguments. No condition. -/
import Derived.Test.YthedkdajjgcocaaOpen
import Derived.Test.YthedkdajjgcocaaNeed
import Derived.Test.YthedkdajjgcocaaConvJ
namespace Go.Proofs.Ythedkdajjgcocaa
open Go.ChangeShapes Go.WideShapes Go.ChangeAt Go.RowKit
set_option linter.unusedVariables false

set_option maxHeartbeats 1600000 in
theorem walk_FnExactNeedOf (A : Option Addr) (n c : Nat) (xs : List J) (t : Int) (w : World) (h : RdJ w A n c xs) (ht : (Lit.int .i64 t).wf = true) :
    Calls Try.prog 3 #[.slice A n c, .int .i64 t] w fun e w' => e = .returned (.bool true) ∧ Below w.heap.size w w' := by
  by_cases hn : n ≤ 1048576
  · have hne : ((needOf xs t : Int) != needOf xs t) = false := by simp
    go_enter Try.func3, Try.ntmps3
    go_wp2_with fail
    refine (szJobS_small A n c w hn).mono ?_
    rintro e w1 ⟨rfl, hb1⟩
    have r1 := Lib.hid (h.below hb1)
    go_wp2_with fail
    refine (toJobS_any A n c xs w1 r1.out hn).mono ?_
    rintro e w2 ⟨g2, rfl, hown2, hb2⟩
    have q2 := Lib.hid (Rd.of_own J.cells_len hown2 h.len)
    have hb02 := hb1.trans (hb2.mono hb1.size)
    clear hown2 hb2
    go_wp2_with fail
    refine (needOf_spec _ n n xs t w2 q2.out).mono ?_
    rintro e w3 ⟨rfl, hb3⟩
    have hb03 := hb02.trans (hb3.mono hb02.size)
    clear hb3 q2
    go_wp2_with fail
    refine (toJobS_any A n c xs w3 (h.below hb03) hn).mono ?_
    rintro e w4 ⟨g4, rfl, hown4, hb4⟩
    have q4 := Lib.hid (Rd.of_own J.cells_len hown4 h.len)
    have hb04 := hb03.trans (hb4.mono hb03.size)
    clear hown4 hb4
    go_wp2_with fail
    refine (needOf_impl _ n n xs t w4 q4.out).mono ?_
    rintro e w5 ⟨rfl, hb5⟩
    have hb05 := hb04.trans (hb5.mono hb04.size)
    have q5 := Lib.hid (q4.out.below hb5)
    clear hb5
    go_wp2_with fail
    refine (toJobS_any A n c xs w5 (h.below hb05) hn).mono ?_
    rintro e w6 ⟨g6, rfl, hown6, hb6⟩
    have q6 := Lib.hid (Rd.of_own J.cells_len hown6 h.len)
    have q6' := Lib.hid (q5.out.below hb6)
    have hb06 := hb05.trans (hb6.mono hb05.size)
    clear hown6 hb6
    go_wp2_with fail
    refine (eqJobS_same _ _ n n n xs w6 q6'.out q6.out).mono ?_
    rintro e w7 ⟨rfl, hb7⟩
    have hb07 := hb06.trans (hb7.mono hb06.size)
    clear hb7
    go_wp2
    go_ret
    exact ⟨rfl, hb07⟩
  · go_enter Try.func3, Try.ntmps3
    go_wp2_with fail
    refine (szJobS_big A n c xs w h (by omega)).mono ?_
    rintro e w1 ⟨rfl, hb1⟩
    go_wp2
    go_ret
    exact ⟨rfl, hb1⟩

namespace top_FnExactNeedOf
set_option maxRecDepth 100000 in
theorem lifted (os : Os) (started : os.Started) (H : Type) (enc : TypeId × Value → H) :
    ReturnsInHanded {} Try.checked os 3 .any (Rows.fnExactNeedOfSpec.pre6 enc Try.prog Try.f3 Rows.fnExactNeedOfRow.domain false) (Rows.fnExactNeedOfSpec.post enc Try.prog Try.f3 false true false false) := by
  refine returnsInHanded_of_change (C := Try.checked) ownKnob_none started (by kernel_rfl) Try.func3
    (ChangeSpec.witness6 (enc := enc) (C := Try.checked) false ⟨#[], #[.slice none 0 0, .int .i64 0], []⟩ 8 (by kernel_rfl) (by kernel_rfl) (by kernel_rfl) (by kernel_rfl)) ?_
  intro W base args ds gs before hval0 hW hcnd _
  have hval : ∀ (j : Nat) t v, Try.f3.params[j]? = some t → args[j]? = some v → Value.okWide Try.prog W .any base t v := hval0
  have hW' := hW
  obtain ⟨p, q, hA0, hV, rfl, hfz, hnd⟩ := hW
  have hA : DataW.TrodAll enc Try.prog W 0 (fun _ => true) true Try.f3.params.toList args.toList ds p := hA0
  rw [Try.params3] at hA hval
  obtain ⟨v0, vs0, d0, ds0, p0, q0, hargs, rfl, rfl, h0, r0⟩ := trodAll_cons hA
  obtain ⟨v1, vs1, d1, ds1, p1, q1, rfl, rfl, rfl, h1, r1⟩ := trodAll_cons r0
  obtain ⟨rfl, rfl, rfl⟩ := trodAll_nil r1
  obtain rfl : args = #[v0, v1] := by cases args; simp_all
  obtain ⟨rfl, rfl⟩ := trodVars_none hV
  have k0 := h0
  have lt0 : ∀ x ∈ p0, x.block < W.heap.size := by obtain ⟨m, hm⟩ := k0; exact DataW.trod_lt m _ _ _ hm
  obtain ⟨a0, n0, c0, rfl⟩ := okWide_slice Try.underlying22 (hval 0 22 v0 rfl rfl)
  obtain ⟨x0, w0⟩ : ∃ xs, RdJ W a0 n0 c0 xs := by
    obtain ⟨fuel, hf⟩ := h0
    obtain ⟨A, n, c, xs, hcs, hR⟩ := open_jobs hf
    simp [Value.cells] at hcs
    obtain ⟨rfl, rfl, rfl⟩ := hcs
    exact ⟨xs, hR⟩
  have k1 := h1
  have lt1 : ∀ x ∈ p1, x.block < W.heap.size := by obtain ⟨m, hm⟩ := k1; exact DataW.trod_lt m _ _ _ hm
  obtain ⟨a1, hv1, _, _, w1⟩ := open_int Try.underlying3 (hval 1 3 v1 rfl rfl) h1
  subst hv1
  clear hA0 hval0
  refine (walk_FnExactNeedOf a0 n0 c0 x0 a1 W w0 w1).mono fun e W' ⟨he, bel⟩ => ?_
  subst he
  exact ⟨_, rfl, _, _, _, [], _, [], hW', trodAll_mk1 (shut_bool Try.underlying4 _), (trodAll_cons_mk (Below.trod laidOut (by kernel_rfl) (of_decide_eq_true (by kernel_rfl)) k0 bel lt0) (trodAll_cons_mk (Below.trod laidOut (by kernel_rfl) (of_decide_eq_true (by kernel_rfl)) k1 bel lt1) trodAll_mk0)), rfl, bel.frame _, fun h => by cases h⟩

theorem over : Rows.fnExactNeedOfRow.holds Try.pinned (OpenSpec.ofChange Rows.fnExactNeedOfSpec) :=
  OpenClaim.holds_of_wide 3 Try.f3 rfl rfl rfl rfl rfl rfl rfl ⟨rfl, rfl, rfl, rfl, rfl⟩ rfl rfl rfl rfl rfl (by kernel_rfl) Try.func3 (by kernel_rfl)
    (of_decide_eq_true (by kernel_rfl)) (by unfold Func.isWrapper; first | (rw [if_pos (by decide +kernel)]; kernel_rfl) | (rw [if_neg (by decide +kernel)]; exact ⟨rfl, rfl⟩))
    (fun os started H enc _ => lifted os started H enc)
end top_FnExactNeedOf

theorem FnExactNeedOf_holds : Rows.FnExactNeedOfSaid := top_FnExactNeedOf.over
#print axioms FnExactNeedOf_holds

end Go.Proofs.Ythedkdajjgcocaa
