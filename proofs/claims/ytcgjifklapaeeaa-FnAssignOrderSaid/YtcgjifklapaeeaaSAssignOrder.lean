/- Orders are found: the law returns true for every input. No condition. -/
import Derived.Test.YtcgjifklapaeeaaOpen
import Derived.Test.YtcgjifklapaeeaaOrdA
import Derived.Test.YtcgjifklapaeeaaAnyS
import Derived.Test.YtcgjifklapaeeaaAllL
import Derived.Test.YtcgjifklapaeeaaDraw4
import Derived.Test.YtcgjifklapaeeaaEqI
namespace Go.Proofs.Ytcgjifklapaeeaa
open Go.ChangeShapes Go.WideShapes Go.ChangeAt Go.RowKit
set_option linter.unusedVariables false

set_option maxRecDepth 100000 in
set_option maxHeartbeats 6400000 in
theorem walk_FnAssignOrder (A : Option Addr) (n c : Nat) (bs : List UInt8) (w : World) (h : RdB w A n c bs) :
    Calls Try.prog 4 #[.slice A n c] w fun e w' => e = .returned (.bool true) ∧ Below w.heap.size w w' := by
  have hz0 := Below.refl w.heap.size w
  have H := Lib.hid h
  have hmx : n ≤ maxLen := Nat.le_trans h.cap h.max
  unfold maxLen at hmx
  clear h
  by_cases hn : n ≤ 1048576
  · go_enter Try.func4, Try.ntmps4
    go_wp2_with fail
    refine (drawAnyOrder_any A n c bs w H.out).mono ?_
    rintro e w1 ⟨D, m, d, xs, rfl, hm6, hm5, hT, hz1⟩
    have qT := Lib.hid hT
    have HC1 := Lib.hid (fun w h => assignOrder_impl D m d xs w h)
    have HC2 := Lib.hid (fun w h => assignOrder_spec D m d xs w h)
    have HC3 := Lib.hid (fun w h => anyOrder_impl D m d xs w h)
    have hAA := asg_any xs
    have HL1 := Lib.hid (fun o h => asg_len (xs := xs) (O := o) h)
    have HL2 := Lib.hid (fun o h => any_len (xs := xs) (o := o) h)
    obtain ⟨O, hO⟩ : ∃ O, asgV xs = O := ⟨_, rfl⟩
    obtain ⟨Q, hQ⟩ : ∃ Q, anyV xs = Q := ⟨_, rfl⟩
    rw [hO] at HC1 HC2 hAA
    rw [hQ] at HC3 hAA
    have hf1 : (false != false) = false := rfl
    have hf2 : (true != true) = false := rfl
    have HO := Lib.hid hO
    have HQ := Lib.hid hQ
    clear hT hO hQ
    cases O with
    | none =>
      cases Q with
      | some p => cases hAA
      | none =>
        simp only [Option.isSome_none, Option.getD_none] at HC1 HC2 HC3
        have HC1 := Lib.hid HC1.out
        have HC2 := Lib.hid HC2.out
        have HC3 := Lib.hid HC3.out
        clear hAA
        go_wp2_with fail
        refine (HC1.out w1 qT.out).mono ?_
        rintro e w2 ⟨P1, k1, d1, rfl, o2, hb2⟩
        have hz2 := hz1.trans (hb2.mono hz1.size)
        replace qT := Lib.hid (qT.out.below hb2)
        have r1 := Lib.hid o2.rd5
        have l1 : k1 = 0 := o2.2.symm
        subst l1
        clear hb2 o2
        go_wp2_with fail
        refine (HC2.out w2 qT.out).mono ?_
        rintro e w3 ⟨P2, k2, d2, rfl, o3, hb3⟩
        have hz3 := hz2.trans (hb3.mono hz2.size)
        replace qT := Lib.hid (qT.out.below hb3)
        replace r1 := Lib.hid (r1.out.below hb3)
        have r2 := Lib.hid o3.rd5
        have l2 : k2 = 0 := o3.2.symm
        subst l2
        clear hb3 o3
        go_wp2_with fail
        refine (dmInts_same P1 P2 0 d1 d2 _ w3 r1.out r2.out).mono ?_
        rintro e w4 ⟨rfl, hb4⟩
        have hz4 := hz3.trans (hb4.mono hz3.size)
        replace qT := Lib.hid (qT.out.below hb4)
        clear hb4
        go_wp2_with fail
        refine (HC3.out w4 qT.out).mono ?_
        rintro e w5 ⟨P3, k3, d3, rfl, o5, hb5⟩
        have hz5 := hz4.trans (hb5.mono hz4.size)
        have l3 : k3 = 0 := o5.2.symm
        subst l3
        clear o5
        go_wp2
        go_ret
        exact ⟨rfl, hz5⟩
    | some o =>
      cases Q with
      | none => cases hAA
      | some p =>
        simp only [Option.isSome_some, Option.getD_some] at HC1 HC2 HC3
        have HC1 := Lib.hid HC1.out
        have HC2 := Lib.hid HC2.out
        have HC3 := Lib.hid HC3.out
        have h1 := asg_order HO.out
        have h2 := asg_ok HO.out
        have h3 := any_ord HQ.out
        have HP1 := Lib.hid (fun P k dd w h h' => putOrder_impl D P m d k dd xs o w h h')
        have HP2 := Lib.hid (fun P k dd w h h' => putOrder_impl D P m d k dd xs p w h h')
        have HB1 := Lib.hid (fun A n c w h => holdsBoth_impl A n c (putL xs o) w h)
        have HB2 := Lib.hid (fun A n c w h => holdsBoth_impl A n c (putL xs p) w h)
        rw [h1, putV_yes h1] at HP1
        rw [h3.1, putV_yes h3.1] at HP2
        rw [show bothB (putL xs o) = true from h2] at HB1
        rw [show bothB (putL xs p) = true from h3.2] at HB2
        clear hAA h1 h2 h3 HO HQ HL1 HL2
        go_wp2_with fail
        refine (HC1.out w1 qT.out).mono ?_
        rintro e w2 ⟨P1, k1, d1, rfl, o2, hb2⟩
        have hz2 := hz1.trans (hb2.mono hz1.size)
        replace qT := Lib.hid (qT.out.below hb2)
        have r1 := Lib.hid o2.rd5
        have l1 := o2.2
        clear hb2 o2
        go_wp2_with fail
        refine (HC2.out w2 qT.out).mono ?_
        rintro e w3 ⟨P2, k2, d2, rfl, o3, hb3⟩
        have hz3 := hz2.trans (hb3.mono hz2.size)
        replace qT := Lib.hid (qT.out.below hb3)
        replace r1 := Lib.hid (r1.out.below hb3)
        have r2 := Lib.hid o3.rd5
        have l2 : k2 = k1 := by rw [← o3.2, l1]
        subst l2
        clear hb3 o3 l1
        go_wp2_with fail
        refine (dmInts_same P1 P2 k2 d1 d2 _ w3 r1.out r2.out).mono ?_
        rintro e w4 ⟨rfl, hb4⟩
        have hz4 := hz3.trans (hb4.mono hz3.size)
        replace qT := Lib.hid (qT.out.below hb4)
        replace r1 := Lib.hid (r1.out.below hb4)
        clear hb4
        go_wp2_with fail
        refine (HC3.out w4 qT.out).mono ?_
        rintro e w5 ⟨P3, k3, d3, rfl, o5, hb5⟩
        have hz5 := hz4.trans (hb5.mono hz4.size)
        replace qT := Lib.hid (qT.out.below hb5)
        replace r1 := Lib.hid (r1.out.below hb5)
        have r3 := Lib.hid o5.rd5
        clear o5 hb5 r2 HC1 HC2 HC3
        go_wp2_with fail
        refine (HP1.out P1 k2 d1 w5 qT.out r1.out).mono ?_
        rintro e w6 ⟨X1, n1, e1, rfl, o6, hb6⟩
        have hz6 := hz5.trans (hb6.mono hz5.size)
        replace qT := Lib.hid (qT.out.below hb6)
        replace r1 := Lib.hid (r1.out.below hb6)
        replace r3 := Lib.hid (r3.out.below hb6)
        clear hb6
        have s1 := Lib.hid o6.rdS
        clear o6
        go_wp2_with fail
        refine (HP2.out P3 k3 d3 w6 qT.out r3.out).mono ?_
        rintro e w7 ⟨X2, n2, e2, rfl, o7, hb7⟩
        have hz7 := hz6.trans (hb7.mono hz6.size)
        replace s1 := Lib.hid (s1.out.below hb7)
        clear hb7
        have s2 := Lib.hid o7.rdS
        clear o7
        go_wp2_with fail
        refine (HB1.out X1 n1 e1 w7 s1.out).mono ?_
        rintro e w8 ⟨rfl, hb8⟩
        have hz8 := hz7.trans (hb8.mono hz7.size)
        replace s2 := Lib.hid (s2.out.below hb8)
        clear hb8
        go_wp2_with fail
        refine (HB2.out X2 n2 e2 w8 s2.out).mono ?_
        rintro e w9 ⟨rfl, hb9⟩
        have hz9 := hz8.trans (hb9.mono hz8.size)
        clear hb9
        go_wp2
        go_ret
        exact ⟨rfl, hz9⟩
  · go_enter Try.func4, Try.ntmps4
    go_wp2
    go_ret
    exact ⟨rfl, hz0⟩

namespace top_FnAssignOrder
set_option maxRecDepth 100000 in
theorem lifted (os : Os) (started : os.Started) (H : Type) (enc : TypeId × Value → H) :
    ReturnsInHanded {} Try.checked os 4 .any (Rows.fnAssignOrderSpec.pre6 enc Try.prog Try.f4 Rows.fnAssignOrderRow.domain false) (Rows.fnAssignOrderSpec.post enc Try.prog Try.f4 false true false false) := by
  refine returnsInHanded_of_change (C := Try.checked) ownKnob_none started (by kernel_rfl) Try.func4
    (ChangeSpec.witness6 (enc := enc) (C := Try.checked) false ⟨#[], #[.slice none 0 0], []⟩ 8 (by kernel_rfl) (by kernel_rfl) (by kernel_rfl) (by kernel_rfl)) ?_
  intro W base args ds gs before hval0 hW hcnd _
  have hval : ∀ (j : Nat) t v, Try.f4.params[j]? = some t → args[j]? = some v → Value.okWide Try.prog W .any base t v := hval0
  have hW' := hW
  obtain ⟨p, q, hA0, hV, rfl, hfz, hnd⟩ := hW
  have hA : DataW.TrodAll enc Try.prog W 0 (fun _ => true) true Try.f4.params.toList args.toList ds p := hA0
  rw [Try.params4] at hA hval
  obtain ⟨v0, vs0, d0, ds0, p0, q0, hargs, rfl, rfl, h0, r0⟩ := trodAll_cons hA
  obtain ⟨rfl, rfl, rfl⟩ := trodAll_nil r0
  obtain rfl : args = #[v0] := by cases args; simp_all
  obtain ⟨rfl, rfl⟩ := trodVars_none hV
  have k0 := h0
  have lt0 : ∀ x ∈ p0, x.block < W.heap.size := by obtain ⟨m, hm⟩ := k0; exact DataW.trod_lt m _ _ _ hm
  obtain ⟨a0, n0, c0, rfl⟩ := okWide_slice Try.underlying22 (hval 0 22 v0 rfl rfl)
  obtain ⟨x0, w0⟩ : ∃ xs, RdB W a0 n0 c0 xs := by
    obtain ⟨fuel, hf⟩ := h0
    obtain ⟨A, n, c, xs, hcs, hR⟩ := open_bytes hf
    simp [Value.cells] at hcs
    obtain ⟨rfl, rfl, rfl⟩ := hcs
    exact ⟨xs, hR⟩
  clear hA0 hval0
  refine (walk_FnAssignOrder a0 n0 c0 x0 W w0).mono fun e W' ⟨he, bel⟩ => ?_
  subst he
  exact ⟨_, rfl, _, _, _, [], _, [], hW', trodAll_mk1 (shut_bool Try.underlying4 _), (trodAll_cons_mk (Below.trod laidOut (by kernel_rfl) (of_decide_eq_true (by kernel_rfl)) k0 bel lt0) trodAll_mk0), rfl, bel.frame _, fun h => by cases h⟩

theorem over : Rows.fnAssignOrderRow.holds Try.pinned (OpenSpec.ofChange Rows.fnAssignOrderSpec) :=
  OpenClaim.holds_of_wide 4 Try.f4 rfl rfl rfl rfl rfl rfl rfl ⟨rfl, rfl, rfl, rfl, rfl⟩ rfl rfl rfl rfl rfl (by kernel_rfl) Try.func4 (by kernel_rfl)
    (of_decide_eq_true (by kernel_rfl)) (by unfold Func.isWrapper; first | (rw [if_pos (by decide +kernel)]; kernel_rfl) | (rw [if_neg (by decide +kernel)]; exact ⟨rfl, rfl⟩))
    (fun os started H enc _ => lifted os started H enc)
end top_FnAssignOrder

theorem FnAssignOrder_holds : Rows.FnAssignOrderSaid := top_FnAssignOrder.over
#print axioms FnAssignOrder_holds

end Go.Proofs.Ytcgjifklapaeeaa
