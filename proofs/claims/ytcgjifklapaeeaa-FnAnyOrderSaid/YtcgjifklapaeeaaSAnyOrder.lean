/- If tasks hold as they are, the first order is that of the list: the law returns true for every input. No condition. -/
import Derived.Test.YtcgjifklapaeeaaOpen
import Derived.Test.YtcgjifklapaeeaaOrdA
import Derived.Test.YtcgjifklapaeeaaAnyS
import Derived.Test.YtcgjifklapaeeaaAllL
import Derived.Test.YtcgjifklapaeeaaDraw4
import Derived.Test.YtcgjifklapaeeaaEqI
namespace Go.Proofs.Ytcgjifklapaeeaa
open Go.ChangeShapes Go.WideShapes Go.ChangeAt Go.RowKit
set_option linter.unusedVariables false

theorem anyOrder_specV (A : Option Addr) (n c : Nat) (xs : List T) (w : World) (h : RdT w A n c xs) :
    Calls Try.prog 24 #[.slice A n c] w fun e w' => ∃ (D : Option Addr) (k d : Nat), e = .returned (.tuple #[.slice D k d, .bool (anyV xs).isSome]) ∧ RdI w' D k d ((anyV xs).getD []) ∧ Below w.heap.size w w' :=
  anyOrder_spec A n c xs w h

set_option maxRecDepth 100000 in
set_option maxHeartbeats 6400000 in
theorem walk_FnAnyOrder (A : Option Addr) (n c : Nat) (bs : List UInt8) (w : World) (h : RdB w A n c bs) :
    Calls Try.prog 8 #[.slice A n c] w fun e w' => e = .returned (.bool true) ∧ Below w.heap.size w w' := by
  have hz0 := Below.refl w.heap.size w
  have H := Lib.hid h
  have hmx : n ≤ maxLen := Nat.le_trans h.cap h.max
  unfold maxLen at hmx
  clear h
  by_cases hn : n ≤ 1048576
  · go_enter Try.func8, Try.ntmps8
    go_wp2_with fail
    refine (drawAnyOrder_any A n c bs w H.out).mono ?_
    rintro e w1 ⟨D, m, d, xs, rfl, hm6, hm5, hT, hz1⟩
    have qT := Lib.hid hT
    have HC1 := Lib.hid (fun w h => anyOrder_impl D m d xs w h)
    have HC2 := Lib.hid (fun w h => anyOrder_specV D m d xs w h)
    have HC4 := Lib.hid (fun w h => holdsBoth_impl D m d xs w h)
    have hlm := hT.len
    obtain ⟨O, hO⟩ : ∃ O, anyV xs = O := ⟨_, rfl⟩
    rw [hO] at HC1 HC2
    have hf1 : (false != false) = false := rfl
    have hf2 : (true != true) = false := rfl
    have hf3 : (false == false) = true := rfl
    have hf4 : (true == true) = true := rfl
    have HO := Lib.hid hO
    clear hT hO
    cases O with
    | none =>
      simp only [Option.isSome_none, Option.getD_none] at HC1 HC2
      have HC1 := Lib.hid HC1.out
      have HC2 := Lib.hid HC2.out
      go_wp2_with fail
      refine (HC1.out w1 qT.out).mono ?_
      rintro e w2 ⟨P1, k1, d1, rfl, o2, hb2⟩
      have hz2 := hz1.trans (hb2.mono hz1.size)
      replace qT := Lib.hid (qT.out.below hb2)
      have r1 := Lib.hid o2.rd5
      have l1 : k1 = 0 := o2.2.symm
      subst l1
      clear hb2 o2
      go_wp2_with fail
      refine (HC2.out w2 qT.out).mono ?_
      rintro e w3 ⟨P2, k2, d2, rfl, o3, hb3⟩
      have hz3 := hz2.trans (hb3.mono hz2.size)
      replace qT := Lib.hid (qT.out.below hb3)
      replace r1 := Lib.hid (r1.out.below hb3)
      have r2 := Lib.hid o3
      have l2 : k2 = 0 := o3.len.symm
      subst l2
      clear hb3 o3
      go_wp2_with fail
      refine (dmInts_same P1 P2 0 d1 d2 _ w3 r1.out r2.out).mono ?_
      rintro e w4 ⟨rfl, hb4⟩
      have hz4 := hz3.trans (hb4.mono hz3.size)
      replace qT := Lib.hid (qT.out.below hb4)
      replace r1 := Lib.hid (r1.out.below hb4)
      replace r2 := Lib.hid (r2.out.below hb4)
      clear hb4
      go_wp2_with fail
      refine (dmInts_same P1 P2 0 d1 d2 _ w4 r1.out r2.out).mono ?_
      rintro e w5 ⟨rfl, hb5⟩
      have hz5 := hz4.trans (hb5.mono hz4.size)
      replace qT := Lib.hid (qT.out.below hb5)
      replace r1 := Lib.hid (r1.out.below hb5)
      replace r2 := Lib.hid (r2.out.below hb5)
      clear hb5
      go_wp2
      go_ret
      exact ⟨rfl, hz5⟩
    | some o =>
      simp only [Option.isSome_some, Option.getD_some] at HC1 HC2
      have HC1 := Lib.hid HC1.out
      have HC2 := Lib.hid HC2.out
      have hok := any_ord HO.out
      have holm := any_len HO.out
      rw [hlm] at holm
      have hm4 : m ≤ 4 := by have := (ordB_in hok.1).2.1; omega
      go_wp2_with fail
      refine (HC1.out w1 qT.out).mono ?_
      rintro e w2 ⟨P1, k1, d1, rfl, o2, hb2⟩
      have hz2 := hz1.trans (hb2.mono hz1.size)
      replace qT := Lib.hid (qT.out.below hb2)
      have r1 := Lib.hid o2.rd5
      have l1 : k1 = m := by rw [← o2.2]; exact holm
      subst l1
      clear hb2 o2
      go_wp2_with fail
      refine (HC2.out w2 qT.out).mono ?_
      rintro e w3 ⟨P2, k2, d2, rfl, o3, hb3⟩
      have hz3 := hz2.trans (hb3.mono hz2.size)
      replace qT := Lib.hid (qT.out.below hb3)
      replace r1 := Lib.hid (r1.out.below hb3)
      have r2 := Lib.hid o3
      have l2 : k2 = k1 := by rw [← o3.len]; exact holm
      subst l2
      clear hb3 o3 HC1 HC2
      go_wp2_with fail
      refine (dmInts_same P1 P2 k2 d1 d2 _ w3 r1.out r2.out).mono ?_
      rintro e w4 ⟨rfl, hb4⟩
      have hz4 := hz3.trans (hb4.mono hz3.size)
      replace qT := Lib.hid (qT.out.below hb4)
      replace r1 := Lib.hid (r1.out.below hb4)
      replace r2 := Lib.hid (r2.out.below hb4)
      clear hb4
      have HV := Lib.hid (fun w h h' => orderValid_impl D P1 k2 d k2 d1 xs o w h h')
      rw [hok.1] at HV
      cases hb : bothB xs
      · rw [hb] at HC4
        clear hok holm hlm hb HO r2
        go_wp2_with fail
        refine (HC4.out w4 qT.out).mono ?_
        rintro e w5 ⟨rfl, hb5⟩
        have hz5 := hz4.trans (hb5.mono hz4.size)
        replace qT := Lib.hid (qT.out.below hb5)
        replace r1 := Lib.hid (r1.out.below hb5)
        clear hb5
        go_wp2_with fail
        refine (HV.out w5 qT.out r1.out).mono ?_
        rintro e w6 ⟨rfl, hb6⟩
        have hz6 := hz5.trans (hb6.mono hz5.size)
        clear hb6
        go_wp2
        go_ret
        exact ⟨rfl, hz6⟩
      · rw [hb] at HC4
        have HS := Lib.hid (show o = natI k2 by
          have h1 := any_self hlm hm4 hb
          rw [HO.out] at h1; injection h1)
        clear hok holm hlm hb HO r2
        go_wp2_with fail
        refine (HC4.out w4 qT.out).mono ?_
        rintro e w5 ⟨rfl, hb5⟩
        have hz5 := hz4.trans (hb5.mono hz4.size)
        replace qT := Lib.hid (qT.out.below hb5)
        replace r1 := Lib.hid (r1.out.below hb5)
        clear hb5
        go_wp2_with fail
        go_loop [8] (fun i => ∃ j : Nat, i = .int .i64 (j : Int) ∧ j ≤ k2) (fun i => k2 - (intOf i).toNat)
        case atStart => exact ⟨0, rfl, Nat.zero_le _⟩
        case round =>
          obtain ⟨j, rfl, hj⟩ := hrel
          by_cases hjk : j < k2
          · obtain ⟨b, off, x, rfl, hx, hlt, c0⟩ := r1.out.intAt hjk
            have hxj : x = (j : Int) := by
              rw [HS.out, natI_at hjk] at hx
              injection hx with hx
              exact hx.symm
            subst hxj
            have j0 : (0 : Int) ≤ (j : Int) := by omega
            have j1 : (j : Int) < (k2 : Int) := by omega
            have hjj : ((j : Int) != (j : Int)) = false := by simp
            clear hx
            go_wp2
            go_round
            case rel => exact ⟨j + 1, by go_num, by omega⟩
            case measure => simp [intOf]; omega
          · go_wp2_with fail
            refine (HV.out w5 qT.out r1.out).mono ?_
            rintro e w6 ⟨rfl, hb6⟩
            have hz6 := hz5.trans (hb6.mono hz5.size)
            clear hb6
            go_wp2
            go_ret
            exact ⟨rfl, hz6⟩
  · go_enter Try.func8, Try.ntmps8
    go_wp2
    go_ret
    exact ⟨rfl, hz0⟩

namespace top_FnAnyOrder
set_option maxRecDepth 100000 in
theorem lifted (os : Os) (started : os.Started) (H : Type) (enc : TypeId × Value → H) :
    ReturnsInHanded {} Try.checked os 8 .any (Rows.fnAnyOrderSpec.pre6 enc Try.prog Try.f8 Rows.fnAnyOrderRow.domain false) (Rows.fnAnyOrderSpec.post enc Try.prog Try.f8 false true false false) := by
  refine returnsInHanded_of_change (C := Try.checked) ownKnob_none started (by kernel_rfl) Try.func8
    (ChangeSpec.witness6 (enc := enc) (C := Try.checked) false ⟨#[], #[.slice none 0 0], []⟩ 8 (by kernel_rfl) (by kernel_rfl) (by kernel_rfl) (by kernel_rfl)) ?_
  intro W base args ds gs before hval0 hW hcnd _
  have hval : ∀ (j : Nat) t v, Try.f8.params[j]? = some t → args[j]? = some v → Value.okWide Try.prog W .any base t v := hval0
  have hW' := hW
  obtain ⟨p, q, hA0, hV, rfl, hfz, hnd⟩ := hW
  have hA : DataW.TrodAll enc Try.prog W 0 (fun _ => true) true Try.f8.params.toList args.toList ds p := hA0
  rw [Try.params8] at hA hval
  obtain ⟨v0, vs0, d0, ds0, p0, q0, hargs, rfl, rfl, h0, r0⟩ := trodAll_cons hA
  obtain ⟨rfl, rfl, rfl⟩ := trodAll_nil r0
  obtain rfl : args = #[v0] := by cases args; simp_all
  obtain ⟨rfl, rfl⟩ := trodVars_none hV
  have k0 := h0
  have lt0 : ∀ x ∈ p0, x.block < W.heap.size := by obtain ⟨m, hm⟩ := k0; exact DataW.trod_lt m _ _ _ hm
  obtain ⟨a0, n0, c0, rfl⟩ := okWide_slice Try.underlying22 (hval 0 22 v0 rfl rfl)
  obtain ⟨x0, w0⟩ : ∃ xs, RdB W a0 n0 c0 xs := by
    obtain ⟨fuel, hf⟩ := h0
    obtain ⟨A, n, c, xs, hcs, hR⟩ := open_bytes hf
    simp [Value.cells] at hcs
    obtain ⟨rfl, rfl, rfl⟩ := hcs
    exact ⟨xs, hR⟩
  clear hA0 hval0
  refine (walk_FnAnyOrder a0 n0 c0 x0 W w0).mono fun e W' ⟨he, bel⟩ => ?_
  subst he
  exact ⟨_, rfl, _, _, _, [], _, [], hW', trodAll_mk1 (shut_bool Try.underlying4 _), (trodAll_cons_mk (Below.trod laidOut (by kernel_rfl) (of_decide_eq_true (by kernel_rfl)) k0 bel lt0) trodAll_mk0), rfl, bel.frame _, fun h => by cases h⟩

theorem over : Rows.fnAnyOrderRow.holds Try.pinned (OpenSpec.ofChange Rows.fnAnyOrderSpec) :=
  OpenClaim.holds_of_wide 8 Try.f8 rfl rfl rfl rfl rfl rfl rfl ⟨rfl, rfl, rfl, rfl, rfl⟩ rfl rfl rfl rfl rfl (by kernel_rfl) Try.func8 (by kernel_rfl)
    (of_decide_eq_true (by kernel_rfl)) (by unfold Func.isWrapper; first | (rw [if_pos (by decide +kernel)]; kernel_rfl) | (rw [if_neg (by decide +kernel)]; exact ⟨rfl, rfl⟩))
    (fun os started H enc _ => lifted os started H enc)
end top_FnAnyOrder

theorem FnAnyOrder_holds : Rows.FnAnyOrderSaid := top_FnAnyOrder.over
#print axioms FnAnyOrder_holds

end Go.Proofs.Ytcgjifklapaeeaa
