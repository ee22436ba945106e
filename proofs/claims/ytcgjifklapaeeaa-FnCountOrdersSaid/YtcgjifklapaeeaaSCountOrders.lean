/- Orders are counted: the law returns true for every input. No condition. -/
import Derived.Test.YtcgjifklapaeeaaOpen
import Derived.Test.YtcgjifklapaeeaaOrdA
import Derived.Test.YtcgjifklapaeeaaAnyS
import Derived.Test.YtcgjifklapaeeaaAllL
import Derived.Test.YtcgjifklapaeeaaDraw4
namespace Go.Proofs.Ytcgjifklapaeeaa
open Go.ChangeShapes Go.WideShapes Go.ChangeAt Go.RowKit
set_option linter.unusedVariables false

theorem facN_le : ∀ k : Nat, k ≤ 6 → facN k ≤ 720 := by
  intro k hk
  have : k = 0 ∨ k = 1 ∨ k = 2 ∨ k = 3 ∨ k = 4 ∨ k = 5 ∨ k = 6 := by omega
  rcases this with rfl | rfl | rfl | rfl | rfl | rfl | rfl <;> decide
theorem facN_pos : ∀ k : Nat, k ≤ 6 → 1 ≤ facN k := by
  intro k hk
  have : k = 0 ∨ k = 1 ∨ k = 2 ∨ k = 3 ∨ k = 4 ∨ k = 5 ∨ k = 6 := by omega
  rcases this with rfl | rfl | rfl | rfl | rfl | rfl | rfl <;> decide
theorem fac_step (j : Nat) (hj : j + 2 ≤ 6) : 0 ≤ (facN (j + 1) : Int) * ((j : Int) + 2) ∧ (facN (j + 1) : Int) * ((j : Int) + 2) ≤ 10000 ∧ (facN (j + 1) : Int) * ((j : Int) + 2) = (facN (j + 2) : Int) := by
  have e : (facN (j + 2) : Int) = (facN (j + 1) : Int) * ((j : Int) + 2) := by
    have : facN (j + 2) = facN (j + 1) * (j + 2) := rfl
    rw [this, Int.natCast_mul]; rfl
  have := facN_le (j + 2) hj
  refine ⟨by rw [← e]; omega, by rw [← e]; omega, e.symm⟩
theorem cnt_fac {xs : List T} {m : Nat} (hl : xs.length = m) (hm5 : m ≠ 5) (hm6 : m ≤ 6) : cntV xs ≤ facN m := by
  cases hs : svB xs
  · rw [cntV_no hs]; exact Nat.zero_le _
  · exact cnt_most hl (by have := (sv_all hs).1; omega)

set_option maxRecDepth 100000 in
set_option maxHeartbeats 6400000 in
theorem walk_FnCountOrders (A : Option Addr) (n c : Nat) (bs : List UInt8) (w : World) (h : RdB w A n c bs) :
    Calls Try.prog 3 #[.slice A n c] w fun e w' => e = .returned (.bool true) ∧ Below w.heap.size w w' := by
  have hz0 := Below.refl w.heap.size w
  have H := Lib.hid h
  have hmx : n ≤ maxLen := Nat.le_trans h.cap h.max
  unfold maxLen at hmx
  clear h
  by_cases hn : n ≤ 1048576
  · go_enter Try.func3, Try.ntmps3
    go_wp2_with fail
    refine (drawCountOrders_any A n c bs w H.out).mono ?_
    rintro e w1 ⟨D, m, d, xs, rfl, hm6, hm5, hT, hz1⟩
    have qT := Lib.hid hT
    have hF := Lib.hid (cnt_fac hT.len hm5 hm6)
    have hP := Lib.hid (cnt_pos (xs := xs))
    have hB := Lib.hid (fun h => cnt_both (xs := xs) h)
    have HC1 := Lib.hid (fun w h => countOrders_impl D m d xs w h)
    have HC2 := Lib.hid (fun w h => countOrders_spec D m d xs w h)
    have HC3 := Lib.hid (fun w h => anyOrder_impl D m d xs w h)
    have HC4 := Lib.hid (fun w h => holdsBoth_impl D m d xs w h)
    generalize cntV xs = N at *
    obtain ⟨O, hO⟩ : ∃ O, anyV xs = O := ⟨_, rfl⟩
    rw [hO] at hP HC3
    obtain ⟨q, hq⟩ : ∃ q, O.isSome = q := ⟨_, rfl⟩
    rw [hq] at hP HC3
    generalize bothB xs = hb at *
    have hne : ((N : Int) != (N : Int)) = false := by simp
    clear hT hO hq hm5
    go_wp2_with fail
    refine (HC1.out w1 qT.out).mono ?_
    rintro e w2 ⟨rfl, hb2⟩
    have hz2 := hz1.trans (hb2.mono hz1.size)
    replace qT := Lib.hid (qT.out.below hb2)
    clear hb2
    go_wp2_with fail
    refine (HC2.out w2 qT.out).mono ?_
    rintro e w3 ⟨rfl, hb3⟩
    have hz3 := hz2.trans (hb3.mono hz2.size)
    replace qT := Lib.hid (qT.out.below hb3)
    clear hb3
    go_wp2_with fail
    refine (HC3.out w3 qT.out).mono ?_
    rintro e w4 ⟨P, k, dd, rfl, o4, hb4⟩
    have hz4 := hz3.trans (hb4.mono hz3.size)
    replace qT := Lib.hid (qT.out.below hb4)
    clear hb4
    clear o4 HC1 HC2 HC3
    go_wp2_with fail
    go_loop [7, 8] (fun f i => ∃ j : Nat, i = .int .i64 ((j : Int) + 2) ∧ (j + 1 ≤ m ∨ j = 0) ∧ f = .int .i64 (facN (j + 1) : Int)) (fun _ i => (m : Nat) + 1 - (intOf i).toNat)
    case atStart => exact ⟨0, by go_num, Or.inr rfl, by rfl⟩
    case round =>
      obtain ⟨j, rfl, hj, rfl⟩ := hrel
      by_cases hjm : j + 2 ≤ m
      · obtain ⟨g0, g1, g2⟩ := fac_step j (by omega)
        have G2 := Lib.hid g2
        generalize facN (j + 1) = F at *
        clear g2 hj
        go_wp2
        go_round
        case rel => exact ⟨j + 1, by go_num, Or.inl (by omega), by first | exact congrArg _ G2.out | (rw [G2.out])⟩
        case measure => simp [intOf]; omega
      · have hfm : facN (j + 1) = facN m := by
          rcases hj with hj | hj
          · rw [show j + 1 = m by omega]
          · subst hj
            have : m = 0 ∨ m = 1 := by omega
            rcases this with rfl | rfl <;> rfl
        rw [hfm]
        have hF1 := hF.out
        generalize facN m = F at *
        have hjm2 : (m : Int) < (j : Int) + 2 := by omega
        clear hj hfm hjm
        cases q
        · have hN0 : N = 0 := by
            rcases Nat.eq_zero_or_pos N with h0 | h0
            · exact h0
            · have := hP.out.1 h0; cases this
          subst hN0
          have hbf : hb = false := by
            cases hb
            · rfl
            · have := hB.out rfl; omega
          subst hbf
          clear hP hB hF
          go_wp2_with fail
          refine (HC4.out w4 qT.out).mono ?_
          rintro e w5 ⟨rfl, hb5⟩
          have hz5 := hz4.trans (hb5.mono hz4.size)
          go_wp2
          go_ret
          exact ⟨rfl, hz5⟩
        · have hN0 : 0 < N := hP.out.2 rfl
          clear hP hB hF
          cases hb
          all_goals
            go_wp2_with fail
            refine (HC4.out w4 qT.out).mono ?_
            rintro e w5 ⟨rfl, hb5⟩
            have hz5 := hz4.trans (hb5.mono hz4.size)
            go_wp2
            go_ret
            exact ⟨rfl, hz5⟩
  · go_enter Try.func3, Try.ntmps3
    go_wp2
    go_ret
    exact ⟨rfl, hz0⟩

namespace top_FnCountOrders
set_option maxRecDepth 100000 in
theorem lifted (os : Os) (started : os.Started) (H : Type) (enc : TypeId × Value → H) :
    ReturnsInHanded {} Try.checked os 3 .any (Rows.fnCountOrdersSpec.pre6 enc Try.prog Try.f3 Rows.fnCountOrdersRow.domain false) (Rows.fnCountOrdersSpec.post enc Try.prog Try.f3 false true false false) := by
  refine returnsInHanded_of_change (C := Try.checked) ownKnob_none started (by kernel_rfl) Try.func3
    (ChangeSpec.witness6 (enc := enc) (C := Try.checked) false ⟨#[], #[.slice none 0 0], []⟩ 8 (by kernel_rfl) (by kernel_rfl) (by kernel_rfl) (by kernel_rfl)) ?_
  intro W base args ds gs before hval0 hW hcnd _
  have hval : ∀ (j : Nat) t v, Try.f3.params[j]? = some t → args[j]? = some v → Value.okWide Try.prog W .any base t v := hval0
  have hW' := hW
  obtain ⟨p, q, hA0, hV, rfl, hfz, hnd⟩ := hW
  have hA : DataW.TrodAll enc Try.prog W 0 (fun _ => true) true Try.f3.params.toList args.toList ds p := hA0
  rw [Try.params3] at hA hval
  obtain ⟨v0, vs0, d0, ds0, p0, q0, hargs, rfl, rfl, h0, r0⟩ := trodAll_cons hA
  obtain ⟨rfl, rfl, rfl⟩ := trodAll_nil r0
  obtain rfl : args = #[v0] := by cases args; simp_all
  obtain ⟨rfl, rfl⟩ := trodVars_none hV
  have k0 := h0
  have lt0 : ∀ x ∈ p0, x.block < W.heap.size := by obtain ⟨m, hm⟩ := k0; exact DataW.trod_lt m _ _ _ hm
  obtain ⟨a0, n0, c0, rfl⟩ := okWide_slice Try.underlying22 (hval 0 22 v0 rfl rfl)
  obtain ⟨x0, w0⟩ : ∃ xs, RdB W a0 n0 c0 xs := by
    obtain ⟨fuel, hf⟩ := h0
    obtain ⟨A, n, c, xs, hcs, hR⟩ := open_bytes hf
    simp [Value.cells] at hcs
    obtain ⟨rfl, rfl, rfl⟩ := hcs
    exact ⟨xs, hR⟩
  clear hA0 hval0
  refine (walk_FnCountOrders a0 n0 c0 x0 W w0).mono fun e W' ⟨he, bel⟩ => ?_
  subst he
  exact ⟨_, rfl, _, _, _, [], _, [], hW', trodAll_mk1 (shut_bool Try.underlying4 _), (trodAll_cons_mk (Below.trod laidOut (by kernel_rfl) (of_decide_eq_true (by kernel_rfl)) k0 bel lt0) trodAll_mk0), rfl, bel.frame _, fun h => by cases h⟩

theorem over : Rows.fnCountOrdersRow.holds Try.pinned (OpenSpec.ofChange Rows.fnCountOrdersSpec) :=
  OpenClaim.holds_of_wide 3 Try.f3 rfl rfl rfl rfl rfl rfl rfl ⟨rfl, rfl, rfl, rfl, rfl⟩ rfl rfl rfl rfl rfl (by kernel_rfl) Try.func3 (by kernel_rfl)
    (of_decide_eq_true (by kernel_rfl)) (by unfold Func.isWrapper; first | (rw [if_pos (by decide +kernel)]; kernel_rfl) | (rw [if_neg (by decide +kernel)]; exact ⟨rfl, rfl⟩))
    (fun os started H enc _ => lifted os started H enc)
end top_FnCountOrders

theorem FnCountOrders_holds : Rows.FnCountOrdersSaid := top_FnCountOrders.over
#print axioms FnCountOrders_holds

end Go.Proofs.Ytcgjifklapaeeaa
