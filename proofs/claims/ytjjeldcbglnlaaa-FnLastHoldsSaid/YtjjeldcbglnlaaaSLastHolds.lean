/- Holding is from the last on: the law returns true for every input. No condition. -/
import Derived.Test.YtjjeldcbglnlaaaOpen
import Derived.Test.YtjjeldcbglnlaaaRespS
import Derived.Test.YtjjeldcbglnlaaaDraw3
import Derived.Test.YtjjeldcbglnlaaaLow5
import Derived.Test.YtjjeldcbglnlaaaCan
namespace Go.Proofs.Ytjjeldcbglnlaaa
open Go.ChangeShapes Go.WideShapes Go.ChangeAt Go.RowKit
set_option linter.unusedVariables false

theorem last_holds {xs : List T} {k : Nat} (hs : svB xs = true) (hl : xs.length = k + 1) : bothB xs = (bothB (xs.take k) && lastB xs (k : Int)) := by
  have hx : xs[k]? = some (atT xs k) := atT_get (by omega)
  generalize atT xs k = x at *
  have e1 : lastB xs (k : Int) = endV xs k := by
    rw [lastB_yes (plB_nat hs (by omega)) hx, endV_of hx, erase_eq, List.drop_eq_nil_of_le (by omega), List.append_nil]
  rw [e1, Bool.eq_iff_iff, Bool.and_eq_true, bothB_iff, bothB_iff]
  have hlt : (xs.take k).length = k := by rw [List.length_take]; omega
  constructor
  · rintro ⟨_, h⟩
    rw [hl] at h
    exact ⟨⟨sv_sub (List.take_sublist _ _) hs, fun j hj => by rw [hlt] at hj; rw [endV_take hj]; exact h j (by omega)⟩, h k (by omega)⟩
  · rintro ⟨⟨_, h⟩, h2⟩
    refine ⟨hs, fun j hj => ?_⟩
    rw [hl] at hj
    rcases Nat.lt_or_ge j k with hjk | hjk
    · rw [← endV_take hjk]; exact h j (by rw [hlt]; exact hjk)
    · rw [show j = k by omega]; exact h2

set_option maxRecDepth 100000 in
set_option maxHeartbeats 6400000 in
theorem walk_FnLastHolds (A : Option Addr) (n c : Nat) (bs : List UInt8) (w : World) (h : RdB w A n c bs) :
    Calls Try.prog 10 #[.slice A n c] w fun e w' => e = .returned (.bool true) ∧ Below w.heap.size w w' := by
  have hz0 := Below.refl w.heap.size w
  have H := Lib.hid h
  have hmx : n ≤ maxLen := Nat.le_trans h.cap h.max
  unfold maxLen at hmx
  clear h
  by_cases hn : n ≤ 1048576
  · go_enter Try.func10, Try.ntmps10
    go_wp2_with fail
    refine (drawHoldsBoth_any A n c bs w H.out).mono ?_
    rintro e w1 ⟨D, m, d, xs, rfl, hm6, ho, hz1⟩
    have qT := Lib.hid ho.rdS
    have hcap : m ≤ d := ho.rdS.cap
    have hmax : d ≤ maxLen := ho.rdS.max
    unfold maxLen at hmax
    clear ho
    cases hs : svB xs
    · have E0 := Lib.hid hs
      have E1 := Lib.hid (bothB_no hs)
      clear hs
      go_wp2_with fail
      refine (holdsBoth_impl D m d xs w1 qT.out).mono ?_
      rw [E1.out]
      rintro e w2 ⟨rfl, hb2⟩
      have hz2 := hz1.trans (hb2.mono hz1.size)
      replace qT := Lib.hid (qT.out.below hb2)
      clear hb2
      go_wp2_with fail
      refine (holdsBoth_spec D m d xs w2 qT.out).mono ?_
      rw [E1.out]
      rintro e w3 ⟨rfl, hb3⟩
      have hz3 := hz2.trans (hb3.mono hz2.size)
      replace qT := Lib.hid (qT.out.below hb3)
      clear hb3
      go_wp2_with fail
      refine (setValid_impl D m d xs w3 qT.out).mono ?_
      rw [E0.out]
      rintro e w4 ⟨rfl, hb4⟩
      have hz4 := hz3.trans (hb4.mono hz3.size)
      replace qT := Lib.hid (qT.out.below hb4)
      clear hb4
      go_wp2_with fail
      refine (holdsBoth_spec D m d xs w4 qT.out).mono ?_
      rw [E1.out]
      rintro e w5 ⟨rfl, hb5⟩
      have hz5 := hz4.trans (hb5.mono hz4.size)
      clear hb5
      go_wp2
      go_ret
      exact ⟨rfl, hz5⟩
    · have E0 := Lib.hid hs
      rcases Nat.eq_zero_or_pos m with hm0 | hm1
      · subst hm0
        clear hs
        obtain ⟨q, hq⟩ : ∃ q, bothB xs = q := ⟨_, rfl⟩
        have E1 := Lib.hid hq
        have hq1 : (q != q) = false := by simp
        have hq2 : (q == q) = true := by simp
        clear hq
        go_wp2_with fail
        refine (holdsBoth_impl D 0 d xs w1 qT.out).mono ?_
        rw [E1.out]
        rintro e w2 ⟨rfl, hb2⟩
        have hz2 := hz1.trans (hb2.mono hz1.size)
        replace qT := Lib.hid (qT.out.below hb2)
        clear hb2
        go_wp2_with fail
        refine (holdsBoth_spec D 0 d xs w2 qT.out).mono ?_
        rw [E1.out]
        rintro e w3 ⟨rfl, hb3⟩
        have hz3 := hz2.trans (hb3.mono hz2.size)
        replace qT := Lib.hid (qT.out.below hb3)
        clear hb3
        go_wp2_with fail
        refine (setValid_impl D 0 d xs w3 qT.out).mono ?_
        rw [E0.out]
        rintro e w4 ⟨rfl, hb4⟩
        have hz4 := hz3.trans (hb4.mono hz3.size)
        replace qT := Lib.hid (qT.out.below hb4)
        clear hb4
        go_wp2_with fail
        refine (holdsBoth_spec D 0 d xs w4 qT.out).mono ?_
        rw [E1.out]
        rintro e w5 ⟨rfl, hb5⟩
        have hz5 := hz4.trans (hb5.mono hz4.size)
        clear hb5
        go_wp2
        go_ret
        exact ⟨rfl, hz5⟩
      · obtain ⟨k, rfl⟩ : ∃ k, m = k + 1 := ⟨m - 1, by omega⟩
        have hL := last_holds hs qT.out.len
        have qr := Lib.hid (qT.out.take (m := k) (by omega))
        have i0 : (0 : Int) ≤ (k : Int) := by omega
        have i1 : (k : Int) ≤ (d : Int) := by omega
        have hmb : ((k : Int) + 1 == 0) = false := by simp; omega
        clear hs hm1
        cases h1 : bothB (xs.take k)
        · rw [h1, Bool.false_and] at hL
          have E1 := Lib.hid hL
          have E2 := Lib.hid h1
          clear hL h1
          go_wp2_with fail
          refine (holdsBoth_impl D (k + 1) d xs w1 qT.out).mono ?_
          rw [E1.out]
          rintro e w2 ⟨rfl, hb2⟩
          have hz2 := hz1.trans (hb2.mono hz1.size)
          replace qT := Lib.hid (qT.out.below hb2)
          replace qr := Lib.hid (qr.out.below hb2)
          clear hb2
          go_wp2_with fail
          refine (holdsBoth_spec D (k + 1) d xs w2 qT.out).mono ?_
          rw [E1.out]
          rintro e w3 ⟨rfl, hb3⟩
          have hz3 := hz2.trans (hb3.mono hz2.size)
          replace qT := Lib.hid (qT.out.below hb3)
          replace qr := Lib.hid (qr.out.below hb3)
          clear hb3
          go_wp2_with fail
          refine (setValid_impl D (k + 1) d xs w3 qT.out).mono ?_
          rw [E0.out]
          rintro e w4 ⟨rfl, hb4⟩
          have hz4 := hz3.trans (hb4.mono hz3.size)
          replace qT := Lib.hid (qT.out.below hb4)
          replace qr := Lib.hid (qr.out.below hb4)
          clear hb4
          go_wp2_with fail
          refine (holdsBoth_impl D k d (xs.take k) w4 qr.out).mono ?_
          rw [E2.out]
          rintro e w5 ⟨rfl, hb5⟩
          have hz5 := hz4.trans (hb5.mono hz4.size)
          clear hb5
          go_wp2
          go_ret
          exact ⟨rfl, hz5⟩
        · rw [h1, Bool.true_and] at hL
          have E1 := Lib.hid hL
          have E2 := Lib.hid h1
          clear hL h1
          go_wp2_with fail
          refine (holdsBoth_impl D (k + 1) d xs w1 qT.out).mono ?_
          rw [E1.out]
          rintro e w2 ⟨rfl, hb2⟩
          have hz2 := hz1.trans (hb2.mono hz1.size)
          replace qT := Lib.hid (qT.out.below hb2)
          replace qr := Lib.hid (qr.out.below hb2)
          clear hb2
          go_wp2_with fail
          refine (holdsBoth_spec D (k + 1) d xs w2 qT.out).mono ?_
          rw [E1.out]
          rintro e w3 ⟨rfl, hb3⟩
          have hz3 := hz2.trans (hb3.mono hz2.size)
          replace qT := Lib.hid (qT.out.below hb3)
          replace qr := Lib.hid (qr.out.below hb3)
          clear hb3
          have HC := Lib.hid (fun w' hw' => canBeLast_impl D (k + 1) d xs k w' hw')
          generalize lastB xs (k : Int) = q at *
          have hq1 : (q != q) = false := by simp
          have hq2 : (q == q) = true := by simp
          go_wp2_with fail
          refine (setValid_impl D (k + 1) d xs w3 qT.out).mono ?_
          rw [E0.out]
          rintro e w4 ⟨rfl, hb4⟩
          have hz4 := hz3.trans (hb4.mono hz3.size)
          replace qT := Lib.hid (qT.out.below hb4)
          replace qr := Lib.hid (qr.out.below hb4)
          clear hb4
          go_wp2_with fail
          refine (holdsBoth_impl D k d (xs.take k) w4 qr.out).mono ?_
          rw [E2.out]
          rintro e w5 ⟨rfl, hb5⟩
          have hz5 := hz4.trans (hb5.mono hz4.size)
          replace qT := Lib.hid (qT.out.below hb5)
          clear hb5
          go_wp2_with fail
          refine (HC.out w5 qT.out).mono ?_
          rintro e w6 ⟨rfl, hb6⟩
          have hz6 := hz5.trans (hb6.mono hz5.size)
          go_wp2
          go_ret
          exact ⟨rfl, hz6⟩
  · go_enter Try.func10, Try.ntmps10
    go_wp2
    go_ret
    exact ⟨rfl, hz0⟩

namespace top_FnLastHolds
set_option maxRecDepth 100000 in
theorem lifted (os : Os) (started : os.Started) (H : Type) (enc : TypeId × Value → H) :
    ReturnsInHanded {} Try.checked os 10 .any (Rows.fnLastHoldsSpec.pre6 enc Try.prog Try.f10 Rows.fnLastHoldsRow.domain false) (Rows.fnLastHoldsSpec.post enc Try.prog Try.f10 false true false false) := by
  refine returnsInHanded_of_change (C := Try.checked) ownKnob_none started (by kernel_rfl) Try.func10
    (ChangeSpec.witness6 (enc := enc) (C := Try.checked) false ⟨#[], #[.slice none 0 0], []⟩ 8 (by kernel_rfl) (by kernel_rfl) (by kernel_rfl) (by kernel_rfl)) ?_
  intro W base args ds gs before hval0 hW hcnd _
  have hval : ∀ (j : Nat) t v, Try.f10.params[j]? = some t → args[j]? = some v → Value.okWide Try.prog W .any base t v := hval0
  have hW' := hW
  obtain ⟨p, q, hA0, hV, rfl, hfz, hnd⟩ := hW
  have hA : DataW.TrodAll enc Try.prog W 0 (fun _ => true) true Try.f10.params.toList args.toList ds p := hA0
  rw [Try.params10] at hA hval
  obtain ⟨v0, vs0, d0, ds0, p0, q0, hargs, rfl, rfl, h0, r0⟩ := trodAll_cons hA
  obtain ⟨rfl, rfl, rfl⟩ := trodAll_nil r0
  obtain rfl : args = #[v0] := by cases args; simp_all
  obtain ⟨rfl, rfl⟩ := trodVars_none hV
  have k0 := h0
  have lt0 : ∀ x ∈ p0, x.block < W.heap.size := by obtain ⟨m, hm⟩ := k0; exact DataW.trod_lt m _ _ _ hm
  obtain ⟨a0, n0, c0, rfl⟩ := okWide_slice Try.underlying29 (hval 0 29 v0 rfl rfl)
  obtain ⟨x0, w0⟩ : ∃ xs, RdB W a0 n0 c0 xs := by
    obtain ⟨fuel, hf⟩ := h0
    obtain ⟨A, n, c, xs, hcs, hR⟩ := open_bytes hf
    simp [Value.cells] at hcs
    obtain ⟨rfl, rfl, rfl⟩ := hcs
    exact ⟨xs, hR⟩
  clear hA0 hval0
  refine (walk_FnLastHolds a0 n0 c0 x0 W w0).mono fun e W' ⟨he, bel⟩ => ?_
  subst he
  exact ⟨_, rfl, _, _, _, [], _, [], hW', trodAll_mk1 (shut_bool Try.underlying4 _), (trodAll_cons_mk (Below.trod laidOut (by kernel_rfl) (of_decide_eq_true (by kernel_rfl)) k0 bel lt0) trodAll_mk0), rfl, bel.frame _, fun h => by cases h⟩

theorem over : Rows.fnLastHoldsRow.holds Try.pinned (OpenSpec.ofChange Rows.fnLastHoldsSpec) :=
  OpenClaim.holds_of_wide 10 Try.f10 rfl rfl rfl rfl rfl rfl rfl ⟨rfl, rfl, rfl, rfl, rfl⟩ rfl rfl rfl rfl rfl (by kernel_rfl) Try.func10 (by kernel_rfl)
    (of_decide_eq_true (by kernel_rfl)) (by unfold Func.isWrapper; first | (rw [if_pos (by decide +kernel)]; kernel_rfl) | (rw [if_neg (by decide +kernel)]; exact ⟨rfl, rfl⟩))
    (fun os started H enc _ => lifted os started H enc)
end top_FnLastHolds

theorem FnLastHolds_holds : Rows.FnLastHoldsSaid := top_FnLastHolds.over
#print axioms FnLastHolds_holds

end Go.Proofs.Ytjjeldcbglnlaaa
