/- The first task's responses are its needs: the law returns true for every input. No condition. -/
import Derived.Test.YtbfdpegjflhboaaOpen
import Derived.Test.YtbfdpegjflhboaaRespS
import Derived.Test.YtbfdpegjflhboaaDraw3
namespace Go.Proofs.Ytbfdpegjflhboaa
open Go.ChangeShapes Go.WideShapes Go.ChangeAt Go.RowKit
set_option linter.unusedVariables false

theorem first_low {xs : List T} {x : T} (hs : svB xs = true) (hx : xs[0]? = some x) : rlV xs 0 = some x.low := by
  have hl : 0 < xs.length := (List.getElem?_eq_some_iff.1 hx).1
  have := rlV_yes (k := 0) (plB_nat hs hl) hx
  rw [List.take_zero, rlo_nil (sv_at hs hx)] at this
  exact this
theorem first_high {xs : List T} {x : T} (hs : svB xs = true) (hx : xs[0]? = some x) (hc : x.crit = true) : rsV xs 0 = some x.high := by
  have hl : 0 < xs.length := (List.getElem?_eq_some_iff.1 hx).1
  have := rsV_yes (k := 0) (plB_nat hs hl) hx
  rw [List.take_zero, rsw_nil (sv_at hs hx) hc] at this
  exact this
theorem first_none {xs : List T} {x : T} (hs : svB xs = true) (hx : xs[0]? = some x) (hc : x.crit = false) : rsV xs 0 = none := by
  have hl : 0 < xs.length := (List.getElem?_eq_some_iff.1 hx).1
  have := rsV_yes (k := 0) (plB_nat hs hl) hx
  rw [List.take_zero, rsw_low (rlo_nil (sv_at hs hx)) hc] at this
  exact this

set_option maxRecDepth 100000 in
set_option maxHeartbeats 6400000 in
theorem walk_FnResponseFirst (A : Option Addr) (n c : Nat) (bs : List UInt8) (w : World) (h : RdB w A n c bs) :
    Calls Try.prog 3 #[.slice A n c] w fun e w' => e = .returned (.bool true) ∧ Below w.heap.size w w' := by
  have hz0 := Below.refl w.heap.size w
  have H := Lib.hid h
  have hmx : n ≤ maxLen := Nat.le_trans h.cap h.max
  unfold maxLen at hmx
  clear h
  by_cases hn : n ≤ 1048576
  · go_enter Try.func3, Try.ntmps3
    go_wp2_with fail
    refine (drawResponseLow_any A n c bs w H.out).mono ?_
    rintro e w1 ⟨D, m, d, xs, i, rfl, hm6, ho, hz1⟩
    have qT := Lib.hid ho.rdS
    have hcap : m ≤ d := ho.rdS.cap
    have hmax : d ≤ maxLen := ho.rdS.max
    unfold maxLen at hmax
    clear ho
    go_wp2_with fail
    refine (responseLow_impl D m d xs i w1 qT.out).mono ?_
    rintro e w2 ⟨rfl, hb2⟩
    have hz2 := hz1.trans (hb2.mono hz1.size)
    replace qT := Lib.hid (qT.out.below hb2)
    clear hb2
    go_wp2_with fail
    refine (responseLow_spec D m d xs i w2 qT.out).mono ?_
    rintro e w3 ⟨rfl, hb3⟩
    have hz3 := hz2.trans (hb3.mono hz2.size)
    replace qT := Lib.hid (qT.out.below hb3)
    clear hb3
    generalize (rlV xs i).getD 0 = p at *
    generalize (rlV xs i).isSome = q at *
    have hp1 : (p != p) = false := by simp
    have hp2 : (p == p) = true := by simp
    have hq1 : (q != q) = false := by simp
    have hq2 : (q == q) = true := by simp
    have hV := Lib.hid (setValid_impl D m d xs w3 qT.out)
    cases hs : svB xs
    · rw [hs] at hV
      clear hs
      go_wp2_with fail
      refine (hV.out).mono ?_
      rintro e w4 ⟨rfl, hb4⟩
      have hz4 := hz3.trans (hb4.mono hz3.size)
      clear hb4
      go_wp2
      go_ret
      exact ⟨rfl, hz4⟩
    · rw [hs] at hV
      by_cases hm0 : m = 0
      · subst hm0
        clear hs
        go_wp2_with fail
        refine (hV.out).mono ?_
        rintro e w4 ⟨rfl, hb4⟩
        have hz4 := hz3.trans (hb4.mono hz3.size)
        clear hb4
        go_wp2
        go_ret
        exact ⟨rfl, hz4⟩
      · have hmb : ((m : Int) == 0) = false := by simp; omega
        have hm1 : 0 < m := by omega
        have hxl : xs[0]? = some (atT xs 0) := atT_get (by rw [qT.out.len]; exact hm1)
        generalize atT xs 0 = x at *
        have Hx := Lib.hid hxl
        have HL := Lib.hid (first_low hs hxl)
        have HH := Lib.hid (fun hc => first_high hs hxl hc)
        have HN := Lib.hid (fun hc => first_none hs hxl hc)
        clear hs hxl hm0
        go_wp2_with fail
        refine (hV.out).mono ?_
        rintro e w4 ⟨rfl, hb4⟩
        have hz4 := hz3.trans (hb4.mono hz3.size)
        replace qT := Lib.hid (qT.out.below hb4)
        clear hb4
        go_wp2_with fail
        refine (responseLow_impl D m d xs 0 w4 qT.out).mono ?_
        rw [HL.out]
        rintro e w5 ⟨rfl, hb5⟩
        have hz5 := hz4.trans (hb5.mono hz4.size)
        replace qT := Lib.hid (qT.out.below hb5)
        clear hb5
        cases hc : x.crit
        · have HS := Lib.hid (HN.out hc)
          have Hc := Lib.hid hc
          clear hc
          go_wp2_with fail
          refine (responseSwitch_impl D m d xs 0 w5 qT.out).mono ?_
          rw [HS.out]
          rintro e w6 ⟨rfl, hb6⟩
          have hz6 := hz5.trans (hb6.mono hz5.size)
          replace qT := Lib.hid (qT.out.below hb6)
          clear hb6
          obtain ⟨b, off, x', hA, hx', hb, c0, c1, c2, c3, c4⟩ := qT.out.taskAt (i := 0) hm1
          simp only [Nat.zero_mul, Nat.add_zero] at c0 c1 c2 c3 c4
          rw [Hx.out] at hx'
          injection hx' with hx'
          subst hA
          subst hx'
          rw [Hc.out] at c4
          go_wp2
          go_ret
          exact ⟨rfl, hz6⟩
        · have HS := Lib.hid (HH.out hc)
          have Hc := Lib.hid hc
          clear hc
          go_wp2_with fail
          refine (responseSwitch_impl D m d xs 0 w5 qT.out).mono ?_
          rw [HS.out]
          rintro e w6 ⟨rfl, hb6⟩
          have hz6 := hz5.trans (hb6.mono hz5.size)
          replace qT := Lib.hid (qT.out.below hb6)
          clear hb6
          obtain ⟨b, off, x', hA, hx', hb, c0, c1, c2, c3, c4⟩ := qT.out.taskAt (i := 0) hm1
          simp only [Nat.zero_mul, Nat.add_zero] at c0 c1 c2 c3 c4
          rw [Hx.out] at hx'
          injection hx' with hx'
          subst hA
          subst hx'
          rw [Hc.out] at c4
          go_wp2
          go_ret
          exact ⟨rfl, hz6⟩
  · go_enter Try.func3, Try.ntmps3
    go_wp2
    go_ret
    exact ⟨rfl, hz0⟩

namespace top_FnResponseFirst
set_option maxRecDepth 100000 in
theorem lifted (os : Os) (started : os.Started) (H : Type) (enc : TypeId × Value → H) :
    ReturnsInHanded {} Try.checked os 3 .any (Rows.fnResponseFirstSpec.pre6 enc Try.prog Try.f3 Rows.fnResponseFirstRow.domain false) (Rows.fnResponseFirstSpec.post enc Try.prog Try.f3 false true false false) := by
  refine returnsInHanded_of_change (C := Try.checked) ownKnob_none started (by kernel_rfl) Try.func3
    (ChangeSpec.witness6 (enc := enc) (C := Try.checked) false ⟨#[], #[.slice none 0 0], []⟩ 8 (by kernel_rfl) (by kernel_rfl) (by kernel_rfl) (by kernel_rfl)) ?_
  intro W base args ds gs before hval0 hW hcnd _
  have hval : ∀ (j : Nat) t v, Try.f3.params[j]? = some t → args[j]? = some v → Value.okWide Try.prog W .any base t v := hval0
  have hW' := hW
  obtain ⟨p, q, hA0, hV, rfl, hfz, hnd⟩ := hW
  have hA : DataW.TrodAll enc Try.prog W 0 (fun _ => true) true Try.f3.params.toList args.toList ds p := hA0
  rw [Try.params3] at hA hval
  obtain ⟨v0, vs0, d0, ds0, p0, q0, hargs, rfl, rfl, h0, r0⟩ := trodAll_cons hA
  obtain ⟨rfl, rfl, rfl⟩ := trodAll_nil r0
  obtain rfl : args = #[v0] := by cases args; simp_all
  obtain ⟨rfl, rfl⟩ := trodVars_none hV
  have k0 := h0
  have lt0 : ∀ x ∈ p0, x.block < W.heap.size := by obtain ⟨m, hm⟩ := k0; exact DataW.trod_lt m _ _ _ hm
  obtain ⟨a0, n0, c0, rfl⟩ := okWide_slice Try.underlying22 (hval 0 22 v0 rfl rfl)
  obtain ⟨x0, w0⟩ : ∃ xs, RdB W a0 n0 c0 xs := by
    obtain ⟨fuel, hf⟩ := h0
    obtain ⟨A, n, c, xs, hcs, hR⟩ := open_bytes hf
    simp [Value.cells] at hcs
    obtain ⟨rfl, rfl, rfl⟩ := hcs
    exact ⟨xs, hR⟩
  clear hA0 hval0
  refine (walk_FnResponseFirst a0 n0 c0 x0 W w0).mono fun e W' ⟨he, bel⟩ => ?_
  subst he
  exact ⟨_, rfl, _, _, _, [], _, [], hW', trodAll_mk1 (shut_bool Try.underlying4 _), (trodAll_cons_mk (Below.trod laidOut (by kernel_rfl) (of_decide_eq_true (by kernel_rfl)) k0 bel lt0) trodAll_mk0), rfl, bel.frame _, fun h => by cases h⟩

theorem over : Rows.fnResponseFirstRow.holds Try.pinned (OpenSpec.ofChange Rows.fnResponseFirstSpec) :=
  OpenClaim.holds_of_wide 3 Try.f3 rfl rfl rfl rfl rfl rfl rfl ⟨rfl, rfl, rfl, rfl, rfl⟩ rfl rfl rfl rfl rfl (by kernel_rfl) Try.func3 (by kernel_rfl)
    (of_decide_eq_true (by kernel_rfl)) (by unfold Func.isWrapper; first | (rw [if_pos (by decide +kernel)]; kernel_rfl) | (rw [if_neg (by decide +kernel)]; exact ⟨rfl, rfl⟩))
    (fun os started H enc _ => lifted os started H enc)
end top_FnResponseFirst

theorem FnResponseFirst_holds : Rows.FnResponseFirstSaid := top_FnResponseFirst.over
#print axioms FnResponseFirst_holds

end Go.Proofs.Ytbfdpegjflhboaa
