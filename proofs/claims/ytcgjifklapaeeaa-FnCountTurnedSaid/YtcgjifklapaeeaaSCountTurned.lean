/- Counts do not depend on order: the law returns true for every input. No condition. -/
import Derived.Test.YtcgjifklapaeeaaOpen
import Derived.Test.YtcgjifklapaeeaaOrdA
import Derived.Test.YtcgjifklapaeeaaAnyS
import Derived.Test.YtcgjifklapaeeaaAllL
import Derived.Test.YtcgjifklapaeeaaDraw4
import Derived.Test.YtcgjifklapaeeaaEqI
namespace Go.Proofs.Ytcgjifklapaeeaa
open Go.ChangeShapes Go.WideShapes Go.ChangeAt Go.RowKit
set_option linter.unusedVariables false

set_option maxRecDepth 100000 in
set_option maxHeartbeats 6400000 in
theorem walk_FnCountTurned (A : Option Addr) (n c : Nat) (bs : List UInt8) (w : World) (h : RdB w A n c bs) :
    Calls Try.prog 6 #[.slice A n c] w fun e w' => e = .returned (.bool true) ∧ Below w.heap.size w w' := by
  have hz0 := Below.refl w.heap.size w
  have H := Lib.hid h
  have hmx : n ≤ maxLen := Nat.le_trans h.cap h.max
  unfold maxLen at hmx
  clear h
  by_cases hn : n ≤ 1048576
  · go_enter Try.func6, Try.ntmps6
    go_wp2_with fail
    refine (drawCountOrders_any A n c bs w H.out).mono ?_
    rintro e w1 ⟨D, m, d, xs, rfl, hm6, hm5, hT, hz1⟩
    have qT := Lib.hid hT
    have hcap : m ≤ d := hT.cap
    have hmax : d ≤ maxLen := hT.max
    unfold maxLen at hmax
    have HC1 := Lib.hid (fun w h => countOrders_impl D m d xs w h)
    have HC2 := Lib.hid (fun w h => countOrders_spec D m d xs w h)
    have HC3 := Lib.hid (fun w h => setValid_impl D m d xs w h)
    have HC5 := Lib.hid (fun A n c w h => countOrders_impl A n c xs.reverse w h)
    have HR := Lib.hid (fun hs => cnt_rev (xs := xs) hT.len (by have := (sv_all hs).1; have := hT.len; omega) hs)
    have HN := Lib.hid (fun hs => cntV_no (xs := xs) hs)
    generalize hNx : cntV xs = N at *
    generalize hRx : cntV xs.reverse = N2 at *
    have hne : ((N : Int) != (N : Int)) = false := by simp
    have hee : ((N : Int) == (N : Int)) = true := by simp
    clear hT hNx hRx hm5
    cases hs : svB xs
    · rw [hs] at HC3
      have hN0 := HN.out hs
      subst hN0
      clear HR HN hs
      go_wp2_with fail
      refine (HC1.out w1 qT.out).mono ?_
      rintro e w2 ⟨rfl, hb2⟩
      have hz2 := hz1.trans (hb2.mono hz1.size)
      replace qT := Lib.hid (qT.out.below hb2)
      clear hb2
      go_wp2_with fail
      refine (HC2.out w2 qT.out).mono ?_
      rintro e w3 ⟨rfl, hb3⟩
      have hz3 := hz2.trans (hb3.mono hz2.size)
      replace qT := Lib.hid (qT.out.below hb3)
      clear hb3
      go_wp2_with fail
      refine (HC3.out w3 qT.out).mono ?_
      rintro e w4 ⟨rfl, hb4⟩
      have hz4 := hz3.trans (hb4.mono hz3.size)
      replace qT := Lib.hid (qT.out.below hb4)
      clear hb4
      go_wp2_with fail
      refine (HC2.out w4 qT.out).mono ?_
      rintro e w5 ⟨rfl, hb5⟩
      have hz5 := hz4.trans (hb5.mono hz4.size)
      replace qT := Lib.hid (qT.out.below hb5)
      clear hb5
      go_wp2
      go_ret
      exact ⟨rfl, hz5⟩
    · rw [hs] at HC3
      have hN2 := HR.out hs
      subst hN2
      clear HR HN hs
      go_wp2_with fail
      refine (HC1.out w1 qT.out).mono ?_
      rintro e w2 ⟨rfl, hb2⟩
      have hz2 := hz1.trans (hb2.mono hz1.size)
      replace qT := Lib.hid (qT.out.below hb2)
      clear hb2
      go_wp2_with fail
      refine (HC2.out w2 qT.out).mono ?_
      rintro e w3 ⟨rfl, hb3⟩
      have hz3 := hz2.trans (hb3.mono hz2.size)
      replace qT := Lib.hid (qT.out.below hb3)
      clear hb3
      go_wp2_with fail
      refine (HC3.out w3 qT.out).mono ?_
      rintro e w5 ⟨rfl, hb5⟩
      have hz5 := hz3.trans (hb5.mono hz3.size)
      replace qT := Lib.hid (qT.out.below hb5)
      clear hb5
      obtain ⟨inf, hif, iz0, iz1, iz2⟩ := info_parts infoTaskD
      clear HC1 HC2 HC3
      go_wp2_with fail
      have hz5a := hz5
      have N0 := Lib.hid (OwnT.new w5)
      have hbA := (Below.refl w5.heap.size w5).alloc (Nat.le_refl _) (.cells #[] 40)
      go_loopw [5, 6] (fun v iv wr => ∃ j : Nat, iv = .int .i64 ((j : Int) - 1) ∧ j ≤ m ∧ OwnT w5 wr v (m - j) (xs.drop j).reverse ∧ Below w5.heap.size w5 wr) (fun _ iv _ => (intOf iv + 1).toNat)
      case atStart => exact ⟨m, rfl, Nat.le_refl _, by rw [List.drop_eq_nil_of_le (by rw [qT.out.len]; exact Nat.le_refl _), Nat.sub_self]; exact N0.out, hbA⟩
      case round =>
        obtain ⟨j, rfl, hj, ho, hbS⟩ := hrel
        replace ho := Lib.hid ho
        clear N0 hbA
        have hz5 := hz5a.trans (hbS.mono hz5a.size)
        rcases Nat.eq_zero_or_pos j with hj0 | hj1
        · subst hj0
          obtain ⟨D', d', hv⟩ := ho.out.slice
          subst hv
          have r5 := Lib.hid (show RdT wr D' m d' xs.reverse from by simpa using (Rd.of_own (k := 5) T.cells_len ho.out.1 ho.out.2))
          go_wp2_with fail
          refine (HC5.out D' m d' wr r5.out).mono ?_
          rintro e w6 ⟨rfl, hb6⟩
          have hz6 := hz5.trans (hb6.mono hz5.size)
          go_wp2
          go_ret
          exact ⟨rfl, hz6⟩
        · obtain ⟨j, rfl⟩ : ∃ j', j = j' + 1 := ⟨j - 1, by omega⟩
          have hji : (((j + 1 : Nat) : Int) - 1) = (j : Int) := by omega
          rw [hji]
          obtain ⟨b, off, x, rfl, hx, hb, c0, c1, c2, c3, c4⟩ := (qT.out.below hbS).taskAt (i := j) (by omega)
          have hR := Lib.hid (show (xs.drop j).reverse = (xs.drop (j + 1)).reverse ++ [x] by
            obtain ⟨hjl, hjy⟩ := List.getElem?_eq_some_iff.1 hx
            rw [List.drop_eq_getElem_cons hjl, hjy, List.reverse_cons])
          have o1 := Lib.hid (ho.out.alloc (.cells #[.int .i64 x.low, .int .i64 x.high, .int .i64 x.due, .int .i64 x.every, .bool x.crit] 40))
          have hb1 := hbS.alloc hbS.size (.cells #[.int .i64 x.low, .int .i64 x.high, .int .i64 x.due, .int .i64 x.every, .bool x.crit] 40)
          have cj := Lib.hid (one_news wr x 40)
          have j0 : (0 : Int) ≤ (j : Int) := by omega
          have j1 : (j : Int) < (m : Int) := by omega
          have hmj : m - (j + 1) + 1 = m - j := by omega
          clear hx ho hz5
          go_wp2_with (at_builtin; refine wpList_append_own _ rfl (.tmp 39) (.tmp 44) 23 rfl w5.heap.size 40 inf _ 5 40 Try.underlying23 hif iz0 iz1 iz2 rfl (by decide) _ _ _ rfl o1.out.1 ⟨wr.heap.size, 0, none⟩ 1 1 ([x].flatMap T.cells) rfl rfl cj.out (cells_all_one _) ?c3 ?c4 ?c5 ?_)
          case c3 => unfold maxLen; omega
          case c4 => omega
          case c5 => have := hbS.size; first | omega | (simp; omega)
          intro v' w6 hown6 hg6 _
          have o6 := Lib.hid (show OwnT w5 w6 v' (m - j) (xs.drop j).reverse from ⟨by rw [hR.out, List.flatMap_append]; first | (simpa using hown6) | (rw [hmj] at hown6; simpa using hown6), by rw [List.length_reverse, List.length_drop, qT.out.len]⟩)
          have hb6 := Lib.hid (below_ownC hb1 o1.out.1 hg6)
          clear hown6 hg6 o1 hb1 cj c0 c1 c2 c3 c4
          go_wp2
          go_roundw
          case rel => exact ⟨j, by go_num, by omega, o6.out, hb6.out⟩
          case measure => simp [intOf]
  · go_enter Try.func6, Try.ntmps6
    go_wp2
    go_ret
    exact ⟨rfl, hz0⟩

namespace top_FnCountTurned
set_option maxRecDepth 100000 in
theorem lifted (os : Os) (started : os.Started) (H : Type) (enc : TypeId × Value → H) :
    ReturnsInHanded {} Try.checked os 6 .any (Rows.fnCountTurnedSpec.pre6 enc Try.prog Try.f6 Rows.fnCountTurnedRow.domain false) (Rows.fnCountTurnedSpec.post enc Try.prog Try.f6 false true false false) := by
  refine returnsInHanded_of_change (C := Try.checked) ownKnob_none started (by kernel_rfl) Try.func6
    (ChangeSpec.witness6 (enc := enc) (C := Try.checked) false ⟨#[], #[.slice none 0 0], []⟩ 8 (by kernel_rfl) (by kernel_rfl) (by kernel_rfl) (by kernel_rfl)) ?_
  intro W base args ds gs before hval0 hW hcnd _
  have hval : ∀ (j : Nat) t v, Try.f6.params[j]? = some t → args[j]? = some v → Value.okWide Try.prog W .any base t v := hval0
  have hW' := hW
  obtain ⟨p, q, hA0, hV, rfl, hfz, hnd⟩ := hW
  have hA : DataW.TrodAll enc Try.prog W 0 (fun _ => true) true Try.f6.params.toList args.toList ds p := hA0
  rw [Try.params6] at hA hval
  obtain ⟨v0, vs0, d0, ds0, p0, q0, hargs, rfl, rfl, h0, r0⟩ := trodAll_cons hA
  obtain ⟨rfl, rfl, rfl⟩ := trodAll_nil r0
  obtain rfl : args = #[v0] := by cases args; simp_all
  obtain ⟨rfl, rfl⟩ := trodVars_none hV
  have k0 := h0
  have lt0 : ∀ x ∈ p0, x.block < W.heap.size := by obtain ⟨m, hm⟩ := k0; exact DataW.trod_lt m _ _ _ hm
  obtain ⟨a0, n0, c0, rfl⟩ := okWide_slice Try.underlying22 (hval 0 22 v0 rfl rfl)
  obtain ⟨x0, w0⟩ : ∃ xs, RdB W a0 n0 c0 xs := by
    obtain ⟨fuel, hf⟩ := h0
    obtain ⟨A, n, c, xs, hcs, hR⟩ := open_bytes hf
    simp [Value.cells] at hcs
    obtain ⟨rfl, rfl, rfl⟩ := hcs
    exact ⟨xs, hR⟩
  clear hA0 hval0
  refine (walk_FnCountTurned a0 n0 c0 x0 W w0).mono fun e W' ⟨he, bel⟩ => ?_
  subst he
  exact ⟨_, rfl, _, _, _, [], _, [], hW', trodAll_mk1 (shut_bool Try.underlying4 _), (trodAll_cons_mk (Below.trod laidOut (by kernel_rfl) (of_decide_eq_true (by kernel_rfl)) k0 bel lt0) trodAll_mk0), rfl, bel.frame _, fun h => by cases h⟩

theorem over : Rows.fnCountTurnedRow.holds Try.pinned (OpenSpec.ofChange Rows.fnCountTurnedSpec) :=
  OpenClaim.holds_of_wide 6 Try.f6 rfl rfl rfl rfl rfl rfl rfl ⟨rfl, rfl, rfl, rfl, rfl⟩ rfl rfl rfl rfl rfl (by kernel_rfl) Try.func6 (by kernel_rfl)
    (of_decide_eq_true (by kernel_rfl)) (by unfold Func.isWrapper; first | (rw [if_pos (by decide +kernel)]; kernel_rfl) | (rw [if_neg (by decide +kernel)]; exact ⟨rfl, rfl⟩))
    (fun os started H enc _ => lifted os started H enc)
end top_FnCountTurned

theorem FnCountTurned_holds : Rows.FnCountTurnedSaid := top_FnCountTurned.over
#print axioms FnCountTurned_holds

end Go.Proofs.Ytcgjifklapaeeaa
