/- Busy times end where the shares are no more than the whole: the law returns true for every input. No condition. -/
import Derived.Test.YtjjeldcbglnlaaaOpen
import Derived.Test.YtjjeldcbglnlaaaRespS
import Derived.Test.YtjjeldcbglnlaaaDraw3
import Derived.Test.YtjjeldcbglnlaaaLow5
namespace Go.Proofs.Ytjjeldcbglnlaaa
open Go.ChangeShapes Go.WideShapes Go.ChangeAt Go.RowKit
set_option linter.unusedVariables false


set_option maxRecDepth 100000 in
set_option maxHeartbeats 6400000 in
theorem walk_FnBusyShare (A : Option Addr) (n c : Nat) (bs : List UInt8) (w : World) (h : RdB w A n c bs) :
    Calls Try.prog 8 #[.slice A n c] w fun e w' => e = .returned (.bool true) ∧ Below w.heap.size w w' := by
  have hz0 := Below.refl w.heap.size w
  have H := Lib.hid h
  have hmx : n ≤ maxLen := Nat.le_trans h.cap h.max
  unfold maxLen at hmx
  clear h
  by_cases hn : n ≤ 1048576
  · go_enter Try.func8, Try.ntmps8
    go_wp2_with fail
    refine (drawBusyLow_any A n c bs w H.out).mono ?_
    rintro e w1 ⟨D, m, d, xs, rfl, hm6, ho, hz1⟩
    have qT := Lib.hid ho.rdS
    have hcap : m ≤ d := ho.rdS.cap
    have hmax : d ≤ maxLen := ho.rdS.max
    unfold maxLen at hmax
    clear ho
    cases hs : svB xs
    · have E0 := Lib.hid hs
      clear hs
      go_wp2_with fail
      refine (busyLow_impl D m d xs w1 qT.out).mono ?_
      rintro e w2 ⟨rfl, hb2⟩
      have hz2 := hz1.trans (hb2.mono hz1.size)
      replace qT := Lib.hid (qT.out.below hb2)
      clear hb2
      go_wp2_with fail
      refine (busyLow_spec D m d xs w2 qT.out).mono ?_
      rintro e w3 ⟨rfl, hb3⟩
      have hz3 := hz2.trans (hb3.mono hz2.size)
      replace qT := Lib.hid (qT.out.below hb3)
      clear hb3
      generalize (busyV xs).getD 0 = p at *
      generalize (busyV xs).isSome = q at *
      have hp1 : (p != p) = false := by simp
      have hp2 : (p == p) = true := by simp
      have hq1 : (q != q) = false := by simp
      have hq2 : (q == q) = true := by simp
      go_wp2_with fail
      refine (setValid_impl D m d xs w3 qT.out).mono ?_
      rw [E0.out]
      rintro e w4 ⟨rfl, hb4⟩
      have hz4 := hz3.trans (hb4.mono hz3.size)
      clear hb4
      go_wp2
      go_ret
      exact ⟨rfl, hz4⟩
    · have E0 := Lib.hid hs
      rcases Nat.eq_zero_or_pos m with hm0 | hm1
      · subst hm0
        clear hs
        go_wp2_with fail
        refine (busyLow_impl D 0 d xs w1 qT.out).mono ?_
        rintro e w2 ⟨rfl, hb2⟩
        have hz2 := hz1.trans (hb2.mono hz1.size)
        replace qT := Lib.hid (qT.out.below hb2)
        clear hb2
        go_wp2_with fail
        refine (busyLow_spec D 0 d xs w2 qT.out).mono ?_
        rintro e w3 ⟨rfl, hb3⟩
        have hz3 := hz2.trans (hb3.mono hz2.size)
        replace qT := Lib.hid (qT.out.below hb3)
        clear hb3
        generalize (busyV xs).getD 0 = p at *
        generalize (busyV xs).isSome = q at *
        have hp1 : (p != p) = false := by simp
        have hp2 : (p == p) = true := by simp
        have hq1 : (q != q) = false := by simp
        have hq2 : (q == q) = true := by simp
        go_wp2_with fail
        refine (setValid_impl D 0 d xs w3 qT.out).mono ?_
        rw [E0.out]
        rintro e w4 ⟨rfl, hb4⟩
        have hz4 := hz3.trans (hb4.mono hz3.size)
        clear hb4
        go_wp2
        go_ret
        exact ⟨rfl, hz4⟩
      · have hmb : ((m : Int) == 0) = false := by simp; omega
        have hne : xs ≠ [] := fun e => by have := qT.out.len; rw [e] at this; simp at this; omega
        have hle := sum_one5 hs
        have hbi := busy_iff hs hne
        have sa := shr_is5 (c := false) nd_low hs
        have sb := shr_is5 (c := true) nd_low hs
        have hA := Lib.hid (fun w => addShares_impl (shr true T.low xs) (shr false T.low xs) w sb sa (sum_sm5 hs))
        have hC := Lib.hid (fun w => compare_impl (plusV (shr true T.low xs) (shr false T.low xs)) ⟨1, 1⟩ w (sum_is5 hs) one_is5)
        simp only [Int.mul_one, Int.one_mul] at hC
        clear hs sa sb hne
        generalize decide (scA xs ≤ LL) = q at *
        have HB := Lib.hid hbi
        have hq1 : (q != q) = false := by simp
        have hq2 : (q == q) = true := by simp
        clear hbi
        go_wp2_with fail
        refine (busyLow_impl D m d xs w1 qT.out).mono ?_
        rw [HB.out]
        rintro e w2 ⟨rfl, hb2⟩
        have hz2 := hz1.trans (hb2.mono hz1.size)
        replace qT := Lib.hid (qT.out.below hb2)
        clear hb2
        go_wp2_with fail
        refine (busyLow_spec D m d xs w2 qT.out).mono ?_
        rw [HB.out]
        rintro e w3 ⟨rfl, hb3⟩
        have hz3 := hz2.trans (hb3.mono hz2.size)
        replace qT := Lib.hid (qT.out.below hb3)
        clear hb3
        generalize (busyV xs).getD 0 = b at *
        have hp1 : (b != b) = false := by simp
        have hp2 : (b == b) = true := by simp
        go_wp2_with fail
        refine (setValid_impl D m d xs w3 qT.out).mono ?_
        rw [E0.out]
        rintro e w4 ⟨rfl, hb4⟩
        have hz4 := hz3.trans (hb4.mono hz3.size)
        replace qT := Lib.hid (qT.out.below hb4)
        clear hb4
        go_wp2_with fail
        refine (lowShare_impl D m d xs true w4 qT.out).mono ?_
        rintro e w5 ⟨rfl, hb5⟩
        have hz5 := hz4.trans (hb5.mono hz4.size)
        replace qT := Lib.hid (qT.out.below hb5)
        clear hb5
        go_wp2_with fail
        refine (lowShare_impl D m d xs false w5 qT.out).mono ?_
        rintro e w6 ⟨rfl, hb6⟩
        have hz6 := hz5.trans (hb6.mono hz5.size)
        replace qT := Lib.hid (qT.out.below hb6)
        clear hb6
        go_wp2_with fail
        refine (hA.out w6).mono ?_
        rintro e w7 ⟨rfl, hb7⟩
        have hz7 := hz6.trans (hb7.mono hz6.size)
        replace qT := Lib.hid (qT.out.below hb7)
        clear hb7
        generalize plusV (shr true T.low xs) (shr false T.low xs) = p at *
        have rX := Lib.hid (Blk.new w7 41 #[.int .i64 p.num, .int .i64 p.den])
        have hz7a := hz7.alloc hz7.size (.cells #[.int .i64 p.num, .int .i64 p.den] 41)
        have c0 := rX.out.cell (i := 0) rfl
        have c1 := rX.out.cell (i := 1) rfl
        have clt := rX.out.lt
        cases q
        · go_wp2_with fail
          refine (hC.out _).mono ?_
          rintro e w8 ⟨rfl, hb8⟩
          have hz8 := hz7a.trans (hb8.mono hz7a.size)
          clear hb8
          go_wp2
          go_ret
          exact ⟨rfl, hz8⟩
        · go_wp2_with fail
          refine (hC.out _).mono ?_
          rintro e w8 ⟨rfl, hb8⟩
          have hz8 := hz7a.trans (hb8.mono hz7a.size)
          clear hb8
          go_wp2
          go_ret
          exact ⟨rfl, hz8⟩
  · go_enter Try.func8, Try.ntmps8
    go_wp2
    go_ret
    exact ⟨rfl, hz0⟩

namespace top_FnBusyShare
set_option maxRecDepth 100000 in
theorem lifted (os : Os) (started : os.Started) (H : Type) (enc : TypeId × Value → H) :
    ReturnsInHanded {} Try.checked os 8 .any (Rows.fnBusyShareSpec.pre6 enc Try.prog Try.f8 Rows.fnBusyShareRow.domain false) (Rows.fnBusyShareSpec.post enc Try.prog Try.f8 false true false false) := by
  refine returnsInHanded_of_change (C := Try.checked) ownKnob_none started (by kernel_rfl) Try.func8
    (ChangeSpec.witness6 (enc := enc) (C := Try.checked) false ⟨#[], #[.slice none 0 0], []⟩ 8 (by kernel_rfl) (by kernel_rfl) (by kernel_rfl) (by kernel_rfl)) ?_
  intro W base args ds gs before hval0 hW hcnd _
  have hval : ∀ (j : Nat) t v, Try.f8.params[j]? = some t → args[j]? = some v → Value.okWide Try.prog W .any base t v := hval0
  have hW' := hW
  obtain ⟨p, q, hA0, hV, rfl, hfz, hnd⟩ := hW
  have hA : DataW.TrodAll enc Try.prog W 0 (fun _ => true) true Try.f8.params.toList args.toList ds p := hA0
  rw [Try.params8] at hA hval
  obtain ⟨v0, vs0, d0, ds0, p0, q0, hargs, rfl, rfl, h0, r0⟩ := trodAll_cons hA
  obtain ⟨rfl, rfl, rfl⟩ := trodAll_nil r0
  obtain rfl : args = #[v0] := by cases args; simp_all
  obtain ⟨rfl, rfl⟩ := trodVars_none hV
  have k0 := h0
  have lt0 : ∀ x ∈ p0, x.block < W.heap.size := by obtain ⟨m, hm⟩ := k0; exact DataW.trod_lt m _ _ _ hm
  obtain ⟨a0, n0, c0, rfl⟩ := okWide_slice Try.underlying29 (hval 0 29 v0 rfl rfl)
  obtain ⟨x0, w0⟩ : ∃ xs, RdB W a0 n0 c0 xs := by
    obtain ⟨fuel, hf⟩ := h0
    obtain ⟨A, n, c, xs, hcs, hR⟩ := open_bytes hf
    simp [Value.cells] at hcs
    obtain ⟨rfl, rfl, rfl⟩ := hcs
    exact ⟨xs, hR⟩
  clear hA0 hval0
  refine (walk_FnBusyShare a0 n0 c0 x0 W w0).mono fun e W' ⟨he, bel⟩ => ?_
  subst he
  exact ⟨_, rfl, _, _, _, [], _, [], hW', trodAll_mk1 (shut_bool Try.underlying4 _), (trodAll_cons_mk (Below.trod laidOut (by kernel_rfl) (of_decide_eq_true (by kernel_rfl)) k0 bel lt0) trodAll_mk0), rfl, bel.frame _, fun h => by cases h⟩

theorem over : Rows.fnBusyShareRow.holds Try.pinned (OpenSpec.ofChange Rows.fnBusyShareSpec) :=
  OpenClaim.holds_of_wide 8 Try.f8 rfl rfl rfl rfl rfl rfl rfl ⟨rfl, rfl, rfl, rfl, rfl⟩ rfl rfl rfl rfl rfl (by kernel_rfl) Try.func8 (by kernel_rfl)
    (of_decide_eq_true (by kernel_rfl)) (by unfold Func.isWrapper; first | (rw [if_pos (by decide +kernel)]; kernel_rfl) | (rw [if_neg (by decide +kernel)]; exact ⟨rfl, rfl⟩))
    (fun os started H enc _ => lifted os started H enc)
end top_FnBusyShare

theorem FnBusyShare_holds : Rows.FnBusyShareSaid := top_FnBusyShare.over
#print axioms FnBusyShare_holds

end Go.Proofs.Ytjjeldcbglnlaaa
