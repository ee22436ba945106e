/- Fewer tasks have an order as well: the law returns true for every input. No condition. -/
import Derived.Test.YtjjeldcbglnlaaaOpen
import Derived.Test.YtjjeldcbglnlaaaAsgL
import Derived.Test.YtjjeldcbglnlaaaEqI
import Derived.Test.YtjjeldcbglnlaaaDrawA
namespace Go.Proofs.Ytjjeldcbglnlaaa
open Go.ChangeShapes Go.WideShapes Go.ChangeAt Go.RowKit
set_option linter.unusedVariables false


set_option maxRecDepth 100000 in
set_option maxHeartbeats 6400000 in
theorem walk_FnAssignLess (A : Option Addr) (n c : Nat) (bs : List UInt8) (w : World) (h : RdB w A n c bs) :
    Calls Try.prog 14 #[.slice A n c] w fun e w' => e = .returned (.bool true) ∧ Below w.heap.size w w' := by
  have hz0 := Below.refl w.heap.size w
  have H := Lib.hid h
  have hmx : n ≤ maxLen := Nat.le_trans h.cap h.max
  unfold maxLen at hmx
  clear h
  by_cases hn : n ≤ 1048576
  · go_enter Try.func14, Try.ntmps14
    go_wp2_with fail
    refine (drawAssignOrder_any A n c bs w H.out).mono ?_
    rintro e w1 ⟨D, m, d, xs, rfl, hm6, ho, hz1⟩
    have qT := Lib.hid ho.rdS
    have hcap : m ≤ d := ho.rdS.cap
    have hmax : d ≤ maxLen := ho.rdS.max
    unfold maxLen at hmax
    clear ho
    cases ho : asgV xs with
    | none =>
      have HO := Lib.hid ho
      clear ho
      go_wp2_with fail
      refine (assignOrder_impl D m d xs w1 qT.out).mono ?_
      rw [HO.out]
      rintro e w2 ⟨P1, k1, d1, rfl, o2, hb2⟩
      have hz2 := hz1.trans (hb2.mono hz1.size)
      replace qT := Lib.hid (qT.out.below hb2)
      have r1 := Lib.hid o2.rd5
      have l1 := o2.2
      clear hb2 o2
      go_wp2_with fail
      refine (assignOrder_spec D m d xs w2 qT.out).mono ?_
      rw [HO.out]
      rintro e w3 ⟨P2, k2, d2, rfl, o3, hb3⟩
      have hz3 := hz2.trans (hb3.mono hz2.size)
      replace qT := Lib.hid (qT.out.below hb3)
      replace r1 := Lib.hid (r1.out.below hb3)
      have r2 := Lib.hid o3.rd5
      have l2 := o3.2
      have l12 : k2 = k1 := l2.symm.trans l1
      subst l12
      clear hb3 o3 l2
      go_wp2_with fail
      refine (dmInts_same P1 P2 k2 d1 d2 _ w3 r1.out r2.out).mono ?_
      rintro e w4 ⟨rfl, hb4⟩
      have hz4 := hz3.trans (hb4.mono hz3.size)
      replace qT := Lib.hid (qT.out.below hb4)
      replace r1 := Lib.hid (r1.out.below hb4)
      replace r2 := Lib.hid (r2.out.below hb4)
      clear hb4
      go_wp2_with fail
      refine (dmInts_same P1 P2 k2 d1 d2 _ w4 r1.out r2.out).mono ?_
      rintro e w5 ⟨rfl, hb5⟩
      have hz5 := hz4.trans (hb5.mono hz4.size)
      clear hb5
      go_wp2
      go_ret
      exact ⟨rfl, hz5⟩
    | some O =>
      have HO := Lib.hid ho
      rcases Nat.eq_zero_or_pos m with hm0 | hm1
      · subst hm0
        clear ho
        go_wp2_with fail
        refine (assignOrder_impl D 0 d xs w1 qT.out).mono ?_
        rw [HO.out]
        rintro e w2 ⟨P1, k1, d1, rfl, o2, hb2⟩
        have hz2 := hz1.trans (hb2.mono hz1.size)
        replace qT := Lib.hid (qT.out.below hb2)
        have r1 := Lib.hid o2.rd5
        have l1 := o2.2
        clear hb2 o2
        go_wp2_with fail
        refine (assignOrder_spec D 0 d xs w2 qT.out).mono ?_
        rw [HO.out]
        rintro e w3 ⟨P2, k2, d2, rfl, o3, hb3⟩
        have hz3 := hz2.trans (hb3.mono hz2.size)
        replace qT := Lib.hid (qT.out.below hb3)
        replace r1 := Lib.hid (r1.out.below hb3)
        have r2 := Lib.hid o3.rd5
        have l2 := o3.2
        have l12 : k2 = k1 := l2.symm.trans l1
        subst l12
        clear hb3 o3 l2
        go_wp2_with fail
        refine (dmInts_same P1 P2 k2 d1 d2 _ w3 r1.out r2.out).mono ?_
        rintro e w4 ⟨rfl, hb4⟩
        have hz4 := hz3.trans (hb4.mono hz3.size)
        replace qT := Lib.hid (qT.out.below hb4)
        replace r1 := Lib.hid (r1.out.below hb4)
        replace r2 := Lib.hid (r2.out.below hb4)
        clear hb4
        go_wp2_with fail
        refine (dmInts_same P1 P2 k2 d1 d2 _ w4 r1.out r2.out).mono ?_
        rintro e w5 ⟨rfl, hb5⟩
        have hz5 := hz4.trans (hb5.mono hz4.size)
        clear hb5
        go_wp2
        go_ret
        exact ⟨rfl, hz5⟩
      · obtain ⟨k, rfl⟩ : ∃ k, m = k + 1 := ⟨m - 1, by omega⟩
        have hmb : ((k : Int) + 1 == 0) = false := by simp; omega
        have HL := Lib.hid (show O.length = k + 1 by rw [asg_len ho, qT.out.len])
        have HV := Lib.hid (asg_order ho)
        have hd := asg_sub (List.drop_sublist 1 xs) (by rw [ho]; rfl)
        have HD := Lib.hid hd
        clear ho hd hm1
        go_wp2_with fail
        refine (assignOrder_impl D (k + 1) d xs w1 qT.out).mono ?_
        rw [HO.out]
        rintro e w2 ⟨P1, k1, d1, rfl, o2, hb2⟩
        have hz2 := hz1.trans (hb2.mono hz1.size)
        replace qT := Lib.hid (qT.out.below hb2)
        have r1 := Lib.hid o2.rd5
        have l1 := o2.2
        clear hb2 o2
        go_wp2_with fail
        refine (assignOrder_spec D (k + 1) d xs w2 qT.out).mono ?_
        rw [HO.out]
        rintro e w3 ⟨P2, k2, d2, rfl, o3, hb3⟩
        have hz3 := hz2.trans (hb3.mono hz2.size)
        replace qT := Lib.hid (qT.out.below hb3)
        replace r1 := Lib.hid (r1.out.below hb3)
        have r2 := Lib.hid o3.rd5
        have l2 := o3.2
        have l12 : k2 = k1 := l2.symm.trans l1
        subst l12
        clear hb3 o3 l2
        go_wp2_with fail
        refine (dmInts_same P1 P2 k2 d1 d2 _ w3 r1.out r2.out).mono ?_
        rintro e w4 ⟨rfl, hb4⟩
        have hz4 := hz3.trans (hb4.mono hz3.size)
        replace qT := Lib.hid (qT.out.below hb4)
        replace r1 := Lib.hid (r1.out.below hb4)
        replace r2 := Lib.hid (r2.out.below hb4)
        clear hb4
        have hk2 : k2 = k + 1 := by rw [← l1]; exact HL.out
        subst hk2
        replace r1 := Lib.hid (show RdI w4 P1 (k + 1) d1 O from r1.out)
        obtain ⟨b, off, x', hA, hx', hb, _⟩ := qT.out.taskAt (i := 0) (by omega)
        subst hA
        have e0 : (1 : Int) ≤ (k : Int) + 1 := by omega
        have e1 : (k : Int) + 1 ≤ (d : Int) := by omega
        clear hx' l1
        by_cases hd1 : d = 1
        · have hk0 : k = 0 := by omega
          subst hd1 hk0
          have q1 := Lib.hid (show RdT w4 (some ⟨b, off, none⟩) 0 0 (xs.drop 1) by rw [List.drop_eq_nil_of_le (by rw [qT.out.len]; exact Nat.le_refl _)]; exact Rd.nil (Nat.zero_le _))
          go_wp2_with fail
          refine (assignOrder_impl _ 0 0 (xs.drop 1) _ q1.out).mono ?_
          rw [HD.out]
          rintro e w5 ⟨P3, k3, d3, rfl, o5, hb5⟩
          have hz5 := hz4.trans (hb5.mono hz4.size)
          replace qT := Lib.hid (qT.out.below hb5)
          replace r1 := Lib.hid (r1.out.below hb5)
          clear hb5 o5
          go_wp2_with fail
          refine (orderValid_impl _ P1 (0 + 1) 1 (0 + 1) d1 xs O w5 qT.out r1.out).mono ?_
          rw [HV.out]
          rintro e w6 ⟨rfl, hb6⟩
          have hz6 := hz5.trans (hb6.mono hz5.size)
          clear hb6
          go_wp2
          go_ret
          exact ⟨rfl, hz6⟩
        · have q1 := Lib.hid (qT.out.dropS (m := 1) (by omega))
          rw [Nat.one_mul, show k + 1 - 1 = k from rfl] at q1
          go_wp2_with fail
          refine (assignOrder_impl _ k (d - 1) (xs.drop 1) _ q1.out).mono ?_
          rw [HD.out]
          rintro e w5 ⟨P3, k3, d3, rfl, o5, hb5⟩
          have hz5 := hz4.trans (hb5.mono hz4.size)
          replace qT := Lib.hid (qT.out.below hb5)
          replace r1 := Lib.hid (r1.out.below hb5)
          clear hb5 o5
          go_wp2_with fail
          refine (orderValid_impl _ P1 (k + 1) d (k + 1) d1 xs O w5 qT.out r1.out).mono ?_
          rw [HV.out]
          rintro e w6 ⟨rfl, hb6⟩
          have hz6 := hz5.trans (hb6.mono hz5.size)
          clear hb6
          go_wp2
          go_ret
          exact ⟨rfl, hz6⟩
  · go_enter Try.func14, Try.ntmps14
    go_wp2
    go_ret
    exact ⟨rfl, hz0⟩

namespace top_FnAssignLess
set_option maxRecDepth 100000 in
theorem lifted (os : Os) (started : os.Started) (H : Type) (enc : TypeId × Value → H) :
    ReturnsInHanded {} Try.checked os 14 .any (Rows.fnAssignLessSpec.pre6 enc Try.prog Try.f14 Rows.fnAssignLessRow.domain false) (Rows.fnAssignLessSpec.post enc Try.prog Try.f14 false true false false) := by
  refine returnsInHanded_of_change (C := Try.checked) ownKnob_none started (by kernel_rfl) Try.func14
    (ChangeSpec.witness6 (enc := enc) (C := Try.checked) false ⟨#[], #[.slice none 0 0], []⟩ 8 (by kernel_rfl) (by kernel_rfl) (by kernel_rfl) (by kernel_rfl)) ?_
  intro W base args ds gs before hval0 hW hcnd _
  have hval : ∀ (j : Nat) t v, Try.f14.params[j]? = some t → args[j]? = some v → Value.okWide Try.prog W .any base t v := hval0
  have hW' := hW
  obtain ⟨p, q, hA0, hV, rfl, hfz, hnd⟩ := hW
  have hA : DataW.TrodAll enc Try.prog W 0 (fun _ => true) true Try.f14.params.toList args.toList ds p := hA0
  rw [Try.params14] at hA hval
  obtain ⟨v0, vs0, d0, ds0, p0, q0, hargs, rfl, rfl, h0, r0⟩ := trodAll_cons hA
  obtain ⟨rfl, rfl, rfl⟩ := trodAll_nil r0
  obtain rfl : args = #[v0] := by cases args; simp_all
  obtain ⟨rfl, rfl⟩ := trodVars_none hV
  have k0 := h0
  have lt0 : ∀ x ∈ p0, x.block < W.heap.size := by obtain ⟨m, hm⟩ := k0; exact DataW.trod_lt m _ _ _ hm
  obtain ⟨a0, n0, c0, rfl⟩ := okWide_slice Try.underlying29 (hval 0 29 v0 rfl rfl)
  obtain ⟨x0, w0⟩ : ∃ xs, RdB W a0 n0 c0 xs := by
    obtain ⟨fuel, hf⟩ := h0
    obtain ⟨A, n, c, xs, hcs, hR⟩ := open_bytes hf
    simp [Value.cells] at hcs
    obtain ⟨rfl, rfl, rfl⟩ := hcs
    exact ⟨xs, hR⟩
  clear hA0 hval0
  refine (walk_FnAssignLess a0 n0 c0 x0 W w0).mono fun e W' ⟨he, bel⟩ => ?_
  subst he
  exact ⟨_, rfl, _, _, _, [], _, [], hW', trodAll_mk1 (shut_bool Try.underlying4 _), (trodAll_cons_mk (Below.trod laidOut (by kernel_rfl) (of_decide_eq_true (by kernel_rfl)) k0 bel lt0) trodAll_mk0), rfl, bel.frame _, fun h => by cases h⟩

theorem over : Rows.fnAssignLessRow.holds Try.pinned (OpenSpec.ofChange Rows.fnAssignLessSpec) :=
  OpenClaim.holds_of_wide 14 Try.f14 rfl rfl rfl rfl rfl rfl rfl ⟨rfl, rfl, rfl, rfl, rfl⟩ rfl rfl rfl rfl rfl (by kernel_rfl) Try.func14 (by kernel_rfl)
    (of_decide_eq_true (by kernel_rfl)) (by unfold Func.isWrapper; first | (rw [if_pos (by decide +kernel)]; kernel_rfl) | (rw [if_neg (by decide +kernel)]; exact ⟨rfl, rfl⟩))
    (fun os started H enc _ => lifted os started H enc)
end top_FnAssignLess

theorem FnAssignLess_holds : Rows.FnAssignLessSaid := top_FnAssignLess.over
#print axioms FnAssignLess_holds

end Go.Proofs.Ytjjeldcbglnlaaa
