/- Factors are exact: the law returns true for every input. No condition. -/
import Derived.Test.YtcdmegiffbhbeaaOpen
import Derived.Test.YtcdmegiffbhbeaaL5V
import Derived.Test.YtcdmegiffbhbeaaEqS
import Derived.Test.YtcdmegiffbhbeaaDraw5
namespace Go.Proofs.Ytcdmegiffbhbeaa
open Go.ChangeShapes Go.WideShapes Go.ChangeAt Go.RowKit
set_option linter.unusedVariables false

theorem fact_exact {xs : List T} (h : factB xs = true) (hn : ¬ (factV xs).num = (factV xs).den) :
    ∃ N D : Int, 0 ≤ N ∧ N ≤ 16000000 ∧ 1 ≤ D ∧ D ≤ 3200000 ∧ (factV xs).num * D = N * (factV xs).den ∧ 0 ≤ (factV xs).num ∧ (factV xs).num ≤ N ∧ 1 ≤ (factV xs).den ∧ (factV xs).den ≤ D ∧
      N = (shr true T.low xs).num * (shr false T.low xs).den ∧ D = (shr true T.low xs).den * ((shr false T.low xs).den - (shr false T.low xs).num) ∧ (shr false T.low xs).num < (shr false T.low xs).den := by
  have hp : plainB xs = false := by
    cases hp : plainB xs
    · rfl
    · exfalso; apply hn; rw [(factB_2 (fact_imp h) hp).2]
  obtain ⟨h1, h2, h3⟩ := fact_lt h hp
  obtain ⟨u1, u2, u3, u4, u5, u6⟩ := fact_bd (f := T.low) (g := T.low) (imp_sv (fact_imp h)) nd_low nd_low h2
  have e : factV xs = red ((shr true T.low xs).num * (shr false T.low xs).den) ((shr true T.low xs).den * ((shr false T.low xs).den - (shr false T.low xs).num)) := by rw [h3, u6]; rfl
  refine ⟨_, _, u2, u3, u4, u5, ?_, ?_, ?_, ?_, ?_, rfl, rfl, u1⟩
  · rw [e]; exact red_same u2 u4
  · rw [e]; exact red_num0 u2 u4
  · rw [e]; exact red_num_le u2 u4
  · rw [e]; exact red_den1 u2 u4
  · rw [e]; exact red_den_le u2 u4
theorem mul_le_of {a b A B : Int} (h0 : 0 ≤ a) (h1 : a ≤ A) (h2 : 0 ≤ b) (h3 : b ≤ B) : 0 ≤ a * b ∧ a * b ≤ A * B := ⟨Int.mul_nonneg h0 h2, Int.mul_le_mul h1 h3 h2 (by omega)⟩

set_option maxRecDepth 100000 in
set_option maxHeartbeats 6400000 in
theorem walk_FnFactorExact (A : Option Addr) (n c : Nat) (bs : List UInt8) (w : World) (h : RdB w A n c bs) :
    Calls Try.prog 12 #[.slice A n c] w fun e w' => e = .returned (.bool true) ∧ Below w.heap.size w w' := by
  have hz0 := Below.refl w.heap.size w
  have H := Lib.hid h
  have hmx : n ≤ maxLen := Nat.le_trans h.cap h.max
  unfold maxLen at hmx
  clear h
  by_cases hn : n ≤ 1048576
  · go_enter Try.func12, Try.ntmps12
    go_wp2_with fail
    refine (drawFactorOf_any A n c bs w H.out).mono ?_
    rintro e w1 ⟨D, m, d, xs, rfl, hm6, ho, hz1⟩
    have qT := Lib.hid ho.rd5
    clear ho
    go_wp2_with fail
    refine (factorOf_impl D m d xs w1 qT.out).mono ?_
    rintro e w2 ⟨rfl, hb2⟩
    have hz2 := hz1.trans (hb2.mono hz1.size)
    replace qT := Lib.hid (qT.out.below hb2)
    clear hb2
    have rX := Lib.hid (Blk.new w2 27 #[.int .i64 (factV xs).num, .int .i64 (factV xs).den])
    replace qT := Lib.hid (qT.out.alloc (.cells #[.int .i64 (factV xs).num, .int .i64 (factV xs).den] 27))
    have hz2a := hz2.alloc hz2.size (.cells #[.int .i64 (factV xs).num, .int .i64 (factV xs).den] 27)
    go_wp2_with fail
    refine (factorOf_spec D m d xs _ qT.out).mono ?_
    rintro e w3 ⟨rfl, hb3⟩
    have hz3 := hz2a.trans (hb3.mono hz2a.size)
    replace qT := Lib.hid (qT.out.below hb3)
    replace rX := Lib.hid (rX.out.below hb3)
    clear hb3
    generalize hr : factV xs = r at *
    have Hr := Lib.hid hr
    clear hr
    have c0 := rX.out.cell (i := 0) rfl
    have c1 := rX.out.cell (i := 1) rfl
    have clt := rX.out.lt
    replace qT := Lib.hid (qT.out.alloc (.cells #[.int .i64 r.num, .int .i64 r.den] 27))
    replace rX := Lib.hid (rX.out.alloc (.cells #[.int .i64 r.num, .int .i64 r.den] 27))
    have hz3a := hz3.alloc hz3.size (.cells #[.int .i64 r.num, .int .i64 r.den] 27)
    have hnq := fun w => neq_share r.num r.den w
    have hql := fun w => eql_share r.num r.den w
    have hee : (factB xs != factB xs) = false := by simp
    have hee2 : (factB xs == factB xs) = true := by simp
    cases hf : factB xs
    · clear hee hee2 hf
      go_wp2
      go_ret
      exact ⟨rfl, hz3a⟩
    · by_cases he : r.num = r.den
      · have heb : (r.num == r.den) = true := by simpa using he
        clear hee hee2 hf he
        go_wp2
        go_ret
        exact ⟨rfl, hz3a⟩
      · have heb : (r.num == r.den) = false := by simpa using he
        obtain ⟨N, DD, n1, n2, n3, n4, n5, n6, n7, n8, n9, hN, hD, ha⟩ := fact_exact hf (by rw [Hr.out]; exact he)
        rw [Hr.out] at n5 n6 n7 n8 n9
        have hs := imp_sv (fact_imp hf)
        obtain ⟨a1, a2, a3, a4⟩ := shr_sm (c := false) nd_low hs
        obtain ⟨b1, b2, b3, b4⟩ := shr_sm (c := true) nd_low hs
        clear hee hee2 hf he hs
        go_wp2_with fail
        refine (lowShare_impl D m d xs false _ qT.out).mono ?_
        rintro e w4 ⟨rfl, hb4⟩
        have hz4 := hz3a.trans (hb4.mono hz3a.size)
        replace qT := Lib.hid (qT.out.below hb4)
        replace rX := Lib.hid (rX.out.below hb4)
        clear hb4
        have rA := Lib.hid (Blk.new w4 27 #[.int .i64 (shr false T.low xs).num, .int .i64 (shr false T.low xs).den])
        clear c0 c1 clt
        replace qT := Lib.hid (qT.out.alloc (.cells #[.int .i64 (shr false T.low xs).num, .int .i64 (shr false T.low xs).den] 27))
        replace rX := Lib.hid (rX.out.alloc (.cells #[.int .i64 (shr false T.low xs).num, .int .i64 (shr false T.low xs).den] 27))
        have hz4a := hz4.alloc hz4.size (.cells #[.int .i64 (shr false T.low xs).num, .int .i64 (shr false T.low xs).den] 27)
        go_wp2_with fail
        refine (lowShare_impl D m d xs true _ qT.out).mono ?_
        rintro e w5 ⟨rfl, hb5⟩
        have hz5 := hz4a.trans (hb5.mono hz4a.size)
        replace rX := Lib.hid (rX.out.below hb5)
        replace rA := Lib.hid (rA.out.below hb5)
        clear hb5
        generalize shr false T.low xs = a at *
        generalize shr true T.low xs = b at *
        have hz5a := hz5.alloc hz5.size (.cells #[.int .i64 b.num, .int .i64 b.den] 27)
        have x0 := rX.out.cell (i := 0) rfl
        have x1 := rX.out.cell (i := 1) rfl
        have xl := rX.out.lt
        have y0 := rA.out.cell (i := 0) rfl
        have y1 := rA.out.cell (i := 1) rfl
        have yl := rA.out.lt
        have p0 := mul_le_of n6 (Int.le_trans n7 n2) (by omega : (0 : Int) ≤ DD) n4
        have hP : r.num * (a.den - a.num) * b.den = r.num * DD := by rw [hD]; ac_rfl
        have p1 : 0 ≤ r.num * (a.den - a.num) := Int.mul_nonneg n6 (by omega)
        have p2 : r.num * (a.den - a.num) * 1 ≤ r.num * (a.den - a.num) * b.den := Int.mul_le_mul_of_nonneg_left b3 p1
        rw [hP, Int.mul_one] at p2
        have hQ : b.num * a.den * r.den = r.num * DD := by rw [n5, hN]
        have q1 : 0 ≤ b.num * a.den := by rw [← hN]; exact n1
        have q2 : b.num * a.den ≤ 16000000 := by rw [← hN]; exact n2
        have hfin : (r.num * (a.den - a.num) * b.den == b.num * a.den * r.den) = true := by rw [hP, hQ]; simp
        have z1 : 0 ≤ r.num * (a.den - a.num) * b.den := by rw [hP]; exact p0.1
        have z2 : r.num * (a.den - a.num) * b.den ≤ 51200000000000 := by rw [hP]; omega
        have z3 : 0 ≤ b.num * a.den * r.den := by rw [hQ]; exact p0.1
        have z4 : b.num * a.den * r.den ≤ 51200000000000 := by rw [hQ]; omega
        have z5 : r.num * (a.den - a.num) ≤ 51200000000000 := by omega
        clear hP hQ hN hD n5 p2 p0
        go_wp2
        go_ret
        exact ⟨rfl, hz5a⟩
  · go_enter Try.func12, Try.ntmps12
    go_wp2
    go_ret
    exact ⟨rfl, hz0⟩

namespace top_FnFactorExact
set_option maxRecDepth 100000 in
theorem lifted (os : Os) (started : os.Started) (H : Type) (enc : TypeId × Value → H) :
    ReturnsInHanded {} Try.checked os 12 .any (Rows.fnFactorExactSpec.pre6 enc Try.prog Try.f12 Rows.fnFactorExactRow.domain false) (Rows.fnFactorExactSpec.post enc Try.prog Try.f12 false true false false) := by
  refine returnsInHanded_of_change (C := Try.checked) ownKnob_none started (by kernel_rfl) Try.func12
    (ChangeSpec.witness6 (enc := enc) (C := Try.checked) false ⟨#[], #[.slice none 0 0], []⟩ 8 (by kernel_rfl) (by kernel_rfl) (by kernel_rfl) (by kernel_rfl)) ?_
  intro W base args ds gs before hval0 hW hcnd _
  have hval : ∀ (j : Nat) t v, Try.f12.params[j]? = some t → args[j]? = some v → Value.okWide Try.prog W .any base t v := hval0
  have hW' := hW
  obtain ⟨p, q, hA0, hV, rfl, hfz, hnd⟩ := hW
  have hA : DataW.TrodAll enc Try.prog W 0 (fun _ => true) true Try.f12.params.toList args.toList ds p := hA0
  rw [Try.params12] at hA hval
  obtain ⟨v0, vs0, d0, ds0, p0, q0, hargs, rfl, rfl, h0, r0⟩ := trodAll_cons hA
  obtain ⟨rfl, rfl, rfl⟩ := trodAll_nil r0
  obtain rfl : args = #[v0] := by cases args; simp_all
  obtain ⟨rfl, rfl⟩ := trodVars_none hV
  have k0 := h0
  have lt0 : ∀ x ∈ p0, x.block < W.heap.size := by obtain ⟨m, hm⟩ := k0; exact DataW.trod_lt m _ _ _ hm
  obtain ⟨a0, n0, c0, rfl⟩ := okWide_slice Try.underlying22 (hval 0 22 v0 rfl rfl)
  obtain ⟨x0, w0⟩ : ∃ xs, RdB W a0 n0 c0 xs := by
    obtain ⟨fuel, hf⟩ := h0
    obtain ⟨A, n, c, xs, hcs, hR⟩ := open_bytes hf
    simp [Value.cells] at hcs
    obtain ⟨rfl, rfl, rfl⟩ := hcs
    exact ⟨xs, hR⟩
  clear hA0 hval0
  refine (walk_FnFactorExact a0 n0 c0 x0 W w0).mono fun e W' ⟨he, bel⟩ => ?_
  subst he
  exact ⟨_, rfl, _, _, _, [], _, [], hW', trodAll_mk1 (shut_bool Try.underlying4 _), (trodAll_cons_mk (Below.trod laidOut (by kernel_rfl) (of_decide_eq_true (by kernel_rfl)) k0 bel lt0) trodAll_mk0), rfl, bel.frame _, fun h => by cases h⟩

theorem over : Rows.fnFactorExactRow.holds Try.pinned (OpenSpec.ofChange Rows.fnFactorExactSpec) :=
  OpenClaim.holds_of_wide 12 Try.f12 rfl rfl rfl rfl rfl rfl rfl ⟨rfl, rfl, rfl, rfl, rfl⟩ rfl rfl rfl rfl rfl (by kernel_rfl) Try.func12 (by kernel_rfl)
    (of_decide_eq_true (by kernel_rfl)) (by unfold Func.isWrapper; first | (rw [if_pos (by decide +kernel)]; kernel_rfl) | (rw [if_neg (by decide +kernel)]; exact ⟨rfl, rfl⟩))
    (fun os started H enc _ => lifted os started H enc)
end top_FnFactorExact

theorem FnFactorExact_holds : Rows.FnFactorExactSaid := top_FnFactorExact.over
#print axioms FnFactorExact_holds

end Go.Proofs.Ytcdmegiffbhbeaa
