/- The program's OrderValid returns what the reference's returns, and its arguments read as before, for all arguments. No condition. -/
import Derived.Test.YthedkdajjgcocaaOpen
import Derived.Test.YthedkdajjgcocaaOrd
import Derived.Test.YthedkdajjgcocaaConvT
import Derived.Test.YthedkdajjgcocaaConvI
namespace Go.Proofs.Ythedkdajjgcocaa
open Go.ChangeShapes Go.WideShapes Go.ChangeAt Go.RowKit
set_option linter.unusedVariables false

set_option maxHeartbeats 1600000 in
theorem walk_FnExactOrderValid (A : Option Addr) (n c : Nat) (xs : List T) (A' : Option Addr) (m c' : Nat) (o : List Int) (w : World) (h : RdT w A n c xs) (h' : RdI w A' m c' o) :
    Calls Try.prog 6 #[.slice A n c, .slice A' m c'] w fun e w' => e = .returned (.bool true) ∧ Below w.heap.size w w' := by
  have hz0 := Below.refl w.heap.size w
  have hl := Lib.hid h.len
  have hl' := Lib.hid h'.len
  have q0 := Lib.hid h
  have p0 := Lib.hid h'
  have hmx : m ≤ maxLen := Nat.le_trans h'.cap h'.max
  unfold maxLen at hmx
  by_cases hm : m ≤ 1048576
  · by_cases hn : n ≤ 1048576
    · have hne : (ordB xs o != ordB xs o) = false := by simp
      clear h h' hmx
      go_enter Try.func6, Try.ntmps6
      go_wp2_with fail
      refine (szTaskS_small A n c w hn).mono ?_
      rintro e w1 ⟨rfl, hb1⟩
      have hz1 := hz0.trans (hb1.mono hz0.size)
      replace q0 := Lib.hid (q0.out.below hb1)
      replace p0 := Lib.hid (p0.out.below hb1)
      clear hb1
      go_wp2_with fail
      refine (toTaskS_any A n c xs w1 q0.out hn).mono ?_
      rintro e w2 ⟨g2, rfl, o2, hb2⟩
      have hz2 := hz1.trans (hb2.mono hz1.size)
      replace q0 := Lib.hid (q0.out.below hb2)
      replace p0 := Lib.hid (p0.out.below hb2)
      clear hb2
      have q2 := Lib.hid (Rd.of_own T.cells_len o2 hl.out)
      clear o2
      go_wp2_with fail
      refine (toIntS_any A' m c' o w2 p0.out hm).mono ?_
      rintro e w3 ⟨g3, rfl, o3, hb3⟩
      have hz3 := hz2.trans (hb3.mono hz2.size)
      replace q0 := Lib.hid (q0.out.below hb3)
      replace p0 := Lib.hid (p0.out.below hb3)
      replace q2 := Lib.hid (q2.out.below hb3)
      clear hb3
      have p3 := Lib.hid (Rd.of_own icells_len o3 hl'.out)
      clear o3
      go_wp2_with fail
      refine (orderValid_spec _ _ n n m m xs o w3 q2.out p3.out).mono ?_
      rintro e w4 ⟨rfl, hb4⟩
      have hz4 := hz3.trans (hb4.mono hz3.size)
      replace q0 := Lib.hid (q0.out.below hb4)
      replace p0 := Lib.hid (p0.out.below hb4)
      clear hb4
      go_wp2_with fail
      refine (toTaskS_any A n c xs w4 q0.out hn).mono ?_
      rintro e w5 ⟨g5, rfl, o5, hb5⟩
      have hz5 := hz4.trans (hb5.mono hz4.size)
      replace q0 := Lib.hid (q0.out.below hb5)
      replace p0 := Lib.hid (p0.out.below hb5)
      clear hb5
      have q5 := Lib.hid (Rd.of_own T.cells_len o5 hl.out)
      clear o5
      go_wp2_with fail
      refine (toIntS_any A' m c' o w5 p0.out hm).mono ?_
      rintro e w6 ⟨g6, rfl, o6, hb6⟩
      have hz6 := hz5.trans (hb6.mono hz5.size)
      replace q0 := Lib.hid (q0.out.below hb6)
      replace p0 := Lib.hid (p0.out.below hb6)
      replace q5 := Lib.hid (q5.out.below hb6)
      clear hb6
      have p6 := Lib.hid (Rd.of_own icells_len o6 hl'.out)
      clear o6
      go_wp2_with fail
      refine (orderValid_impl _ _ n n m m xs o w6 q5.out p6.out).mono ?_
      rintro e w7 ⟨rfl, hb7⟩
      have hz7 := hz6.trans (hb7.mono hz6.size)
      replace q0 := Lib.hid (q0.out.below hb7)
      replace p0 := Lib.hid (p0.out.below hb7)
      replace q5 := Lib.hid (q5.out.below hb7)
      replace p6 := Lib.hid (p6.out.below hb7)
      clear hb7
      go_wp2_with fail
      refine (toTaskS_any A n c xs w7 q0.out hn).mono ?_
      rintro e w8 ⟨g8, rfl, o8, hb8⟩
      have hz8 := hz7.trans (hb8.mono hz7.size)
      replace q0 := Lib.hid (q0.out.below hb8)
      replace p0 := Lib.hid (p0.out.below hb8)
      replace q5 := Lib.hid (q5.out.below hb8)
      replace p6 := Lib.hid (p6.out.below hb8)
      clear hb8
      have q8 := Lib.hid (Rd.of_own T.cells_len o8 hl.out)
      clear o8
      go_wp2_with fail
      refine (eqTaskS_same _ _ n n n xs w8 q5.out q8.out).mono ?_
      rintro e w9 ⟨rfl, hb9⟩
      have hz9 := hz8.trans (hb9.mono hz8.size)
      replace q0 := Lib.hid (q0.out.below hb9)
      replace p0 := Lib.hid (p0.out.below hb9)
      replace p6 := Lib.hid (p6.out.below hb9)
      clear hb9
      go_wp2_with fail
      refine (toIntS_any A' m c' o w9 p0.out hm).mono ?_
      rintro e w10 ⟨g10, rfl, o10, hb10⟩
      have hz10 := hz9.trans (hb10.mono hz9.size)
      replace p0 := Lib.hid (p0.out.below hb10)
      replace p6 := Lib.hid (p6.out.below hb10)
      clear hb10
      have p10 := Lib.hid (Rd.of_own icells_len o10 hl'.out)
      clear o10
      go_wp2_with fail
      refine (eqIntS_same _ _ m m m o w10 p6.out p10.out).mono ?_
      rintro e w11 ⟨rfl, hb11⟩
      have hz11 := hz10.trans (hb11.mono hz10.size)
      clear hb11
      go_wp2
      go_ret
      exact ⟨rfl, hz11⟩
    · have hn' : 1048576 < n := by omega
      clear h h'
      go_enter Try.func6, Try.ntmps6
      go_wp2_with fail
      refine (szTaskS_big A n c xs w q0.out hn').mono ?_
      rintro e w1 ⟨rfl, hb1⟩
      have hz1 := hz0.trans (hb1.mono hz0.size)
      replace q0 := Lib.hid (q0.out.below hb1)
      clear hb1
      go_wp2
      go_ret
      exact ⟨rfl, hz1⟩
  · clear h h'
    go_enter Try.func6, Try.ntmps6
    go_wp2
    go_ret
    exact ⟨rfl, hz0⟩

namespace top_FnExactOrderValid
set_option maxRecDepth 100000 in
theorem lifted (os : Os) (started : os.Started) (H : Type) (enc : TypeId × Value → H) :
    ReturnsInHanded {} Try.checked os 6 .any (Rows.fnExactOrderValidSpec.pre6 enc Try.prog Try.f6 Rows.fnExactOrderValidRow.domain false) (Rows.fnExactOrderValidSpec.post enc Try.prog Try.f6 false true false false) := by
  refine returnsInHanded_of_change (C := Try.checked) ownKnob_none started (by kernel_rfl) Try.func6
    (ChangeSpec.witness6 (enc := enc) (C := Try.checked) false ⟨#[], #[.slice none 0 0, .slice none 0 0], []⟩ 8 (by kernel_rfl) (by kernel_rfl) (by kernel_rfl) (by kernel_rfl)) ?_
  intro W base args ds gs before hval0 hW hcnd _
  have hval : ∀ (j : Nat) t v, Try.f6.params[j]? = some t → args[j]? = some v → Value.okWide Try.prog W .any base t v := hval0
  have hW' := hW
  obtain ⟨p, q, hA0, hV, rfl, hfz, hnd⟩ := hW
  have hA : DataW.TrodAll enc Try.prog W 0 (fun _ => true) true Try.f6.params.toList args.toList ds p := hA0
  rw [Try.params6] at hA hval
  obtain ⟨v0, vs0, d0, ds0, p0, q0, hargs, rfl, rfl, h0, r0⟩ := trodAll_cons hA
  obtain ⟨v1, vs1, d1, ds1, p1, q1, rfl, rfl, rfl, h1, r1⟩ := trodAll_cons r0
  obtain ⟨rfl, rfl, rfl⟩ := trodAll_nil r1
  obtain rfl : args = #[v0, v1] := by cases args; simp_all
  obtain ⟨rfl, rfl⟩ := trodVars_none hV
  have k0 := h0
  have lt0 : ∀ x ∈ p0, x.block < W.heap.size := by obtain ⟨m, hm⟩ := k0; exact DataW.trod_lt m _ _ _ hm
  obtain ⟨a0, n0, c0, rfl⟩ := okWide_slice Try.underlying29 (hval 0 29 v0 rfl rfl)
  obtain ⟨x0, w0⟩ : ∃ xs, RdT W a0 n0 c0 xs := by
    obtain ⟨fuel, hf⟩ := h0
    obtain ⟨A, n, c, xs, hcs, hR⟩ := open_tasks hf
    simp [Value.cells] at hcs
    obtain ⟨rfl, rfl, rfl⟩ := hcs
    exact ⟨xs, hR⟩
  have k1 := h1
  have lt1 : ∀ x ∈ p1, x.block < W.heap.size := by obtain ⟨m, hm⟩ := k1; exact DataW.trod_lt m _ _ _ hm
  obtain ⟨a1, n1, c1, rfl⟩ := okWide_slice Try.underlying43 (hval 1 43 v1 rfl rfl)
  obtain ⟨x1, w1⟩ : ∃ xs, RdI W a1 n1 c1 xs := by
    obtain ⟨fuel, hf⟩ := h1
    obtain ⟨A, n, c, xs, hcs, hR⟩ := open_ilist hf
    simp [Value.cells] at hcs
    obtain ⟨rfl, rfl, rfl⟩ := hcs
    exact ⟨xs, hR⟩
  clear hA0 hval0
  refine (walk_FnExactOrderValid a0 n0 c0 x0 a1 n1 c1 x1 W w0 w1).mono fun e W' ⟨he, bel⟩ => ?_
  subst he
  exact ⟨_, rfl, _, _, _, [], _, [], hW', trodAll_mk1 (shut_bool Try.underlying4 _), (trodAll_cons_mk (Below.trod laidOut (by kernel_rfl) (of_decide_eq_true (by kernel_rfl)) k0 bel lt0) (trodAll_cons_mk (Below.trod laidOut (by kernel_rfl) (of_decide_eq_true (by kernel_rfl)) k1 bel lt1) trodAll_mk0)), rfl, bel.frame _, fun h => by cases h⟩

theorem over : Rows.fnExactOrderValidRow.holds Try.pinned (OpenSpec.ofChange Rows.fnExactOrderValidSpec) :=
  OpenClaim.holds_of_wide 6 Try.f6 rfl rfl rfl rfl rfl rfl rfl ⟨rfl, rfl, rfl, rfl, rfl⟩ rfl rfl rfl rfl rfl (by kernel_rfl) Try.func6 (by kernel_rfl)
    (of_decide_eq_true (by kernel_rfl)) (by unfold Func.isWrapper; first | (rw [if_pos (by decide +kernel)]; kernel_rfl) | (rw [if_neg (by decide +kernel)]; exact ⟨rfl, rfl⟩))
    (fun os started H enc _ => lifted os started H enc)
end top_FnExactOrderValid

theorem FnExactOrderValid_holds : Rows.FnExactOrderValidSaid := top_FnExactOrderValid.over
#print axioms FnExactOrderValid_holds

end Go.Proofs.Ythedkdajjgcocaa
