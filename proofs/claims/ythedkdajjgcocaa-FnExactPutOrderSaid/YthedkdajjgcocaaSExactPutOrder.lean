/- The program's PutOrder returns what the reference's returns, its arguments read as before, and its result is memory of its own, for all arguments. No condition. -/
import Derived.Test.YthedkdajjgcocaaSOrderSelf
import Derived.Test.YthedkdajjgcocaaMark
import Derived.Test.YthedkdajjgcocaaConvT
import Derived.Test.YthedkdajjgcocaaConvI
namespace Go.Proofs.Ythedkdajjgcocaa
open Go.ChangeShapes Go.WideShapes Go.ChangeAt Go.RowKit
set_option linter.unusedVariables false

theorem putV_short (xs : List T) (o : List Int) : (putV xs o).length ≤ 5 := by
  unfold putV
  split
  · rename_i h
    obtain ⟨h1, h2, _⟩ := ordB_in h
    rw [putL_len]; omega
  · simp

set_option maxRecDepth 100000 in
set_option maxHeartbeats 6400000 in
theorem walk_FnExactPutOrder (A : Option Addr) (n c : Nat) (xs : List T) (A' : Option Addr) (m c' : Nat) (o : List Int) (w : World) (h : RdT w A n c xs) (h' : RdI w A' m c' o) :
    Calls Try.prog 11 #[.slice A n c, .slice A' m c'] w fun e w' => e = .returned (.bool true) ∧ Below w.heap.size w w' := by
  have hz0 := Below.refl w.heap.size w
  have hl := Lib.hid h.len
  have hl' := Lib.hid h'.len
  have q0 := Lib.hid h
  have p0 := Lib.hid h'
  have uA := Lib.hid (Under.t h)
  have uB := Lib.hid (Under.i h')
  have hmx : m ≤ maxLen := Nat.le_trans h'.cap h'.max
  unfold maxLen at hmx
  by_cases hm : m ≤ 1048576
  · by_cases hn : n ≤ 1048576
    · have hne : (ordB xs o != ordB xs o) = false := by simp
      have hlen := putV_short xs o
      clear h h' hmx
      go_enter Try.func11, Try.ntmps11
      go_wp2_with fail
      refine (szTaskS_small A n c w hn).mono ?_
      rintro e w1 ⟨rfl, hb1⟩
      have hz1 := hz0.trans (hb1.mono hz0.size)
      replace q0 := Lib.hid (q0.out.below hb1)
      replace p0 := Lib.hid (p0.out.below hb1)
      clear hb1
      go_wp2_with fail
      refine (toTaskS_any A n c xs w1 q0.out hn).mono ?_
      rintro e w2 ⟨g2, rfl, o2, hb2⟩
      have hz2 := hz1.trans (hb2.mono hz1.size)
      replace q0 := Lib.hid (q0.out.below hb2)
      replace p0 := Lib.hid (p0.out.below hb2)
      clear hb2
      have q2 := Lib.hid (Rd.of_own T.cells_len o2 hl.out)
      clear o2
      go_wp2_with fail
      refine (toIntS_any A' m c' o w2 p0.out hm).mono ?_
      rintro e w3 ⟨g3, rfl, o3, hb3⟩
      have hz3 := hz2.trans (hb3.mono hz2.size)
      replace q0 := Lib.hid (q0.out.below hb3)
      replace p0 := Lib.hid (p0.out.below hb3)
      replace q2 := Lib.hid (q2.out.below hb3)
      clear hb3
      have p3 := Lib.hid (Rd.of_own icells_len o3 hl'.out)
      clear o3
      go_wp2_with fail
      refine (putOrder_spec _ _ n n m m xs o w3 q2.out p3.out).mono ?_
      rintro e w4 ⟨W0, kk, dd, rfl, o4, hb4⟩
      have hz4 := hz3.trans (hb4.mono hz3.size)
      replace q0 := Lib.hid (q0.out.below hb4)
      replace p0 := Lib.hid (p0.out.below hb4)
      clear hb4
      have r0 := Lib.hid o4.rd
      have uW := Lib.hid (Under.t r0.out)
      have hkk := o4.len
      have hkk5 : kk ≤ 5 := by omega
      clear o4 q2 p3
      go_wp2_with fail
      refine (toTaskS_any A n c xs w4 q0.out hn).mono ?_
      rintro e w5 ⟨gx, rfl, o5, hb5⟩
      have hz5 := hz4.trans (hb5.mono hz4.size)
      replace q0 := Lib.hid (q0.out.below hb5)
      replace p0 := Lib.hid (p0.out.below hb5)
      replace r0 := Lib.hid (r0.out.below hb5)
      clear hb5
      have X := Lib.hid (show OwnT w4 w5 (.slice (some ⟨gx, 0, none⟩) n n) n xs from ⟨o5, hl.out⟩)
      have bx := own_lt o5
      clear o5
      go_wp2_with fail
      refine (toIntS_any A' m c' o w5 p0.out hm).mono ?_
      rintro e w6 ⟨gy, rfl, o6, hb6⟩
      have hz6 := hz5.trans (hb6.mono hz5.size)
      replace q0 := Lib.hid (q0.out.below hb6)
      replace p0 := Lib.hid (p0.out.below hb6)
      replace r0 := Lib.hid (r0.out.below hb6)
      replace X := Lib.hid (X.out.below hb6)
      clear hb6
      have Y := Lib.hid (show OwnI w5 w6 (.slice (some ⟨gy, 0, none⟩) m m) m o from ⟨o6, hl'.out⟩)
      have by_ := own_lt o6
      clear o6
      go_wp2_with fail
      refine (putOrder_impl _ _ n n m m xs o w6 X.out.rd Y.out.rd).mono ?_
      rintro e w7 ⟨G0, k1, d1, rfl, o7, hb7⟩
      have hz7 := hz6.trans (hb7.mono hz6.size)
      replace q0 := Lib.hid (q0.out.below hb7)
      replace p0 := Lib.hid (p0.out.below hb7)
      replace r0 := Lib.hid (r0.out.below hb7)
      replace X := Lib.hid (X.out.below hb7)
      replace Y := Lib.hid (Y.out.below hb7)
      clear hb7
      have G := Lib.hid o7
      have hk1 : k1 = kk := by rw [← hkk, ← o7.len]
      subst hk1
      have s4 := hz4.size
      have s6 := hz6.size
      clear o7 hkk
      go_wp2_with fail
      refine (eqTaskS_same G0 W0 k1 d1 dd (putV xs o) w7 G.out.rd r0.out).mono ?_
      rintro e w8 ⟨rfl, hb8⟩
      have hz8 := hz7.trans (hb8.mono hz7.size)
      replace q0 := Lib.hid (q0.out.below hb8)
      replace p0 := Lib.hid (p0.out.below hb8)
      replace r0 := Lib.hid (r0.out.below hb8)
      replace X := Lib.hid (X.out.below hb8)
      replace Y := Lib.hid (Y.out.below hb8)
      replace G := Lib.hid (G.out.below hb8)
      clear hb8
      go_wp2_with fail
      refine (toTaskS_any A n c xs w8 q0.out hn).mono ?_
      rintro e w9 ⟨g9, rfl, o9, hb9⟩
      have hz9 := hz8.trans (hb9.mono hz8.size)
      replace q0 := Lib.hid (q0.out.below hb9)
      replace p0 := Lib.hid (p0.out.below hb9)
      replace r0 := Lib.hid (r0.out.below hb9)
      replace X := Lib.hid (X.out.below hb9)
      replace Y := Lib.hid (Y.out.below hb9)
      replace G := Lib.hid (G.out.below hb9)
      clear hb9
      have q9 := Lib.hid (Rd.of_own T.cells_len o9 hl.out)
      clear o9
      go_wp2_with fail
      refine (eqTaskS_same _ _ n n n xs w9 X.out.rd q9.out).mono ?_
      rintro e w10 ⟨rfl, hb10⟩
      have hz10 := hz9.trans (hb10.mono hz9.size)
      replace q0 := Lib.hid (q0.out.below hb10)
      replace p0 := Lib.hid (p0.out.below hb10)
      replace r0 := Lib.hid (r0.out.below hb10)
      replace X := Lib.hid (X.out.below hb10)
      replace Y := Lib.hid (Y.out.below hb10)
      replace G := Lib.hid (G.out.below hb10)
      clear hb10
      go_wp2_with fail
      refine (toIntS_any A' m c' o w10 p0.out hm).mono ?_
      rintro e w11 ⟨g11, rfl, o11, hb11⟩
      have hz11 := hz10.trans (hb11.mono hz10.size)
      replace q0 := Lib.hid (q0.out.below hb11)
      replace p0 := Lib.hid (p0.out.below hb11)
      replace r0 := Lib.hid (r0.out.below hb11)
      replace X := Lib.hid (X.out.below hb11)
      replace Y := Lib.hid (Y.out.below hb11)
      replace G := Lib.hid (G.out.below hb11)
      clear hb11
      have p11 := Lib.hid (Rd.of_own icells_len o11 hl'.out)
      clear o11 q9
      go_wp2_with fail
      refine (eqIntS_same _ _ m m m o w11 Y.out.rd p11.out).mono ?_
      rintro e w12 ⟨rfl, hb12⟩
      have hz12 := hz11.trans (hb12.mono hz11.size)
      replace q0 := Lib.hid (q0.out.below hb12)
      replace p0 := Lib.hid (p0.out.below hb12)
      replace r0 := Lib.hid (r0.out.below hb12)
      replace X := Lib.hid (X.out.below hb12)
      replace Y := Lib.hid (Y.out.below hb12)
      replace G := Lib.hid (G.out.below hb12)
      clear hb12
      clear p11
      go_wp2_with fail
      refine (markTaskS_any _ n n xs 1 w4 w12 X.out hn (by omega) (by omega)).mono ?_
      rintro e w13 ⟨rfl, _, g13⟩
      replace g13 : w12.grownBy w13 (some gx) := g13
      replace q0 := Lib.hid (q0.out.other uA.out g13 (fun g e => by injection e with e; omega))
      replace p0 := Lib.hid (p0.out.other uB.out g13 (fun g e => by injection e with e; omega))
      replace r0 := Lib.hid (r0.out.other uW.out g13 (fun g e => by injection e with e; omega))
      replace Y := Lib.hid (Y.out.other g13 (fun g hg e => by
        have hg' : some gy = some g := hg
        injection hg' with hg'; injection e with e; omega))
      replace G := Lib.hid (G.out.other g13 (fun g hg e => by
        have := own_row G.out.1 g hg
        injection e with e; omega))
      have hz13 := hz12.grown g13 hz12.size (fun g e => by injection e with e; omega)
      clear g13 X
      go_wp2_with fail
      refine (markIntS_any _ m m o (1 + 5 * (n : Int)) w5 w13 Y.out hm (by omega) (by omega)).mono ?_
      rintro e w14 ⟨rfl, _, g14⟩
      replace g14 : w13.grownBy w14 (some gy) := g14
      replace q0 := Lib.hid (q0.out.other uA.out g14 (fun g e => by injection e with e; omega))
      replace p0 := Lib.hid (p0.out.other uB.out g14 (fun g e => by injection e with e; omega))
      replace r0 := Lib.hid (r0.out.other uW.out g14 (fun g e => by injection e with e; omega))
      replace G := Lib.hid (G.out.other g14 (fun g hg e => by
        have := own_row G.out.1 g hg
        injection e with e; omega))
      have hz14 := hz13.grown g14 hz13.size (fun g e => by injection e with e; omega)
      clear g14 Y
      go_wp2_with fail
      refine (eqTaskS_same G0 W0 k1 d1 dd (putV xs o) w14 G.out.rd r0.out).mono ?_
      rintro e w15 ⟨rfl, hb15⟩
      have hz15 := hz14.trans (hb15.mono hz14.size)
      replace q0 := Lib.hid (q0.out.below hb15)
      replace p0 := Lib.hid (p0.out.below hb15)
      replace r0 := Lib.hid (r0.out.below hb15)
      replace G := Lib.hid (G.out.below hb15)
      clear hb15
      go_wp2_with fail
      refine (markTaskS_any G0 k1 d1 (putV xs o) 1 w6 w15 G.out (by omega) (by omega) (by omega)).mono ?_
      rintro e w16 ⟨rfl, G2, g16⟩
      have hrow := own_row G.out.1
      replace q0 := Lib.hid (q0.out.other uA.out g16 (fun g e => by have := hrow g e; omega))
      replace p0 := Lib.hid (p0.out.other uB.out g16 (fun g e => by have := hrow g e; omega))
      replace r0 := Lib.hid (r0.out.other uW.out g16 (fun g e => by have := hrow g e; omega))
      have hz16 := hz15.grown g16 hz15.size (fun g e => by have := hrow g e; omega)
      replace G := Lib.hid G2
      have hqq : (1 + 5 * (k1 : Int) != 1 + 5 * (k1 : Int)) = false := by simp
      clear G2 g16 hrow
      go_wp2_with fail
      refine (heldTaskS_any G0 k1 d1 1 w16 G.out.rd (by omega) (by omega) (by omega)).mono ?_
      rintro e w17 ⟨rfl, hb17⟩
      have hz17 := hz16.trans (hb17.mono hz16.size)
      replace q0 := Lib.hid (q0.out.below hb17)
      replace p0 := Lib.hid (p0.out.below hb17)
      replace r0 := Lib.hid (r0.out.below hb17)
      replace G := Lib.hid (G.out.below hb17)
      clear hb17
      go_wp2_with fail
      refine (toTaskS_any A n c xs w17 q0.out hn).mono ?_
      rintro e w18 ⟨g18, rfl, o18, hb18⟩
      have hz18 := hz17.trans (hb18.mono hz17.size)
      replace q0 := Lib.hid (q0.out.below hb18)
      replace p0 := Lib.hid (p0.out.below hb18)
      replace r0 := Lib.hid (r0.out.below hb18)
      replace G := Lib.hid (G.out.below hb18)
      clear hb18
      have q18 := Lib.hid (Rd.of_own T.cells_len o18 hl.out)
      clear o18
      go_wp2_with fail
      refine (toIntS_any A' m c' o w18 p0.out hm).mono ?_
      rintro e w19 ⟨g19, rfl, o19, hb19⟩
      have hz19 := hz18.trans (hb19.mono hz18.size)
      replace r0 := Lib.hid (r0.out.below hb19)
      replace G := Lib.hid (G.out.below hb19)
      replace q18 := Lib.hid (q18.out.below hb19)
      clear hb19
      have p19 := Lib.hid (Rd.of_own icells_len o19 hl'.out)
      clear o19
      go_wp2_with fail
      refine (putOrder_impl _ _ n n m m xs o w19 q18.out p19.out).mono ?_
      rintro e w20 ⟨H0, k2, d2, rfl, o20, hb20⟩
      have hz20 := hz19.trans (hb20.mono hz19.size)
      replace r0 := Lib.hid (r0.out.below hb20)
      replace G := Lib.hid (G.out.below hb20)
      clear hb20
      have hk2 : k2 = k1 := by rw [← o20.len, ← r0.out.len]
      subst hk2
      have r20 := Lib.hid o20.rd
      clear o20
      go_wp2_with fail
      refine (eqTaskS_same H0 W0 k2 d2 dd (putV xs o) w20 r20.out r0.out).mono ?_
      rintro e w21 ⟨rfl, hb21⟩
      have hz21 := hz20.trans (hb21.mono hz20.size)
      replace G := Lib.hid (G.out.below hb21)
      clear hb21
      go_wp2_with fail
      refine (heldTaskS_any G0 k2 d1 1 w21 G.out.rd (by omega) (by omega) (by omega)).mono ?_
      rintro e w22 ⟨rfl, hb22⟩
      have hz22 := hz21.trans (hb22.mono hz21.size)
      clear hb22
      go_wp2
      go_ret
      exact ⟨rfl, hz22⟩
    · have hn' : 1048576 < n := by omega
      clear h h'
      go_enter Try.func11, Try.ntmps11
      go_wp2_with fail
      refine (szTaskS_big A n c xs w q0.out hn').mono ?_
      rintro e w1 ⟨rfl, hb1⟩
      have hz1 := hz0.trans (hb1.mono hz0.size)
      replace q0 := Lib.hid (q0.out.below hb1)
      clear hb1
      go_wp2
      go_ret
      exact ⟨rfl, hz1⟩
  · clear h h'
    go_enter Try.func11, Try.ntmps11
    go_wp2
    go_ret
    exact ⟨rfl, hz0⟩

namespace top_FnExactPutOrder
set_option maxRecDepth 100000 in
theorem lifted (os : Os) (started : os.Started) (H : Type) (enc : TypeId × Value → H) :
    ReturnsInHanded {} Try.checked os 11 .any (Rows.fnExactPutOrderSpec.pre6 enc Try.prog Try.f11 Rows.fnExactPutOrderRow.domain false) (Rows.fnExactPutOrderSpec.post enc Try.prog Try.f11 false true false false) := by
  refine returnsInHanded_of_change (C := Try.checked) ownKnob_none started (by kernel_rfl) Try.func11
    (ChangeSpec.witness6 (enc := enc) (C := Try.checked) false ⟨#[], #[.slice none 0 0, .slice none 0 0], []⟩ 8 (by kernel_rfl) (by kernel_rfl) (by kernel_rfl) (by kernel_rfl)) ?_
  intro W base args ds gs before hval0 hW hcnd _
  have hval : ∀ (j : Nat) t v, Try.f11.params[j]? = some t → args[j]? = some v → Value.okWide Try.prog W .any base t v := hval0
  have hW' := hW
  obtain ⟨p, q, hA0, hV, rfl, hfz, hnd⟩ := hW
  have hA : DataW.TrodAll enc Try.prog W 0 (fun _ => true) true Try.f11.params.toList args.toList ds p := hA0
  rw [Try.params11] at hA hval
  obtain ⟨v0, vs0, d0, ds0, p0, q0, hargs, rfl, rfl, h0, r0⟩ := trodAll_cons hA
  obtain ⟨v1, vs1, d1, ds1, p1, q1, rfl, rfl, rfl, h1, r1⟩ := trodAll_cons r0
  obtain ⟨rfl, rfl, rfl⟩ := trodAll_nil r1
  obtain rfl : args = #[v0, v1] := by cases args; simp_all
  obtain ⟨rfl, rfl⟩ := trodVars_none hV
  have k0 := h0
  have lt0 : ∀ x ∈ p0, x.block < W.heap.size := by obtain ⟨m, hm⟩ := k0; exact DataW.trod_lt m _ _ _ hm
  obtain ⟨a0, n0, c0, rfl⟩ := okWide_slice Try.underlying29 (hval 0 29 v0 rfl rfl)
  obtain ⟨x0, w0⟩ : ∃ xs, RdT W a0 n0 c0 xs := by
    obtain ⟨fuel, hf⟩ := h0
    obtain ⟨A, n, c, xs, hcs, hR⟩ := open_tasks hf
    simp [Value.cells] at hcs
    obtain ⟨rfl, rfl, rfl⟩ := hcs
    exact ⟨xs, hR⟩
  have k1 := h1
  have lt1 : ∀ x ∈ p1, x.block < W.heap.size := by obtain ⟨m, hm⟩ := k1; exact DataW.trod_lt m _ _ _ hm
  obtain ⟨a1, n1, c1, rfl⟩ := okWide_slice Try.underlying43 (hval 1 43 v1 rfl rfl)
  obtain ⟨x1, w1⟩ : ∃ xs, RdI W a1 n1 c1 xs := by
    obtain ⟨fuel, hf⟩ := h1
    obtain ⟨A, n, c, xs, hcs, hR⟩ := open_ilist hf
    simp [Value.cells] at hcs
    obtain ⟨rfl, rfl, rfl⟩ := hcs
    exact ⟨xs, hR⟩
  clear hA0 hval0
  refine (walk_FnExactPutOrder a0 n0 c0 x0 a1 n1 c1 x1 W w0 w1).mono fun e W' ⟨he, bel⟩ => ?_
  subst he
  exact ⟨_, rfl, _, _, _, [], _, [], hW', trodAll_mk1 (shut_bool Try.underlying4 _), (trodAll_cons_mk (Below.trod laidOut (by kernel_rfl) (of_decide_eq_true (by kernel_rfl)) k0 bel lt0) (trodAll_cons_mk (Below.trod laidOut (by kernel_rfl) (of_decide_eq_true (by kernel_rfl)) k1 bel lt1) trodAll_mk0)), rfl, bel.frame _, fun h => by cases h⟩

theorem over : Rows.fnExactPutOrderRow.holds Try.pinned (OpenSpec.ofChange Rows.fnExactPutOrderSpec) :=
  OpenClaim.holds_of_wide 11 Try.f11 rfl rfl rfl rfl rfl rfl rfl ⟨rfl, rfl, rfl, rfl, rfl⟩ rfl rfl rfl rfl rfl (by kernel_rfl) Try.func11 (by kernel_rfl)
    (of_decide_eq_true (by kernel_rfl)) (by unfold Func.isWrapper; first | (rw [if_pos (by decide +kernel)]; kernel_rfl) | (rw [if_neg (by decide +kernel)]; exact ⟨rfl, rfl⟩))
    (fun os started H enc _ => lifted os started H enc)
end top_FnExactPutOrder

theorem FnExactPutOrder_holds : Rows.FnExactPutOrderSaid := top_FnExactPutOrder.over
#print axioms FnExactPutOrder_holds

end Go.Proofs.Ythedkdajjgcocaa
