/- The program's AnyOrder returns what the reference's returns, its argument reads as before, and its result is memory of its own, for all arguments. No condition. -/
import Derived.Test.YtcgjifklapaeeaaOpen
import Derived.Test.YtcgjifklapaeeaaOrdA
import Derived.Test.YtcgjifklapaeeaaAnyS
import Derived.Test.YtcgjifklapaeeaaAllL
import Derived.Test.YtcgjifklapaeeaaMark
import Derived.Test.YtcgjifklapaeeaaConvT
import Derived.Test.YtcgjifklapaeeaaConvI
namespace Go.Proofs.Ytcgjifklapaeeaa
open Go.ChangeShapes Go.WideShapes Go.ChangeAt Go.RowKit
set_option linter.unusedVariables false

theorem any_short (xs : List T) : ((anyV xs).getD []).length ≤ 5 := by
  cases h : anyV xs with
  | none => simp
  | some O =>
    show O.length ≤ 5
    rw [any_len h]
    have := (ordB_in (any_ord h).1).2.1
    exact this
theorem anyOrder_specU (A : Option Addr) (n c : Nat) (xs : List T) (w : World) (h : RdT w A n c xs) :
    Calls Try.prog 24 #[.slice A n c] w fun e w' => ∃ (D : Option Addr) (k d : Nat), e = .returned (.tuple #[.slice D k d, .bool (anyV xs).isSome]) ∧ RdI w' D k d ((anyV xs).getD []) ∧ Below w.heap.size w w' :=
  anyOrder_spec A n c xs w h

set_option maxRecDepth 100000 in
set_option maxHeartbeats 6400000 in
theorem walk_FnExactAnyOrder (A : Option Addr) (n c : Nat) (xs : List T) (w : World) (h : RdT w A n c xs) :
    Calls Try.prog 9 #[.slice A n c] w fun e w' => e = .returned (.bool true) ∧ Below w.heap.size w w' := by
  have hz0 := Below.refl w.heap.size w
  have hl := Lib.hid h.len
  have q0 := Lib.hid h
  have uA := Lib.hid (Under.t h)
  by_cases hn : n ≤ 1048576
  · have hlen := any_short xs
    obtain ⟨q, hq⟩ : ∃ q, (anyV xs).isSome = q := ⟨_, rfl⟩
    have hq1 : (q != q) = false := by simp
    have hq2 : (q == q) = true := by simp
    have HQ := Lib.hid hq
    clear h hq
    go_enter Try.func9, Try.ntmps9
    go_wp2_with fail
    refine (szTaskS_small A n c w hn).mono ?_
    rintro e w1 ⟨rfl, hb1⟩
    have hz1 := hz0.trans (hb1.mono hz0.size)
    replace q0 := Lib.hid (q0.out.below hb1)
    clear hb1
    go_wp2_with fail
    refine (toTaskS_any A n c xs w1 q0.out hn).mono ?_
    rintro e w2 ⟨g2, rfl, o2, hb2⟩
    have hz2 := hz1.trans (hb2.mono hz1.size)
    replace q0 := Lib.hid (q0.out.below hb2)
    clear hb2
    have q2 := Lib.hid (Rd.of_own T.cells_len o2 hl.out)
    clear o2
    go_wp2_with fail
    refine (anyOrder_specU _ n n xs w2 q2.out).mono ?_
    rw [HQ.out]
    rintro e w3 ⟨W0, kk, dd, rfl, o4, hb3⟩
    have hz3 := hz2.trans (hb3.mono hz2.size)
    replace q0 := Lib.hid (q0.out.below hb3)
    clear hb3
    have r0 := Lib.hid o4
    have uW := Lib.hid (Under.i r0.out)
    have hkk := o4.len
    have hkk5 : kk ≤ 5 := by omega
    clear o4 q2
    go_wp2_with fail
    refine (toTaskS_any A n c xs w3 q0.out hn).mono ?_
    rintro e w5 ⟨gx, rfl, o5, hb5⟩
    have hz5 := hz3.trans (hb5.mono hz3.size)
    replace q0 := Lib.hid (q0.out.below hb5)
    replace r0 := Lib.hid (r0.out.below hb5)
    clear hb5
    have X := Lib.hid (show OwnT w3 w5 (.slice (some ⟨gx, 0, none⟩) n n) n xs from ⟨o5, hl.out⟩)
    have bx := own_lt o5
    clear o5
    go_wp2_with fail
    refine (anyOrder_impl _ n n xs w5 X.out.rdS).mono ?_
    rw [HQ.out]
    rintro e w7 ⟨G0, k1, d1, rfl, o7, hb7⟩
    have hz7 := hz5.trans (hb7.mono hz5.size)
    replace q0 := Lib.hid (q0.out.below hb7)
    replace r0 := Lib.hid (r0.out.below hb7)
    replace X := Lib.hid (X.out.below hb7)
    clear hb7
    have G := Lib.hid o7
    have hk1 : k1 = kk := by rw [← hkk, ← o7.2]
    subst hk1
    have s4 := hz3.size
    have s6 := hz5.size
    clear o7 hkk
    go_wp2_with fail
    refine (eqIntS_same G0 W0 k1 d1 dd _ w7 G.out.rd5 r0.out).mono ?_
    rintro e w8 ⟨rfl, hb8⟩
    have hz8 := hz7.trans (hb8.mono hz7.size)
    replace q0 := Lib.hid (q0.out.below hb8)
    replace r0 := Lib.hid (r0.out.below hb8)
    replace X := Lib.hid (X.out.below hb8)
    replace G := Lib.hid (G.out.below hb8)
    clear hb8
    go_wp2_with fail
    refine (toTaskS_any A n c xs w8 q0.out hn).mono ?_
    rintro e w9 ⟨g9, rfl, o9, hb9⟩
    have hz9 := hz8.trans (hb9.mono hz8.size)
    replace q0 := Lib.hid (q0.out.below hb9)
    replace r0 := Lib.hid (r0.out.below hb9)
    replace X := Lib.hid (X.out.below hb9)
    replace G := Lib.hid (G.out.below hb9)
    clear hb9
    have q9 := Lib.hid (Rd.of_own T.cells_len o9 hl.out)
    clear o9
    go_wp2_with fail
    refine (eqTaskS_same _ _ n n n xs w9 X.out.rdS q9.out).mono ?_
    rintro e w10 ⟨rfl, hb10⟩
    have hz10 := hz9.trans (hb10.mono hz9.size)
    replace q0 := Lib.hid (q0.out.below hb10)
    replace r0 := Lib.hid (r0.out.below hb10)
    replace X := Lib.hid (X.out.below hb10)
    replace G := Lib.hid (G.out.below hb10)
    clear hb10
    clear q9
    go_wp2_with fail
    refine (markTaskS_any _ n n xs 1 w3 w10 X.out hn (by omega) (by omega)).mono ?_
    rintro e w13 ⟨rfl, _, g13⟩
    replace g13 : w10.grownBy w13 (some gx) := g13
    replace q0 := Lib.hid (q0.out.other uA.out g13 (fun g e => by injection e with e; omega))
    replace r0 := Lib.hid (r0.out.other uW.out g13 (fun g e => by injection e with e; omega))
    replace G := Lib.hid (G.out.other g13 (fun g hg e => by
      have := own_row G.out.1 g hg
      injection e with e; omega))
    have hz13 := hz10.grown g13 hz10.size (fun g e => by injection e with e; omega)
    clear g13 X
    go_wp2_with fail
    refine (eqIntS_same G0 W0 k1 d1 dd _ w13 G.out.rd5 r0.out).mono ?_
    rintro e w15 ⟨rfl, hb15⟩
    have hz15 := hz13.trans (hb15.mono hz13.size)
    replace q0 := Lib.hid (q0.out.below hb15)
    replace r0 := Lib.hid (r0.out.below hb15)
    replace G := Lib.hid (G.out.below hb15)
    clear hb15
    go_wp2_with fail
    refine (markIntS_any G0 k1 d1 _ 1 w5 w15 G.out (by omega) (by omega) (by omega)).mono ?_
    rintro e w16 ⟨rfl, G2, g16⟩
    have hrow := own_row G.out.1
    replace q0 := Lib.hid (q0.out.other uA.out g16 (fun g e => by have := hrow g e; omega))
    replace r0 := Lib.hid (r0.out.other uW.out g16 (fun g e => by have := hrow g e; omega))
    have hz16 := hz15.grown g16 hz15.size (fun g e => by have := hrow g e; omega)
    replace G := Lib.hid G2
    have hqq : (1 + (k1 : Int) != 1 + (k1 : Int)) = false := by simp
    clear G2 g16 hrow
    go_wp2_with fail
    refine (heldIntS_any G0 k1 d1 1 w16 G.out.rd5 (by omega) (by omega) (by omega)).mono ?_
    rintro e w17 ⟨rfl, hb17⟩
    have hz17 := hz16.trans (hb17.mono hz16.size)
    replace q0 := Lib.hid (q0.out.below hb17)
    replace r0 := Lib.hid (r0.out.below hb17)
    replace G := Lib.hid (G.out.below hb17)
    clear hb17
    go_wp2_with fail
    refine (toTaskS_any A n c xs w17 q0.out hn).mono ?_
    rintro e w18 ⟨g18, rfl, o18, hb18⟩
    have hz18 := hz17.trans (hb18.mono hz17.size)
    replace r0 := Lib.hid (r0.out.below hb18)
    replace G := Lib.hid (G.out.below hb18)
    clear hb18
    have q18 := Lib.hid (Rd.of_own T.cells_len o18 hl.out)
    clear o18
    go_wp2_with fail
    refine (anyOrder_impl _ n n xs w18 q18.out).mono ?_
    rw [HQ.out]
    rintro e w20 ⟨H0, k2, d2, rfl, o20, hb20⟩
    have hz20 := hz18.trans (hb20.mono hz18.size)
    replace r0 := Lib.hid (r0.out.below hb20)
    replace G := Lib.hid (G.out.below hb20)
    clear hb20
    have hk2 : k2 = k1 := by rw [← o20.2, ← r0.out.len]
    subst hk2
    have r20 := Lib.hid o20.rd5
    clear o20
    go_wp2_with fail
    refine (eqIntS_same H0 W0 k2 d2 dd _ w20 r20.out r0.out).mono ?_
    rintro e w21 ⟨rfl, hb21⟩
    have hz21 := hz20.trans (hb21.mono hz20.size)
    replace G := Lib.hid (G.out.below hb21)
    clear hb21
    go_wp2_with fail
    refine (heldIntS_any G0 k2 d1 1 w21 G.out.rd5 (by omega) (by omega) (by omega)).mono ?_
    rintro e w22 ⟨rfl, hb22⟩
    have hz22 := hz21.trans (hb22.mono hz21.size)
    clear hb22
    go_wp2
    go_ret
    exact ⟨rfl, hz22⟩
  · have hn' : 1048576 < n := by omega
    clear h
    go_enter Try.func9, Try.ntmps9
    go_wp2_with fail
    refine (szTaskS_big A n c xs w q0.out hn').mono ?_
    rintro e w1 ⟨rfl, hb1⟩
    have hz1 := hz0.trans (hb1.mono hz0.size)
    replace q0 := Lib.hid (q0.out.below hb1)
    clear hb1
    go_wp2
    go_ret
    exact ⟨rfl, hz1⟩

namespace top_FnExactAnyOrder
set_option maxRecDepth 100000 in
theorem lifted (os : Os) (started : os.Started) (H : Type) (enc : TypeId × Value → H) :
    ReturnsInHanded {} Try.checked os 9 .any (Rows.fnExactAnyOrderSpec.pre6 enc Try.prog Try.f9 Rows.fnExactAnyOrderRow.domain false) (Rows.fnExactAnyOrderSpec.post enc Try.prog Try.f9 false true false false) := by
  refine returnsInHanded_of_change (C := Try.checked) ownKnob_none started (by kernel_rfl) Try.func9
    (ChangeSpec.witness6 (enc := enc) (C := Try.checked) false ⟨#[], #[.slice none 0 0], []⟩ 8 (by kernel_rfl) (by kernel_rfl) (by kernel_rfl) (by kernel_rfl)) ?_
  intro W base args ds gs before hval0 hW hcnd _
  have hval : ∀ (j : Nat) t v, Try.f9.params[j]? = some t → args[j]? = some v → Value.okWide Try.prog W .any base t v := hval0
  have hW' := hW
  obtain ⟨p, q, hA0, hV, rfl, hfz, hnd⟩ := hW
  have hA : DataW.TrodAll enc Try.prog W 0 (fun _ => true) true Try.f9.params.toList args.toList ds p := hA0
  rw [Try.params9] at hA hval
  obtain ⟨v0, vs0, d0, ds0, p0, q0, hargs, rfl, rfl, h0, r0⟩ := trodAll_cons hA
  obtain ⟨rfl, rfl, rfl⟩ := trodAll_nil r0
  obtain rfl : args = #[v0] := by cases args; simp_all
  obtain ⟨rfl, rfl⟩ := trodVars_none hV
  have k0 := h0
  have lt0 : ∀ x ∈ p0, x.block < W.heap.size := by obtain ⟨m, hm⟩ := k0; exact DataW.trod_lt m _ _ _ hm
  obtain ⟨a0, n0, c0, rfl⟩ := okWide_slice Try.underlying34 (hval 0 34 v0 rfl rfl)
  obtain ⟨x0, w0⟩ : ∃ xs, RdT W a0 n0 c0 xs := by
    obtain ⟨fuel, hf⟩ := h0
    obtain ⟨A, n, c, xs, hcs, hR⟩ := open_tasks hf
    simp [Value.cells] at hcs
    obtain ⟨rfl, rfl, rfl⟩ := hcs
    exact ⟨xs, hR⟩
  clear hA0 hval0
  refine (walk_FnExactAnyOrder a0 n0 c0 x0 W w0).mono fun e W' ⟨he, bel⟩ => ?_
  subst he
  exact ⟨_, rfl, _, _, _, [], _, [], hW', trodAll_mk1 (shut_bool Try.underlying4 _), (trodAll_cons_mk (Below.trod laidOut (by kernel_rfl) (of_decide_eq_true (by kernel_rfl)) k0 bel lt0) trodAll_mk0), rfl, bel.frame _, fun h => by cases h⟩

theorem over : Rows.fnExactAnyOrderRow.holds Try.pinned (OpenSpec.ofChange Rows.fnExactAnyOrderSpec) :=
  OpenClaim.holds_of_wide 9 Try.f9 rfl rfl rfl rfl rfl rfl rfl ⟨rfl, rfl, rfl, rfl, rfl⟩ rfl rfl rfl rfl rfl (by kernel_rfl) Try.func9 (by kernel_rfl)
    (of_decide_eq_true (by kernel_rfl)) (by unfold Func.isWrapper; first | (rw [if_pos (by decide +kernel)]; kernel_rfl) | (rw [if_neg (by decide +kernel)]; exact ⟨rfl, rfl⟩))
    (fun os started H enc _ => lifted os started H enc)
end top_FnExactAnyOrder

theorem FnExactAnyOrder_holds : Rows.FnExactAnyOrderSaid := top_FnExactAnyOrder.over
#print axioms FnExactAnyOrder_holds

end Go.Proofs.Ytcgjifklapaeeaa
