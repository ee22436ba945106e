/- No order before the first one holds: the law returns true for every input. No condition. -/
import Derived.Test.YtcgjifklapaeeaaOpen
import Derived.Test.YtcgjifklapaeeaaOrdA
import Derived.Test.YtcgjifklapaeeaaAnyS
import Derived.Test.YtcgjifklapaeeaaAllL
import Derived.Test.YtcgjifklapaeeaaDraw4
import Derived.Test.YtcgjifklapaeeaaEqI
namespace Go.Proofs.Ytcgjifklapaeeaa
open Go.ChangeShapes Go.WideShapes Go.ChangeAt Go.RowKit
set_option linter.unusedVariables false

theorem anyOrder_specV (A : Option Addr) (n c : Nat) (xs : List T) (w : World) (h : RdT w A n c xs) :
    Calls Try.prog 24 #[.slice A n c] w fun e w' => ∃ (D : Option Addr) (k d : Nat), e = .returned (.tuple #[.slice D k d, .bool (anyV xs).isSome]) ∧ RdI w' D k d ((anyV xs).getD []) ∧ Below w.heap.size w w' :=
  anyOrder_spec A n c xs w h

theorem swap_cells {o : List Int} {m : Nat} (hl : o.length = m + 2) {a b : Int} (ha : o[m]? = some a) (hb : o[m + 1]? = some b) : (o.set m b).set (m + 1) a = swapO o := by
  have e : o = o.take m ++ [a, b] := by
    apply List.ext_getElem?
    intro i
    rcases Nat.lt_or_ge i m with h | h
    · rw [List.getElem?_append_left (by rw [List.length_take]; omega), List.getElem?_take, if_pos h]
    · rw [List.getElem?_append_right (by rw [List.length_take]; omega), List.length_take, Nat.min_eq_left (by omega)]
      have : i = m ∨ i = m + 1 ∨ m + 2 ≤ i := by omega
      rcases this with rfl | rfl | h2
      · rw [Nat.sub_self]; exact ha
      · rw [Nat.add_sub_cancel_left]; exact hb
      · rw [List.getElem?_eq_none (by omega), List.getElem?_eq_none (by simp; omega)]
  have h1 : o.length - 2 = m := by omega
  have h2 : o.length - 1 = m + 1 := by omega
  unfold swapO
  rw [h1, h2, ha, hb]
  generalize o.take m = p at *
  have hp : p.length = m := by have := congrArg List.length e; simp at this; omega
  subst hp
  rw [e]
  simp [List.set_append_right]
theorem own_set1 {w w1 : World} {g c m : Nat} {xs : List Int} (h : OwnI w w1 (.slice (some ⟨g, 0, none⟩) m c) m xs) (k : Nat) (v : Int) :
    OwnI w (w1.setCell ⟨g, k, none⟩ (.int .i64 v)) (.slice (some ⟨g, 0, none⟩) m c) m (xs.set k v) := h.set_ k v

set_option maxRecDepth 100000 in
set_option maxHeartbeats 6400000 in
theorem walk_FnAnyFirst (A : Option Addr) (n c : Nat) (bs : List UInt8) (w : World) (h : RdB w A n c bs) :
    Calls Try.prog 7 #[.slice A n c] w fun e w' => e = .returned (.bool true) ∧ Below w.heap.size w w' := by
  have hz0 := Below.refl w.heap.size w
  have H := Lib.hid h
  have hmx : n ≤ maxLen := Nat.le_trans h.cap h.max
  unfold maxLen at hmx
  clear h
  by_cases hn : n ≤ 1048576
  · go_enter Try.func7, Try.ntmps7
    go_wp2_with fail
    refine (drawAnyOrder_any A n c bs w H.out).mono ?_
    rintro e w1 ⟨D, m, d, xs, rfl, hm6, hm5, hT, hz1⟩
    have qT := Lib.hid hT
    have HC1 := Lib.hid (fun w h => anyOrder_impl D m d xs w h)
    have HC2 := Lib.hid (fun w h => anyOrder_specV D m d xs w h)
    have HC4 := Lib.hid (fun w h => holdsBoth_impl D m d xs w h)
    have hlm := hT.len
    obtain ⟨O, hO⟩ : ∃ O, anyV xs = O := ⟨_, rfl⟩
    rw [hO] at HC1 HC2
    have hf1 : (false != false) = false := rfl
    have hf2 : (true != true) = false := rfl
    have hf3 : (false == false) = true := rfl
    have hf4 : (true == true) = true := rfl
    have HO := Lib.hid hO
    clear hT hO
    cases O with
    | none =>
      simp only [Option.isSome_none, Option.getD_none] at HC1 HC2
      have HC1 := Lib.hid HC1.out
      have HC2 := Lib.hid HC2.out
      go_wp2_with fail
      refine (HC1.out w1 qT.out).mono ?_
      rintro e w2 ⟨P1, k1, d1, rfl, o2, hb2⟩
      have hz2 := hz1.trans (hb2.mono hz1.size)
      replace qT := Lib.hid (qT.out.below hb2)
      have r1 := Lib.hid o2.rd5
      have l1 : k1 = 0 := o2.2.symm
      subst l1
      clear hb2 o2
      go_wp2_with fail
      refine (HC2.out w2 qT.out).mono ?_
      rintro e w3 ⟨P2, k2, d2, rfl, o3, hb3⟩
      have hz3 := hz2.trans (hb3.mono hz2.size)
      replace qT := Lib.hid (qT.out.below hb3)
      replace r1 := Lib.hid (r1.out.below hb3)
      have r2 := Lib.hid o3
      have l2 : k2 = 0 := o3.len.symm
      subst l2
      clear hb3 o3
      go_wp2_with fail
      refine (dmInts_same P1 P2 0 d1 d2 _ w3 r1.out r2.out).mono ?_
      rintro e w4 ⟨rfl, hb4⟩
      have hz4 := hz3.trans (hb4.mono hz3.size)
      replace qT := Lib.hid (qT.out.below hb4)
      replace r1 := Lib.hid (r1.out.below hb4)
      replace r2 := Lib.hid (r2.out.below hb4)
      clear hb4
      go_wp2_with fail
      refine (dmInts_same P1 P2 0 d1 d2 _ w4 r1.out r2.out).mono ?_
      rintro e w5 ⟨rfl, hb5⟩
      have hz5 := hz4.trans (hb5.mono hz4.size)
      replace qT := Lib.hid (qT.out.below hb5)
      replace r1 := Lib.hid (r1.out.below hb5)
      replace r2 := Lib.hid (r2.out.below hb5)
      clear hb5
      go_wp2
      go_ret
      exact ⟨rfl, hz5⟩
    | some o =>
      simp only [Option.isSome_some, Option.getD_some] at HC1 HC2
      have HC1 := Lib.hid HC1.out
      have HC2 := Lib.hid HC2.out
      have hok := any_ord HO.out
      have holm := any_len HO.out
      rw [hlm] at holm
      have hm4 : m ≤ 4 := by have := (ordB_in hok.1).2.1; omega
      go_wp2_with fail
      refine (HC1.out w1 qT.out).mono ?_
      rintro e w2 ⟨P1, k1, d1, rfl, o2, hb2⟩
      have hz2 := hz1.trans (hb2.mono hz1.size)
      replace qT := Lib.hid (qT.out.below hb2)
      have r1 := Lib.hid o2.rd5
      have l1 : k1 = m := by rw [← o2.2]; exact holm
      subst l1
      clear hb2 o2
      go_wp2_with fail
      refine (HC2.out w2 qT.out).mono ?_
      rintro e w3 ⟨P2, k2, d2, rfl, o3, hb3⟩
      have hz3 := hz2.trans (hb3.mono hz2.size)
      replace qT := Lib.hid (qT.out.below hb3)
      replace r1 := Lib.hid (r1.out.below hb3)
      have r2 := Lib.hid o3
      have l2 : k2 = k1 := by rw [← o3.len]; exact holm
      subst l2
      clear hb3 o3 HC1 HC2
      go_wp2_with fail
      refine (dmInts_same P1 P2 k2 d1 d2 _ w3 r1.out r2.out).mono ?_
      rintro e w4 ⟨rfl, hb4⟩
      have hz4 := hz3.trans (hb4.mono hz3.size)
      replace qT := Lib.hid (qT.out.below hb4)
      replace r1 := Lib.hid (r1.out.below hb4)
      replace r2 := Lib.hid (r2.out.below hb4)
      clear hb4
      have hcd := r1.out.cap
      have hcm := r1.out.max
      unfold maxLen at hcm
      by_cases hk2 : k2 < 2
      · go_wp2_with fail
        refine (dmInts_same P1 P2 k2 d1 d2 _ w4 r1.out r2.out).mono ?_
        rintro e w5 ⟨rfl, hb5⟩
        have hz5 := hz4.trans (hb5.mono hz4.size)
        clear hb5
        go_wp2
        go_ret
        exact ⟨rfl, hz5⟩
      · obtain ⟨p, hp⟩ : ∃ p, k2 = p + 2 := ⟨k2 - 2, by omega⟩
        obtain ⟨ba, off, x, rfl, hx, hlt, c0⟩ := r1.out.intAt (i := p) (by omega)
        obtain ⟨ba', off', y, hA, hy, _, c1⟩ := r1.out.intAt (i := p + 1) (by omega)
        injection hA with hA
        injection hA with hA1 hA2
        subst hA1 hA2
        have p0 : (0 : Int) ≤ (p : Int) := by omega
        have p1 : (p : Int) < (k2 : Int) := by omega
        have p2 : (0 : Int) ≤ (p : Int) + 1 := by omega
        have p3 : (p : Int) + 1 < (k2 : Int) := by omega
        have HK2 := Lib.hid hk2
        have HPk := Lib.hid hp
        have HSW := Lib.hid (swap_cells (m := p) (by omega) hx hy)
        have HAS := Lib.hid (show ¬ x < y → ordB xs (swapO o) = true ∧ okO xs (swapO o) = false from fun h => any_swap (o := o) hlm (by omega) hm4 HO.out (by rw [show k2 - 2 = p by omega, show k2 - 1 = p + 1 by omega, hx, hy]; exact h))
        have hOl := Lib.hid holm
        have HDb := Lib.hid (show ∀ b off, D = some ⟨b, off, none⟩ → 0 < k2 → b < w4.heap.size from fun b off e h0 => by
          obtain ⟨b', off', x', hA, _, hl, _⟩ := qT.out.taskAt h0
          rw [e] at hA; injection hA with hA; injection hA with hA1 hA2
          omega)
        have u1 : (k2 : Int) - 2 = (p : Int) := by omega
        have u2 : (k2 : Int) - 1 = (p : Int) + 1 := by omega
        have u3 : IntKind.i64.wrap (p : Int) = (p : Int) := IntWalk.i64_in _ (by omega)
        have u4 : IntKind.i64.wrap ((p : Int) + 1) = (p : Int) + 1 := IntWalk.i64_in _ (by omega)
        clear hp hx hy hk2 holm hok hlm HO
        by_cases hxy : x < y
        · go_wp2_with fail
          go_quiet (fail)
          go_wp2
          go_ret
          exact ⟨rfl, ⟨hz4.os, hz4.tape, hz4.output, hz4.size, hz4.block⟩⟩
        · obtain ⟨h1, h2⟩ := HAS.out hxy
          have hxy' : y ≤ x := by omega
          have HP := Lib.hid (fun P k dd w h h' => putOrder_impl D P k2 d k dd xs (swapO o) w h h')
          rw [h1, putV_yes h1] at HP
          have HB := Lib.hid (fun A n c w h => holdsBoth_impl A n c (putL xs (swapO o)) w h)
          rw [show bothB (putL xs (swapO o)) = false from h2] at HB
          clear HAS hxy h1 h2
          go_wp2_with fail
          go_quiet (fail)
          clear u3 u4
          have hb5 : Below w4.heap.size w4 (w4.drewN nq) := ⟨rfl, rfl, rfl, Nat.le_refl _, fun _ _ => rfl⟩
          have hz5 := hz4.trans (hb5.mono hz4.size)
          have HD5 := Lib.hid (show ∀ b off, D = some ⟨b, off, none⟩ → 0 < k2 → b < (w4.drewN nq).heap.size from HDb.out)
          have hlt5 : ba < (w4.drewN nq).heap.size := hlt
          replace c0 : (w4.drewN nq).cell? ⟨ba, off + p, none⟩ = some (.int .i64 x) := c0
          replace c1 : (w4.drewN nq).cell? ⟨ba, off + (p + 1), none⟩ = some (.int .i64 y) := c1
          replace qT := Lib.hid (qT.out.below hb5)
          replace r1 := Lib.hid (r1.out.below hb5)
          clear hb5 HDb hlt r2
          generalize w4.drewN nq = w5 at *
          obtain ⟨inf, hif, iz0, iz1, iz2⟩ := info_parts infoIntD
          have N0 := Lib.hid (OwnI.new w5)
          have hbA := (Below.refl w5.heap.size w5).alloc (Nat.le_refl _) (.cells #[] 3)
          have q2 := Lib.hid (rdI_cells (r1.out.alloc (.cells #[] 3)))
          have l2 := Lib.hid (show (o.flatMap icells).length = k2 * 1 by rw [flatMap_len icells_len, hOl.out, Nat.mul_one])
          go_wp2_with (at_builtin; refine wpList_append_own _ rfl (.tmp 66) (.tmp 67) 26 rfl w5.heap.size 3 inf _ 1 8 Try.underlying26 hif iz0 iz1 iz2 rfl (by decide) _ _ _ rfl N0.out.1 ⟨ba, off, none⟩ k2 d1 (o.flatMap icells) rfl l2.out q2.out (icells_all_one _) (by unfold maxLen; omega) (by omega) (by simp) ?_)
          intro v6 w6 hown6 hg6 hn6
          have hg6' : (w5.alloc (.cells #[] 3)).grownBy w6 (some w5.heap.size) := hg6
          have hb6 := hbA.grown hg6' hbA.size (fun k e => by injection e with e; omega)
          have N6 := Lib.hid (show OwnI w5 w6 v6 k2 o from ⟨by simpa using hown6, hOl.out⟩)
          obtain ⟨g, dg, rfl, hgw⟩ := own_someI N6.out (fun e => by first | exact hn6 e | (have h := (hn6.1 e).1; cases h))
          have hz6 := hz5.trans (hb6.mono hz5.size)
          have hwg : w.heap.size ≤ g := Nat.le_trans hz5.size hgw
          have hbg : ba ≠ g := by omega
          replace c0 := (hb6.cell (p := ⟨ba, off + p, none⟩) hlt5).trans c0
          replace c1 := (hb6.cell (p := ⟨ba, off + (p + 1), none⟩) hlt5).trans c1
          have HP8 := Lib.hid (show Hid (p < k2 ∧ p + 1 < k2) from Lib.hid (by omega))
          obtain ⟨v0, s0⟩ := N6.out.at_ (k := p) (by have := HP8.out.out; omega)
          obtain ⟨v1, s1⟩ := (N6.out.set_ p y).at_ (k := p + 1) (by have := HP8.out.out; omega)
          have f0 := N6.out.1.frozenAt p
          have f1 := (N6.out.set_ p y).1.frozenAt (p + 1)
          have c0' : (w6.setCell ⟨g, p, none⟩ (.int .i64 y)).cell? ⟨ba, off + p, none⟩ = some (.int .i64 x) := (World.cell?_setCell_other _ _ _ _ (fun e => hbg (by injection e with e1 _; omega))).trans c0
          have O8 := (N6.out.set_ p y).set_ (p + 1) x
          rw [HSW.out] at O8
          have O8 := Lib.hid O8
          have hz8 := (hz6.setCell (p := ⟨g, p, none⟩) hwg (.int .i64 y)).setCell (p := ⟨g, p + 1, none⟩) hwg (.int .i64 x)
          have q8 := Lib.hid ((qT.out.below hb6).kept (((Kept.refl (fun i => i = g) w6).set_ (p := ⟨g, p, none⟩) rfl (.int .i64 y)).set_ (p := ⟨g, p + 1, none⟩) rfl (.int .i64 x)) (fun b off e h0 hS => by have := HD5.out b off e h0; omega))
          clear hown6 hg6 hg6' hn6 N0 N6 q2 l2 hbA hb6 HSW qT r1
          go_wp2_with fail
          refine (HP.out _ k2 dg _ q8.out O8.out.rd5).mono ?_
          rintro e w9 ⟨X1, n1, e1, rfl, o9, hb9⟩
          have hz9 := hz8.trans (hb9.mono hz8.size)
          have r9 := Lib.hid o9.rdS
          clear o9 hb9 c0 c1 c0' s0 s1 f0 f1
          go_wp2_with fail
          refine (HB.out X1 n1 e1 w9 r9.out).mono ?_
          rintro e w10 ⟨rfl, hb10⟩
          have hz10 := hz9.trans (hb10.mono hz9.size)
          go_wp2
          go_ret
          exact ⟨rfl, hz10⟩
  · go_enter Try.func7, Try.ntmps7
    go_wp2
    go_ret
    exact ⟨rfl, hz0⟩

namespace top_FnAnyFirst
set_option maxRecDepth 100000 in
theorem lifted (os : Os) (started : os.Started) (H : Type) (enc : TypeId × Value → H) :
    ReturnsInHanded {} Try.checked os 7 .any (Rows.fnAnyFirstSpec.pre6 enc Try.prog Try.f7 Rows.fnAnyFirstRow.domain false) (Rows.fnAnyFirstSpec.post enc Try.prog Try.f7 false true false false) := by
  refine returnsInHanded_of_change (C := Try.checked) ownKnob_none started (by kernel_rfl) Try.func7
    (ChangeSpec.witness6 (enc := enc) (C := Try.checked) false ⟨#[], #[.slice none 0 0], []⟩ 8 (by kernel_rfl) (by kernel_rfl) (by kernel_rfl) (by kernel_rfl)) ?_
  intro W base args ds gs before hval0 hW hcnd _
  have hval : ∀ (j : Nat) t v, Try.f7.params[j]? = some t → args[j]? = some v → Value.okWide Try.prog W .any base t v := hval0
  have hW' := hW
  obtain ⟨p, q, hA0, hV, rfl, hfz, hnd⟩ := hW
  have hA : DataW.TrodAll enc Try.prog W 0 (fun _ => true) true Try.f7.params.toList args.toList ds p := hA0
  rw [Try.params7] at hA hval
  obtain ⟨v0, vs0, d0, ds0, p0, q0, hargs, rfl, rfl, h0, r0⟩ := trodAll_cons hA
  obtain ⟨rfl, rfl, rfl⟩ := trodAll_nil r0
  obtain rfl : args = #[v0] := by cases args; simp_all
  obtain ⟨rfl, rfl⟩ := trodVars_none hV
  have k0 := h0
  have lt0 : ∀ x ∈ p0, x.block < W.heap.size := by obtain ⟨m, hm⟩ := k0; exact DataW.trod_lt m _ _ _ hm
  obtain ⟨a0, n0, c0, rfl⟩ := okWide_slice Try.underlying22 (hval 0 22 v0 rfl rfl)
  obtain ⟨x0, w0⟩ : ∃ xs, RdB W a0 n0 c0 xs := by
    obtain ⟨fuel, hf⟩ := h0
    obtain ⟨A, n, c, xs, hcs, hR⟩ := open_bytes hf
    simp [Value.cells] at hcs
    obtain ⟨rfl, rfl, rfl⟩ := hcs
    exact ⟨xs, hR⟩
  clear hA0 hval0
  refine (walk_FnAnyFirst a0 n0 c0 x0 W w0).mono fun e W' ⟨he, bel⟩ => ?_
  subst he
  exact ⟨_, rfl, _, _, _, [], _, [], hW', trodAll_mk1 (shut_bool Try.underlying4 _), (trodAll_cons_mk (Below.trod laidOut (by kernel_rfl) (of_decide_eq_true (by kernel_rfl)) k0 bel lt0) trodAll_mk0), rfl, bel.frame _, fun h => by cases h⟩

theorem over : Rows.fnAnyFirstRow.holds Try.pinned (OpenSpec.ofChange Rows.fnAnyFirstSpec) :=
  OpenClaim.holds_of_wide 7 Try.f7 rfl rfl rfl rfl rfl rfl rfl ⟨rfl, rfl, rfl, rfl, rfl⟩ rfl rfl rfl rfl rfl (by kernel_rfl) Try.func7 (by kernel_rfl)
    (of_decide_eq_true (by kernel_rfl)) (by unfold Func.isWrapper; first | (rw [if_pos (by decide +kernel)]; kernel_rfl) | (rw [if_neg (by decide +kernel)]; exact ⟨rfl, rfl⟩))
    (fun os started H enc _ => lifted os started H enc)
end top_FnAnyFirst

theorem FnAnyFirst_holds : Rows.FnAnyFirstSaid := top_FnAnyFirst.over
#print axioms FnAnyFirst_holds

end Go.Proofs.Ytcgjifklapaeeaa
