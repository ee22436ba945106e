/- Parts are implicit: the law returns true for every input. No condition. -/
import Derived.Test.YtdafioafbgkilaaOpen
import Derived.Test.YtdafioafbgkilaaSVirtualSort
import Derived.Test.YtdafioafbgkilaaCrit
namespace Go.Proofs.Ytdafioafbgkilaa
open Go.ChangeShapes Go.WideShapes Go.ChangeAt Go.RowKit
set_option linter.unusedVariables false

theorem imp_iff {xs : List T} : impB xs = true ↔ xs.length ≤ 5 ∧ ∀ t ∈ xs, tvB t = true ∧ dueB t = true := by
  simp only [impB, svB, Bool.and_eq_true, decide_eq_true_eq, List.all_eq_true]
  exact ⟨fun h => ⟨h.1.1, fun t ht => ⟨h.1.2 t ht, h.2 t ht⟩⟩, fun h => ⟨⟨h.1, fun t ht => (h.2 t ht).1⟩, fun t ht => (h.2 t ht).2⟩⟩
theorem imp_sub {xs ys : List T} (h : impB xs = true) (hs : ys.Sublist xs) : impB ys = true := by
  rw [imp_iff] at h ⊢
  exact ⟨Nat.le_trans hs.length_le h.1, fun t ht => h.2 t (hs.subset ht)⟩
theorem imp_crit {xs : List T} (h : impB xs = true) : impB (critL xs) = true := by
  rw [imp_iff] at h ⊢
  refine ⟨Nat.le_trans (critL_len xs) h.1, fun u hu => ?_⟩
  obtain ⟨t, ht, hc, rfl⟩ := critL_mem hu
  exact ⟨critL_tv (h.2 t ht).1 hc, (h.2 t ht).2⟩

set_option maxRecDepth 100000 in
set_option maxHeartbeats 6400000 in
theorem walk_FnImplicitPart (A : Option Addr) (n c : Nat) (bs : List UInt8) (w : World) (h : RdB w A n c bs) :
    Calls Try.prog 7 #[.slice A n c] w fun e w' => e = .returned (.bool true) ∧ Below w.heap.size w w' := by
  have hz0 := Below.refl w.heap.size w
  have H := Lib.hid h
  have hmx : n ≤ maxLen := Nat.le_trans h.cap h.max
  unfold maxLen at hmx
  clear h
  by_cases hn : n ≤ 1048576
  · go_enter Try.func7, Try.ntmps7
    go_wp2_with fail
    refine (drawImplicit_any A n c bs w H.out).mono ?_
    rintro e w1 ⟨D, m, d, xs, rfl, hm6, ho, hz1⟩
    have qT := Lib.hid ho.rd5
    clear ho
    have hf1 : (false != false) = false := rfl
    have hf2 : (true != true) = false := rfl
    cases hi : impB xs
    · have Hi := Lib.hid hi
      clear hi
      go_wp2_with fail
      refine (implicit_impl D m d xs w1 qT.out).mono ?_
      rw [Hi.out]
      rintro e w2 ⟨rfl, hb2⟩
      have hz2 := hz1.trans (hb2.mono hz1.size)
      replace qT := Lib.hid (qT.out.below hb2)
      clear hb2
      go_wp2_with fail
      refine (implicit_spec D m d xs w2 qT.out).mono ?_
      rw [Hi.out]
      rintro e w3 ⟨rfl, hb3⟩
      have hz3 := hz2.trans (hb3.mono hz2.size)
      replace qT := Lib.hid (qT.out.below hb3)
      clear hb3
      go_wp2_with fail
      refine (implicit_spec D m d xs w3 qT.out).mono ?_
      rw [Hi.out]
      rintro e w4 ⟨rfl, hb4⟩
      have hz4 := hz3.trans (hb4.mono hz3.size)
      clear hb4
      go_wp2
      go_ret
      exact ⟨rfl, hz4⟩
    · have Hi := Lib.hid hi
      have Hs := Lib.hid (imp_sv hi)
      have H1 := Lib.hid (imp_sub hi (List.drop_sublist 1 xs))
      have H2 := Lib.hid (imp_sub hi (List.take_sublist 1 xs))
      have H3 := Lib.hid (fun ys (hp : xs.Perm ys) => (imp_permS hp).trans hi)
      have H4 := Lib.hid (show impB (critV xs) = true by rw [critV_yes (imp_sv hi)]; exact imp_crit hi)
      clear hi
      rcases Nat.eq_zero_or_pos m with hm0 | hm0
      · subst hm0
        go_wp2_with fail
        refine (implicit_impl D 0 d xs w1 qT.out).mono ?_
        rw [Hi.out]
        rintro e w2 ⟨rfl, hb2⟩
        have hz2 := hz1.trans (hb2.mono hz1.size)
        replace qT := Lib.hid (qT.out.below hb2)
        clear hb2
        go_wp2_with fail
        refine (implicit_spec D 0 d xs w2 qT.out).mono ?_
        rw [Hi.out]
        rintro e w3 ⟨rfl, hb3⟩
        have hz3 := hz2.trans (hb3.mono hz2.size)
        replace qT := Lib.hid (qT.out.below hb3)
        clear hb3
        go_wp2_with fail
        refine (implicit_spec D 0 d xs w3 qT.out).mono ?_
        rw [Hi.out]
        rintro e w4 ⟨rfl, hb4⟩
        have hz4 := hz3.trans (hb4.mono hz3.size)
        clear hb4
        go_wp2
        go_ret
        exact ⟨rfl, hz4⟩
      · have hcap := qT.out.cap
        have hmx2 := qT.out.max
        unfold maxLen at hmx2
        obtain ⟨b, off, x, rfl, _⟩ := qT.out.taskAt hm0
        have h1m : (1 : Int) ≤ (m : Int) := by omega
        have h1d : (1 : Int) ≤ (d : Int) := by omega
        have hmd : (m : Int) ≤ (d : Int) := by omega
        have hne : ((m : Int) == 0) = false := by simp; omega
        go_wp2_with fail
        refine (implicit_impl (some ⟨b, off, none⟩) m d xs w1 qT.out).mono ?_
        rw [Hi.out]
        rintro e w2 ⟨rfl, hb2⟩
        have hz2 := hz1.trans (hb2.mono hz1.size)
        replace qT := Lib.hid (qT.out.below hb2)
        clear hb2
        go_wp2_with fail
        refine (implicit_spec (some ⟨b, off, none⟩) m d xs w2 qT.out).mono ?_
        rw [Hi.out]
        rintro e w3 ⟨rfl, hb3⟩
        have hz3 := hz2.trans (hb3.mono hz2.size)
        replace qT := Lib.hid (qT.out.below hb3)
        clear hb3
        have q2 := Lib.hid (qT.out.take (m := 1) (by omega))
        by_cases hd1 : d = 1
        · obtain rfl : m = 1 := by omega
          subst hd1
          have q1 := Lib.hid (show RdT w3 (some ⟨b, off, none⟩) 0 0 (xs.drop 1) from by
            rw [List.drop_eq_nil_of_le (by rw [qT.out.len]; exact Nat.le_refl _)]; exact Rd.nil (by unfold maxLen; omega))
          go_wp2_with fail
          refine (implicit_impl (some ⟨b, off, none⟩) 0 0 (xs.drop 1) w3 q1.out).mono ?_
          rw [H1.out]
          rintro e w4 ⟨rfl, hb4⟩
          have hz4 := hz3.trans (hb4.mono hz3.size)
          replace qT := Lib.hid (qT.out.below hb4)
          replace q2 := Lib.hid (q2.out.below hb4)
          clear hb4
          clear q1
          go_wp2_with fail
          refine (implicit_impl (some ⟨b, off, none⟩) 1 1 (xs.take 1) w4 q2.out).mono ?_
          rw [H2.out]
          rintro e w5 ⟨rfl, hb5⟩
          have hz5 := hz4.trans (hb5.mono hz4.size)
          replace qT := Lib.hid (qT.out.below hb5)
          clear hb5
          clear q2
          go_wp2_with fail
          refine (sortDue_impl _ 1 1 xs w5 qT.out Hs.out).mono ?_
          rintro e w6 ⟨D', d', ys, rfl, o6, hp, hb6⟩
          have hz6 := hz5.trans (hb6.mono hz5.size)
          have Hy := Lib.hid (H3.out ys hp)
          have qY := Lib.hid o6.rdS
          replace qT := Lib.hid (qT.out.below hb6)
          clear hb6 o6 hp
          go_wp2_with fail
          refine (implicit_impl D' 1 d' ys w6 qY.out).mono ?_
          rw [Hy.out]
          rintro e w7 ⟨rfl, hb7⟩
          have hz7 := hz6.trans (hb7.mono hz6.size)
          replace qT := Lib.hid (qT.out.below hb7)
          clear hb7
          clear qY
          go_wp2_with fail
          refine (criticalOf_impl _ 1 1 xs w7 qT.out).mono ?_
          rintro e w8 ⟨D8, k8, d8, rfl, o8, hb8⟩
          have hz8 := hz7.trans (hb8.mono hz7.size)
          clear hb8
          have q8 := Lib.hid o8.rdS
          clear o8
          go_wp2_with fail
          refine (implicit_impl D8 k8 d8 (critV xs) w8 q8.out).mono ?_
          rw [H4.out]
          rintro e w9 ⟨rfl, hb9⟩
          have hz9 := hz8.trans (hb9.mono hz8.size)
          clear hb9
          go_wp2
          go_ret
          exact ⟨rfl, hz9⟩
        · have hd2 : ¬ 1 = d := fun e => hd1 e.symm
          have q1 := Lib.hid (qT.out.dropS (m := 1) hm0)
          go_wp2_with fail
          refine (implicit_impl (some ⟨b, off + 5, none⟩) (m - 1) (d - 1) (xs.drop 1) w3 q1.out).mono ?_
          rw [H1.out]
          rintro e w4 ⟨rfl, hb4⟩
          have hz4 := hz3.trans (hb4.mono hz3.size)
          replace qT := Lib.hid (qT.out.below hb4)
          replace q2 := Lib.hid (q2.out.below hb4)
          clear hb4
          clear q1
          go_wp2_with fail
          refine (implicit_impl (some ⟨b, off, none⟩) 1 d (xs.take 1) w4 q2.out).mono ?_
          rw [H2.out]
          rintro e w5 ⟨rfl, hb5⟩
          have hz5 := hz4.trans (hb5.mono hz4.size)
          replace qT := Lib.hid (qT.out.below hb5)
          clear hb5
          clear q2
          go_wp2_with fail
          refine (sortDue_impl _ m d xs w5 qT.out Hs.out).mono ?_
          rintro e w6 ⟨D', d', ys, rfl, o6, hp, hb6⟩
          have hz6 := hz5.trans (hb6.mono hz5.size)
          have Hy := Lib.hid (H3.out ys hp)
          have qY := Lib.hid o6.rdS
          replace qT := Lib.hid (qT.out.below hb6)
          clear hb6 o6 hp
          go_wp2_with fail
          refine (implicit_impl D' m d' ys w6 qY.out).mono ?_
          rw [Hy.out]
          rintro e w7 ⟨rfl, hb7⟩
          have hz7 := hz6.trans (hb7.mono hz6.size)
          replace qT := Lib.hid (qT.out.below hb7)
          clear hb7
          clear qY
          go_wp2_with fail
          refine (criticalOf_impl _ m d xs w7 qT.out).mono ?_
          rintro e w8 ⟨D8, k8, d8, rfl, o8, hb8⟩
          have hz8 := hz7.trans (hb8.mono hz7.size)
          clear hb8
          have q8 := Lib.hid o8.rdS
          clear o8
          go_wp2_with fail
          refine (implicit_impl D8 k8 d8 (critV xs) w8 q8.out).mono ?_
          rw [H4.out]
          rintro e w9 ⟨rfl, hb9⟩
          have hz9 := hz8.trans (hb9.mono hz8.size)
          clear hb9
          go_wp2
          go_ret
          exact ⟨rfl, hz9⟩
  · go_enter Try.func7, Try.ntmps7
    go_wp2
    go_ret
    exact ⟨rfl, hz0⟩

namespace top_FnImplicitPart
set_option maxRecDepth 100000 in
theorem lifted (os : Os) (started : os.Started) (H : Type) (enc : TypeId × Value → H) :
    ReturnsInHanded {} Try.checked os 7 .any (Rows.fnImplicitPartSpec.pre6 enc Try.prog Try.f7 Rows.fnImplicitPartRow.domain false) (Rows.fnImplicitPartSpec.post enc Try.prog Try.f7 false true false false) := by
  refine returnsInHanded_of_change (C := Try.checked) ownKnob_none started (by kernel_rfl) Try.func7
    (ChangeSpec.witness6 (enc := enc) (C := Try.checked) false ⟨#[], #[.slice none 0 0], []⟩ 8 (by kernel_rfl) (by kernel_rfl) (by kernel_rfl) (by kernel_rfl)) ?_
  intro W base args ds gs before hval0 hW hcnd _
  have hval : ∀ (j : Nat) t v, Try.f7.params[j]? = some t → args[j]? = some v → Value.okWide Try.prog W .any base t v := hval0
  have hW' := hW
  obtain ⟨p, q, hA0, hV, rfl, hfz, hnd⟩ := hW
  have hA : DataW.TrodAll enc Try.prog W 0 (fun _ => true) true Try.f7.params.toList args.toList ds p := hA0
  rw [Try.params7] at hA hval
  obtain ⟨v0, vs0, d0, ds0, p0, q0, hargs, rfl, rfl, h0, r0⟩ := trodAll_cons hA
  obtain ⟨rfl, rfl, rfl⟩ := trodAll_nil r0
  obtain rfl : args = #[v0] := by cases args; simp_all
  obtain ⟨rfl, rfl⟩ := trodVars_none hV
  have k0 := h0
  have lt0 : ∀ x ∈ p0, x.block < W.heap.size := by obtain ⟨m, hm⟩ := k0; exact DataW.trod_lt m _ _ _ hm
  obtain ⟨a0, n0, c0, rfl⟩ := okWide_slice Try.underlying22 (hval 0 22 v0 rfl rfl)
  obtain ⟨x0, w0⟩ : ∃ xs, RdB W a0 n0 c0 xs := by
    obtain ⟨fuel, hf⟩ := h0
    obtain ⟨A, n, c, xs, hcs, hR⟩ := open_bytes hf
    simp [Value.cells] at hcs
    obtain ⟨rfl, rfl, rfl⟩ := hcs
    exact ⟨xs, hR⟩
  clear hA0 hval0
  refine (walk_FnImplicitPart a0 n0 c0 x0 W w0).mono fun e W' ⟨he, bel⟩ => ?_
  subst he
  exact ⟨_, rfl, _, _, _, [], _, [], hW', trodAll_mk1 (shut_bool Try.underlying4 _), (trodAll_cons_mk (Below.trod laidOut (by kernel_rfl) (of_decide_eq_true (by kernel_rfl)) k0 bel lt0) trodAll_mk0), rfl, bel.frame _, fun h => by cases h⟩

theorem over : Rows.fnImplicitPartRow.holds Try.pinned (OpenSpec.ofChange Rows.fnImplicitPartSpec) :=
  OpenClaim.holds_of_wide 7 Try.f7 rfl rfl rfl rfl rfl rfl rfl ⟨rfl, rfl, rfl, rfl, rfl⟩ rfl rfl rfl rfl rfl (by kernel_rfl) Try.func7 (by kernel_rfl)
    (of_decide_eq_true (by kernel_rfl)) (by unfold Func.isWrapper; first | (rw [if_pos (by decide +kernel)]; kernel_rfl) | (rw [if_neg (by decide +kernel)]; exact ⟨rfl, rfl⟩))
    (fun os started H enc _ => lifted os started H enc)
end top_FnImplicitPart

theorem FnImplicitPart_holds : Rows.FnImplicitPartSaid := top_FnImplicitPart.over
#print axioms FnImplicitPart_holds

end Go.Proofs.Ytdafioafbgkilaa
