/- Tasks that hold plainly hold if all critical needs are high: the law returns true for every input. No condition. -/
import Derived.Test.YtcdmegiffbhbeaaOpen
import Derived.Test.YtcdmegiffbhbeaaL5S
import Derived.Test.YtcdmegiffbhbeaaDraw5
namespace Go.Proofs.Ytcdmegiffbhbeaa
open Go.ChangeShapes Go.WideShapes Go.ChangeAt Go.RowKit
set_option linter.unusedVariables false

theorem critL_due {xs : List T} (h : xs.all dueB = true) : (critL xs).all dueB = true := by
  rw [List.all_eq_true] at h ⊢
  intro u hu
  obtain ⟨t, ht, hc, rfl⟩ := critL_mem hu
  have := h t ht
  simpa [dueB] using this
theorem critL_imp {xs : List T} (h : impB xs = true) : impB (critL xs) = true := by
  simp only [impB, Bool.and_eq_true] at h ⊢
  exact ⟨critL_sv h.1, critL_due h.2⟩
theorem critL_noncrit (f : T → Int) (xs : List T) : sc false f (critL xs) = 0 := by
  induction xs with
  | nil => rfl
  | cons t ts ih =>
    cases hc : t.crit
    · have : critL (t :: ts) = critL ts := by simp [critL, hc]
      rw [this, ih]
    · have : critL (t :: ts) = { t with low := t.high } :: critL ts := by simp [critL, hc]
      rw [this, sc_cons, ih]
      simp [sc1, hc]
theorem critL_high (xs : List T) : sc true T.high (critL xs) = sc true T.high xs := by
  induction xs with
  | nil => rfl
  | cons t ts ih =>
    rw [sc_cons]
    cases hc : t.crit
    · have : critL (t :: ts) = critL ts := by simp [critL, hc]
      rw [this, ih]
      simp [sc1, hc]
    · have : critL (t :: ts) = { t with low := t.high } :: critL ts := by simp [critL, hc]
      rw [this, sc_cons, ih]
      rfl
theorem critL_plain {xs : List T} (h : plainB xs = true) : plainB (critL xs) = true := by
  have hi := plain_imp h
  simp only [plainB, Bool.and_eq_true, decide_eq_true_eq] at h ⊢
  refine ⟨critL_imp hi, ?_⟩
  have hn := low_nonneg (imp_sv hi)
  have e1 : loA (critL xs) = 0 := critL_noncrit _ _
  have e2 : hiH (critL xs) = hiH xs := critL_high _
  rw [e1, e2]
  omega

set_option maxRecDepth 100000 in
set_option maxHeartbeats 6400000 in
theorem walk_FnHoldsPlain (A : Option Addr) (n c : Nat) (bs : List UInt8) (w : World) (h : RdB w A n c bs) :
    Calls Try.prog 13 #[.slice A n c] w fun e w' => e = .returned (.bool true) ∧ Below w.heap.size w w' := by
  have hz0 := Below.refl w.heap.size w
  have H := Lib.hid h
  have hmx : n ≤ maxLen := Nat.le_trans h.cap h.max
  unfold maxLen at hmx
  clear h
  by_cases hn : n ≤ 1048576
  · go_enter Try.func13, Try.ntmps13
    go_wp2_with fail
    refine (drawHoldsPlain_any A n c bs w H.out).mono ?_
    rintro e w1 ⟨D, m, d, xs, rfl, hm6, ho, hz1⟩
    have qT := Lib.hid ho.rd5
    clear ho
    go_wp2_with fail
    refine (holdsPlain_impl D m d xs w1 qT.out).mono ?_
    rintro e w2 ⟨rfl, hb2⟩
    have hz2 := hz1.trans (hb2.mono hz1.size)
    replace qT := Lib.hid (qT.out.below hb2)
    clear hb2
    have hee : (plainB xs != plainB xs) = false := by simp
    have hee2 : (plainB xs == plainB xs) = true := by simp
    go_wp2_with fail
    refine (holdsPlain_spec D m d xs w2 qT.out).mono ?_
    rintro e w3 ⟨rfl, hb3⟩
    have hz3 := hz2.trans (hb3.mono hz2.size)
    replace qT := Lib.hid (qT.out.below hb3)
    clear hb3
    cases hp : plainB xs
    · have Hp := Lib.hid hp
      clear hp hee hee2
      go_wp2_with fail
      refine (holdsPlain_spec D m d xs w3 qT.out).mono ?_
      rw [Hp.out]
      rintro e w4 ⟨rfl, hb4⟩
      have hz4 := hz3.trans (hb4.mono hz3.size)
      clear hb4
      go_wp2
      go_ret
      exact ⟨rfl, hz4⟩
    · have Hi := Lib.hid (plain_imp hp)
      have hcv := critV_yes (imp_sv (plain_imp hp))
      have HP := Lib.hid (show plainB (critV xs) = true by rw [hcv]; exact critL_plain hp)
      have HV := Lib.hid (virtB_2 (plain_fact HP.out) HP.out)
      clear hp hee hee2 hcv
      go_wp2_with fail
      refine (criticalOf_impl D m d xs w3 qT.out).mono ?_
      rintro e w4 ⟨D2, k2, d2, rfl, o4, hb4⟩
      have hz4 := hz3.trans (hb4.mono hz3.size)
      replace qT := Lib.hid (qT.out.below hb4)
      clear hb4
      have qC := Lib.hid o4.rd5
      clear o4
      go_wp2_with fail
      refine (holdsPlain_impl D2 k2 d2 (critV xs) w4 qC.out).mono ?_
      rw [HP.out]
      rintro e w5 ⟨rfl, hb5⟩
      have hz5 := hz4.trans (hb5.mono hz4.size)
      replace qT := Lib.hid (qT.out.below hb5)
      replace qC := Lib.hid (qC.out.below hb5)
      clear hb5
      go_wp2_with fail
      refine (implicit_impl D m d xs w5 qT.out).mono ?_
      rw [Hi.out]
      rintro e w6 ⟨rfl, hb6⟩
      have hz6 := hz5.trans (hb6.mono hz5.size)
      replace qC := Lib.hid (qC.out.below hb6)
      clear hb6
      go_wp2_with fail
      refine (holdsVirtual_impl D2 k2 d2 (critV xs) w6 qC.out).mono ?_
      rw [HV.out]
      rintro e w7 ⟨rfl, hb7⟩
      have hz7 := hz6.trans (hb7.mono hz6.size)
      clear hb7
      go_wp2
      go_ret
      exact ⟨rfl, hz7⟩
  · go_enter Try.func13, Try.ntmps13
    go_wp2
    go_ret
    exact ⟨rfl, hz0⟩

namespace top_FnHoldsPlain
set_option maxRecDepth 100000 in
theorem lifted (os : Os) (started : os.Started) (H : Type) (enc : TypeId × Value → H) :
    ReturnsInHanded {} Try.checked os 13 .any (Rows.fnHoldsPlainSpec.pre6 enc Try.prog Try.f13 Rows.fnHoldsPlainRow.domain false) (Rows.fnHoldsPlainSpec.post enc Try.prog Try.f13 false true false false) := by
  refine returnsInHanded_of_change (C := Try.checked) ownKnob_none started (by kernel_rfl) Try.func13
    (ChangeSpec.witness6 (enc := enc) (C := Try.checked) false ⟨#[], #[.slice none 0 0], []⟩ 8 (by kernel_rfl) (by kernel_rfl) (by kernel_rfl) (by kernel_rfl)) ?_
  intro W base args ds gs before hval0 hW hcnd _
  have hval : ∀ (j : Nat) t v, Try.f13.params[j]? = some t → args[j]? = some v → Value.okWide Try.prog W .any base t v := hval0
  have hW' := hW
  obtain ⟨p, q, hA0, hV, rfl, hfz, hnd⟩ := hW
  have hA : DataW.TrodAll enc Try.prog W 0 (fun _ => true) true Try.f13.params.toList args.toList ds p := hA0
  rw [Try.params13] at hA hval
  obtain ⟨v0, vs0, d0, ds0, p0, q0, hargs, rfl, rfl, h0, r0⟩ := trodAll_cons hA
  obtain ⟨rfl, rfl, rfl⟩ := trodAll_nil r0
  obtain rfl : args = #[v0] := by cases args; simp_all
  obtain ⟨rfl, rfl⟩ := trodVars_none hV
  have k0 := h0
  have lt0 : ∀ x ∈ p0, x.block < W.heap.size := by obtain ⟨m, hm⟩ := k0; exact DataW.trod_lt m _ _ _ hm
  obtain ⟨a0, n0, c0, rfl⟩ := okWide_slice Try.underlying22 (hval 0 22 v0 rfl rfl)
  obtain ⟨x0, w0⟩ : ∃ xs, RdB W a0 n0 c0 xs := by
    obtain ⟨fuel, hf⟩ := h0
    obtain ⟨A, n, c, xs, hcs, hR⟩ := open_bytes hf
    simp [Value.cells] at hcs
    obtain ⟨rfl, rfl, rfl⟩ := hcs
    exact ⟨xs, hR⟩
  clear hA0 hval0
  refine (walk_FnHoldsPlain a0 n0 c0 x0 W w0).mono fun e W' ⟨he, bel⟩ => ?_
  subst he
  exact ⟨_, rfl, _, _, _, [], _, [], hW', trodAll_mk1 (shut_bool Try.underlying4 _), (trodAll_cons_mk (Below.trod laidOut (by kernel_rfl) (of_decide_eq_true (by kernel_rfl)) k0 bel lt0) trodAll_mk0), rfl, bel.frame _, fun h => by cases h⟩

theorem over : Rows.fnHoldsPlainRow.holds Try.pinned (OpenSpec.ofChange Rows.fnHoldsPlainSpec) :=
  OpenClaim.holds_of_wide 13 Try.f13 rfl rfl rfl rfl rfl rfl rfl ⟨rfl, rfl, rfl, rfl, rfl⟩ rfl rfl rfl rfl rfl (by kernel_rfl) Try.func13 (by kernel_rfl)
    (of_decide_eq_true (by kernel_rfl)) (by unfold Func.isWrapper; first | (rw [if_pos (by decide +kernel)]; kernel_rfl) | (rw [if_neg (by decide +kernel)]; exact ⟨rfl, rfl⟩))
    (fun os started H enc _ => lifted os started H enc)
end top_FnHoldsPlain

theorem FnHoldsPlain_holds : Rows.FnHoldsPlainSaid := top_FnHoldsPlain.over
#print axioms FnHoldsPlain_holds

end Go.Proofs.Ytcdmegiffbhbeaa
