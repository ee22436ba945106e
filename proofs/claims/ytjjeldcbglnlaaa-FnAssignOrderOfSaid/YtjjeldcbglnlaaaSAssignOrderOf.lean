/- Orders do not hang on the tasks' places: the law returns true for every input. No condition. -/
import Derived.Test.YtjjeldcbglnlaaaOpen
import Derived.Test.YtjjeldcbglnlaaaAsgL
import Derived.Test.YtjjeldcbglnlaaaEqI
import Derived.Test.YtjjeldcbglnlaaaDrawA
namespace Go.Proofs.Ytjjeldcbglnlaaa
open Go.ChangeShapes Go.WideShapes Go.ChangeAt Go.RowKit
set_option linter.unusedVariables false

theorem asg_len_eq {xs ys : List T} (hl : ys.length = xs.length) (h : (asgV ys).isSome = (asgV xs).isSome) : ((asgV ys).getD []).length = ((asgV xs).getD []).length := by
  cases h1 : asgV ys with
  | none =>
    cases h2 : asgV xs with
    | none => rfl
    | some O => rw [h1, h2] at h; cases h
  | some P =>
    cases h2 : asgV xs with
    | none => rw [h1, h2] at h; cases h
    | some O => show P.length = O.length; rw [asg_len h1, asg_len h2, hl]

set_option maxRecDepth 100000 in
set_option maxHeartbeats 6400000 in
theorem walk_FnAssignOrderOf (A : Option Addr) (n c : Nat) (bs : List UInt8) (w : World) (h : RdB w A n c bs) :
    Calls Try.prog 13 #[.slice A n c] w fun e w' => e = .returned (.bool true) ∧ Below w.heap.size w w' := by
  have hz0 := Below.refl w.heap.size w
  have H := Lib.hid h
  have hmx : n ≤ maxLen := Nat.le_trans h.cap h.max
  unfold maxLen at hmx
  clear h
  by_cases hn : n ≤ 1048576
  · go_enter Try.func13, Try.ntmps13
    go_wp2_with fail
    refine (drawAssignOrder_any A n c bs w H.out).mono ?_
    rintro e w1 ⟨D, m, d, xs, rfl, hm6, ho, hz1⟩
    have qT := Lib.hid ho.rdS
    have hcap : m ≤ d := ho.rdS.cap
    have hmax : d ≤ maxLen := ho.rdS.max
    unfold maxLen at hmax
    clear ho
    have HO := Lib.hid (rfl : asgV xs = asgV xs)
    cases hs : svB xs
    · have HS := Lib.hid hs
      obtain ⟨q, hq⟩ : ∃ q, (asgV xs).isSome = q := ⟨_, rfl⟩
      clear hs
      go_wp2_with fail
      refine (assignOrder_impl D m d xs w1 qT.out).mono ?_
      rw [hq]
      rintro e w2 ⟨P1, k1, d1, rfl, o2, hb2⟩
      have hz2 := hz1.trans (hb2.mono hz1.size)
      replace qT := Lib.hid (qT.out.below hb2)
      have r1 := Lib.hid o2.rd5
      have l1 := o2.2
      clear hb2 o2
      go_wp2_with fail
      refine (assignOrder_spec D m d xs w2 qT.out).mono ?_
      rw [hq]
      rintro e w3 ⟨P2, k2, d2, rfl, o3, hb3⟩
      have hz3 := hz2.trans (hb3.mono hz2.size)
      replace qT := Lib.hid (qT.out.below hb3)
      replace r1 := Lib.hid (r1.out.below hb3)
      have r2 := Lib.hid o3.rd5
      have l2 := o3.2
      have l12 : k2 = k1 := l2.symm.trans l1
      subst l12
      clear hb3 o3 l2
      go_wp2_with fail
      refine (dmInts_same P1 P2 k2 d1 d2 _ w3 r1.out r2.out).mono ?_
      rintro e w4 ⟨rfl, hb4⟩
      have hz4 := hz3.trans (hb4.mono hz3.size)
      replace qT := Lib.hid (qT.out.below hb4)
      replace r1 := Lib.hid (r1.out.below hb4)
      replace r2 := Lib.hid (r2.out.below hb4)
      clear hb4
      have hq1 : (q != q) = false := by simp
      have hq2 : (q == q) = true := by simp
      go_wp2_with fail
      refine (setValid_impl D m d xs w4 qT.out).mono ?_
      rw [HS.out]
      rintro e w5 ⟨rfl, hb5⟩
      have hz5 := hz4.trans (hb5.mono hz4.size)
      replace r1 := Lib.hid (r1.out.below hb5)
      replace r2 := Lib.hid (r2.out.below hb5)
      clear hb5
      go_wp2_with fail
      refine (dmInts_same P1 P2 k2 d1 d2 _ w5 r1.out r2.out).mono ?_
      rintro e w6 ⟨rfl, hb6⟩
      have hz6 := hz5.trans (hb6.mono hz5.size)
      clear hb6
      go_wp2
      go_ret
      exact ⟨rfl, hz6⟩
    · have HS := Lib.hid hs
      have hrv := asg_perm (List.reverse_perm xs).symm hs
      have HRL := Lib.hid (asg_len_eq (by simp) hrv)
      obtain ⟨q, hq⟩ : ∃ q, (asgV xs).isSome = q := ⟨_, rfl⟩
      rw [hq] at hrv
      have HR := Lib.hid hrv
      have hq1 : (q != q) = false := by simp
      have hq2 : (q == q) = true := by simp
      clear hs hrv
      go_wp2_with fail
      refine (assignOrder_impl D m d xs w1 qT.out).mono ?_
      rw [hq]
      rintro e w2 ⟨P1, k1, d1, rfl, o2, hb2⟩
      have hz2 := hz1.trans (hb2.mono hz1.size)
      replace qT := Lib.hid (qT.out.below hb2)
      have r1 := Lib.hid o2.rd5
      have l1 := o2.2
      clear hb2 o2
      go_wp2_with fail
      refine (assignOrder_spec D m d xs w2 qT.out).mono ?_
      rw [hq]
      rintro e w3 ⟨P2, k2, d2, rfl, o3, hb3⟩
      have hz3 := hz2.trans (hb3.mono hz2.size)
      replace qT := Lib.hid (qT.out.below hb3)
      replace r1 := Lib.hid (r1.out.below hb3)
      have r2 := Lib.hid o3.rd5
      have l2 := o3.2
      have l12 : k2 = k1 := l2.symm.trans l1
      subst l12
      clear hb3 o3 l2
      go_wp2_with fail
      refine (dmInts_same P1 P2 k2 d1 d2 _ w3 r1.out r2.out).mono ?_
      rintro e w4 ⟨rfl, hb4⟩
      have hz4 := hz3.trans (hb4.mono hz3.size)
      replace qT := Lib.hid (qT.out.below hb4)
      replace r1 := Lib.hid (r1.out.below hb4)
      replace r2 := Lib.hid (r2.out.below hb4)
      clear hb4
      go_wp2_with fail
      refine (setValid_impl D m d xs w4 qT.out).mono ?_
      rw [HS.out]
      rintro e w5 ⟨rfl, hb5⟩
      have hz5 := hz4.trans (hb5.mono hz4.size)
      replace qT := Lib.hid (qT.out.below hb5)
      replace r1 := Lib.hid (r1.out.below hb5)
      clear hb5
      obtain ⟨inf, hif, iz0, iz1, iz2⟩ := info_parts infoTaskD
      clear hq HO
      go_wp2_with fail
      have hz5a := hz5
      have N0 := Lib.hid (OwnT.new w5)
      have hbA := (Below.refl w5.heap.size w5).alloc (Nat.le_refl _) (.cells #[] 38)
      go_loopw [8, 9] (fun v iv wr => ∃ j : Nat, iv = .int .i64 ((j : Int) - 1) ∧ j ≤ m ∧ OwnT w5 wr v (m - j) (xs.drop j).reverse ∧ Below w5.heap.size w5 wr) (fun _ iv _ => (intOf iv + 1).toNat)
      case atStart => exact ⟨m, rfl, Nat.le_refl _, by rw [List.drop_eq_nil_of_le (by rw [qT.out.len]; exact Nat.le_refl _), Nat.sub_self]; exact N0.out, hbA⟩
      case round =>
        obtain ⟨j, rfl, hj, ho, hbS⟩ := hrel
        replace ho := Lib.hid ho
        clear N0 hbA
        have hz5 := hz5a.trans (hbS.mono hz5a.size)
        rcases Nat.eq_zero_or_pos j with hj0 | hj1
        · subst hj0
          obtain ⟨D', d', hv⟩ := ho.out.slice
          subst hv
          have r5 := Lib.hid (show RdT wr D' m d' xs.reverse from by simpa using (Rd.of_own (k := 5) T.cells_len ho.out.1 ho.out.2))
          go_wp2_with fail
          refine (assignOrder_impl D' m d' xs.reverse wr r5.out).mono ?_
          rw [HR.out]
          rintro e w6 ⟨P3, k3, d3, rfl, o6, hb6⟩
          have hz6 := hz5.trans (hb6.mono hz5.size)
          have l3 : k3 = k2 := by rw [← o6.2, ← l1]; exact HRL.out
          subst l3
          clear o6
          go_wp2
          go_ret
          exact ⟨rfl, hz6⟩
        · obtain ⟨j, rfl⟩ : ∃ j', j = j' + 1 := ⟨j - 1, by omega⟩
          have hji : (((j + 1 : Nat) : Int) - 1) = (j : Int) := by omega
          rw [hji]
          obtain ⟨b, off, x, rfl, hx, hb, c0, c1, c2, c3, c4⟩ := (qT.out.below hbS).taskAt (i := j) (by omega)
          have hR := Lib.hid (show (xs.drop j).reverse = (xs.drop (j + 1)).reverse ++ [x] by
            obtain ⟨hjl, hjy⟩ := List.getElem?_eq_some_iff.1 hx
            rw [List.drop_eq_getElem_cons hjl, hjy, List.reverse_cons])
          have o1 := Lib.hid (ho.out.alloc (.cells #[.int .i64 x.low, .int .i64 x.high, .int .i64 x.due, .int .i64 x.every, .bool x.crit] 38))
          have hb1 := hbS.alloc hbS.size (.cells #[.int .i64 x.low, .int .i64 x.high, .int .i64 x.due, .int .i64 x.every, .bool x.crit] 38)
          have cj := Lib.hid (one_news wr x 38)
          have j0 : (0 : Int) ≤ (j : Int) := by omega
          have j1 : (j : Int) < (m : Int) := by omega
          have hmj : m - (j + 1) + 1 = m - j := by omega
          clear hx ho hz5
          go_wp2_with (at_builtin; refine wpList_append_own _ rfl (.tmp 57) (.tmp 62) 25 rfl w5.heap.size 38 inf _ 5 40 Try.underlying25 hif iz0 iz1 iz2 rfl (by decide) _ _ _ rfl o1.out.1 ⟨wr.heap.size, 0, none⟩ 1 1 ([x].flatMap T.cells) rfl rfl cj.out (cells_all_one _) ?c3 ?c4 ?c5 ?_)
          case c3 => unfold maxLen; omega
          case c4 => omega
          case c5 => have := hbS.size; first | omega | (simp; omega)
          intro v' w6 hown6 hg6 _
          have o6 := Lib.hid (show OwnT w5 w6 v' (m - j) (xs.drop j).reverse from ⟨by rw [hR.out, List.flatMap_append]; first | (simpa using hown6) | (rw [hmj] at hown6; simpa using hown6), by rw [List.length_reverse, List.length_drop, qT.out.len]⟩)
          have hb6 := Lib.hid (below_ownC hb1 o1.out.1 hg6)
          clear hown6 hg6 o1 hb1 cj c0 c1 c2 c3 c4
          go_wp2
          go_roundw
          case rel => exact ⟨j, by go_num, by omega, o6.out, hb6.out⟩
          case measure => simp [intOf]
  · go_enter Try.func13, Try.ntmps13
    go_wp2
    go_ret
    exact ⟨rfl, hz0⟩

namespace top_FnAssignOrderOf
set_option maxRecDepth 100000 in
theorem lifted (os : Os) (started : os.Started) (H : Type) (enc : TypeId × Value → H) :
    ReturnsInHanded {} Try.checked os 13 .any (Rows.fnAssignOrderOfSpec.pre6 enc Try.prog Try.f13 Rows.fnAssignOrderOfRow.domain false) (Rows.fnAssignOrderOfSpec.post enc Try.prog Try.f13 false true false false) := by
  refine returnsInHanded_of_change (C := Try.checked) ownKnob_none started (by kernel_rfl) Try.func13
    (ChangeSpec.witness6 (enc := enc) (C := Try.checked) false ⟨#[], #[.slice none 0 0], []⟩ 8 (by kernel_rfl) (by kernel_rfl) (by kernel_rfl) (by kernel_rfl)) ?_
  intro W base args ds gs before hval0 hW hcnd _
  have hval : ∀ (j : Nat) t v, Try.f13.params[j]? = some t → args[j]? = some v → Value.okWide Try.prog W .any base t v := hval0
  have hW' := hW
  obtain ⟨p, q, hA0, hV, rfl, hfz, hnd⟩ := hW
  have hA : DataW.TrodAll enc Try.prog W 0 (fun _ => true) true Try.f13.params.toList args.toList ds p := hA0
  rw [Try.params13] at hA hval
  obtain ⟨v0, vs0, d0, ds0, p0, q0, hargs, rfl, rfl, h0, r0⟩ := trodAll_cons hA
  obtain ⟨rfl, rfl, rfl⟩ := trodAll_nil r0
  obtain rfl : args = #[v0] := by cases args; simp_all
  obtain ⟨rfl, rfl⟩ := trodVars_none hV
  have k0 := h0
  have lt0 : ∀ x ∈ p0, x.block < W.heap.size := by obtain ⟨m, hm⟩ := k0; exact DataW.trod_lt m _ _ _ hm
  obtain ⟨a0, n0, c0, rfl⟩ := okWide_slice Try.underlying29 (hval 0 29 v0 rfl rfl)
  obtain ⟨x0, w0⟩ : ∃ xs, RdB W a0 n0 c0 xs := by
    obtain ⟨fuel, hf⟩ := h0
    obtain ⟨A, n, c, xs, hcs, hR⟩ := open_bytes hf
    simp [Value.cells] at hcs
    obtain ⟨rfl, rfl, rfl⟩ := hcs
    exact ⟨xs, hR⟩
  clear hA0 hval0
  refine (walk_FnAssignOrderOf a0 n0 c0 x0 W w0).mono fun e W' ⟨he, bel⟩ => ?_
  subst he
  exact ⟨_, rfl, _, _, _, [], _, [], hW', trodAll_mk1 (shut_bool Try.underlying4 _), (trodAll_cons_mk (Below.trod laidOut (by kernel_rfl) (of_decide_eq_true (by kernel_rfl)) k0 bel lt0) trodAll_mk0), rfl, bel.frame _, fun h => by cases h⟩

theorem over : Rows.fnAssignOrderOfRow.holds Try.pinned (OpenSpec.ofChange Rows.fnAssignOrderOfSpec) :=
  OpenClaim.holds_of_wide 13 Try.f13 rfl rfl rfl rfl rfl rfl rfl ⟨rfl, rfl, rfl, rfl, rfl⟩ rfl rfl rfl rfl rfl (by kernel_rfl) Try.func13 (by kernel_rfl)
    (of_decide_eq_true (by kernel_rfl)) (by unfold Func.isWrapper; first | (rw [if_pos (by decide +kernel)]; kernel_rfl) | (rw [if_neg (by decide +kernel)]; exact ⟨rfl, rfl⟩))
    (fun os started H enc _ => lifted os started H enc)
end top_FnAssignOrderOf

theorem FnAssignOrderOf_holds : Rows.FnAssignOrderOfSaid := top_FnAssignOrderOf.over
#print axioms FnAssignOrderOf_holds

end Go.Proofs.Ytjjeldcbglnlaaa
