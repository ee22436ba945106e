/- Whether one can be last is not a matter of the others' order: the law returns true for every input. No condition. -/
import Derived.Test.YtjjeldcbglnlaaaOpen
import Derived.Test.YtjjeldcbglnlaaaRespS
import Derived.Test.YtjjeldcbglnlaaaDraw3
import Derived.Test.YtjjeldcbglnlaaaLow5
import Derived.Test.YtjjeldcbglnlaaaCan
namespace Go.Proofs.Ytjjeldcbglnlaaa
open Go.ChangeShapes Go.WideShapes Go.ChangeAt Go.RowKit
set_option linter.unusedVariables false

theorem cons_erase_perm {xs : List T} {k : Nat} {x : T} (hx : xs[k]? = some x) : xs.Perm (x :: xs.eraseIdx k) := by
  have hk : k < xs.length := (List.getElem?_eq_some_iff.1 hx).1
  have he : xs[k] = x := (List.getElem?_eq_some_iff.1 hx).2
  have h1 : xs = xs.take k ++ x :: xs.drop (k + 1) := by rw [← he]; simp
  rw [erase_eq]
  exact (List.Perm.of_eq h1).trans List.perm_middle
theorem last_rev {xs : List T} {m k : Nat} (hs : svB xs = true) (hl : xs.length = m) (hk : k < m) : lastB xs.reverse ((m : Int) - 1 - (k : Int)) = lastB xs (k : Int) := by
  have hx : xs[k]? = some (atT xs k) := atT_get (by omega)
  generalize atT xs k = x at *
  have e : (m : Int) - 1 - (k : Int) = ((m - 1 - k : Nat) : Int) := by omega
  have hsr : svB xs.reverse = true := sv_perm (List.reverse_perm xs).symm hs
  have hxr : xs.reverse[m - 1 - k]? = some x := by
    rw [List.getElem?_reverse (by omega), hl, ← hx]; congr 1; omega
  rw [e, lastB_yes (plB_nat hsr (by rw [List.length_reverse]; omega)) hxr, lastB_yes (plB_nat hs (by omega)) hx]
  refine endB_perm x ?_
  exact ((cons_erase_perm hxr).symm.trans ((List.reverse_perm xs).trans (cons_erase_perm hx))).cons_inv

set_option maxRecDepth 100000 in
set_option maxHeartbeats 6400000 in
theorem walk_FnCanBeLast (A : Option Addr) (n c : Nat) (bs : List UInt8) (w : World) (h : RdB w A n c bs) :
    Calls Try.prog 5 #[.slice A n c] w fun e w' => e = .returned (.bool true) ∧ Below w.heap.size w w' := by
  have hz0 := Below.refl w.heap.size w
  have H := Lib.hid h
  have hmx : n ≤ maxLen := Nat.le_trans h.cap h.max
  unfold maxLen at hmx
  clear h
  by_cases hn : n ≤ 1048576
  · go_enter Try.func5, Try.ntmps5
    go_wp2_with fail
    refine (drawCanBeLast_any A n c bs w H.out).mono ?_
    rintro e w1 ⟨D, m, d, xs, i, rfl, hm6, ho, hz1⟩
    have qT := Lib.hid ho.rdS
    have hcap : m ≤ d := ho.rdS.cap
    have hmax : d ≤ maxLen := ho.rdS.max
    unfold maxLen at hmax
    clear ho
    cases hp : plB xs i
    · have E1 := Lib.hid (lastB_no hp)
      cases hs : svB xs
      · have E0 := Lib.hid hs
        clear hs hp
        go_wp2_with fail
        refine (canBeLast_impl D m d xs i w1 qT.out).mono ?_
        rw [E1.out]
        rintro e w2 ⟨rfl, hb2⟩
        have hz2 := hz1.trans (hb2.mono hz1.size)
        replace qT := Lib.hid (qT.out.below hb2)
        clear hb2
        go_wp2_with fail
        refine (canBeLast_spec D m d xs i w2 qT.out).mono ?_
        rw [E1.out]
        rintro e w3 ⟨rfl, hb3⟩
        have hz3 := hz2.trans (hb3.mono hz2.size)
        replace qT := Lib.hid (qT.out.below hb3)
        clear hb3
        go_wp2_with fail
        refine (setValid_impl D m d xs w3 qT.out).mono ?_
        rw [E0.out]
        rintro e w4 ⟨rfl, hb4⟩
        have hz4 := hz3.trans (hb4.mono hz3.size)
        replace qT := Lib.hid (qT.out.below hb4)
        clear hb4
        go_wp2_with fail
        refine (canBeLast_spec D m d xs i w4 qT.out).mono ?_
        rw [E1.out]
        rintro e w5 ⟨rfl, hb5⟩
        have hz5 := hz4.trans (hb5.mono hz4.size)
        clear hb5
        go_wp2
        go_ret
        exact ⟨rfl, hz5⟩
      · have E0 := Lib.hid hs
        have hout : i < 0 ∨ (m : Int) ≤ i := by
          rcases Int.lt_or_le i 0 with h | h
          · exact Or.inl h
          · refine Or.inr ?_
            rcases Int.lt_or_le i (m : Int) with h' | h'
            · rw [(plB_iff xs i).2 ⟨hs, h, by rw [qT.out.len]; exact h'⟩] at hp; cases hp
            · exact h'
        clear hs hp
        rcases hout with hi | hi
        · go_wp2_with fail
          refine (canBeLast_impl D m d xs i w1 qT.out).mono ?_
          rw [E1.out]
          rintro e w2 ⟨rfl, hb2⟩
          have hz2 := hz1.trans (hb2.mono hz1.size)
          replace qT := Lib.hid (qT.out.below hb2)
          clear hb2
          go_wp2_with fail
          refine (canBeLast_spec D m d xs i w2 qT.out).mono ?_
          rw [E1.out]
          rintro e w3 ⟨rfl, hb3⟩
          have hz3 := hz2.trans (hb3.mono hz2.size)
          replace qT := Lib.hid (qT.out.below hb3)
          clear hb3
          go_wp2_with fail
          refine (setValid_impl D m d xs w3 qT.out).mono ?_
          rw [E0.out]
          rintro e w4 ⟨rfl, hb4⟩
          have hz4 := hz3.trans (hb4.mono hz3.size)
          replace qT := Lib.hid (qT.out.below hb4)
          clear hb4
          go_wp2_with fail
          refine (canBeLast_spec D m d xs i w4 qT.out).mono ?_
          rw [E1.out]
          rintro e w5 ⟨rfl, hb5⟩
          have hz5 := hz4.trans (hb5.mono hz4.size)
          clear hb5
          go_wp2
          go_ret
          exact ⟨rfl, hz5⟩
        · have hi0 : (0 : Int) ≤ i := by omega
          go_wp2_with fail
          refine (canBeLast_impl D m d xs i w1 qT.out).mono ?_
          rw [E1.out]
          rintro e w2 ⟨rfl, hb2⟩
          have hz2 := hz1.trans (hb2.mono hz1.size)
          replace qT := Lib.hid (qT.out.below hb2)
          clear hb2
          go_wp2_with fail
          refine (canBeLast_spec D m d xs i w2 qT.out).mono ?_
          rw [E1.out]
          rintro e w3 ⟨rfl, hb3⟩
          have hz3 := hz2.trans (hb3.mono hz2.size)
          replace qT := Lib.hid (qT.out.below hb3)
          clear hb3
          go_wp2_with fail
          refine (setValid_impl D m d xs w3 qT.out).mono ?_
          rw [E0.out]
          rintro e w4 ⟨rfl, hb4⟩
          have hz4 := hz3.trans (hb4.mono hz3.size)
          replace qT := Lib.hid (qT.out.below hb4)
          clear hb4
          go_wp2_with fail
          refine (canBeLast_spec D m d xs i w4 qT.out).mono ?_
          rw [E1.out]
          rintro e w5 ⟨rfl, hb5⟩
          have hz5 := hz4.trans (hb5.mono hz4.size)
          clear hb5
          go_wp2
          go_ret
          exact ⟨rfl, hz5⟩
    · obtain ⟨hs, k, rfl, hk⟩ := plB_at qT.out.len hp
      have E2 := last_rev hs qT.out.len hk
      have E0 := Lib.hid hs
      have HC := Lib.hid (fun D' d' w' hw' => canBeLast_impl D' m d' xs.reverse ((m : Int) - 1 - (k : Int)) w' hw')
      rw [E2] at HC
      obtain ⟨q, hq⟩ : ∃ q, lastB xs (k : Int) = q := ⟨_, rfl⟩
      have E1 := Lib.hid hq
      rw [hq] at HC
      have hq1 : (q != q) = false := by simp
      have hq2 : (q == q) = true := by simp
      have i0 : (0 : Int) ≤ (k : Int) := by omega
      have i1 : (k : Int) < (m : Int) := by omega
      obtain ⟨inf, hif, iz0, iz1, iz2⟩ := info_parts infoTaskD
      have d1 : decide ((k : Int) < 0) = false := by simp
      have d2 : decide ((m : Int) ≤ (k : Int)) = false := by simp; omega
      have d3 : decide (m ≤ k) = false := by simp; omega
      clear hs hp hq E2
      go_wp2_with fail
      refine (canBeLast_impl D m d xs k w1 qT.out).mono ?_
      rw [E1.out]
      rintro e w2 ⟨rfl, hb2⟩
      have hz2 := hz1.trans (hb2.mono hz1.size)
      replace qT := Lib.hid (qT.out.below hb2)
      clear hb2
      go_wp2_with fail
      refine (canBeLast_spec D m d xs k w2 qT.out).mono ?_
      rw [E1.out]
      rintro e w3 ⟨rfl, hb3⟩
      have hz3 := hz2.trans (hb3.mono hz2.size)
      replace qT := Lib.hid (qT.out.below hb3)
      clear hb3
      go_wp2_with fail
      refine (setValid_impl D m d xs w3 qT.out).mono ?_
      rw [E0.out]
      rintro e w4 ⟨rfl, hb4⟩
      have hz4 := hz3.trans (hb4.mono hz3.size)
      replace qT := Lib.hid (qT.out.below hb4)
      clear hb4
      go_wp2_with fail
      have N0 := Lib.hid (OwnT.new w4)
      have hbA := (Below.refl w4.heap.size w4).alloc (Nat.le_refl _) (.cells #[] 38)
      go_loopw [6, 7] (fun v iv wr => ∃ j : Nat, iv = .int .i64 ((j : Int) - 1) ∧ j ≤ m ∧ OwnT w4 wr v (m - j) (xs.drop j).reverse ∧ Below w4.heap.size w4 wr) (fun _ iv _ => (intOf iv + 1).toNat)
      case atStart => exact ⟨m, rfl, Nat.le_refl _, by rw [List.drop_eq_nil_of_le (by rw [qT.out.len]; exact Nat.le_refl _), Nat.sub_self]; exact N0.out, hbA⟩
      case round =>
        obtain ⟨j, rfl, hj, ho, hb4⟩ := hrel
        replace ho := Lib.hid ho
        clear N0 hbA
        have hz5 := hz4.trans (hb4.mono hz4.size)
        rcases Nat.eq_zero_or_pos j with hj0 | hj1
        · subst hj0
          obtain ⟨D', d', hv⟩ := ho.out.slice
          subst hv
          have r5 := Lib.hid (show RdT wr D' m d' xs.reverse from by simpa using (Rd.of_own (k := 5) T.cells_len ho.out.1 ho.out.2))
          go_wp2_with fail
          refine (HC.out D' d' wr r5.out).mono ?_
          rintro e w6 ⟨rfl, hb6⟩
          have hz6 := hz5.trans (hb6.mono hz5.size)
          go_wp2
          go_ret
          exact ⟨rfl, hz6⟩
        · obtain ⟨j, rfl⟩ : ∃ j', j = j' + 1 := ⟨j - 1, by omega⟩
          have hji : (((j + 1 : Nat) : Int) - 1) = (j : Int) := by omega
          rw [hji]
          obtain ⟨b, off, x, rfl, hx, hb, c0, c1, c2, c3, c4⟩ := (qT.out.below hb4).taskAt (i := j) (by omega)
          have hR := Lib.hid (show (xs.drop j).reverse = (xs.drop (j + 1)).reverse ++ [x] by
            obtain ⟨hjl, hjy⟩ := List.getElem?_eq_some_iff.1 hx
            rw [List.drop_eq_getElem_cons hjl, hjy, List.reverse_cons])
          have o1 := Lib.hid (ho.out.alloc (.cells #[.int .i64 x.low, .int .i64 x.high, .int .i64 x.due, .int .i64 x.every, .bool x.crit] 38))
          have hb1 := hb4.alloc hb4.size (.cells #[.int .i64 x.low, .int .i64 x.high, .int .i64 x.due, .int .i64 x.every, .bool x.crit] 38)
          have cj := Lib.hid (one_news wr x 38)
          have j0 : (0 : Int) ≤ (j : Int) := by omega
          have j1 : (j : Int) < (m : Int) := by omega
          have hmj : m - (j + 1) + 1 = m - j := by omega
          clear hx ho hz5
          go_wp2_with (at_builtin; refine wpList_append_own _ rfl (.tmp 56) (.tmp 61) 25 rfl w4.heap.size 38 inf _ 5 40 Try.underlying25 hif iz0 iz1 iz2 rfl (by decide) _ _ _ rfl o1.out.1 ⟨wr.heap.size, 0, none⟩ 1 1 ([x].flatMap T.cells) rfl rfl cj.out (cells_all_one _) ?c3 ?c4 ?c5 ?_)
          case c3 => unfold maxLen; omega
          case c4 => omega
          case c5 => have := hb4.size; first | omega | (simp; omega)
          intro v' w6 hown6 hg6 _
          have o6 := Lib.hid (show OwnT w4 w6 v' (m - j) (xs.drop j).reverse from ⟨by rw [hR.out, List.flatMap_append]; first | (simpa using hown6) | (rw [hmj] at hown6; simpa using hown6), by rw [List.length_reverse, List.length_drop, qT.out.len]⟩)
          have hb6 := Lib.hid (below_ownC hb1 o1.out.1 hg6)
          clear hown6 hg6 o1 hb1 cj c0 c1 c2 c3 c4
          go_wp2
          go_roundw
          case rel => exact ⟨j, by go_num, by omega, o6.out, hb6.out⟩
          case measure => simp [intOf]
  · go_enter Try.func5, Try.ntmps5
    go_wp2
    go_ret
    exact ⟨rfl, hz0⟩

namespace top_FnCanBeLast
set_option maxRecDepth 100000 in
theorem lifted (os : Os) (started : os.Started) (H : Type) (enc : TypeId × Value → H) :
    ReturnsInHanded {} Try.checked os 5 .any (Rows.fnCanBeLastSpec.pre6 enc Try.prog Try.f5 Rows.fnCanBeLastRow.domain false) (Rows.fnCanBeLastSpec.post enc Try.prog Try.f5 false true false false) := by
  refine returnsInHanded_of_change (C := Try.checked) ownKnob_none started (by kernel_rfl) Try.func5
    (ChangeSpec.witness6 (enc := enc) (C := Try.checked) false ⟨#[], #[.slice none 0 0], []⟩ 8 (by kernel_rfl) (by kernel_rfl) (by kernel_rfl) (by kernel_rfl)) ?_
  intro W base args ds gs before hval0 hW hcnd _
  have hval : ∀ (j : Nat) t v, Try.f5.params[j]? = some t → args[j]? = some v → Value.okWide Try.prog W .any base t v := hval0
  have hW' := hW
  obtain ⟨p, q, hA0, hV, rfl, hfz, hnd⟩ := hW
  have hA : DataW.TrodAll enc Try.prog W 0 (fun _ => true) true Try.f5.params.toList args.toList ds p := hA0
  rw [Try.params5] at hA hval
  obtain ⟨v0, vs0, d0, ds0, p0, q0, hargs, rfl, rfl, h0, r0⟩ := trodAll_cons hA
  obtain ⟨rfl, rfl, rfl⟩ := trodAll_nil r0
  obtain rfl : args = #[v0] := by cases args; simp_all
  obtain ⟨rfl, rfl⟩ := trodVars_none hV
  have k0 := h0
  have lt0 : ∀ x ∈ p0, x.block < W.heap.size := by obtain ⟨m, hm⟩ := k0; exact DataW.trod_lt m _ _ _ hm
  obtain ⟨a0, n0, c0, rfl⟩ := okWide_slice Try.underlying29 (hval 0 29 v0 rfl rfl)
  obtain ⟨x0, w0⟩ : ∃ xs, RdB W a0 n0 c0 xs := by
    obtain ⟨fuel, hf⟩ := h0
    obtain ⟨A, n, c, xs, hcs, hR⟩ := open_bytes hf
    simp [Value.cells] at hcs
    obtain ⟨rfl, rfl, rfl⟩ := hcs
    exact ⟨xs, hR⟩
  clear hA0 hval0
  refine (walk_FnCanBeLast a0 n0 c0 x0 W w0).mono fun e W' ⟨he, bel⟩ => ?_
  subst he
  exact ⟨_, rfl, _, _, _, [], _, [], hW', trodAll_mk1 (shut_bool Try.underlying4 _), (trodAll_cons_mk (Below.trod laidOut (by kernel_rfl) (of_decide_eq_true (by kernel_rfl)) k0 bel lt0) trodAll_mk0), rfl, bel.frame _, fun h => by cases h⟩

theorem over : Rows.fnCanBeLastRow.holds Try.pinned (OpenSpec.ofChange Rows.fnCanBeLastSpec) :=
  OpenClaim.holds_of_wide 5 Try.f5 rfl rfl rfl rfl rfl rfl rfl ⟨rfl, rfl, rfl, rfl, rfl⟩ rfl rfl rfl rfl rfl (by kernel_rfl) Try.func5 (by kernel_rfl)
    (of_decide_eq_true (by kernel_rfl)) (by unfold Func.isWrapper; first | (rw [if_pos (by decide +kernel)]; kernel_rfl) | (rw [if_neg (by decide +kernel)]; exact ⟨rfl, rfl⟩))
    (fun os started H enc _ => lifted os started H enc)
end top_FnCanBeLast

theorem FnCanBeLast_holds : Rows.FnCanBeLastSaid := top_FnCanBeLast.over
#print axioms FnCanBeLast_holds

end Go.Proofs.Ytjjeldcbglnlaaa
