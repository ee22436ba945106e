/- Who can be last has a response with low needs: the law returns true for every input. No condition. -/
import Derived.Test.YtjjeldcbglnlaaaOpen
import Derived.Test.YtjjeldcbglnlaaaRespS
import Derived.Test.YtjjeldcbglnlaaaDraw3
import Derived.Test.YtjjeldcbglnlaaaLow5
import Derived.Test.YtjjeldcbglnlaaaCan
namespace Go.Proofs.Ytjjeldcbglnlaaa
open Go.ChangeShapes Go.WideShapes Go.ChangeAt Go.RowKit
set_option linter.unusedVariables false

theorem move_low {xs : List T} {m k : Nat} {x : T} {r : Int} (hs : svB xs = true) (hl : xs.length = m) (hx : xs[k]? = some x) (hr : rlo (xs.eraseIdx k) x = some r) : rlV (moveL xs k x) ((m : Int) - 1) = some r := by
  have hk : k < xs.length := (List.getElem?_eq_some_iff.1 hx).1
  have hle : (xs.eraseIdx k).length = m - 1 := by rw [List.length_eraseIdx_of_lt hk, hl]
  have e : (m : Int) - 1 = ((m - 1 : Nat) : Int) := by omega
  have h1 : (moveL xs k x)[m - 1]? = some x := by
    unfold moveL
    rw [List.getElem?_append_right (by omega), hle, Nat.sub_self]; rfl
  rw [e, rlV_yes (plB_nat (moveL_sv hs hx) (by rw [moveL_len hx]; omega)) h1]
  rw [show (moveL xs k x).take (m - 1) = xs.eraseIdx k by
    unfold moveL
    rw [List.take_append_of_le_length (by omega), List.take_of_length_le (by omega)]]
  exact hr

set_option maxRecDepth 100000 in
set_option maxHeartbeats 6400000 in
theorem walk_FnCanLow (A : Option Addr) (n c : Nat) (bs : List UInt8) (w : World) (h : RdB w A n c bs) :
    Calls Try.prog 6 #[.slice A n c] w fun e w' => e = .returned (.bool true) ∧ Below w.heap.size w w' := by
  have hz0 := Below.refl w.heap.size w
  have H := Lib.hid h
  have hmx : n ≤ maxLen := Nat.le_trans h.cap h.max
  unfold maxLen at hmx
  clear h
  by_cases hn : n ≤ 1048576
  · go_enter Try.func6, Try.ntmps6
    go_wp2_with fail
    refine (drawCanBeLast_any A n c bs w H.out).mono ?_
    rintro e w1 ⟨D, m, d, xs, i, rfl, hm6, ho, hz1⟩
    have qT := Lib.hid ho.rdS
    have hcap : m ≤ d := ho.rdS.cap
    have hmax : d ≤ maxLen := ho.rdS.max
    unfold maxLen at hmax
    clear ho
    cases hc : lastB xs i
    · have E1 := Lib.hid hc
      clear hc
      go_wp2_with fail
      refine (canBeLast_impl D m d xs i w1 qT.out).mono ?_
      rw [E1.out]
      rintro e w2 ⟨rfl, hb2⟩
      have hz2 := hz1.trans (hb2.mono hz1.size)
      replace qT := Lib.hid (qT.out.below hb2)
      clear hb2
      go_wp2_with fail
      refine (canBeLast_spec D m d xs i w2 qT.out).mono ?_
      rw [E1.out]
      rintro e w3 ⟨rfl, hb3⟩
      have hz3 := hz2.trans (hb3.mono hz2.size)
      replace qT := Lib.hid (qT.out.below hb3)
      clear hb3
      go_wp2_with fail
      refine (canBeLast_spec D m d xs i w3 qT.out).mono ?_
      rw [E1.out]
      rintro e w4 ⟨rfl, hb4⟩
      have hz4 := hz3.trans (hb4.mono hz3.size)
      clear hb4
      go_wp2
      go_ret
      exact ⟨rfl, hz4⟩
    · have E1 := Lib.hid hc
      have hp : plB xs i = true := by
        cases hp : plB xs i
        · rw [lastB_no hp] at hc; cases hc
        · rfl
      obtain ⟨hs, k, rfl, hk⟩ := plB_at qT.out.len hp
      obtain ⟨b, off, x, hA, hx, _⟩ := qT.out.taskAt hk
      subst hA
      have Hx := Lib.hid hx
      have hend : endB (xs.eraseIdx k) x = true := by rw [← lastB_yes hp hx]; exact hc
      obtain ⟨r, hr⟩ := endB_low hend
      have HR := Lib.hid (move_low hs qT.out.len hx hr)
      have HM := Lib.hid (moveL_sv hs hx)
      have HX' : (moveL xs k x).length = m := (moveL_len hx).trans qT.out.len
      have k0 : (0 : Int) ≤ (k : Int) := by omega
      have k1 : (k : Int) < (m : Int) := by omega
      clear hc hp hs hx hend hr
      go_wp2_with fail
      refine (canBeLast_impl _ m d xs k w1 qT.out).mono ?_
      rw [E1.out]
      rintro e w2 ⟨rfl, hb2⟩
      have hz2 := hz1.trans (hb2.mono hz1.size)
      replace qT := Lib.hid (qT.out.below hb2)
      clear hb2
      go_wp2_with fail
      refine (canBeLast_spec _ m d xs k w2 qT.out).mono ?_
      rw [E1.out]
      rintro e w3 ⟨rfl, hb3⟩
      have hz3 := hz2.trans (hb3.mono hz2.size)
      replace qT := Lib.hid (qT.out.below hb3)
      clear hb3
      go_upto_region 7 with fail
      go_cut [6] (fun s6 wx => ∃ g d' : Nat, s6 = .slice (some ⟨g, 0, none⟩) (m - 1) d' ∧ OwnT w3 wx (.slice (some ⟨g, 0, none⟩) (m - 1) d') (m - 1) (xs.eraseIdx k) ∧ Below w3.heap.size w3 wx)
      case first =>
        obtain ⟨inf, hi, iz0, iz1, iz2⟩ := info_parts infoTaskD
        have h := qT.out
        have hcn := h.cap
        have hcm := h.max
        unfold maxLen at hcm
        have q0 := Lib.hid h
        have hbA : Below w3.heap.size w3 ((w3.alloc (.cells #[] 38)).drew) := ((Below.refl w3.heap.size w3).alloc (Nat.le_refl _) (.cells #[] 38)).drew
        have N0 := Lib.hid (show OwnT w3 ((w3.alloc (.cells #[] 38)).drew) (.slice (some ⟨w3.heap.size, 0, none⟩) 0 0) 0 [] from OwnT.new w3)
        have s1 := Lib.hid (rd_take_at (q0.out.below hbA) (a := k) (by omega))
        have l1 := Lib.hid (show ((xs.take k).flatMap T.cells).length = k * 5 by rw [flatMap_len T.cells_len, List.length_take, q0.out.len, Nat.min_eq_left (by omega)])
        have l2 := Lib.hid (show ((xs.drop (k + 1)).flatMap T.cells).length = (m - (k + 1)) * 5 by rw [flatMap_len T.cells_len, List.length_drop, q0.out.len])
        have hlen := Lib.hid (show k + (m - (k + 1)) = m - 1 by omega)
        have i0 : (0 : Int) ≤ (k : Int) := by omega
        have i1 : (k : Int) ≤ (d : Int) := by omega
        have i2 : (0 : Int) ≤ (k : Int) + 1 := by omega
        have i3 : (k : Int) + 1 ≤ (m : Int) := by omega
        have i4 : (m : Int) ≤ (d : Int) := by omega
        have i5 : IntKind.i64.wrap ((k : Int) + 1) = (k : Int) + 1 := IntWalk.i64_in _ (by omega)
        clear h
        by_cases hc1 : d = k + 1
        · obtain rfl : m = k + 1 := by omega
          subst hc1
          have a1 : (k : Int) ≤ (k : Int) + 1 := by omega
          have hdr : xs.drop (k + 1) = [] := List.drop_eq_nil_of_le (by rw [q0.out.len]; exact Nat.le_refl _)
          have He := Lib.hid (show xs.take k = xs.eraseIdx k by rw [erase_eq, hdr, List.append_nil])
          clear hdr l2 hlen
          go_region_law (first
            | (refine step_own rfl (.tmp 34) (.tmp 37) 25 rfl w3.heap.size 38 inf _ 5 40 Try.underlying25 hi iz0 iz1 iz2 rfl (by decide) _ _ _ rfl N0.out.1 ⟨b, off, none⟩ k (k + 1) ((xs.take k).flatMap T.cells) rfl l1.out s1.out (cells_all_one _) (by unfold maxLen; omega) (by omega) (by simp) ?_; intro v1 w5 hown1 hg1 hn1; have hg1' : ((w3.alloc (.cells #[] 38)).drew).grownBy w5 (some w3.heap.size) := hg1; have hb2 := hbA.grown hg1' hbA.size (fun k e => by injection e with e; omega); have N1 := Lib.hid (show OwnT w3 w5 v1 k (xs.take k) from ⟨by simpa using hown1, by rw [List.length_take, q0.out.len]; omega⟩); have nn1 := Lib.hid (show v1 ≠ .slice none 0 0 from fun e => by first | exact hn1 e | (have h := (hn1.1 e).1; cases h)); clear hown1 hg1 hg1' hn1)
            | (refine step_own rfl (.tmp 38) (.tmp 42) 25 rfl w3.heap.size 38 inf _ 5 40 Try.underlying25 hi iz0 iz1 iz2 rfl (by decide) _ _ _ rfl N1.out.1 ⟨b, off, none⟩ 0 0 [] rfl rfl (fun j u hu => by simp at hu) (fun u hu => by simp at hu) (by unfold maxLen; omega) (by omega) hb2.size ?_; intro v2 w6 hown2 hg2 hn2; have hb3 := hb2.grown hg2 hb2.size (fun g e => (N1.out.1.lt g e).1); have N2 := Lib.hid (show OwnT w3 w6 v2 k (xs.take k) from ⟨by simpa using hown2, N1.out.2⟩); have nn2 := Lib.hid (show v2 ≠ .slice none 0 0 from fun e => by first | exact hn2 e | exact nn1.out (hn2.1 e).1 | exact nn1.out (hn2.1 e)); clear hown2 hg2 hn2))
          rw [He.out] at N2
          obtain ⟨g, d2, hv, _⟩ := own_some N2.out nn2.out
          subst hv
          go_wp2_with fail
          go_meet
          exact ⟨_, _, rfl, N2.out, hb3⟩
        · have hc2 : ¬ k + 1 = d := fun e => hc1 e.symm
          go_region_law (first
            | (refine step_own rfl (.tmp 34) (.tmp 37) 25 rfl w3.heap.size 38 inf _ 5 40 Try.underlying25 hi iz0 iz1 iz2 rfl (by decide) _ _ _ rfl N0.out.1 ⟨b, off, none⟩ k d ((xs.take k).flatMap T.cells) rfl l1.out s1.out (cells_all_one _) (by unfold maxLen; omega) (by omega) (by simp) ?_; intro v1 w5 hown1 hg1 hn1; have hg1' : ((w3.alloc (.cells #[] 38)).drew).grownBy w5 (some w3.heap.size) := hg1; have hb2 := hbA.grown hg1' hbA.size (fun k e => by injection e with e; omega); have N1 := Lib.hid (show OwnT w3 w5 v1 k (xs.take k) from ⟨by simpa using hown1, by rw [List.length_take, q0.out.len]; omega⟩); have nn1 := Lib.hid (show v1 ≠ .slice none 0 0 from fun e => by first | exact hn1 e | (have h := (hn1.1 e).1; cases h)); have s2 := Lib.hid (rd_drop_at (q0.out.below hb2) (a := k + 1) (by omega)); clear hown1 hg1 hg1' hn1)
            | (refine step_own rfl (.tmp 38) (.tmp 42) 25 rfl w3.heap.size 38 inf _ 5 40 Try.underlying25 hi iz0 iz1 iz2 rfl (by decide) _ _ _ rfl N1.out.1 ⟨b, off + (k + 1) * 5, none⟩ (m - (k + 1)) (d - (k + 1)) ((xs.drop (k + 1)).flatMap T.cells) rfl l2.out s2.out (cells_all_one _) (by unfold maxLen; omega) (by omega) hb2.size ?_; intro v2 w6 hown2 hg2 hn2; have hb3 := hb2.grown hg2 hb2.size (fun g e => (N1.out.1.lt g e).1); have N2 := Lib.hid (show OwnT w3 w6 v2 (m - 1) (xs.eraseIdx k) from ⟨by rw [erase_eq, List.flatMap_append, ← hlen.out]; exact hown2, by rw [List.length_eraseIdx_of_lt (by rw [q0.out.len]; exact hk), q0.out.len]⟩); have nn2 := Lib.hid (show v2 ≠ .slice none 0 0 from fun e => by first | exact hn2 e | exact nn1.out (hn2.1 e).1); clear hown2 hg2 hn2))
          obtain ⟨g, d2, hv, _⟩ := own_some N2.out nn2.out
          subst hv
          go_wp2_with fail
          go_meet
          exact ⟨_, _, rfl, N2.out, hb3⟩
      case rest =>
        obtain ⟨inf, hif, iz0, iz1, iz2⟩ := info_parts infoTaskD
        obtain ⟨g, d', rfl, hN, hb3⟩ := hcut
        have hz4 := hz3.trans (hb3.mono hz3.size)
        obtain ⟨b1, off1, x', hA, hx', hb, c0, c1, c2, c3, c4⟩ := (qT.out.below hb3).taskAt hk
        rw [Hx.out] at hx'
        injection hx' with hx'
        injection hA with hA
        injection hA with hA1 hA2
        subst hA1 hA2
        subst hx'
        have o1 := Lib.hid (hN.alloc (.cells #[.int .i64 x.low, .int .i64 x.high, .int .i64 x.due, .int .i64 x.every, .bool x.crit] 38))
        have hb1 := hb3.alloc hb3.size (.cells #[.int .i64 x.low, .int .i64 x.high, .int .i64 x.due, .int .i64 x.every, .bool x.crit] 38)
        have cj := Lib.hid (one_news wc x 38)
        clear hN
        go_wp2_with (at_builtin; refine wpList_append_own _ rfl (.tmp 44) (.tmp 49) 25 rfl w3.heap.size 38 inf _ 5 40 Try.underlying25 hif iz0 iz1 iz2 rfl (by decide) _ _ _ rfl o1.out.1 ⟨wc.heap.size, 0, none⟩ 1 1 ([x].flatMap T.cells) rfl rfl cj.out (cells_all_one _) ?c3 ?c4 ?c5 ?_)
        case c3 => unfold maxLen; omega
        case c4 => omega
        case c5 => have := hb3.size; first | omega | (simp; omega)
        intro v5 w5 hown5 hg5 hn5
        have hb5 := below_ownC hb1 o1.out.1 hg5
        obtain ⟨g5, d5, rfl, r5⟩ := own_move hown5 (by omega) HX' (fun e => by first | exact hn5 e | (have := (hn5.1 e).2; omega) | (have := (hn5.1 e).1; cases this))
        have R5 := Lib.hid r5
        have hz5 := hz3.trans (hb5.mono hz3.size)
        clear hown5 hg5 hn5 o1 hb1 cj c0 c1 c2 c3 c4 r5 hb5
        go_wp2_with fail
        refine (responseLow_impl (some ⟨g5, 0, none⟩) m d5 (moveL xs k x) ((m : Int) - 1) w5 R5.out).mono ?_
        rw [HR.out]
        rintro e w6 ⟨rfl, hb6⟩
        have hz6 := hz5.trans (hb6.mono hz5.size)
        replace R5 := Lib.hid (R5.out.below hb6)
        clear hb6
        go_wp2_with fail
        refine (setValid_impl (some ⟨g5, 0, none⟩) m d5 (moveL xs k x) w6 R5.out).mono ?_
        rw [HM.out]
        rintro e w7 ⟨rfl, hb7⟩
        have hz7 := hz6.trans (hb7.mono hz6.size)
        clear hb7
        go_wp2
        go_ret
        exact ⟨rfl, hz7⟩
  · go_enter Try.func6, Try.ntmps6
    go_wp2
    go_ret
    exact ⟨rfl, hz0⟩

namespace top_FnCanLow
set_option maxRecDepth 100000 in
theorem lifted (os : Os) (started : os.Started) (H : Type) (enc : TypeId × Value → H) :
    ReturnsInHanded {} Try.checked os 6 .any (Rows.fnCanLowSpec.pre6 enc Try.prog Try.f6 Rows.fnCanLowRow.domain false) (Rows.fnCanLowSpec.post enc Try.prog Try.f6 false true false false) := by
  refine returnsInHanded_of_change (C := Try.checked) ownKnob_none started (by kernel_rfl) Try.func6
    (ChangeSpec.witness6 (enc := enc) (C := Try.checked) false ⟨#[], #[.slice none 0 0], []⟩ 8 (by kernel_rfl) (by kernel_rfl) (by kernel_rfl) (by kernel_rfl)) ?_
  intro W base args ds gs before hval0 hW hcnd _
  have hval : ∀ (j : Nat) t v, Try.f6.params[j]? = some t → args[j]? = some v → Value.okWide Try.prog W .any base t v := hval0
  have hW' := hW
  obtain ⟨p, q, hA0, hV, rfl, hfz, hnd⟩ := hW
  have hA : DataW.TrodAll enc Try.prog W 0 (fun _ => true) true Try.f6.params.toList args.toList ds p := hA0
  rw [Try.params6] at hA hval
  obtain ⟨v0, vs0, d0, ds0, p0, q0, hargs, rfl, rfl, h0, r0⟩ := trodAll_cons hA
  obtain ⟨rfl, rfl, rfl⟩ := trodAll_nil r0
  obtain rfl : args = #[v0] := by cases args; simp_all
  obtain ⟨rfl, rfl⟩ := trodVars_none hV
  have k0 := h0
  have lt0 : ∀ x ∈ p0, x.block < W.heap.size := by obtain ⟨m, hm⟩ := k0; exact DataW.trod_lt m _ _ _ hm
  obtain ⟨a0, n0, c0, rfl⟩ := okWide_slice Try.underlying29 (hval 0 29 v0 rfl rfl)
  obtain ⟨x0, w0⟩ : ∃ xs, RdB W a0 n0 c0 xs := by
    obtain ⟨fuel, hf⟩ := h0
    obtain ⟨A, n, c, xs, hcs, hR⟩ := open_bytes hf
    simp [Value.cells] at hcs
    obtain ⟨rfl, rfl, rfl⟩ := hcs
    exact ⟨xs, hR⟩
  clear hA0 hval0
  refine (walk_FnCanLow a0 n0 c0 x0 W w0).mono fun e W' ⟨he, bel⟩ => ?_
  subst he
  exact ⟨_, rfl, _, _, _, [], _, [], hW', trodAll_mk1 (shut_bool Try.underlying4 _), (trodAll_cons_mk (Below.trod laidOut (by kernel_rfl) (of_decide_eq_true (by kernel_rfl)) k0 bel lt0) trodAll_mk0), rfl, bel.frame _, fun h => by cases h⟩

theorem over : Rows.fnCanLowRow.holds Try.pinned (OpenSpec.ofChange Rows.fnCanLowSpec) :=
  OpenClaim.holds_of_wide 6 Try.f6 rfl rfl rfl rfl rfl rfl rfl ⟨rfl, rfl, rfl, rfl, rfl⟩ rfl rfl rfl rfl rfl (by kernel_rfl) Try.func6 (by kernel_rfl)
    (of_decide_eq_true (by kernel_rfl)) (by unfold Func.isWrapper; first | (rw [if_pos (by decide +kernel)]; kernel_rfl) | (rw [if_neg (by decide +kernel)]; exact ⟨rfl, rfl⟩))
    (fun os started H enc _ => lifted os started H enc)
end top_FnCanLow

theorem FnCanLow_holds : Rows.FnCanLowSaid := top_FnCanLow.over
#print axioms FnCanLow_holds

end Go.Proofs.Ytjjeldcbglnlaaa
