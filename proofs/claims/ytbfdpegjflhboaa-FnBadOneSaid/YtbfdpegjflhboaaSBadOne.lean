/- One task holds: the law returns true for every input. No condition. -/
import Derived.Test.YtbfdpegjflhboaaOpen
import Derived.Test.YtbfdpegjflhboaaRespS
import Derived.Test.YtbfdpegjflhboaaDraw3
namespace Go.Proofs.Ytbfdpegjflhboaa
open Go.ChangeShapes Go.WideShapes Go.ChangeAt Go.RowKit
set_option linter.unusedVariables false


set_option maxRecDepth 100000 in
set_option maxHeartbeats 6400000 in
theorem walk_FnBadOne (A : Option Addr) (n c : Nat) (bs : List UInt8) (w : World) (h : RdB w A n c bs) :
    Calls Try.prog 12 #[.slice A n c] w fun e w' => e = .returned (.bool true) ∧ Below w.heap.size w w' := by
  have hz0 := Below.refl w.heap.size w
  have H := Lib.hid h
  have hmx : n ≤ maxLen := Nat.le_trans h.cap h.max
  unfold maxLen at hmx
  clear h
  by_cases hn : n ≤ 1048576
  · go_enter Try.func12, Try.ntmps12
    go_wp2_with fail
    refine (drawFirstBad_any A n c bs w H.out).mono ?_
    rintro e w1 ⟨D, m, d, xs, rfl, hm6, ho, hz1⟩
    have qT := Lib.hid ho.rdS
    have hcap : m ≤ d := ho.rdS.cap
    have hmax : d ≤ maxLen := ho.rdS.max
    unfold maxLen at hmax
    clear ho
    go_wp2_with fail
    refine (firstBad_impl D m d xs w1 qT.out).mono ?_
    rintro e w2 ⟨rfl, hb2⟩
    have hz2 := hz1.trans (hb2.mono hz1.size)
    replace qT := Lib.hid (qT.out.below hb2)
    clear hb2
    go_wp2_with fail
    refine (firstBad_spec D m d xs w2 qT.out).mono ?_
    rintro e w3 ⟨rfl, hb3⟩
    have hz3 := hz2.trans (hb3.mono hz2.size)
    replace qT := Lib.hid (qT.out.below hb3)
    clear hb3
    have hV := Lib.hid (setValid_impl D m d xs w3 qT.out)
    obtain ⟨p, hp⟩ : ∃ p, natO (badV xs) = p := ⟨_, rfl⟩
    obtain ⟨q, hq⟩ : ∃ q, (badV xs).isSome = q := ⟨_, rfl⟩
    have HP := Lib.hid (show q = true → 0 < p from fun e => by
      rw [e] at hq
      cases hb : badV xs with
      | none => rw [hb] at hq; cases hq
      | some r =>
        have := bad_pos hb
        rw [← hp, hb]
        show (0 : Int) < (r : Int)
        omega)
    rw [hp, hq]
    have hp1 : (p != p) = false := by simp
    have hp2 : (p == p) = true := by simp
    have hq1 : (q != q) = false := by simp
    have hq2 : (q == q) = true := by simp
    clear hp hq
    cases hs : svB xs
    · rw [hs] at hV
      clear hs
      go_wp2_with fail
      refine (hV.out).mono ?_
      rintro e w4 ⟨rfl, hb4⟩
      have hz4 := hz3.trans (hb4.mono hz3.size)
      clear hb4
      go_wp2
      go_ret
      exact ⟨rfl, hz4⟩
    · rw [hs] at hV
      have Hs := Lib.hid hs
      clear hs
      go_wp2_with fail
      refine (hV.out).mono ?_
      rintro e w4 ⟨rfl, hb4⟩
      have hz4 := hz3.trans (hb4.mono hz3.size)
      replace qT := Lib.hid (qT.out.below hb4)
      clear hb4
      go_wp2_with fail
      go_loopw [8] (fun iv wr => ∃ j : Nat, iv = .int .i64 j ∧ j ≤ m ∧ Below w.heap.size w wr ∧ Below w4.heap.size w4 wr) (fun iv _ => m - (intOf iv).toNat)
      case atStart => exact ⟨0, rfl, Nat.zero_le _, hz4, Below.refl _ _⟩
      case round =>
        obtain ⟨j, rfl, hj, hbel, hb4⟩ := hrel
        by_cases hjm : j < m
        · obtain ⟨b, off, y, hA, hy, _⟩ := qT.out.taskAt hjm
          subst hA
          have q1 := Lib.hid (((qT.out.below hb4).dropS (m := j) (by omega)).take (m := 1) (by omega))
          have hone : (xs.drop j).take 1 = [y] := by
            obtain ⟨hjl, hjy⟩ := List.getElem?_eq_some_iff.1 hy
            rw [List.drop_eq_getElem_cons hjl, hjy]; rfl
          rw [hone] at q1
          have hB := Lib.hid (bad_one (sv_at Hs.out hy))
          have j0 : (0 : Int) ≤ (j : Int) := by omega
          have j1 : (j : Int) + 1 ≤ (d : Int) := by omega
          clear hy hone
          go_wp2_with fail
          refine (firstBad_impl _ 1 (d - j) [y] wr q1.out).mono ?_
          rw [hB.out]
          rintro e w6 ⟨rfl, hb6⟩
          have hz6 := hbel.trans (hb6.mono hbel.size)
          have hc6 := hb4.trans (hb6.mono hb4.size)
          go_wp2
          go_roundw
          case rel => exact ⟨j + 1, by go_num, by omega, hz6, hc6⟩
          case measure => simp [intOf]; omega
        · have hjm' : j = m := by omega
          subst hjm'
          cases q
          · go_wp2
            go_ret
            exact ⟨rfl, hbel⟩
          · have hp0 := HP.out rfl
            go_wp2
            go_ret
            exact ⟨rfl, hbel⟩
  · go_enter Try.func12, Try.ntmps12
    go_wp2
    go_ret
    exact ⟨rfl, hz0⟩

namespace top_FnBadOne
set_option maxRecDepth 100000 in
theorem lifted (os : Os) (started : os.Started) (H : Type) (enc : TypeId × Value → H) :
    ReturnsInHanded {} Try.checked os 12 .any (Rows.fnBadOneSpec.pre6 enc Try.prog Try.f12 Rows.fnBadOneRow.domain false) (Rows.fnBadOneSpec.post enc Try.prog Try.f12 false true false false) := by
  refine returnsInHanded_of_change (C := Try.checked) ownKnob_none started (by kernel_rfl) Try.func12
    (ChangeSpec.witness6 (enc := enc) (C := Try.checked) false ⟨#[], #[.slice none 0 0], []⟩ 8 (by kernel_rfl) (by kernel_rfl) (by kernel_rfl) (by kernel_rfl)) ?_
  intro W base args ds gs before hval0 hW hcnd _
  have hval : ∀ (j : Nat) t v, Try.f12.params[j]? = some t → args[j]? = some v → Value.okWide Try.prog W .any base t v := hval0
  have hW' := hW
  obtain ⟨p, q, hA0, hV, rfl, hfz, hnd⟩ := hW
  have hA : DataW.TrodAll enc Try.prog W 0 (fun _ => true) true Try.f12.params.toList args.toList ds p := hA0
  rw [Try.params12] at hA hval
  obtain ⟨v0, vs0, d0, ds0, p0, q0, hargs, rfl, rfl, h0, r0⟩ := trodAll_cons hA
  obtain ⟨rfl, rfl, rfl⟩ := trodAll_nil r0
  obtain rfl : args = #[v0] := by cases args; simp_all
  obtain ⟨rfl, rfl⟩ := trodVars_none hV
  have k0 := h0
  have lt0 : ∀ x ∈ p0, x.block < W.heap.size := by obtain ⟨m, hm⟩ := k0; exact DataW.trod_lt m _ _ _ hm
  obtain ⟨a0, n0, c0, rfl⟩ := okWide_slice Try.underlying22 (hval 0 22 v0 rfl rfl)
  obtain ⟨x0, w0⟩ : ∃ xs, RdB W a0 n0 c0 xs := by
    obtain ⟨fuel, hf⟩ := h0
    obtain ⟨A, n, c, xs, hcs, hR⟩ := open_bytes hf
    simp [Value.cells] at hcs
    obtain ⟨rfl, rfl, rfl⟩ := hcs
    exact ⟨xs, hR⟩
  clear hA0 hval0
  refine (walk_FnBadOne a0 n0 c0 x0 W w0).mono fun e W' ⟨he, bel⟩ => ?_
  subst he
  exact ⟨_, rfl, _, _, _, [], _, [], hW', trodAll_mk1 (shut_bool Try.underlying4 _), (trodAll_cons_mk (Below.trod laidOut (by kernel_rfl) (of_decide_eq_true (by kernel_rfl)) k0 bel lt0) trodAll_mk0), rfl, bel.frame _, fun h => by cases h⟩

theorem over : Rows.fnBadOneRow.holds Try.pinned (OpenSpec.ofChange Rows.fnBadOneSpec) :=
  OpenClaim.holds_of_wide 12 Try.f12 rfl rfl rfl rfl rfl rfl rfl ⟨rfl, rfl, rfl, rfl, rfl⟩ rfl rfl rfl rfl rfl (by kernel_rfl) Try.func12 (by kernel_rfl)
    (of_decide_eq_true (by kernel_rfl)) (by unfold Func.isWrapper; first | (rw [if_pos (by decide +kernel)]; kernel_rfl) | (rw [if_neg (by decide +kernel)]; exact ⟨rfl, rfl⟩))
    (fun os started H enc _ => lifted os started H enc)
end top_FnBadOne

theorem FnBadOne_holds : Rows.FnBadOneSaid := top_FnBadOne.over
#print axioms FnBadOne_holds

end Go.Proofs.Ytbfdpegjflhboaa
