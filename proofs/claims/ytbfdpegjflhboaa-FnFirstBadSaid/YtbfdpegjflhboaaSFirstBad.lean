/- The first bad task is the first one: the law returns true for every input. No condition. -/
import Derived.Test.YtbfdpegjflhboaaOpen
import Derived.Test.YtbfdpegjflhboaaRespS
import Derived.Test.YtbfdpegjflhboaaDraw3
namespace Go.Proofs.Ytbfdpegjflhboaa
open Go.ChangeShapes Go.WideShapes Go.ChangeAt Go.RowKit
set_option linter.unusedVariables false


set_option maxRecDepth 100000 in
set_option maxHeartbeats 6400000 in
theorem walk_FnFirstBad (A : Option Addr) (n c : Nat) (bs : List UInt8) (w : World) (h : RdB w A n c bs) :
    Calls Try.prog 13 #[.slice A n c] w fun e w' => e = .returned (.bool true) ∧ Below w.heap.size w w' := by
  have hz0 := Below.refl w.heap.size w
  have H := Lib.hid h
  have hmx : n ≤ maxLen := Nat.le_trans h.cap h.max
  unfold maxLen at hmx
  clear h
  by_cases hn : n ≤ 1048576
  · go_enter Try.func13, Try.ntmps13
    go_wp2_with fail
    refine (drawFirstBad_any A n c bs w H.out).mono ?_
    rintro e w1 ⟨D, m, d, xs, rfl, hm6, ho, hz1⟩
    have qT := Lib.hid ho.rdS
    have hcap : m ≤ d := ho.rdS.cap
    have hmax : d ≤ maxLen := ho.rdS.max
    unfold maxLen at hmax
    clear ho
    go_wp2_with fail
    refine (firstBad_impl D m d xs w1 qT.out).mono ?_
    rintro e w2 ⟨rfl, hb2⟩
    have hz2 := hz1.trans (hb2.mono hz1.size)
    replace qT := Lib.hid (qT.out.below hb2)
    clear hb2
    go_wp2_with fail
    refine (firstBad_spec D m d xs w2 qT.out).mono ?_
    rintro e w3 ⟨rfl, hb3⟩
    have hz3 := hz2.trans (hb3.mono hz2.size)
    replace qT := Lib.hid (qT.out.below hb3)
    clear hb3
    generalize ho : badV xs = o at *
    have Ho := Lib.hid ho
    clear ho
    cases o with
    | none =>
      have hn1 : natO none = 0 := rfl
      rw [hn1]
      clear hn1
      go_wp2
      go_ret
      exact ⟨rfl, hz3⟩
    | some r =>
      have hn1 : natO (some r) = (r : Int) := rfl
      rw [hn1]
      clear hn1
      have hr1 : ((r : Int) != (r : Int)) = false := by simp
      have hr2 : ((r : Int) == (r : Int)) = true := by simp
      obtain ⟨k1, k2⟩ := bad_first Ho.out
      obtain ⟨_, hrl, _, _⟩ := badV_some Ho.out
      rw [qT.out.len] at hrl
      have K1 := Lib.hid k1
      have K2 := Lib.hid k2
      have q1 := Lib.hid (qT.out.take (m := r) (by omega))
      have q2 := Lib.hid (qT.out.take (m := r + 1) (by omega))
      have i0 : (0 : Int) ≤ (r : Int) := by omega
      have i1 : (r : Int) < (m : Int) := by omega
      have i2 : (r : Int) + 1 ≤ (d : Int) := by omega
      clear k1 k2
      go_wp2_with fail
      refine (holdsBoth_impl D r d (xs.take r) w3 q1.out).mono ?_
      rw [K1.out]
      rintro e w4 ⟨rfl, hb4⟩
      have hz4 := hz3.trans (hb4.mono hz3.size)
      replace q2 := Lib.hid (q2.out.below hb4)
      clear hb4
      go_wp2_with fail
      refine (holdsBoth_impl D (r + 1) d (xs.take (r + 1)) w4 q2.out).mono ?_
      rw [K2.out]
      rintro e w5 ⟨rfl, hb5⟩
      have hz5 := hz4.trans (hb5.mono hz4.size)
      go_wp2
      go_ret
      exact ⟨rfl, hz5⟩
  · go_enter Try.func13, Try.ntmps13
    go_wp2
    go_ret
    exact ⟨rfl, hz0⟩

namespace top_FnFirstBad
set_option maxRecDepth 100000 in
theorem lifted (os : Os) (started : os.Started) (H : Type) (enc : TypeId × Value → H) :
    ReturnsInHanded {} Try.checked os 13 .any (Rows.fnFirstBadSpec.pre6 enc Try.prog Try.f13 Rows.fnFirstBadRow.domain false) (Rows.fnFirstBadSpec.post enc Try.prog Try.f13 false true false false) := by
  refine returnsInHanded_of_change (C := Try.checked) ownKnob_none started (by kernel_rfl) Try.func13
    (ChangeSpec.witness6 (enc := enc) (C := Try.checked) false ⟨#[], #[.slice none 0 0], []⟩ 8 (by kernel_rfl) (by kernel_rfl) (by kernel_rfl) (by kernel_rfl)) ?_
  intro W base args ds gs before hval0 hW hcnd _
  have hval : ∀ (j : Nat) t v, Try.f13.params[j]? = some t → args[j]? = some v → Value.okWide Try.prog W .any base t v := hval0
  have hW' := hW
  obtain ⟨p, q, hA0, hV, rfl, hfz, hnd⟩ := hW
  have hA : DataW.TrodAll enc Try.prog W 0 (fun _ => true) true Try.f13.params.toList args.toList ds p := hA0
  rw [Try.params13] at hA hval
  obtain ⟨v0, vs0, d0, ds0, p0, q0, hargs, rfl, rfl, h0, r0⟩ := trodAll_cons hA
  obtain ⟨rfl, rfl, rfl⟩ := trodAll_nil r0
  obtain rfl : args = #[v0] := by cases args; simp_all
  obtain ⟨rfl, rfl⟩ := trodVars_none hV
  have k0 := h0
  have lt0 : ∀ x ∈ p0, x.block < W.heap.size := by obtain ⟨m, hm⟩ := k0; exact DataW.trod_lt m _ _ _ hm
  obtain ⟨a0, n0, c0, rfl⟩ := okWide_slice Try.underlying22 (hval 0 22 v0 rfl rfl)
  obtain ⟨x0, w0⟩ : ∃ xs, RdB W a0 n0 c0 xs := by
    obtain ⟨fuel, hf⟩ := h0
    obtain ⟨A, n, c, xs, hcs, hR⟩ := open_bytes hf
    simp [Value.cells] at hcs
    obtain ⟨rfl, rfl, rfl⟩ := hcs
    exact ⟨xs, hR⟩
  clear hA0 hval0
  refine (walk_FnFirstBad a0 n0 c0 x0 W w0).mono fun e W' ⟨he, bel⟩ => ?_
  subst he
  exact ⟨_, rfl, _, _, _, [], _, [], hW', trodAll_mk1 (shut_bool Try.underlying4 _), (trodAll_cons_mk (Below.trod laidOut (by kernel_rfl) (of_decide_eq_true (by kernel_rfl)) k0 bel lt0) trodAll_mk0), rfl, bel.frame _, fun h => by cases h⟩

theorem over : Rows.fnFirstBadRow.holds Try.pinned (OpenSpec.ofChange Rows.fnFirstBadSpec) :=
  OpenClaim.holds_of_wide 13 Try.f13 rfl rfl rfl rfl rfl rfl rfl ⟨rfl, rfl, rfl, rfl, rfl⟩ rfl rfl rfl rfl rfl (by kernel_rfl) Try.func13 (by kernel_rfl)
    (of_decide_eq_true (by kernel_rfl)) (by unfold Func.isWrapper; first | (rw [if_pos (by decide +kernel)]; kernel_rfl) | (rw [if_neg (by decide +kernel)]; exact ⟨rfl, rfl⟩))
    (fun os started H enc _ => lifted os started H enc)
end top_FnFirstBad

theorem FnFirstBad_holds : Rows.FnFirstBadSaid := top_FnFirstBad.over
#print axioms FnFirstBad_holds

end Go.Proofs.Ytbfdpegjflhboaa
