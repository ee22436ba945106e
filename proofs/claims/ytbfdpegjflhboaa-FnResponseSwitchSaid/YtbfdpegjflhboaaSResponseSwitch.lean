/- The response at the switch is the longest: the law returns true for every input. No condition. -/
import Derived.Test.YtbfdpegjflhboaaOpen
import Derived.Test.YtbfdpegjflhboaaRespS
import Derived.Test.YtbfdpegjflhboaaDraw3
import Derived.Test.YtbfdpegjflhboaaRespH
namespace Go.Proofs.Ytbfdpegjflhboaa
open Go.ChangeShapes Go.WideShapes Go.ChangeAt Go.RowKit
set_option linter.unusedVariables false

theorem rsV_some {xs : List T} {i r : Int} (h : rsV xs i = some r) : svB xs = true ∧ ∃ (k : Nat) (x : T), xs[k]? = some x ∧ i = k ∧ k < xs.length ∧ plB xs (k : Int) = true ∧ rsw (xs.take k) x = some r := by
  cases hp : plB xs i
  · rw [rsV_no hp] at h; cases h
  · obtain ⟨hs, k, rfl, hk⟩ := plB_at rfl hp
    have hx := atT_get hk
    rw [rsV_yes hp hx] at h
    exact ⟨hs, k, atT xs k, hx, rfl, hk, hp, h⟩
theorem rh_of {xs : List T} {k : Nat} {x : T} (hs : svB xs = true) (hp : plB xs (k : Int) = true) (hx : xs[k]? = some x) (hc : x.crit = true) : rhV xs (k : Int) = rlo (critL (xs.take k)) { x with low := x.high } := by
  have hat := critL_at hx hc
  have hlt := (List.getElem?_eq_some_iff.1 hat).1
  rw [rhV_yes hp hx hc, rlV_yes (plB_nat (critL_sv hs) hlt) hat, critL_take]

set_option maxRecDepth 100000 in
set_option maxHeartbeats 6400000 in
theorem walk_FnResponseSwitch (A : Option Addr) (n c : Nat) (bs : List UInt8) (w : World) (h : RdB w A n c bs) :
    Calls Try.prog 11 #[.slice A n c] w fun e w' => e = .returned (.bool true) ∧ Below w.heap.size w w' := by
  have hz0 := Below.refl w.heap.size w
  have H := Lib.hid h
  have hmx : n ≤ maxLen := Nat.le_trans h.cap h.max
  unfold maxLen at hmx
  clear h
  by_cases hn : n ≤ 1048576
  · go_enter Try.func11, Try.ntmps11
    go_wp2_with fail
    refine (drawResponseSwitch_any A n c bs w H.out).mono ?_
    rintro e w1 ⟨D, m, d, xs, i, rfl, hm6, ho, hz1⟩
    have qT := Lib.hid ho.rdS
    have hcap : m ≤ d := ho.rdS.cap
    have hmax : d ≤ maxLen := ho.rdS.max
    unfold maxLen at hmax
    clear ho
    go_wp2_with fail
    refine (responseSwitch_impl D m d xs i w1 qT.out).mono ?_
    rintro e w2 ⟨rfl, hb2⟩
    have hz2 := hz1.trans (hb2.mono hz1.size)
    replace qT := Lib.hid (qT.out.below hb2)
    clear hb2
    go_wp2_with fail
    refine (responseSwitch_spec D m d xs i w2 qT.out).mono ?_
    rintro e w3 ⟨rfl, hb3⟩
    have hz3 := hz2.trans (hb3.mono hz2.size)
    replace qT := Lib.hid (qT.out.below hb3)
    clear hb3
    generalize ho : rsV xs i = o at *
    have Ho := Lib.hid ho
    clear ho
    cases o with
    | none =>
      go_wp2
      go_ret
      exact ⟨rfl, hz3⟩
    | some r =>
      have hr1 : (r != r) = false := by simp
      have hr2 : (r == r) = true := by simp
      obtain ⟨hs, k, x, hxl, rfl, hk, hp, hrs⟩ := rsV_some Ho.out
      rw [qT.out.len] at hk
      obtain ⟨low, rh, e1, e2, f1, f2, f3, hc, f4, f5, _, _⟩ := sw_facts (sv_take hs k) (sv_at hs hxl) hrs
      have HL := Lib.hid (show rlV xs (k : Int) = some low by rw [rlV_yes hp hxl]; exact e1)
      have HR := Lib.hid (show rhV xs (k : Int) = some rh by rw [rh_of hs hp hxl hc]; exact e2)
      have Hx := Lib.hid hxl
      have i0 : (0 : Int) ≤ (k : Int) := by omega
      have i1 : (k : Int) < (m : Int) := by omega
      clear hs hp hxl hrs e1 e2 hc
      go_wp2_with fail
      refine (responseLow_impl D m d xs k w3 qT.out).mono ?_
      rw [HL.out]
      rintro e w4 ⟨rfl, hb4⟩
      have hz4 := hz3.trans (hb4.mono hz3.size)
      replace qT := Lib.hid (qT.out.below hb4)
      clear hb4
      go_wp2_with fail
      refine (responseHigh_impl D m d xs k w4 qT.out).mono ?_
      rw [HR.out]
      rintro e w5 ⟨rfl, hb5⟩
      have hz5 := hz4.trans (hb5.mono hz4.size)
      replace qT := Lib.hid (qT.out.below hb5)
      clear hb5
      obtain ⟨b, off, x', hA, hx', hb, c0, c1, c2, c3, c4⟩ := qT.out.taskAt hk
      rw [Hx.out] at hx'
      injection hx' with hx'
      subst hA
      subst hx'
      go_wp2
      go_ret
      exact ⟨rfl, hz5⟩
  · go_enter Try.func11, Try.ntmps11
    go_wp2
    go_ret
    exact ⟨rfl, hz0⟩

namespace top_FnResponseSwitch
set_option maxRecDepth 100000 in
theorem lifted (os : Os) (started : os.Started) (H : Type) (enc : TypeId × Value → H) :
    ReturnsInHanded {} Try.checked os 11 .any (Rows.fnResponseSwitchSpec.pre6 enc Try.prog Try.f11 Rows.fnResponseSwitchRow.domain false) (Rows.fnResponseSwitchSpec.post enc Try.prog Try.f11 false true false false) := by
  refine returnsInHanded_of_change (C := Try.checked) ownKnob_none started (by kernel_rfl) Try.func11
    (ChangeSpec.witness6 (enc := enc) (C := Try.checked) false ⟨#[], #[.slice none 0 0], []⟩ 8 (by kernel_rfl) (by kernel_rfl) (by kernel_rfl) (by kernel_rfl)) ?_
  intro W base args ds gs before hval0 hW hcnd _
  have hval : ∀ (j : Nat) t v, Try.f11.params[j]? = some t → args[j]? = some v → Value.okWide Try.prog W .any base t v := hval0
  have hW' := hW
  obtain ⟨p, q, hA0, hV, rfl, hfz, hnd⟩ := hW
  have hA : DataW.TrodAll enc Try.prog W 0 (fun _ => true) true Try.f11.params.toList args.toList ds p := hA0
  rw [Try.params11] at hA hval
  obtain ⟨v0, vs0, d0, ds0, p0, q0, hargs, rfl, rfl, h0, r0⟩ := trodAll_cons hA
  obtain ⟨rfl, rfl, rfl⟩ := trodAll_nil r0
  obtain rfl : args = #[v0] := by cases args; simp_all
  obtain ⟨rfl, rfl⟩ := trodVars_none hV
  have k0 := h0
  have lt0 : ∀ x ∈ p0, x.block < W.heap.size := by obtain ⟨m, hm⟩ := k0; exact DataW.trod_lt m _ _ _ hm
  obtain ⟨a0, n0, c0, rfl⟩ := okWide_slice Try.underlying22 (hval 0 22 v0 rfl rfl)
  obtain ⟨x0, w0⟩ : ∃ xs, RdB W a0 n0 c0 xs := by
    obtain ⟨fuel, hf⟩ := h0
    obtain ⟨A, n, c, xs, hcs, hR⟩ := open_bytes hf
    simp [Value.cells] at hcs
    obtain ⟨rfl, rfl, rfl⟩ := hcs
    exact ⟨xs, hR⟩
  clear hA0 hval0
  refine (walk_FnResponseSwitch a0 n0 c0 x0 W w0).mono fun e W' ⟨he, bel⟩ => ?_
  subst he
  exact ⟨_, rfl, _, _, _, [], _, [], hW', trodAll_mk1 (shut_bool Try.underlying4 _), (trodAll_cons_mk (Below.trod laidOut (by kernel_rfl) (of_decide_eq_true (by kernel_rfl)) k0 bel lt0) trodAll_mk0), rfl, bel.frame _, fun h => by cases h⟩

theorem over : Rows.fnResponseSwitchRow.holds Try.pinned (OpenSpec.ofChange Rows.fnResponseSwitchSpec) :=
  OpenClaim.holds_of_wide 11 Try.f11 rfl rfl rfl rfl rfl rfl rfl ⟨rfl, rfl, rfl, rfl, rfl⟩ rfl rfl rfl rfl rfl (by kernel_rfl) Try.func11 (by kernel_rfl)
    (of_decide_eq_true (by kernel_rfl)) (by unfold Func.isWrapper; first | (rw [if_pos (by decide +kernel)]; kernel_rfl) | (rw [if_neg (by decide +kernel)]; exact ⟨rfl, rfl⟩))
    (fun os started H enc _ => lifted os started H enc)
end top_FnResponseSwitch

theorem FnResponseSwitch_holds : Rows.FnResponseSwitchSaid := top_FnResponseSwitch.over
#print axioms FnResponseSwitch_holds

end Go.Proofs.Ytbfdpegjflhboaa
