/- Worst jobs for less time are the first ones: the law returns true for every input. No condition. -/
import Derived.Test.YthedkdajjgcocaaOpen
import Derived.Test.YthedkdajjgcocaaWorst
namespace Go.Proofs.Ythedkdajjgcocaa
open Go.ChangeShapes Go.WideShapes Go.ChangeAt Go.RowKit
set_option linter.unusedVariables false

theorem OwnT.rdW {w w1 : World} {A : Option Addr} {c m : Nat} {xs : List T} (h : OwnT w w1 (.slice A m c) m xs) : RdT w1 A m c xs := Rd.of_own T.cells_len h.1 h.2

set_option maxHeartbeats 1600000 in
theorem drawWorstJobs_any (A : Option Addr) (n c : Nat) (bs : List UInt8) (w : World) (h : RdB w A n c bs) :
    Calls Try.prog 31 #[.slice A n c] w fun e w' => ∃ (D : Option Addr) (m d : Nat) (xs : List T) (u : Int) (hi : Bool), e = .returned (.tuple #[.slice D m d, .int .i64 u, .bool hi]) ∧ m ≤ 6 ∧ RdT w' D m d xs ∧ Below w.heap.size w w' := by
  have H := Lib.hid h
  clear h
  go_enter Try.func31, Try.ntmps31
  go_wp2_with fail
  refine (open_any A n c bs w H.out).mono ?_
  rintro e w1 ⟨R, n1, bs1, rfl, hR, hr, hb1⟩
  have hRlt := hr.lt
  replace hr := Lib.hid hr
  replace hb1 := Lib.hid hb1
  go_wp2_with fail
  refine (l1Some_any R A n1 c bs1 0 w1 hr.out (by omega)).mono ?_
  rintro e w2 ⟨D, m, d, xs, rfl, hm6, ho, hD⟩
  have hs1 := hD.2.1.size
  have n2 := Lib.hid (rdI_new w2 3 #[.int .i64 20, .int .i64 10, .int .i64 40, .int .i64 0, .int .i64 200, .int .i64 201, .int .i64 (-1)] w2.heap.size [20, 10, 40, 0, 200, 201, -1] rfl rfl 7 rfl (by decide))
  replace hD := Lib.hid (hD.alloc (.cells #[.int .i64 20, .int .i64 10, .int .i64 40, .int .i64 0, .int .i64 200, .int .i64 201, .int .i64 (-1)] 3))
  replace ho := Lib.hid (ho.alloc (.cells #[.int .i64 20, .int .i64 10, .int .i64 40, .int .i64 0, .int .i64 200, .int .i64 201, .int .i64 (-1)] 3))
  clear hr
  go_wp2_with fail
  refine (hD.out.num (by omega) n2.out (by decide) (by decide) (by omega)).mono ?_
  rintro e w3 ⟨u, rfl, _, D3, g3⟩
  have o3 := Lib.hid (ho.out.grown hRlt g3)
  replace D3 := Lib.hid D3
  clear g3 n2 hD ho
  go_wp2_with fail
  refine (D3.out.pick (by omega) _).mono ?_
  rintro e w4 ⟨q, rfl, _, D4, g4⟩
  have o4 := Lib.hid (o3.out.grown hRlt g4)
  have hb4 := Lib.hid (hb1.out.grown D4.2.1 hb1.out.size (fun k e => by injection e with e; omega))
  clear g4 D3 o3 D4
  go_wp2
  go_ret3
  exact ⟨D, m, d, xs, u, _, rfl, hm6, o4.out.rdW, hb4.out⟩

theorem wj_half {xs : List T} {u : Int} {hi : Bool} (h : wjB xs u hi = true) : wjB xs (u / 2) hi = true ∧ wjV xs (u / 2) hi <+: wjV xs u hi := by
  obtain ⟨h1, h2, h3, h4⟩ := (wjB_iff _ _ _).1 h
  have hp : allJ xs hi (u / 2).toNat <+: allJ xs hi u.toNat := allJ_pre xs hi (by omega)
  have hB : wjB xs (u / 2) hi = true := (wjB_iff _ _ _).2 ⟨h1, by omega, by omega, Nat.le_trans hp.length_le h4⟩
  refine ⟨hB, ?_⟩
  rw [wjV_yes hB, wjV_yes h]
  exact hp

set_option maxRecDepth 100000 in
set_option maxHeartbeats 6400000 in
theorem walk_FnWorstPrefix (A : Option Addr) (n c : Nat) (bs : List UInt8) (w : World) (h : RdB w A n c bs) :
    Calls Try.prog 8 #[.slice A n c] w fun e w' => e = .returned (.bool true) ∧ Below w.heap.size w w' := by
  have hz0 := Below.refl w.heap.size w
  have H := Lib.hid h
  have hmx : n ≤ maxLen := Nat.le_trans h.cap h.max
  unfold maxLen at hmx
  clear h
  by_cases hn : n ≤ 1048576
  · go_enter Try.func8, Try.ntmps8
    go_wp2_with fail
    refine (drawWorstJobs_any A n c bs w H.out).mono ?_
    rintro e w1 ⟨D, m, d, xs, u, hi, rfl, hm6, hT, hz1⟩
    have qT := Lib.hid hT
    clear hT
    go_wp2_with fail
    refine (worstJobs_impl D m d xs u hi w1 qT.out).mono ?_
    rintro e w2 ⟨P1, k1, d1, rfl, o1, hb2⟩
    have hz2 := hz1.trans (hb2.mono hz1.size)
    have r1 := Lib.hid o1.rd
    have l1 := Lib.hid o1.2
    replace qT := Lib.hid (qT.out.below hb2)
    clear hb2 o1
    go_wp2_with fail
    refine (worstJobs_spec D m d xs u hi w2 qT.out).mono ?_
    rintro e w3 ⟨P2, k2, d2, rfl, o2, hb3⟩
    have hz3 := hz2.trans (hb3.mono hz2.size)
    have r2 := Lib.hid o2.rd
    have hkk : k2 = k1 := by rw [← o2.2, l1.out]
    subst hkk
    replace qT := Lib.hid (qT.out.below hb3)
    replace r1 := Lib.hid (r1.out.below hb3)
    clear hb3 o2
    have hee : (wjB xs u hi != wjB xs u hi) = false := by simp
    have hee2 : (wjB xs u hi == wjB xs u hi) = true := by simp
    go_wp2_with fail
    refine (dmJobs_same P1 P2 k2 d1 d2 (wjV xs u hi) w3 r1.out r2.out).mono ?_
    rintro e w4 ⟨rfl, hb4⟩
    have hz4 := hz3.trans (hb4.mono hz3.size)
    replace qT := Lib.hid (qT.out.below hb4)
    replace r1 := Lib.hid (r1.out.below hb4)
    replace r2 := Lib.hid (r2.out.below hb4)
    clear hb4
    cases hok : wjB xs u hi
    · go_wp2_with fail
      refine (dmJobs_same P1 P2 k2 d1 d2 (wjV xs u hi) w4 r1.out r2.out).mono ?_
      rintro e w5 ⟨rfl, hb5⟩
      have hz5 := hz4.trans (hb5.mono hz4.size)
      clear hb5
      go_wp2
      go_ret
      exact ⟨rfl, hz5⟩
    · have hu := (wjB_iff _ _ _).1 hok
      have hu0 : 0 ≤ u := hu.2.1
      have hu1 : u ≤ 200 := hu.2.2.1
      have hH := Lib.hid (wj_half hok)
      clear hok hee hee2 hu r2
      go_wp2_with fail
      refine (worstJobs_impl D m d xs (u / 2) hi w4 qT.out).mono ?_
      rw [hH.out.1]
      rintro e w5 ⟨P3, k3, d3, rfl, o3, hb5⟩
      have hz5 := hz4.trans (hb5.mono hz4.size)
      have r3 := Lib.hid o3.rd
      replace r1 := Lib.hid (r1.out.below hb5)
      have hk3 : k3 ≤ k2 := by
        have := hH.out.2.length_le
        have h1 := o3.2
        have h2 := l1.out
        omega
      have r4 := Lib.hid (r1.out.take hk3)
      have hX := Lib.hid (show (wjV xs u hi).take k3 = wjV xs (u / 2) hi by
        have := List.prefix_iff_eq_take.1 hH.out.2
        rw [o3.2] at this
        exact this.symm)
      rw [hX.out] at r4
      have hcap : k2 ≤ d1 := r1.out.cap
      have hmax : d1 ≤ maxLen := r1.out.max
      unfold maxLen at hmax
      have i1 : (k3 : Int) ≤ (k2 : Int) := by omega
      clear hb5 o3 l1
      go_wp2_with fail
      refine (dmJobs_same P1 P3 k3 d1 d3 (wjV xs (u / 2) hi) w5 r4.out r3.out).mono ?_
      rintro e w6 ⟨rfl, hb6⟩
      have hz6 := hz5.trans (hb6.mono hz5.size)
      clear hb6
      go_wp2
      go_ret
      exact ⟨rfl, hz6⟩
  · go_enter Try.func8, Try.ntmps8
    go_wp2
    go_ret
    exact ⟨rfl, hz0⟩

namespace top_FnWorstPrefix
set_option maxRecDepth 100000 in
theorem lifted (os : Os) (started : os.Started) (H : Type) (enc : TypeId × Value → H) :
    ReturnsInHanded {} Try.checked os 8 .any (Rows.fnWorstPrefixSpec.pre6 enc Try.prog Try.f8 Rows.fnWorstPrefixRow.domain false) (Rows.fnWorstPrefixSpec.post enc Try.prog Try.f8 false true false false) := by
  refine returnsInHanded_of_change (C := Try.checked) ownKnob_none started (by kernel_rfl) Try.func8
    (ChangeSpec.witness6 (enc := enc) (C := Try.checked) false ⟨#[], #[.slice none 0 0], []⟩ 8 (by kernel_rfl) (by kernel_rfl) (by kernel_rfl) (by kernel_rfl)) ?_
  intro W base args ds gs before hval0 hW hcnd _
  have hval : ∀ (j : Nat) t v, Try.f8.params[j]? = some t → args[j]? = some v → Value.okWide Try.prog W .any base t v := hval0
  have hW' := hW
  obtain ⟨p, q, hA0, hV, rfl, hfz, hnd⟩ := hW
  have hA : DataW.TrodAll enc Try.prog W 0 (fun _ => true) true Try.f8.params.toList args.toList ds p := hA0
  rw [Try.params8] at hA hval
  obtain ⟨v0, vs0, d0, ds0, p0, q0, hargs, rfl, rfl, h0, r0⟩ := trodAll_cons hA
  obtain ⟨rfl, rfl, rfl⟩ := trodAll_nil r0
  obtain rfl : args = #[v0] := by cases args; simp_all
  obtain ⟨rfl, rfl⟩ := trodVars_none hV
  have k0 := h0
  have lt0 : ∀ x ∈ p0, x.block < W.heap.size := by obtain ⟨m, hm⟩ := k0; exact DataW.trod_lt m _ _ _ hm
  obtain ⟨a0, n0, c0, rfl⟩ := okWide_slice Try.underlying48 (hval 0 48 v0 rfl rfl)
  obtain ⟨x0, w0⟩ : ∃ xs, RdB W a0 n0 c0 xs := by
    obtain ⟨fuel, hf⟩ := h0
    obtain ⟨A, n, c, xs, hcs, hR⟩ := open_bytes hf
    simp [Value.cells] at hcs
    obtain ⟨rfl, rfl, rfl⟩ := hcs
    exact ⟨xs, hR⟩
  clear hA0 hval0
  refine (walk_FnWorstPrefix a0 n0 c0 x0 W w0).mono fun e W' ⟨he, bel⟩ => ?_
  subst he
  exact ⟨_, rfl, _, _, _, [], _, [], hW', trodAll_mk1 (shut_bool Try.underlying4 _), (trodAll_cons_mk (Below.trod laidOut (by kernel_rfl) (of_decide_eq_true (by kernel_rfl)) k0 bel lt0) trodAll_mk0), rfl, bel.frame _, fun h => by cases h⟩

theorem over : Rows.fnWorstPrefixRow.holds Try.pinned (OpenSpec.ofChange Rows.fnWorstPrefixSpec) :=
  OpenClaim.holds_of_wide 8 Try.f8 rfl rfl rfl rfl rfl rfl rfl ⟨rfl, rfl, rfl, rfl, rfl⟩ rfl rfl rfl rfl rfl (by kernel_rfl) Try.func8 (by kernel_rfl)
    (of_decide_eq_true (by kernel_rfl)) (by unfold Func.isWrapper; first | (rw [if_pos (by decide +kernel)]; kernel_rfl) | (rw [if_neg (by decide +kernel)]; exact ⟨rfl, rfl⟩))
    (fun os started H enc _ => lifted os started H enc)
end top_FnWorstPrefix

theorem FnWorstPrefix_holds : Rows.FnWorstPrefixSaid := top_FnWorstPrefix.over
#print axioms FnWorstPrefix_holds

end Go.Proofs.Ythedkdajjgcocaa
