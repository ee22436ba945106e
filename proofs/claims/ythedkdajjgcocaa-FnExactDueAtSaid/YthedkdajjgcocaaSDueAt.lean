/- The program's DueAt returns what the reference's returns, and its arguments read as before, for all arguments. No condition. -/
import Derived.Test.YthedkdajjgcocaaOpen
import Derived.Test.YthedkdajjgcocaaDue
import Derived.Test.YthedkdajjgcocaaConvT
import Derived.Test.YthedkdajjgcocaaConvJ
import Derived.Deep.DeepCutAuto
namespace Go.Proofs.Ythedkdajjgcocaa
open Go.ChangeShapes Go.WideShapes Go.ChangeAt Go.RowKit
set_option linter.unusedVariables false

set_option maxHeartbeats 3200000 in
theorem walk_FnExactDueAt (A : Option Addr) (n c : Nat) (xs : List T) (j : J) (w : World) (h : RdT w A n c xs) :
    Calls Try.prog 5 #[.slice A n c, .agg #[.int .i64 j.task, .int .i64 j.at_, .int .i64 j.need]] w fun e w' => e = .returned (.bool true) ∧ Below w.heap.size w w' := by
  have hz0 : Below w.heap.size w (w.alloc (.cells #[.int .i64 j.task, .int .i64 j.at_, .int .i64 j.need] 37)) := (Below.refl _ _).alloc (Nat.le_refl _) _
  have hl := Lib.hid h.len
  have q0 := Lib.hid (h.alloc (.cells #[.int .i64 j.task, .int .i64 j.at_, .int .i64 j.need] 37))
  have hsz : w.heap.size < (w.alloc (.cells #[.int .i64 j.task, .int .i64 j.at_, .int .i64 j.need] 37)).heap.size := by simp
  by_cases hn : n ≤ 1048576
  · have hne : (duV xs j != duV xs j) = false := by simp
    have hne2 : (duB xs j != duB xs j) = false := by simp
    clear h
    go_enter Try.func5, Try.ntmps5
    go_wp2_with fail
    refine (szTaskS_small A n c _ hn).mono ?_
    rintro e w1 ⟨rfl, hb1⟩
    have hz1 := hz0.trans (hb1.mono hz0.size)
    have e0 : w1.cell? ⟨w.heap.size, 0, none⟩ = some (.int .i64 j.task) := (hb1.cell (p := ⟨w.heap.size, 0, none⟩) (by simp)).trans (World.cell?_alloc_at _ _ _ _ rfl)
    have e1 : w1.cell? ⟨w.heap.size, 1, none⟩ = some (.int .i64 j.at_) := (hb1.cell (p := ⟨w.heap.size, 1, none⟩) (by simp)).trans (World.cell?_alloc_at _ _ _ _ rfl)
    have e2 : w1.cell? ⟨w.heap.size, 2, none⟩ = some (.int .i64 j.need) := (hb1.cell (p := ⟨w.heap.size, 2, none⟩) (by simp)).trans (World.cell?_alloc_at _ _ _ _ rfl)
    have hs1 : w.heap.size < w1.heap.size := Nat.lt_of_lt_of_le hsz hb1.size
    replace q0 := Lib.hid (q0.out.below hb1)
    clear hb1
    go_wp2_with fail
    go_region_held3 (fun w' => w'.cell? ⟨w.heap.size, 0, none⟩ = some (.int .i64 j.task) ∧ w'.cell? ⟨w.heap.size, 1, none⟩ = some (.int .i64 j.at_) ∧ w'.cell? ⟨w.heap.size, 2, none⟩ = some (.int .i64 j.need) ∧ Below w1.heap.size w1 w') (first | exact ⟨e0, e1, e2, (Below.refl _ _).drew⟩ | exact ⟨(hk.cell (p := ⟨w.heap.size, 0, none⟩) hs1).trans e0, (hk.cell (p := ⟨w.heap.size, 1, none⟩) hs1).trans e1, (hk.cell (p := ⟨w.heap.size, 2, none⟩) hs1).trans e2, hk⟩)
      (first
        | (go_at_call 20; rename_i hSS _ _; have hS := hSS.2.2.2; refine (toTaskS_any A n c xs _ (q0.out.below hS) hn).mono ?_; rintro e w2 ⟨g2, rfl, o2, hb2⟩; have q2 := Lib.hid (Rd.of_own T.cells_len o2 hl.out); have hk := hS.trans (hb2.mono hS.size); clear o2 hb2 hS)
        | (go_at_call 24; rename_i hSS _ _; have hS := hSS.2.2.2; refine (toJob_any _ _ _ _).mono ?_; rintro e w3 ⟨rfl, hb3⟩; have hk := hS.trans (hb3.mono hS.size); (try replace q2 := Lib.hid (q2.out.below hb3)); clear hb3 hS)
        | (go_at_call 23; rename_i hSS _ _; have hS := hSS.2.2.2; refine (dueAt_spec _ n n xs j _ q2.out).mono ?_; rintro e w4 ⟨rfl, hb4⟩; have hk := hS.trans (hb4.mono hS.size); clear hb4 hS))
    have hz2 : Below w.heap.size w _ := hz1.trans (hk.mono hz1.size)
    have f0 := (hk.cell (p := ⟨w.heap.size, 0, none⟩) hs1).trans e0
    have f1 := (hk.cell (p := ⟨w.heap.size, 1, none⟩) hs1).trans e1
    have f2 := (hk.cell (p := ⟨w.heap.size, 2, none⟩) hs1).trans e2
    replace q0 := Lib.hid (q0.out.below hk)
    clear e0 e1 e2
    go_wp2_with fail
    refine (toTaskS_any A n c xs _ q0.out hn).mono ?_
    rintro e w5 ⟨g5, rfl, o5, hb5⟩
    have hz5 := hz2.trans (hb5.mono hz2.size)
    have q5 := Lib.hid (Rd.of_own T.cells_len o5 hl.out)
    have k0 := (hb5.cell (p := ⟨w.heap.size, 0, none⟩) (lt_of_cell f0)).trans f0
    have k1 := (hb5.cell (p := ⟨w.heap.size, 1, none⟩) (lt_of_cell f1)).trans f1
    have k2 := (hb5.cell (p := ⟨w.heap.size, 2, none⟩) (lt_of_cell f2)).trans f2
    replace q0 := Lib.hid (q0.out.below hb5)
    clear o5 hb5 f0 f1 f2 hk
    go_wp2_with fail
    refine (toJob_any _ _ _ w5).mono ?_
    rintro e w6 ⟨rfl, hb6⟩
    have hz6 := hz5.trans (hb6.mono hz5.size)
    replace q0 := Lib.hid (q0.out.below hb6)
    replace q5 := Lib.hid (q5.out.below hb6)
    clear hb6
    go_wp2_with fail
    refine (dueAt_impl _ n n xs j w6 q5.out).mono ?_
    rintro e w7 ⟨rfl, hb7⟩
    have hz7 := hz6.trans (hb7.mono hz6.size)
    replace q0 := Lib.hid (q0.out.below hb7)
    replace q5 := Lib.hid (q5.out.below hb7)
    clear hb7
    go_wp2_with fail
    refine (toTaskS_any A n c xs w7 q0.out hn).mono ?_
    rintro e w8 ⟨g8, rfl, o8, hb8⟩
    have hz8 := hz7.trans (hb8.mono hz7.size)
    replace q0 := Lib.hid (q0.out.below hb8)
    replace q5 := Lib.hid (q5.out.below hb8)
    clear hb8
    have q8 := Lib.hid (Rd.of_own T.cells_len o8 hl.out)
    clear o8
    go_wp2_with fail
    refine (eqTaskS_same _ _ n n n xs w8 q5.out q8.out).mono ?_
    rintro e w9 ⟨rfl, hb9⟩
    have hz9 := hz8.trans (hb9.mono hz8.size)
    clear hb9
    go_wp2
    go_ret
    exact ⟨rfl, hz9⟩
  · have hn' : 1048576 < n := by omega
    clear h
    go_enter Try.func5, Try.ntmps5
    go_wp2_with fail
    refine (szTaskS_big A n c xs _ q0.out hn').mono ?_
    rintro e w1 ⟨rfl, hb1⟩
    have hz1 := hz0.trans (hb1.mono hz0.size)
    replace q0 := Lib.hid (q0.out.below hb1)
    clear hb1
    go_wp2
    go_ret
    exact ⟨rfl, hz1⟩

namespace top_FnExactDueAt
set_option maxRecDepth 100000 in
theorem lifted (os : Os) (started : os.Started) (H : Type) (enc : TypeId × Value → H) :
    ReturnsInHanded {} Try.checked os 5 .any (Rows.fnExactDueAtSpec.pre6 enc Try.prog Try.f5 Rows.fnExactDueAtRow.domain false) (Rows.fnExactDueAtSpec.post enc Try.prog Try.f5 false true false false) := by
  refine returnsInHanded_of_change (C := Try.checked) ownKnob_none started (by kernel_rfl) Try.func5
    (ChangeSpec.witness6 (enc := enc) (C := Try.checked) false ⟨#[], #[.slice none 0 0, .agg #[.int .i64 0, .int .i64 0, .int .i64 0]], []⟩ 8 (by kernel_rfl) (by kernel_rfl) (by kernel_rfl) (by kernel_rfl)) ?_
  intro W base args ds gs before hval0 hW hcnd _
  have hval : ∀ (j : Nat) t v, Try.f5.params[j]? = some t → args[j]? = some v → Value.okWide Try.prog W .any base t v := hval0
  have hW' := hW
  obtain ⟨p, q, hA0, hV, rfl, hfz, hnd⟩ := hW
  have hA : DataW.TrodAll enc Try.prog W 0 (fun _ => true) true Try.f5.params.toList args.toList ds p := hA0
  rw [Try.params5] at hA hval
  obtain ⟨v0, vs0, d0, ds0, p0, q0, hargs, rfl, rfl, h0, r0⟩ := trodAll_cons hA
  obtain ⟨v1, vs1, d1, ds1, p1, q1, rfl, rfl, rfl, h1, r1⟩ := trodAll_cons r0
  obtain ⟨rfl, rfl, rfl⟩ := trodAll_nil r1
  obtain rfl : args = #[v0, v1] := by cases args; simp_all
  obtain ⟨rfl, rfl⟩ := trodVars_none hV
  have k0 := h0
  have lt0 : ∀ x ∈ p0, x.block < W.heap.size := by obtain ⟨m, hm⟩ := k0; exact DataW.trod_lt m _ _ _ hm
  obtain ⟨a0, n0, c0, rfl⟩ := okWide_slice Try.underlying29 (hval 0 29 v0 rfl rfl)
  obtain ⟨x0, w0⟩ : ∃ xs, RdT W a0 n0 c0 xs := by
    obtain ⟨fuel, hf⟩ := h0
    obtain ⟨A, n, c, xs, hcs, hR⟩ := open_tasks hf
    simp [Value.cells] at hcs
    obtain ⟨rfl, rfl, rfl⟩ := hcs
    exact ⟨xs, hR⟩
  have k1 := h1
  have lt1 : ∀ x ∈ p1, x.block < W.heap.size := by obtain ⟨m, hm⟩ := k1; exact DataW.trod_lt m _ _ _ hm
  obtain ⟨u0, u1, u2, y0, y1, y2, fu, hv1, _, _, t0, t1, t2⟩ := Go.Joins.open_agg3 Try.underlying37 (by kernel_rfl) (by kernel_rfl) (hval 1 37 v1 rfl rfl) h1
  obtain ⟨j0, e0, _⟩ := DataW.trod_int Try.underlying3 t0
  obtain ⟨j1, e1, _⟩ := DataW.trod_int Try.underlying3 t1
  obtain ⟨j2, e2, _⟩ := DataW.trod_int Try.underlying3 t2
  simp only [List.cons.injEq, and_true] at e0 e1 e2
  subst e0 e1 e2 hv1
  clear hA0 hval0
  refine (walk_FnExactDueAt a0 n0 c0 x0 ⟨j0, j1, j2⟩ W w0).mono fun e W' ⟨he, bel⟩ => ?_
  subst he
  exact ⟨_, rfl, _, _, _, [], _, [], hW', trodAll_mk1 (shut_bool Try.underlying4 _), (trodAll_cons_mk (Below.trod laidOut (by kernel_rfl) (of_decide_eq_true (by kernel_rfl)) k0 bel lt0) (trodAll_cons_mk (Below.trod laidOut (by kernel_rfl) (of_decide_eq_true (by kernel_rfl)) k1 bel lt1) trodAll_mk0)), rfl, bel.frame _, fun h => by cases h⟩

theorem over : Rows.fnExactDueAtRow.holds Try.pinned (OpenSpec.ofChange Rows.fnExactDueAtSpec) :=
  OpenClaim.holds_of_wide 5 Try.f5 rfl rfl rfl rfl rfl rfl rfl ⟨rfl, rfl, rfl, rfl, rfl⟩ rfl rfl rfl rfl rfl (by kernel_rfl) Try.func5 (by kernel_rfl)
    (of_decide_eq_true (by kernel_rfl)) (by unfold Func.isWrapper; first | (rw [if_pos (by decide +kernel)]; kernel_rfl) | (rw [if_neg (by decide +kernel)]; exact ⟨rfl, rfl⟩))
    (fun os started H enc _ => lifted os started H enc)
end top_FnExactDueAt

theorem FnExactDueAt_holds : Rows.FnExactDueAtSaid := top_FnExactDueAt.over
#print axioms FnExactDueAt_holds

end Go.Proofs.Ythedkdajjgcocaa
