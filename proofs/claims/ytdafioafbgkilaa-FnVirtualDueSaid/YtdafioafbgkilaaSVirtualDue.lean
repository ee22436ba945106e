/- Virtual deadlines are early: the law returns true for every input. No condition. -/
import Derived.Test.YtdafioafbgkilaaOpen
import Derived.Test.YtdafioafbgkilaaL5L
import Derived.Test.YtdafioafbgkilaaEqS
import Derived.Test.YtdafioafbgkilaaDraw5
namespace Go.Proofs.Ytdafioafbgkilaa
open Go.ChangeShapes Go.WideShapes Go.ChangeAt Go.RowKit
set_option linter.unusedVariables false

theorem vd_some {xs : List T} {i : Int} (h : vdB xs i = true) : factB xs = true ∧ ∃ (k : Nat) (x : T), i = k ∧ k < xs.length ∧ xs[k]? = some x ∧ vdV xs i = vd1 xs x := by
  have h2 := h
  unfold vdB at h2
  rw [Bool.and_eq_true] at h2
  obtain ⟨hf, hi⟩ := h2
  unfold inB at hi
  rw [Bool.and_eq_true, decide_eq_true_eq, decide_eq_true_eq] at hi
  obtain ⟨k, rfl⟩ := Int.eq_ofNat_of_zero_le hi.1
  have hk : k < xs.length := by omega
  exact ⟨hf, k, elT xs k, rfl, hk, elT_get hk, (vd_in hf (elT_get hk)).2⟩

set_option maxRecDepth 100000 in
set_option maxHeartbeats 6400000 in
theorem walk_FnVirtualDue (A : Option Addr) (n c : Nat) (bs : List UInt8) (w : World) (h : RdB w A n c bs) :
    Calls Try.prog 9 #[.slice A n c] w fun e w' => e = .returned (.bool true) ∧ Below w.heap.size w w' := by
  have hz0 := Below.refl w.heap.size w
  have H := Lib.hid h
  have hmx : n ≤ maxLen := Nat.le_trans h.cap h.max
  unfold maxLen at hmx
  clear h
  by_cases hn : n ≤ 1048576
  · go_enter Try.func9, Try.ntmps9
    go_wp2_with fail
    refine (drawVirtualDue_any A n c bs w H.out).mono ?_
    rintro e w1 ⟨D, m, d, xs, i, rfl, hm6, ho, hz1⟩
    have qT := Lib.hid ho.rd5
    clear ho
    go_wp2_with fail
    refine (virtualDue_impl D m d xs i w1 qT.out).mono ?_
    rintro e w2 ⟨rfl, hb2⟩
    have hz2 := hz1.trans (hb2.mono hz1.size)
    replace qT := Lib.hid (qT.out.below hb2)
    clear hb2
    have rX := Lib.hid (Blk.new w2 28 #[.int .i64 (vdV xs i).num, .int .i64 (vdV xs i).den])
    replace qT := Lib.hid (qT.out.alloc (.cells #[.int .i64 (vdV xs i).num, .int .i64 (vdV xs i).den] 28))
    have hz2a := hz2.alloc hz2.size (.cells #[.int .i64 (vdV xs i).num, .int .i64 (vdV xs i).den] 28)
    go_wp2_with fail
    refine (virtualDue_spec D m d xs i _ qT.out).mono ?_
    rintro e w3 ⟨rfl, hb3⟩
    have hz3 := hz2a.trans (hb3.mono hz2a.size)
    replace qT := Lib.hid (qT.out.below hb3)
    replace rX := Lib.hid (rX.out.below hb3)
    clear hb3
    generalize hr : vdV xs i = r at *
    have Hr := Lib.hid hr
    clear hr
    have c0 := rX.out.cell (i := 0) rfl
    have c1 := rX.out.cell (i := 1) rfl
    have clt := rX.out.lt
    replace qT := Lib.hid (qT.out.alloc (.cells #[.int .i64 r.num, .int .i64 r.den] 28))
    replace rX := Lib.hid (rX.out.alloc (.cells #[.int .i64 r.num, .int .i64 r.den] 28))
    have hz3a := hz3.alloc hz3.size (.cells #[.int .i64 r.num, .int .i64 r.den] 28)
    have hnq := fun w => neq_share r.num r.den w
    have hql := fun w => eql_share r.num r.den w
    have hee : (vdB xs i != vdB xs i) = false := by simp
    have hee2 : (vdB xs i == vdB xs i) = true := by simp
    cases hf : vdB xs i
    · clear hee hee2 hf
      go_wp2
      go_ret
      exact ⟨rfl, hz3a⟩
    · obtain ⟨hfa, k, x, rfl, hk, hxl, hV⟩ := vd_some hf
      rw [qT.out.len] at hk
      have hr := Hr.out
      rw [hV] at hr
      have hxv := sv_el hfa hxl
      have Hx := Lib.hid hxl
      have i0 : (0 : Int) ≤ (k : Int) := by omega
      have i1 : (k : Int) < (m : Int) := by omega
      obtain ⟨d1, d2⟩ := due_bd hxv
      have k1 := vd1_le hfa hxv
      have k2 := Lib.hid (fun hc => vd1_same (xs := xs) (x := x) hc)
      have hM := Lib.hid (fun w => makeShare_impl x.due 1 w (by omega) (by omega) (by omega) (by omega))
      rw [due_red] at hM
      rw [hr] at k1 k2
      have hVx := Lib.hid (fun w => shareValid_impl r w (by rw [← hr]; exact vd1_is hfa hxv))
      have hC := Lib.hid (fun w => compare_impl r ⟨x.due, 1⟩ w (by rw [← hr]; exact vd1_is hfa hxv) (due_is hxv))
      simp only [Int.mul_one] at k1 k2 hC
      obtain ⟨b, off, x', hA, hx', hb, t0, t1, t2, t3, t4⟩ := qT.out.taskAt hk
      rw [Hx.out] at hx'
      injection hx' with hx'
      subst hA
      subst hx'
      generalize cmpI r.num (x.due * r.den) = q at *
      clear hee hee2 hf hr hV hxv hxl hfa
      cases hc : x.crit
      · have hq := k2.out hc
        subst hq
        have Hc := Lib.hid hc
        clear hc
        go_wp2_with fail
        refine (hM.out _).mono ?_
        rintro e w4 ⟨rfl, hb4⟩
        have hz4 := hz3a.trans (hb4.mono hz3a.size)
        replace qT := Lib.hid (qT.out.below hb4)
        replace rX := Lib.hid (rX.out.below hb4)
        clear hb4
        clear c0 c1 clt t0 t1 t2 t3 t4
        replace rX := Lib.hid (rX.out.alloc (.cells #[.int .i64 x.due, .int .i64 1] 28))
        replace qT := Lib.hid (qT.out.alloc (.cells #[.int .i64 x.due, .int .i64 1] 28))
        have hz4a := hz4.alloc hz4.size (.cells #[.int .i64 x.due, .int .i64 1] 28)
        have x0 := rX.out.cell (i := 0) rfl
        have x1 := rX.out.cell (i := 1) rfl
        have xl := rX.out.lt
        go_wp2_with fail
        refine (hC.out _).mono ?_
        rintro e w5 ⟨rfl, hb5⟩
        have hz5 := hz4a.trans (hb5.mono hz4a.size)
        replace qT := Lib.hid (qT.out.below hb5)
        replace rX := Lib.hid (rX.out.below hb5)
        clear hb5
        clear x0 x1 xl
        have x0 := rX.out.cell (i := 0) rfl
        have x1 := rX.out.cell (i := 1) rfl
        have xl := rX.out.lt
        go_wp2_with fail
        refine (hVx.out _).mono ?_
        rintro e w6 ⟨rfl, hb6⟩
        have hz6 := hz5.trans (hb6.mono hz5.size)
        replace qT := Lib.hid (qT.out.below hb6)
        clear hb6
        obtain ⟨b', off', x', hA, hx', hb', t0, t1, t2, t3, t4⟩ := qT.out.taskAt hk
        rw [Hx.out] at hx'
        injection hx' with hx'
        injection hA with hA
        injection hA with hA1 hA2
        subst hA1 hA2
        subst hx'
        rw [Hc.out] at t4
        go_wp2
        go_ret
        exact ⟨rfl, hz6⟩
      · have Hc := Lib.hid hc
        clear hc
        go_wp2_with fail
        refine (hM.out _).mono ?_
        rintro e w4 ⟨rfl, hb4⟩
        have hz4 := hz3a.trans (hb4.mono hz3a.size)
        replace qT := Lib.hid (qT.out.below hb4)
        replace rX := Lib.hid (rX.out.below hb4)
        clear hb4
        clear c0 c1 clt t0 t1 t2 t3 t4
        replace rX := Lib.hid (rX.out.alloc (.cells #[.int .i64 x.due, .int .i64 1] 28))
        replace qT := Lib.hid (qT.out.alloc (.cells #[.int .i64 x.due, .int .i64 1] 28))
        have hz4a := hz4.alloc hz4.size (.cells #[.int .i64 x.due, .int .i64 1] 28)
        have x0 := rX.out.cell (i := 0) rfl
        have x1 := rX.out.cell (i := 1) rfl
        have xl := rX.out.lt
        go_wp2_with fail
        refine (hC.out _).mono ?_
        rintro e w5 ⟨rfl, hb5⟩
        have hz5 := hz4a.trans (hb5.mono hz4a.size)
        replace qT := Lib.hid (qT.out.below hb5)
        replace rX := Lib.hid (rX.out.below hb5)
        clear hb5
        clear x0 x1 xl
        have x0 := rX.out.cell (i := 0) rfl
        have x1 := rX.out.cell (i := 1) rfl
        have xl := rX.out.lt
        go_wp2_with fail
        refine (hVx.out _).mono ?_
        rintro e w6 ⟨rfl, hb6⟩
        have hz6 := hz5.trans (hb6.mono hz5.size)
        replace qT := Lib.hid (qT.out.below hb6)
        clear hb6
        obtain ⟨b', off', x', hA, hx', hb', t0, t1, t2, t3, t4⟩ := qT.out.taskAt hk
        rw [Hx.out] at hx'
        injection hx' with hx'
        injection hA with hA
        injection hA with hA1 hA2
        subst hA1 hA2
        subst hx'
        rw [Hc.out] at t4
        go_wp2
        go_ret
        exact ⟨rfl, hz6⟩
  · go_enter Try.func9, Try.ntmps9
    go_wp2
    go_ret
    exact ⟨rfl, hz0⟩

namespace top_FnVirtualDue
set_option maxRecDepth 100000 in
theorem lifted (os : Os) (started : os.Started) (H : Type) (enc : TypeId × Value → H) :
    ReturnsInHanded {} Try.checked os 9 .any (Rows.fnVirtualDueSpec.pre6 enc Try.prog Try.f9 Rows.fnVirtualDueRow.domain false) (Rows.fnVirtualDueSpec.post enc Try.prog Try.f9 false true false false) := by
  refine returnsInHanded_of_change (C := Try.checked) ownKnob_none started (by kernel_rfl) Try.func9
    (ChangeSpec.witness6 (enc := enc) (C := Try.checked) false ⟨#[], #[.slice none 0 0], []⟩ 8 (by kernel_rfl) (by kernel_rfl) (by kernel_rfl) (by kernel_rfl)) ?_
  intro W base args ds gs before hval0 hW hcnd _
  have hval : ∀ (j : Nat) t v, Try.f9.params[j]? = some t → args[j]? = some v → Value.okWide Try.prog W .any base t v := hval0
  have hW' := hW
  obtain ⟨p, q, hA0, hV, rfl, hfz, hnd⟩ := hW
  have hA : DataW.TrodAll enc Try.prog W 0 (fun _ => true) true Try.f9.params.toList args.toList ds p := hA0
  rw [Try.params9] at hA hval
  obtain ⟨v0, vs0, d0, ds0, p0, q0, hargs, rfl, rfl, h0, r0⟩ := trodAll_cons hA
  obtain ⟨rfl, rfl, rfl⟩ := trodAll_nil r0
  obtain rfl : args = #[v0] := by cases args; simp_all
  obtain ⟨rfl, rfl⟩ := trodVars_none hV
  have k0 := h0
  have lt0 : ∀ x ∈ p0, x.block < W.heap.size := by obtain ⟨m, hm⟩ := k0; exact DataW.trod_lt m _ _ _ hm
  obtain ⟨a0, n0, c0, rfl⟩ := okWide_slice Try.underlying22 (hval 0 22 v0 rfl rfl)
  obtain ⟨x0, w0⟩ : ∃ xs, RdB W a0 n0 c0 xs := by
    obtain ⟨fuel, hf⟩ := h0
    obtain ⟨A, n, c, xs, hcs, hR⟩ := open_bytes hf
    simp [Value.cells] at hcs
    obtain ⟨rfl, rfl, rfl⟩ := hcs
    exact ⟨xs, hR⟩
  clear hA0 hval0
  refine (walk_FnVirtualDue a0 n0 c0 x0 W w0).mono fun e W' ⟨he, bel⟩ => ?_
  subst he
  exact ⟨_, rfl, _, _, _, [], _, [], hW', trodAll_mk1 (shut_bool Try.underlying4 _), (trodAll_cons_mk (Below.trod laidOut (by kernel_rfl) (of_decide_eq_true (by kernel_rfl)) k0 bel lt0) trodAll_mk0), rfl, bel.frame _, fun h => by cases h⟩

theorem over : Rows.fnVirtualDueRow.holds Try.pinned (OpenSpec.ofChange Rows.fnVirtualDueSpec) :=
  OpenClaim.holds_of_wide 9 Try.f9 rfl rfl rfl rfl rfl rfl rfl ⟨rfl, rfl, rfl, rfl, rfl⟩ rfl rfl rfl rfl rfl (by kernel_rfl) Try.func9 (by kernel_rfl)
    (of_decide_eq_true (by kernel_rfl)) (by unfold Func.isWrapper; first | (rw [if_pos (by decide +kernel)]; kernel_rfl) | (rw [if_neg (by decide +kernel)]; exact ⟨rfl, rfl⟩))
    (fun os started H enc _ => lifted os started H enc)
end top_FnVirtualDue

theorem FnVirtualDue_holds : Rows.FnVirtualDueSaid := top_FnVirtualDue.over
#print axioms FnVirtualDue_holds

end Go.Proofs.Ytdafioafbgkilaa
