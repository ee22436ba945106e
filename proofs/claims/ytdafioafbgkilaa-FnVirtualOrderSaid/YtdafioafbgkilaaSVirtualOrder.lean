/- Virtual deadlines are in order: the law returns true for every input. No condition. -/
import Derived.Test.YtdafioafbgkilaaOpen
import Derived.Test.YtdafioafbgkilaaL5L
import Derived.Test.YtdafioafbgkilaaEqS
import Derived.Test.YtdafioafbgkilaaDraw5
namespace Go.Proofs.Ytdafioafbgkilaa
open Go.ChangeShapes Go.WideShapes Go.ChangeAt Go.RowKit
set_option linter.unusedVariables false

theorem vd_some {xs : List T} {i : Int} (h : vdB xs i = true) : factB xs = true ∧ ∃ (k : Nat) (x : T), i = k ∧ k < xs.length ∧ xs[k]? = some x ∧ vdV xs i = vd1 xs x := by
  have h2 := h
  unfold vdB at h2
  rw [Bool.and_eq_true] at h2
  obtain ⟨hf, hi⟩ := h2
  unfold inB at hi
  rw [Bool.and_eq_true, decide_eq_true_eq, decide_eq_true_eq] at hi
  obtain ⟨k, rfl⟩ := Int.eq_ofNat_of_zero_le hi.1
  have hk : k < xs.length := by omega
  exact ⟨hf, k, elT xs k, rfl, hk, elT_get hk, (vd_in hf (elT_get hk)).2⟩

set_option maxRecDepth 100000 in
set_option maxHeartbeats 6400000 in
theorem walk_FnVirtualOrder (A : Option Addr) (n c : Nat) (bs : List UInt8) (w : World) (h : RdB w A n c bs) :
    Calls Try.prog 10 #[.slice A n c] w fun e w' => e = .returned (.bool true) ∧ Below w.heap.size w w' := by
  have hz0 := Below.refl w.heap.size w
  have H := Lib.hid h
  have hmx : n ≤ maxLen := Nat.le_trans h.cap h.max
  unfold maxLen at hmx
  clear h
  by_cases hn : n ≤ 1048576
  · go_enter Try.func10, Try.ntmps10
    go_wp2_with fail
    refine (drawVirtualDue_any A n c bs w H.out).mono ?_
    rintro e w1 ⟨D, m, d, xs, i, rfl, hm6, ho, hz1⟩
    have qT := Lib.hid ho.rd5
    clear ho
    go_wp2_with fail
    refine (virtualDue_impl D m d xs i w1 qT.out).mono ?_
    rintro e w2 ⟨rfl, hb2⟩
    have hz2 := hz1.trans (hb2.mono hz1.size)
    replace qT := Lib.hid (qT.out.below hb2)
    clear hb2
    have rX := Lib.hid (Blk.new w2 28 #[.int .i64 (vdV xs i).num, .int .i64 (vdV xs i).den])
    replace qT := Lib.hid (qT.out.alloc (.cells #[.int .i64 (vdV xs i).num, .int .i64 (vdV xs i).den] 28))
    have hz2a := hz2.alloc hz2.size (.cells #[.int .i64 (vdV xs i).num, .int .i64 (vdV xs i).den] 28)
    go_wp2_with fail
    refine (virtualDue_spec D m d xs i _ qT.out).mono ?_
    rintro e w3 ⟨rfl, hb3⟩
    have hz3 := hz2a.trans (hb3.mono hz2a.size)
    replace qT := Lib.hid (qT.out.below hb3)
    replace rX := Lib.hid (rX.out.below hb3)
    clear hb3
    generalize hr : vdV xs i = r at *
    have Hr := Lib.hid hr
    clear hr
    have c0 := rX.out.cell (i := 0) rfl
    have c1 := rX.out.cell (i := 1) rfl
    have clt := rX.out.lt
    replace qT := Lib.hid (qT.out.alloc (.cells #[.int .i64 r.num, .int .i64 r.den] 28))
    replace rX := Lib.hid (rX.out.alloc (.cells #[.int .i64 r.num, .int .i64 r.den] 28))
    have hz3a := hz3.alloc hz3.size (.cells #[.int .i64 r.num, .int .i64 r.den] 28)
    have hnq := fun w => neq_share r.num r.den w
    have hql := fun w => eql_share r.num r.den w
    have hee : (vdB xs i != vdB xs i) = false := by simp
    have hee2 : (vdB xs i == vdB xs i) = true := by simp
    cases hf : vdB xs i
    · clear hee hee2 hf
      go_wp2
      go_ret
      exact ⟨rfl, hz3a⟩
    · obtain ⟨hfa, k, x, rfl, hk, hxl, hV⟩ := vd_some hf
      rw [qT.out.len] at hk
      have hr := Hr.out
      rw [hV] at hr
      have HF := Lib.hid hfa
      have hxv := sv_el hfa hxl
      have Hx := Lib.hid hxl
      have i0 : (0 : Int) ≤ (k : Int) := by omega
      have i1 : (k : Int) < (m : Int) := by omega
      have HO := Lib.hid (fun (y : T) (hy : y ∈ xs) (hc : y.crit = x.crit) => vd1_order hfa hy (List.mem_of_getElem? hxl) hc)
      rw [hr] at HO
      have HRs := Lib.hid (show isShare r by rw [← hr]; exact vd1_is hfa hxv)
      clear hee hf hfa hxl hxv hV hr
      go_wp2_with fail
      generalize w3.alloc (.cells #[.int .i64 r.num, .int .i64 r.den] 28) = wB at *
      go_loopw [9] (fun iv wr => ∃ j : Nat, iv = .int .i64 j ∧ j ≤ m ∧ Below w.heap.size w wr ∧ Below wB.heap.size wB wr) (fun iv _ => m - (intOf iv).toNat)
      case atStart => exact ⟨0, rfl, Nat.zero_le _, hz3a, Below.refl _ _⟩
      case round =>
        obtain ⟨j, rfl, hj, hbel, hbB⟩ := hrel
        clear c0 c1 clt hee2 hnq hql
        by_cases hjm : j < m
        · have hyl : xs[j]? = some (elT xs j) := elT_get (by rw [qT.out.len]; exact hjm)
          generalize elT xs j = y at *
          have hyv := sv_el HF.out hyl
          have hym := List.mem_of_getElem? hyl
          obtain ⟨B1, B2⟩ := vd_in HF.out hyl
          have hSs := vd1_is HF.out hyv
          have HO' := HO.out y hym
          have b1 := Lib.hid B1
          have b2 := Lib.hid B2
          have Hy := Lib.hid hyl
          have j0 : (0 : Int) ≤ (j : Int) := by omega
          have j1 : (j : Int) < (m : Int) := by omega
          have qr := Lib.hid (qT.out.below hbB)
          clear B1 B2 hyl hym hyv
          go_wp2_with fail
          refine (virtualDue_impl D m d xs j wr qr.out).mono ?_
          rw [b1.out, b2.out]
          rintro e w6 ⟨rfl, hb6⟩
          have hz6 := hbel.trans (hb6.mono hbel.size)
          have hB6 := hbB.trans (hb6.mono hbB.size)
          generalize vd1 xs y = s at *
          have hC := Lib.hid (fun w => compare_impl s r w hSs HRs.out)
          have q6 := Lib.hid (qT.out.below hB6)
          have r6 := Lib.hid (rX.out.below hB6)
          clear hb6 hSs
          obtain ⟨b, off, x', hA, hx', hb, t0, t1, t2, t3, t4⟩ := q6.out.taskAt hk
          rw [Hx.out] at hx'
          injection hx' with hx'
          subst hA
          subst hx'
          obtain ⟨b', off', y', hA, hy', hb', u0, u1, u2, u3, u4⟩ := q6.out.taskAt hjm
          rw [Hy.out] at hy'
          injection hy' with hy'
          injection hA with hA
          injection hA with hA1 hA2
          subst hA1 hA2
          subst hy'
          have T2 := cell_regrown ((World.cell?_alloc_past (w := w6) (.cells #[.int .i64 s.num, .int .i64 s.den] 28) _ _ hb).trans t2)
          have T4 := cell_regrown ((World.cell?_alloc_past (w := w6) (.cells #[.int .i64 s.num, .int .i64 s.den] 28) _ _ hb).trans t4)
          have U2 := cell_regrown ((World.cell?_alloc_past (w := w6) (.cells #[.int .i64 s.num, .int .i64 s.den] 28) _ _ hb).trans u2)
          have U4 := cell_regrown ((World.cell?_alloc_past (w := w6) (.cells #[.int .i64 s.num, .int .i64 s.den] 28) _ _ hb).trans u4)
          have F0 := cell_regrown ((World.cell?_alloc_past (w := w6) (.cells #[.int .i64 s.num, .int .i64 s.den] 28) _ _ r6.out.lt).trans (r6.out.cell (i := 0) rfl))
          have F1 := cell_regrown ((World.cell?_alloc_past (w := w6) (.cells #[.int .i64 s.num, .int .i64 s.den] 28) _ _ r6.out.lt).trans (r6.out.cell (i := 1) rfl))
          have E0 := cell_new_regrown w6 #[.int .i64 s.num, .int .i64 s.den] 28 0 _ rfl
          have E1 := cell_new_regrown w6 #[.int .i64 s.num, .int .i64 s.den] 28 1 _ rfl
          clear t0 t1 t2 t3 t4 u0 u1 u2 u3 u4
          by_cases hc : y.crit = x.crit
          · have hord := HO' hc
            have hg : (y.crit == x.crit) = true := by simp [hc]
            rw [hc] at U4
            rw [hc] at hg
            clear HO'
            generalize cmpI (s.num * r.den) (r.num * s.den) = cc at *
            cases hq : decide (y.due < x.due)
            · rw [hq] at hord
              go_wp2_with fail
              refine wp_region_quiet_below (by kernel_rfl) (by kernel_rfl) ?_
              repeat (go_big_quiet_step ((go_at_call 31; with_reducible exact Calls.regrown_of (hC.out _))))
              refine wpQuiet_nil ?_
              intro w8 hwq
              have hbq := below_of_regrown hwq
              clear hwq
              have hz8 := (hz6.alloc hz6.size (.cells #[.int .i64 s.num, .int .i64 s.den] 28)).trans (hbq.mono (Nat.le_trans hz6.size (by simp)))
              have hB8 := (hB6.alloc hB6.size (.cells #[.int .i64 s.num, .int .i64 s.den] 28)).trans (hbq.mono (Nat.le_trans hB6.size (by simp)))
              clear hbq
              go_wp2
              go_roundw
              case rel => exact ⟨j + 1, by go_num, by omega, hz8, hB8⟩
              case measure => simp [intOf]; omega
            · rw [hq] at hord
              go_wp2_with fail
              refine wp_region_quiet_below (by kernel_rfl) (by kernel_rfl) ?_
              repeat (go_big_quiet_step ((go_at_call 31; with_reducible exact Calls.regrown_of (hC.out _))))
              refine wpQuiet_nil ?_
              intro w8 hwq
              have hbq := below_of_regrown hwq
              clear hwq
              have hz8 := (hz6.alloc hz6.size (.cells #[.int .i64 s.num, .int .i64 s.den] 28)).trans (hbq.mono (Nat.le_trans hz6.size (by simp)))
              have hB8 := (hB6.alloc hB6.size (.cells #[.int .i64 s.num, .int .i64 s.den] 28)).trans (hbq.mono (Nat.le_trans hB6.size (by simp)))
              clear hbq
              go_wp2
              go_roundw
              case rel => exact ⟨j + 1, by go_num, by omega, hz8, hB8⟩
              case measure => simp [intOf]; omega
          · have hg : (y.crit == x.crit) = false := by simp [hc]
            clear HO'
            go_wp2_with fail
            refine wp_region_quiet_below (by kernel_rfl) (by kernel_rfl) ?_
            repeat (go_big_quiet_step ((go_at_call 31; with_reducible exact Calls.regrown_of (hC.out _))))
            refine wpQuiet_nil ?_
            intro w8 hwq
            have hbq := below_of_regrown hwq
            clear hwq
            have hz8 := (hz6.alloc hz6.size (.cells #[.int .i64 s.num, .int .i64 s.den] 28)).trans (hbq.mono (Nat.le_trans hz6.size (by simp)))
            have hB8 := (hB6.alloc hB6.size (.cells #[.int .i64 s.num, .int .i64 s.den] 28)).trans (hbq.mono (Nat.le_trans hB6.size (by simp)))
            clear hbq
            go_wp2
            go_roundw
            case rel => exact ⟨j + 1, by go_num, by omega, hz8, hB8⟩
            case measure => simp [intOf]; omega
        · go_wp2
          go_ret
          exact ⟨rfl, hbel⟩
  · go_enter Try.func10, Try.ntmps10
    go_wp2
    go_ret
    exact ⟨rfl, hz0⟩

namespace top_FnVirtualOrder
set_option maxRecDepth 100000 in
theorem lifted (os : Os) (started : os.Started) (H : Type) (enc : TypeId × Value → H) :
    ReturnsInHanded {} Try.checked os 10 .any (Rows.fnVirtualOrderSpec.pre6 enc Try.prog Try.f10 Rows.fnVirtualOrderRow.domain false) (Rows.fnVirtualOrderSpec.post enc Try.prog Try.f10 false true false false) := by
  refine returnsInHanded_of_change (C := Try.checked) ownKnob_none started (by kernel_rfl) Try.func10
    (ChangeSpec.witness6 (enc := enc) (C := Try.checked) false ⟨#[], #[.slice none 0 0], []⟩ 8 (by kernel_rfl) (by kernel_rfl) (by kernel_rfl) (by kernel_rfl)) ?_
  intro W base args ds gs before hval0 hW hcnd _
  have hval : ∀ (j : Nat) t v, Try.f10.params[j]? = some t → args[j]? = some v → Value.okWide Try.prog W .any base t v := hval0
  have hW' := hW
  obtain ⟨p, q, hA0, hV, rfl, hfz, hnd⟩ := hW
  have hA : DataW.TrodAll enc Try.prog W 0 (fun _ => true) true Try.f10.params.toList args.toList ds p := hA0
  rw [Try.params10] at hA hval
  obtain ⟨v0, vs0, d0, ds0, p0, q0, hargs, rfl, rfl, h0, r0⟩ := trodAll_cons hA
  obtain ⟨rfl, rfl, rfl⟩ := trodAll_nil r0
  obtain rfl : args = #[v0] := by cases args; simp_all
  obtain ⟨rfl, rfl⟩ := trodVars_none hV
  have k0 := h0
  have lt0 : ∀ x ∈ p0, x.block < W.heap.size := by obtain ⟨m, hm⟩ := k0; exact DataW.trod_lt m _ _ _ hm
  obtain ⟨a0, n0, c0, rfl⟩ := okWide_slice Try.underlying22 (hval 0 22 v0 rfl rfl)
  obtain ⟨x0, w0⟩ : ∃ xs, RdB W a0 n0 c0 xs := by
    obtain ⟨fuel, hf⟩ := h0
    obtain ⟨A, n, c, xs, hcs, hR⟩ := open_bytes hf
    simp [Value.cells] at hcs
    obtain ⟨rfl, rfl, rfl⟩ := hcs
    exact ⟨xs, hR⟩
  clear hA0 hval0
  refine (walk_FnVirtualOrder a0 n0 c0 x0 W w0).mono fun e W' ⟨he, bel⟩ => ?_
  subst he
  exact ⟨_, rfl, _, _, _, [], _, [], hW', trodAll_mk1 (shut_bool Try.underlying4 _), (trodAll_cons_mk (Below.trod laidOut (by kernel_rfl) (of_decide_eq_true (by kernel_rfl)) k0 bel lt0) trodAll_mk0), rfl, bel.frame _, fun h => by cases h⟩

theorem over : Rows.fnVirtualOrderRow.holds Try.pinned (OpenSpec.ofChange Rows.fnVirtualOrderSpec) :=
  OpenClaim.holds_of_wide 10 Try.f10 rfl rfl rfl rfl rfl rfl rfl ⟨rfl, rfl, rfl, rfl, rfl⟩ rfl rfl rfl rfl rfl (by kernel_rfl) Try.func10 (by kernel_rfl)
    (of_decide_eq_true (by kernel_rfl)) (by unfold Func.isWrapper; first | (rw [if_pos (by decide +kernel)]; kernel_rfl) | (rw [if_neg (by decide +kernel)]; exact ⟨rfl, rfl⟩))
    (fun os started H enc _ => lifted os started H enc)
end top_FnVirtualOrder

theorem FnVirtualOrder_holds : Rows.FnVirtualOrderSaid := top_FnVirtualOrder.over
#print axioms FnVirtualOrder_holds

end Go.Proofs.Ytdafioafbgkilaa
