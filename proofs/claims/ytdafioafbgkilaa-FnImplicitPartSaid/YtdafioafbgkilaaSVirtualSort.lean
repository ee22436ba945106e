/- Order does not matter: the law returns true for every input. No condition. -/
import Derived.Test.YtdafioafbgkilaaOpen
import Derived.Test.YtdafioafbgkilaaSortI
import Derived.Test.YtdafioafbgkilaaL5L
import Derived.Test.YtdafioafbgkilaaL5W
import Derived.Test.YtdafioafbgkilaaEqS
import Derived.Test.YtdafioafbgkilaaDraw5
namespace Go.Proofs.Ytdafioafbgkilaa
open Go.ChangeShapes Go.WideShapes Go.ChangeAt Go.RowKit
set_option linter.unusedVariables false

theorem all_permS {xs ys : List T} (f : T → Bool) (hp : xs.Perm ys) : ys.all f = xs.all f := by
  rw [Bool.eq_iff_iff, List.all_eq_true, List.all_eq_true]
  exact ⟨fun h x hx => h x (hp.mem_iff.1 hx), fun h x hx => h x (hp.mem_iff.2 hx)⟩
theorem sv_permS {xs ys : List T} (hp : xs.Perm ys) : svB ys = svB xs := by
  unfold svB; rw [hp.length_eq, all_permS tvB hp]
theorem imp_permS {xs ys : List T} (hp : xs.Perm ys) : impB ys = impB xs := by
  unfold impB; rw [sv_permS hp, all_permS dueB hp]
theorem fact_permS {xs ys : List T} (hp : xs.Perm ys) : plainB ys = plainB xs ∧ factB ys = factB xs ∧ factV ys = factV xs ∧ virtB ys = virtB xs := by
  have h1 : loA ys = loA xs := (sc_perm hp).symm
  have h2 : loB ys = loB xs := (sc_perm hp).symm
  have h3 : hiH ys = hiH xs := (sc_perm hp).symm
  have h4 : plainB ys = plainB xs := by unfold plainB; rw [imp_permS hp, h1, h3]
  have h5 : factB ys = factB xs := by unfold factB; rw [imp_permS hp, h4, h1, h2]
  exact ⟨h4, h5, by unfold factV; rw [h5, h4, h1, h2], by unfold virtB; rw [h5, h4, h1, h2, h3]⟩

set_option maxRecDepth 100000 in
set_option maxHeartbeats 6400000 in
theorem walk_FnVirtualSort (A : Option Addr) (n c : Nat) (bs : List UInt8) (w : World) (h : RdB w A n c bs) :
    Calls Try.prog 3 #[.slice A n c] w fun e w' => e = .returned (.bool true) ∧ Below w.heap.size w w' := by
  have hz0 := Below.refl w.heap.size w
  have H := Lib.hid h
  have hmx : n ≤ maxLen := Nat.le_trans h.cap h.max
  unfold maxLen at hmx
  clear h
  by_cases hn : n ≤ 1048576
  · go_enter Try.func3, Try.ntmps3
    go_wp2_with fail
    refine (drawHoldsVirtual_any A n c bs w H.out).mono ?_
    rintro e w1 ⟨D, m, d, xs, rfl, hm6, ho, hz1⟩
    have qT := Lib.hid ho.rd5
    clear ho
    have HV1 := Lib.hid (fun w h => holdsVirtual_impl D m d xs w h)
    have HV2 := Lib.hid (fun w h => holdsVirtual_spec D m d xs w h)
    have HF1 := Lib.hid (fun w h => factorOf_impl D m d xs w h)
    have HW := Lib.hid (fun A n c ys w h (hp : xs.Perm ys) => show Calls Try.prog 14 #[.slice A n c] w (fun e w' => e = .returned (.bool (virtB xs)) ∧ Below w.heap.size w w') from by
      have := holdsVirtual_impl A n c ys w h
      rw [(fact_permS hp).2.2.2] at this
      exact this)
    have HF2 := Lib.hid (fun A n c ys w h (hp : xs.Perm ys) => show Calls Try.prog 18 #[.slice A n c] w (fun e w' => e = .returned (.tuple #[.agg #[.int .i64 (factV xs).num, .int .i64 (factV xs).den], .bool (factB xs)]) ∧ Below w.heap.size w w') from by
      have := factorOf_impl A n c ys w h
      rw [(fact_permS hp).2.2.1, (fact_permS hp).2.1] at this
      exact this)
    generalize virtB xs = v at *
    generalize factV xs = f at *
    generalize factB xs = g at *
    have hee : (v != v) = false := by simp
    have hee2 : (v == v) = true := by simp
    have hgg : (g == g) = true := by simp
    have hE := fun w => eql_share f.num f.den w
    go_wp2_with fail
    refine (HV1.out w1 qT.out).mono ?_
    rintro e w2 ⟨rfl, hb2⟩
    have hz2 := hz1.trans (hb2.mono hz1.size)
    replace qT := Lib.hid (qT.out.below hb2)
    clear hb2
    go_wp2_with fail
    refine (HV2.out w2 qT.out).mono ?_
    rintro e w3 ⟨rfl, hb3⟩
    have hz3 := hz2.trans (hb3.mono hz2.size)
    replace qT := Lib.hid (qT.out.below hb3)
    clear hb3
    cases hs : svB xs
    · have Hs := Lib.hid hs
      clear hs
      go_wp2_with fail
      refine (setValid_impl D m d xs w3 qT.out).mono ?_
      rw [Hs.out]
      rintro e w4 ⟨rfl, hb4⟩
      have hz4 := hz3.trans (hb4.mono hz3.size)
      replace qT := Lib.hid (qT.out.below hb4)
      clear hb4
      go_wp2_with fail
      refine (HV2.out w4 qT.out).mono ?_
      rintro e w5 ⟨rfl, hb5⟩
      have hz5 := hz4.trans (hb5.mono hz4.size)
      clear hb5
      go_wp2
      go_ret
      exact ⟨rfl, hz5⟩
    · have Hs := Lib.hid hs
      clear hs
      go_wp2_with fail
      refine (setValid_impl D m d xs w3 qT.out).mono ?_
      rw [Hs.out]
      rintro e w4 ⟨rfl, hb4⟩
      have hz4 := hz3.trans (hb4.mono hz3.size)
      replace qT := Lib.hid (qT.out.below hb4)
      clear hb4
      go_wp2_with fail
      refine (sortDue_impl D m d xs w4 qT.out Hs.out).mono ?_
      rintro e w5 ⟨D', d', ys, rfl, o5, hp, hb5⟩
      have hz5 := hz4.trans (hb5.mono hz4.size)
      replace qT := Lib.hid (qT.out.below hb5)
      have qY := Lib.hid o5.rdS
      have HW := Lib.hid (fun w h => HW.out D' m d' ys w h hp)
      have HF2 := Lib.hid (fun w h => HF2.out D' m d' ys w h hp)
      clear hb5 o5 hp HV1 HV2
      go_wp2_with fail
      refine (HF1.out w5 qT.out).mono ?_
      rintro e w6 ⟨rfl, hb6⟩
      have hz6 := hz5.trans (hb6.mono hz5.size)
      replace qY := Lib.hid (qY.out.below hb6)
      clear hb6
      have rX := Lib.hid (Blk.new w6 28 #[.int .i64 f.num, .int .i64 f.den])
      replace qY := Lib.hid (qY.out.alloc (.cells #[.int .i64 f.num, .int .i64 f.den] 28))
      have hz6a := hz6.alloc hz6.size (.cells #[.int .i64 f.num, .int .i64 f.den] 28)
      go_wp2_with fail
      refine (HF2.out _ qY.out).mono ?_
      rintro e w7 ⟨rfl, hb7⟩
      have hz7 := hz6a.trans (hb7.mono hz6a.size)
      replace qY := Lib.hid (qY.out.below hb7)
      replace rX := Lib.hid (rX.out.below hb7)
      clear hb7
      have rY := Lib.hid (Blk.new w7 28 #[.int .i64 f.num, .int .i64 f.den])
      replace qY := Lib.hid (qY.out.alloc (.cells #[.int .i64 f.num, .int .i64 f.den] 28))
      replace rX := Lib.hid (rX.out.alloc (.cells #[.int .i64 f.num, .int .i64 f.den] 28))
      have hz7a := hz7.alloc hz7.size (.cells #[.int .i64 f.num, .int .i64 f.den] 28)
      go_wp2_with fail
      refine (HW.out _ qY.out).mono ?_
      rintro e w8 ⟨rfl, hb8⟩
      have hz8 := hz7a.trans (hb8.mono hz7a.size)
      replace rX := Lib.hid (rX.out.below hb8)
      replace rY := Lib.hid (rY.out.below hb8)
      clear hb8
      have x0 := rX.out.cell (i := 0) rfl
      have x1 := rX.out.cell (i := 1) rfl
      have y0 := rY.out.cell (i := 0) rfl
      have y1 := rY.out.cell (i := 1) rfl
      go_wp2
      go_ret
      exact ⟨rfl, hz8⟩
  · go_enter Try.func3, Try.ntmps3
    go_wp2
    go_ret
    exact ⟨rfl, hz0⟩

namespace top_FnVirtualSort
set_option maxRecDepth 100000 in
theorem lifted (os : Os) (started : os.Started) (H : Type) (enc : TypeId × Value → H) :
    ReturnsInHanded {} Try.checked os 3 .any (Rows.fnVirtualSortSpec.pre6 enc Try.prog Try.f3 Rows.fnVirtualSortRow.domain false) (Rows.fnVirtualSortSpec.post enc Try.prog Try.f3 false true false false) := by
  refine returnsInHanded_of_change (C := Try.checked) ownKnob_none started (by kernel_rfl) Try.func3
    (ChangeSpec.witness6 (enc := enc) (C := Try.checked) false ⟨#[], #[.slice none 0 0], []⟩ 8 (by kernel_rfl) (by kernel_rfl) (by kernel_rfl) (by kernel_rfl)) ?_
  intro W base args ds gs before hval0 hW hcnd _
  have hval : ∀ (j : Nat) t v, Try.f3.params[j]? = some t → args[j]? = some v → Value.okWide Try.prog W .any base t v := hval0
  have hW' := hW
  obtain ⟨p, q, hA0, hV, rfl, hfz, hnd⟩ := hW
  have hA : DataW.TrodAll enc Try.prog W 0 (fun _ => true) true Try.f3.params.toList args.toList ds p := hA0
  rw [Try.params3] at hA hval
  obtain ⟨v0, vs0, d0, ds0, p0, q0, hargs, rfl, rfl, h0, r0⟩ := trodAll_cons hA
  obtain ⟨rfl, rfl, rfl⟩ := trodAll_nil r0
  obtain rfl : args = #[v0] := by cases args; simp_all
  obtain ⟨rfl, rfl⟩ := trodVars_none hV
  have k0 := h0
  have lt0 : ∀ x ∈ p0, x.block < W.heap.size := by obtain ⟨m, hm⟩ := k0; exact DataW.trod_lt m _ _ _ hm
  obtain ⟨a0, n0, c0, rfl⟩ := okWide_slice Try.underlying22 (hval 0 22 v0 rfl rfl)
  obtain ⟨x0, w0⟩ : ∃ xs, RdB W a0 n0 c0 xs := by
    obtain ⟨fuel, hf⟩ := h0
    obtain ⟨A, n, c, xs, hcs, hR⟩ := open_bytes hf
    simp [Value.cells] at hcs
    obtain ⟨rfl, rfl, rfl⟩ := hcs
    exact ⟨xs, hR⟩
  clear hA0 hval0
  refine (walk_FnVirtualSort a0 n0 c0 x0 W w0).mono fun e W' ⟨he, bel⟩ => ?_
  subst he
  exact ⟨_, rfl, _, _, _, [], _, [], hW', trodAll_mk1 (shut_bool Try.underlying4 _), (trodAll_cons_mk (Below.trod laidOut (by kernel_rfl) (of_decide_eq_true (by kernel_rfl)) k0 bel lt0) trodAll_mk0), rfl, bel.frame _, fun h => by cases h⟩

theorem over : Rows.fnVirtualSortRow.holds Try.pinned (OpenSpec.ofChange Rows.fnVirtualSortSpec) :=
  OpenClaim.holds_of_wide 3 Try.f3 rfl rfl rfl rfl rfl rfl rfl ⟨rfl, rfl, rfl, rfl, rfl⟩ rfl rfl rfl rfl rfl (by kernel_rfl) Try.func3 (by kernel_rfl)
    (of_decide_eq_true (by kernel_rfl)) (by unfold Func.isWrapper; first | (rw [if_pos (by decide +kernel)]; kernel_rfl) | (rw [if_neg (by decide +kernel)]; exact ⟨rfl, rfl⟩))
    (fun os started H enc _ => lifted os started H enc)
end top_FnVirtualSort

theorem FnVirtualSort_holds : Rows.FnVirtualSortSaid := top_FnVirtualSort.over
#print axioms FnVirtualSort_holds

end Go.Proofs.Ytdafioafbgkilaa
