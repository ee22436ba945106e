/- Tasks in an order are all tasks: the law returns true for every input. No condition. -/
import Derived.Test.YthedkdajjgcocaaSOrderBack
import Derived.Test.YthedkdajjgcocaaHyper
namespace Go.Proofs.Ythedkdajjgcocaa
open Go.ChangeShapes Go.WideShapes Go.ChangeAt Go.RowKit
set_option linter.unusedVariables false

theorem putL_mem {xs : List T} {m : Nat} {o : List Int} (hx : xs.length = m) (h : isOrd m o = true) (t : T) : t ∈ putL xs o ↔ t ∈ xs := by
  constructor
  · intro ht
    obtain ⟨i, hi, rfl⟩ := List.mem_map.1 ht
    have hr := ((isOrd_iff m o).1 h).2.1 i hi
    have hlt : i.toNat < xs.length := by omega
    rw [List.getElem?_eq_getElem hlt]
    exact List.getElem_mem hlt
  · intro ht
    obtain ⟨y, hy, rfl⟩ := List.mem_iff_getElem.1 ht
    obtain ⟨i, hi, ho⟩ := isOrd_onto h y (by omega)
    refine List.mem_map.2 ⟨(y : Int), List.mem_of_getElem? ho, ?_⟩
    simp [hy]
theorem putL_at {xs : List T} {o : List Int} {k y : Nat} {x : T} (ho : o[k]? = some (y : Int)) (hx : xs[y]? = some x) : (putL xs o)[k]? = some x := by
  rw [putL, List.getElem?_map, ho]
  simp [hx]

set_option maxRecDepth 100000 in
set_option maxHeartbeats 6400000 in
theorem walk_FnPutOrder (A : Option Addr) (n c : Nat) (bs : List UInt8) (w : World) (h : RdB w A n c bs) :
    Calls Try.prog 12 #[.slice A n c] w fun e w' => e = .returned (.bool true) ∧ Below w.heap.size w w' := by
  have hz0 := Below.refl w.heap.size w
  have H := Lib.hid h
  have hmx : n ≤ maxLen := Nat.le_trans h.cap h.max
  unfold maxLen at hmx
  clear h
  by_cases hn : n ≤ 1048576
  · go_enter Try.func12, Try.ntmps12
    go_wp2_with fail
    refine (drawPutOrder_any A n c bs w H.out).mono ?_
    rintro e w1 ⟨D, m, d, xs, D', k, d', ys, rfl, hm6, hk7, hT, hI, hz1⟩
    have qT := Lib.hid hT
    have qI := Lib.hid hI
    clear hT hI
    go_wp2_with fail
    refine (putOrder_impl D D' m d k d' xs ys w1 qT.out qI.out).mono ?_
    rintro e w2 ⟨P1, k1, d1, rfl, o1, hb2⟩
    have hz2 := hz1.trans (hb2.mono hz1.size)
    have r1 := Lib.hid o1.rd
    have l1 := Lib.hid o1.len
    replace qT := Lib.hid (qT.out.below hb2)
    replace qI := Lib.hid (qI.out.below hb2)
    clear hb2 o1
    go_wp2_with fail
    refine (putOrder_spec D D' m d k d' xs ys w2 qT.out qI.out).mono ?_
    rintro e w3 ⟨P2, k2, d2, rfl, o2, hb3⟩
    have hz3 := hz2.trans (hb3.mono hz2.size)
    have r2 := Lib.hid o2.rd
    have l2 := o2.len
    have hkk : k2 = k1 := by rw [← l2, l1.out]
    subst hkk
    replace qT := Lib.hid (qT.out.below hb3)
    replace qI := Lib.hid (qI.out.below hb3)
    replace r1 := Lib.hid (r1.out.below hb3)
    clear hb3 o2 l2
    have hee : (ordB xs ys != ordB xs ys) = false := by simp
    have hee2 : (ordB xs ys == ordB xs ys) = true := by simp
    go_wp2_with fail
    refine (dmTasks_same P1 P2 k2 d1 d2 (putV xs ys) w3 r1.out r2.out).mono ?_
    rintro e w4 ⟨rfl, hb4⟩
    have hz4 := hz3.trans (hb4.mono hz3.size)
    replace qT := Lib.hid (qT.out.below hb4)
    replace qI := Lib.hid (qI.out.below hb4)
    replace r1 := Lib.hid (r1.out.below hb4)
    replace r2 := Lib.hid (r2.out.below hb4)
    clear hb4
    go_wp2_with fail
    refine (orderValid_impl D D' m d k d' xs ys w4 qT.out qI.out).mono ?_
    rintro e w5 ⟨rfl, hb5⟩
    have hz5 := hz4.trans (hb5.mono hz4.size)
    replace qT := Lib.hid (qT.out.below hb5)
    replace qI := Lib.hid (qI.out.below hb5)
    replace r1 := Lib.hid (r1.out.below hb5)
    replace r2 := Lib.hid (r2.out.below hb5)
    clear hb5
    go_wp2_with fail
    refine (orderValid_spec D D' m d k d' xs ys w5 qT.out qI.out).mono ?_
    rintro e w6 ⟨rfl, hb6⟩
    have hz6 := hz5.trans (hb6.mono hz5.size)
    replace qT := Lib.hid (qT.out.below hb6)
    replace qI := Lib.hid (qI.out.below hb6)
    replace r1 := Lib.hid (r1.out.below hb6)
    replace r2 := Lib.hid (r2.out.below hb6)
    clear hb6
    cases hok : ordB xs ys
    · have Hok := Lib.hid hok
      have hff : (false == false) = true := rfl
      clear hee hee2 hok
      go_wp2_with fail
      refine (dmTasks_same P1 P2 k2 d1 d2 (putV xs ys) w6 r1.out r2.out).mono ?_
      rintro e w7 ⟨rfl, hb7⟩
      have hz7 := hz6.trans (hb7.mono hz6.size)
      replace qT := Lib.hid (qT.out.below hb7)
      replace qI := Lib.hid (qI.out.below hb7)
      clear hb7
      go_wp2_with fail
      refine (orderValid_impl D D' m d k d' xs ys w7 qT.out qI.out).mono ?_
      rw [Hok.out]
      rintro e w8 ⟨rfl, hb8⟩
      have hz8 := hz7.trans (hb8.mono hz7.size)
      replace qT := Lib.hid (qT.out.below hb8)
      replace qI := Lib.hid (qI.out.below hb8)
      clear hb8
      go_wp2_with fail
      refine (orderValid_spec D D' m d k d' xs ys w8 qT.out qI.out).mono ?_
      rw [Hok.out]
      rintro e w9 ⟨rfl, hb9⟩
      have hz9 := hz8.trans (hb9.mono hz8.size)
      clear hb9
      go_wp2
      go_ret
      exact ⟨rfl, hz9⟩
    · have Hok := Lib.hid hok
      have hxl := qT.out.len
      have hyl := qI.out.len
      have hin := ordB_in hok
      have hkm : k = m := by omega
      subst hkm
      have hpl := l1.out
      rw [putV_yes hok, putL_len] at hpl
      have hk2 : k2 = k := by omega
      subst hk2
      have hm5 : k2 ≤ 5 := by omega
      have HO := Lib.hid (show isOrd k2 ys = true by rw [← hxl]; simp only [ordB, Bool.and_eq_true] at hok; exact hok.2)
      have Hin := Lib.hid hin.2.2
      have hXL := Lib.hid hxl
      have hPV := Lib.hid (putV_yes hok)
      clear hok hxl hyl hin hpl r2 l1
      go_wp2_with fail
      go_loopw [9] (fun i wr => ∃ j : Nat, i = .int .i64 j ∧ j ≤ k2 ∧ Below w6.heap.size w6 wr) (fun i _ => k2 - (intOf i).toNat)
      case atStart => exact ⟨0, rfl, Nat.zero_le _, Below.refl _ _⟩
      case round =>
        obtain ⟨j, rfl, hj, hbel⟩ := hrel
        have hsz := hbel.size
        by_cases hjm : j < k2
        · obtain ⟨b', off', i, rfl, hi', hb', c0⟩ := (qI.out.below hbel).intAt hjm
          have hr := Hin.out i (List.mem_of_getElem? hi')
          obtain ⟨y, rfl⟩ := Int.eq_ofNat_of_zero_le hr.1
          have hyn : y < k2 := by have := hXL.out; omega
          obtain ⟨b, off, x, rfl, hx, hb, d0, d1, d2, d3, d4⟩ := (qT.out.below hbel).taskAt hyn
          obtain ⟨b2, off2, x2, rfl, hx2, hb2, f0, f1, f2, f3, f4⟩ := (r1.out.below hbel).taskAt hjm
          rw [hPV.out, putL_at hi' hx] at hx2
          injection hx2 with hx2
          subst hx2
          have i0 : (0 : Int) ≤ (y : Int) := by omega
          have i1 : (y : Int) < (k2 : Int) := by omega
          have i2 : (0 : Int) ≤ (j : Int) := by omega
          have i3 : (j : Int) < (k2 : Int) := by omega
          have heq := fun w => neq_task x w
          clear hi' hr hx
          go_wp2_with fail
          go_quiet (fail)
          go_wp2
          go_roundw
          case rel => exact ⟨j + 1, by go_num, by omega, ⟨hbel.os, hbel.tape, hbel.output, hbel.size, hbel.block⟩⟩
          case measure => simp [intOf]; omega
        · have hjm' : j = k2 := by omega
          subst hjm'
          have hzr := hz6.trans (hbel.mono hz6.size)
          replace qT := Lib.hid (qT.out.below hbel)
          replace r1 := Lib.hid (r1.out.below hbel)
          have hSV := Lib.hid (show svB (putV xs ys) = true by rw [hPV.out]; exact svB_put Hok.out)
          have hHY := Lib.hid (show hyI (putV xs ys) = hyI xs by
            unfold hyI
            rw [hSV.out, sv_of_ord Hok.out, hPV.out, hyN_same (putL_mem hXL.out HO.out)])
          have hzz : (hyI xs == hyI xs) = true := by simp
          have hjj : ((j : Int) == (j : Int)) = true := by simp
          clear hbel
          go_wp2_with fail
          refine (setValid_impl P1 j d1 (putV xs ys) wr r1.out).mono ?_
          rw [hSV.out]
          rintro e w7 ⟨rfl, hb7⟩
          have hz7 := hzr.trans (hb7.mono hzr.size)
          replace qT := Lib.hid (qT.out.below hb7)
          replace r1 := Lib.hid (r1.out.below hb7)
          clear hb7
          go_wp2_with fail
          refine (hyperOf_impl P1 j d1 (putV xs ys) w7 r1.out).mono ?_
          rw [hHY.out]
          rintro e w8 ⟨rfl, hb8⟩
          have hz8 := hz7.trans (hb8.mono hz7.size)
          replace qT := Lib.hid (qT.out.below hb8)
          clear hb8
          go_wp2_with fail
          refine (hyperOf_impl D j d xs w8 qT.out).mono ?_
          rintro e w9 ⟨rfl, hb9⟩
          have hz9 := hz8.trans (hb9.mono hz8.size)
          clear hb9
          go_wp2
          go_ret
          exact ⟨rfl, hz9⟩
  · go_enter Try.func12, Try.ntmps12
    go_wp2
    go_ret
    exact ⟨rfl, hz0⟩

namespace top_FnPutOrder
set_option maxRecDepth 100000 in
theorem lifted (os : Os) (started : os.Started) (H : Type) (enc : TypeId × Value → H) :
    ReturnsInHanded {} Try.checked os 12 .any (Rows.fnPutOrderSpec.pre6 enc Try.prog Try.f12 Rows.fnPutOrderRow.domain false) (Rows.fnPutOrderSpec.post enc Try.prog Try.f12 false true false false) := by
  refine returnsInHanded_of_change (C := Try.checked) ownKnob_none started (by kernel_rfl) Try.func12
    (ChangeSpec.witness6 (enc := enc) (C := Try.checked) false ⟨#[], #[.slice none 0 0], []⟩ 8 (by kernel_rfl) (by kernel_rfl) (by kernel_rfl) (by kernel_rfl)) ?_
  intro W base args ds gs before hval0 hW hcnd _
  have hval : ∀ (j : Nat) t v, Try.f12.params[j]? = some t → args[j]? = some v → Value.okWide Try.prog W .any base t v := hval0
  have hW' := hW
  obtain ⟨p, q, hA0, hV, rfl, hfz, hnd⟩ := hW
  have hA : DataW.TrodAll enc Try.prog W 0 (fun _ => true) true Try.f12.params.toList args.toList ds p := hA0
  rw [Try.params12] at hA hval
  obtain ⟨v0, vs0, d0, ds0, p0, q0, hargs, rfl, rfl, h0, r0⟩ := trodAll_cons hA
  obtain ⟨rfl, rfl, rfl⟩ := trodAll_nil r0
  obtain rfl : args = #[v0] := by cases args; simp_all
  obtain ⟨rfl, rfl⟩ := trodVars_none hV
  have k0 := h0
  have lt0 : ∀ x ∈ p0, x.block < W.heap.size := by obtain ⟨m, hm⟩ := k0; exact DataW.trod_lt m _ _ _ hm
  obtain ⟨a0, n0, c0, rfl⟩ := okWide_slice Try.underlying48 (hval 0 48 v0 rfl rfl)
  obtain ⟨x0, w0⟩ : ∃ xs, RdB W a0 n0 c0 xs := by
    obtain ⟨fuel, hf⟩ := h0
    obtain ⟨A, n, c, xs, hcs, hR⟩ := open_bytes hf
    simp [Value.cells] at hcs
    obtain ⟨rfl, rfl, rfl⟩ := hcs
    exact ⟨xs, hR⟩
  clear hA0 hval0
  refine (walk_FnPutOrder a0 n0 c0 x0 W w0).mono fun e W' ⟨he, bel⟩ => ?_
  subst he
  exact ⟨_, rfl, _, _, _, [], _, [], hW', trodAll_mk1 (shut_bool Try.underlying4 _), (trodAll_cons_mk (Below.trod laidOut (by kernel_rfl) (of_decide_eq_true (by kernel_rfl)) k0 bel lt0) trodAll_mk0), rfl, bel.frame _, fun h => by cases h⟩

theorem over : Rows.fnPutOrderRow.holds Try.pinned (OpenSpec.ofChange Rows.fnPutOrderSpec) :=
  OpenClaim.holds_of_wide 12 Try.f12 rfl rfl rfl rfl rfl rfl rfl ⟨rfl, rfl, rfl, rfl, rfl⟩ rfl rfl rfl rfl rfl (by kernel_rfl) Try.func12 (by kernel_rfl)
    (of_decide_eq_true (by kernel_rfl)) (by unfold Func.isWrapper; first | (rw [if_pos (by decide +kernel)]; kernel_rfl) | (rw [if_neg (by decide +kernel)]; exact ⟨rfl, rfl⟩))
    (fun os started H enc _ => lifted os started H enc)
end top_FnPutOrder

theorem FnPutOrder_holds : Rows.FnPutOrderSaid := top_FnPutOrder.over
#print axioms FnPutOrder_holds

end Go.Proofs.Ythedkdajjgcocaa
