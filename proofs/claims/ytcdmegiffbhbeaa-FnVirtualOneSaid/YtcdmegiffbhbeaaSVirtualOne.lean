/- One task alone holds with virtual deadlines: the law returns true for every input. No condition. -/
import Derived.Test.YtcdmegiffbhbeaaOpen
import Derived.Test.YtcdmegiffbhbeaaVDue
import Derived.Test.YtcdmegiffbhbeaaDraw5
namespace Go.Proofs.Ytcdmegiffbhbeaa
open Go.ChangeShapes Go.WideShapes Go.ChangeAt Go.RowKit
set_option linter.unusedVariables false

theorem red_over_one {n : Int} (hn : 0 ≤ n) : red n 1 = ⟨n, 1⟩ := by
  unfold red
  have h : Int.gcd n 1 = 1 := by simp
  rw [h]; simp
theorem sc1_le {c : Bool} {f : T → Int} (hf : Nd f) {t : T} (ht : tvB t = true) : sc1 c f t ≤ LL := by
  unfold sc1
  split
  · have h1 := hf t ht
    have h2 := tv_every ht
    have h3 := LL_div h2.1 h2.2
    have h4 : 0 ≤ LL / t.every := Int.ediv_nonneg (by decide) (by omega)
    have h5 : f t * (LL / t.every) ≤ t.every * (LL / t.every) := Int.mul_le_mul_of_nonneg_right h1.2 h4
    rw [Int.mul_comm t.every, h3] at h5
    exact h5
  · exact Int.le_trans (by omega) LL_pos
theorem one_plain {x : T} (hv : tvB x = true) (hd : x.due = x.every) : plainB [x] = true := by
  have hs : svB [x] = true := by simp [svB, hv]
  have hi : impB [x] = true := by simp [impB, hs, dueB, hd]
  have h1 := sc1_le (c := false) nd_low hv
  have h2 := sc1_le (c := true) nd_high hv
  have hle : loA [x] + hiH [x] ≤ LL := by
    unfold loA hiH
    rw [sc_cons, sc_nil, sc_cons, sc_nil]
    cases hc : x.crit
    · have : sc1 true T.high x = 0 := by simp [sc1, hc]
      omega
    · have : sc1 false T.low x = 0 := by simp [sc1, hc]
      omega
  simp [plainB, hi, hle]
theorem one_due {x : T} (hv : tvB x = true) (hd : x.due = x.every) : vdB [x] 0 = true ∧ vdV [x] 0 = ⟨x.due, 1⟩ := by
  have hp := one_plain hv hd
  have hf := factB_2 (plain_imp hp) hp
  have h1 := vdB_yes (xs := [x]) (k := 0) (t := x) hf.1 rfl
  have hx := (tvB_iff x).1 hv
  refine ⟨h1.1, ?_⟩
  cases hc : x.crit
  · exact h1.2.2 hc
  · have := h1.2.1 hc
    rw [hf.2] at this
    have e : (0 : Int) = ((0 : Nat) : Int) := rfl
    rw [e, this]
    show red (1 * x.due) 1 = ⟨x.due, 1⟩
    rw [Int.one_mul, red_over_one (by omega)]

set_option maxRecDepth 100000 in
set_option maxHeartbeats 6400000 in
theorem walk_FnVirtualOne (A : Option Addr) (n c : Nat) (bs : List UInt8) (w : World) (h : RdB w A n c bs) :
    Calls Try.prog 4 #[.slice A n c] w fun e w' => e = .returned (.bool true) ∧ Below w.heap.size w w' := by
  have hz0 := Below.refl w.heap.size w
  have H := Lib.hid h
  have hmx : n ≤ maxLen := Nat.le_trans h.cap h.max
  unfold maxLen at hmx
  clear h
  by_cases hn : n ≤ 1048576
  · go_enter Try.func4, Try.ntmps4
    go_wp2_with fail
    refine (drawImplicit_any A n c bs w H.out).mono ?_
    rintro e w1 ⟨D, m, d, xs, rfl, hm6, ho, hz1⟩
    have qT := Lib.hid ho.rd5
    clear ho
    go_wp2_with fail
    refine (implicit_impl D m d xs w1 qT.out).mono ?_
    rintro e w2 ⟨rfl, hb2⟩
    have hz2 := hz1.trans (hb2.mono hz1.size)
    replace qT := Lib.hid (qT.out.below hb2)
    clear hb2
    have hee : (impB xs != impB xs) = false := by simp
    have hee2 : (impB xs == impB xs) = true := by simp
    go_wp2_with fail
    refine (implicit_spec D m d xs w2 qT.out).mono ?_
    rintro e w3 ⟨rfl, hb3⟩
    have hz3 := hz2.trans (hb3.mono hz2.size)
    replace qT := Lib.hid (qT.out.below hb3)
    clear hb3
    cases hi : impB xs
    · have Hi := Lib.hid hi
      clear hi hee hee2
      go_wp2_with fail
      refine (implicit_spec D m d xs w3 qT.out).mono ?_
      rw [Hi.out]
      rintro e w4 ⟨rfl, hb4⟩
      have hz4 := hz3.trans (hb4.mono hz3.size)
      clear hb4
      go_wp2
      go_ret
      exact ⟨rfl, hz4⟩
    · by_cases hm0 : m = 0
      · have Hi := Lib.hid hi
        subst hm0
        clear hi hee hee2
        go_wp2_with fail
        refine (implicit_spec D 0 d xs w3 qT.out).mono ?_
        rw [Hi.out]
        rintro e w4 ⟨rfl, hb4⟩
        have hz4 := hz3.trans (hb4.mono hz3.size)
        clear hb4
        go_wp2
        go_ret
        exact ⟨rfl, hz4⟩
      · have hm1 : 1 ≤ m := by omega
        have hmb : ((m : Int) == 0) = false := by simp; omega
        obtain ⟨b, off, x, hA, hx, hb, c0, c1, c2, c3, c4⟩ := qT.out.taskAt (i := 0) (by omega)
        have hv := (sv_all (imp_sv hi)).2 x (List.mem_of_getElem? hx)
        have hd : x.due = x.every := by
          simp only [impB, Bool.and_eq_true, List.all_eq_true] at hi
          have := hi.2 x (List.mem_of_getElem? hx)
          simpa [dueB] using this
        have hp := one_plain hv hd
        have hP := Lib.hid hp
        have hF := Lib.hid (factB_2 (plain_imp hp) hp)
        have hV := Lib.hid (virtB_2 hF.out.1 hp)
        have hO := Lib.hid (one_due hv hd)
        have hX : xs.take 1 = [x] := by
          cases xs with
          | nil => simp at hx
          | cons y ys => simp at hx; simp [hx]
        have q1 := qT.out.take (m := 1) (by omega)
        rw [hX] at q1
        replace q1 := Lib.hid q1
        have hcap : m ≤ d := qT.out.cap
        have hmax : d ≤ maxLen := qT.out.max
        unfold maxLen at hmax
        rw [Nat.zero_mul, Nat.add_zero] at c2
        subst hA
        clear hi hee hee2 hx hv hd hp hX c0 c1 c3 c4 hm0
        go_wp2_with fail
        refine (virtualDue_impl _ 1 d [x] 0 w3 q1.out).mono ?_
        rw [hO.out.1, hO.out.2]
        rintro e w4 ⟨rfl, hb4⟩
        have hz4 := hz3.trans (hb4.mono hz3.size)
        replace q1 := (q1.out.below hb4).alloc (.cells #[.int .i64 x.due, .int .i64 1] 27)
        have hz4a := hz4.alloc hz4.size (.cells #[.int .i64 x.due, .int .i64 1] 27)
        have hbw : b < w4.heap.size := Nat.lt_of_lt_of_le hb hb4.size
        have k2 := cell_regrown ((World.cell?_alloc_past (w := w4) (.cells #[.int .i64 x.due, .int .i64 1] 27) _ _ hbw).trans ((hb4.cell (p := ⟨b, off + 2, none⟩) hb).trans c2))
        have E0 := cell_new_regrown w4 #[.int .i64 x.due, .int .i64 1] 27 0 _ rfl
        have E1 := cell_new_regrown w4 #[.int .i64 x.due, .int .i64 1] 27 1 _ rfl
        have hQ := Lib.hid (fun dd os => Calls.regrown_of (holdsPlain_impl _ 1 d [x] _ (q1.regrown dd os)))
        rw [hP.out] at hQ
        have hW := Lib.hid (fun dd os => Calls.regrown_of (holdsVirtual_impl _ 1 d [x] _ (q1.regrown dd os)))
        rw [hV.out] at hW
        have hxx : (x.due == x.due) = true := by simp
        have i1 : (0 : Int) < (m : Int) := by omega
        clear hb4 q1 c2
        go_wp2_with fail
        refine wp_region_quiet_below (by kernel_rfl) (by kernel_rfl) ?_
        repeat (go_big_quiet_step ((first | (go_at_call 19; exact hQ.out _ _) | (go_at_call 20; exact hW.out _ _))))
        refine wpQuiet_nil ?_
        intro w5 hwq
        have hbq := below_of_regrown hwq
        clear hwq
        go_wp2
        go_ret
        exact ⟨rfl, hz4a.trans (hbq.mono hz4a.size)⟩
  · go_enter Try.func4, Try.ntmps4
    go_wp2
    go_ret
    exact ⟨rfl, hz0⟩

namespace top_FnVirtualOne
set_option maxRecDepth 100000 in
theorem lifted (os : Os) (started : os.Started) (H : Type) (enc : TypeId × Value → H) :
    ReturnsInHanded {} Try.checked os 4 .any (Rows.fnVirtualOneSpec.pre6 enc Try.prog Try.f4 Rows.fnVirtualOneRow.domain false) (Rows.fnVirtualOneSpec.post enc Try.prog Try.f4 false true false false) := by
  refine returnsInHanded_of_change (C := Try.checked) ownKnob_none started (by kernel_rfl) Try.func4
    (ChangeSpec.witness6 (enc := enc) (C := Try.checked) false ⟨#[], #[.slice none 0 0], []⟩ 8 (by kernel_rfl) (by kernel_rfl) (by kernel_rfl) (by kernel_rfl)) ?_
  intro W base args ds gs before hval0 hW hcnd _
  have hval : ∀ (j : Nat) t v, Try.f4.params[j]? = some t → args[j]? = some v → Value.okWide Try.prog W .any base t v := hval0
  have hW' := hW
  obtain ⟨p, q, hA0, hV, rfl, hfz, hnd⟩ := hW
  have hA : DataW.TrodAll enc Try.prog W 0 (fun _ => true) true Try.f4.params.toList args.toList ds p := hA0
  rw [Try.params4] at hA hval
  obtain ⟨v0, vs0, d0, ds0, p0, q0, hargs, rfl, rfl, h0, r0⟩ := trodAll_cons hA
  obtain ⟨rfl, rfl, rfl⟩ := trodAll_nil r0
  obtain rfl : args = #[v0] := by cases args; simp_all
  obtain ⟨rfl, rfl⟩ := trodVars_none hV
  have k0 := h0
  have lt0 : ∀ x ∈ p0, x.block < W.heap.size := by obtain ⟨m, hm⟩ := k0; exact DataW.trod_lt m _ _ _ hm
  obtain ⟨a0, n0, c0, rfl⟩ := okWide_slice Try.underlying22 (hval 0 22 v0 rfl rfl)
  obtain ⟨x0, w0⟩ : ∃ xs, RdB W a0 n0 c0 xs := by
    obtain ⟨fuel, hf⟩ := h0
    obtain ⟨A, n, c, xs, hcs, hR⟩ := open_bytes hf
    simp [Value.cells] at hcs
    obtain ⟨rfl, rfl, rfl⟩ := hcs
    exact ⟨xs, hR⟩
  clear hA0 hval0
  refine (walk_FnVirtualOne a0 n0 c0 x0 W w0).mono fun e W' ⟨he, bel⟩ => ?_
  subst he
  exact ⟨_, rfl, _, _, _, [], _, [], hW', trodAll_mk1 (shut_bool Try.underlying4 _), (trodAll_cons_mk (Below.trod laidOut (by kernel_rfl) (of_decide_eq_true (by kernel_rfl)) k0 bel lt0) trodAll_mk0), rfl, bel.frame _, fun h => by cases h⟩

theorem over : Rows.fnVirtualOneRow.holds Try.pinned (OpenSpec.ofChange Rows.fnVirtualOneSpec) :=
  OpenClaim.holds_of_wide 4 Try.f4 rfl rfl rfl rfl rfl rfl rfl ⟨rfl, rfl, rfl, rfl, rfl⟩ rfl rfl rfl rfl rfl (by kernel_rfl) Try.func4 (by kernel_rfl)
    (of_decide_eq_true (by kernel_rfl)) (by unfold Func.isWrapper; first | (rw [if_pos (by decide +kernel)]; kernel_rfl) | (rw [if_neg (by decide +kernel)]; exact ⟨rfl, rfl⟩))
    (fun os started H enc _ => lifted os started H enc)
end top_FnVirtualOne

theorem FnVirtualOne_holds : Rows.FnVirtualOneSaid := top_FnVirtualOne.over
#print axioms FnVirtualOne_holds

end Go.Proofs.Ytcdmegiffbhbeaa
