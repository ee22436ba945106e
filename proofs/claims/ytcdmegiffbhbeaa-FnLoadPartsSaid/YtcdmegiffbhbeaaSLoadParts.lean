/- The load of a part is no greater than that of all: the law returns true for every input. No condition. -/
import Derived.Test.YtcdmegiffbhbeaaOpen
import Derived.Test.YtcdmegiffbhbeaaL5S
import Derived.Test.YtcdmegiffbhbeaaEqS
import Derived.Test.YtcdmegiffbhbeaaDraw5
namespace Go.Proofs.Ytcdmegiffbhbeaa
open Go.ChangeShapes Go.WideShapes Go.ChangeAt Go.RowKit
set_option linter.unusedVariables false

theorem sc_tail_le {c : Bool} {f : T → Int} (hf : Nd f) {x : T} {xs : List T} (hv : tvB x = true) : sc c f xs ≤ sc c f (x :: xs) := by
  rw [sc_cons]
  have := sc1_nonneg (c := c) hf hv
  omega
theorem loadV_eq {xs : List T} (hs : svB xs = true) : loadV xs = red (if loA xs + loB xs < hiH xs then hiH xs else loA xs + loB xs) LL := by
  simp only [loadV, hs, if_true]
  split <;> rfl
theorem load_is {xs : List T} (hs : svB xs = true) : isShare (loadV xs) := by
  by_cases hx : loA xs + loB xs < hiH xs
  · rw [loadV_1 hs hx]; exact shr_is nd_high hs
  · rw [loadV_2 hs hx]; exact plusV_is (shr_sm nd_low hs) (shr_sm nd_low hs) (plus_sm hs nd_low nd_low)
theorem sv_tail {x : T} {xs : List T} (h : svB (x :: xs) = true) : svB xs = true := by
  obtain ⟨h1, h2⟩ := sv_all h
  rw [List.length_cons] at h1
  simp only [svB, Bool.and_eq_true, decide_eq_true_eq, List.all_eq_true]
  exact ⟨by omega, fun t ht => h2 t (by simp [ht])⟩
theorem load_tail {x : T} {xs : List T} (h : svB (x :: xs) = true) : decide (cmpI ((loadV xs).num * (loadV (x :: xs)).den) ((loadV (x :: xs)).num * (loadV xs).den) ≤ 0) = true := by
  rw [cmp_le]
  apply decide_eq_true
  have ht := sv_tail h
  have hv := (sv_all h).2 x (by simp)
  have n0 := low_nonneg ht
  have n1 := low_nonneg h
  rw [loadV_eq h, loadV_eq ht]
  have hL := LL_pos
  refine (red_le ?_ hL ?_ hL).2 (Int.mul_le_mul_of_nonneg_right ?_ (by omega))
  · split <;> omega
  · split <;> omega
  · have a := sc_tail_le (c := false) nd_low (xs := xs) hv
    have b := sc_tail_le (c := true) nd_low (xs := xs) hv
    have c := sc_tail_le (c := true) nd_high (xs := xs) hv
    unfold loA loB hiH
    split <;> split <;> omega
theorem Rd.drop1' {α : Type} {k : Nat} {enc : α → List Value} {w : World} {b off n c : Nat} {xs : List α} (h : Rd k enc w (some ⟨b, off, none⟩) n c xs) (hn : 0 < n) : Rd k enc w (some ⟨b, off + k, none⟩) (n - 1) (c - 1) (xs.drop 1) := by
  have hc := h.cap
  have hm := h.max
  refine ⟨by rw [List.length_drop, h.len], by omega, by omega, fun h0 => ?_⟩
  obtain ⟨b', off', e, hcl⟩ := h.cells hn
  injection e with e; injection e with e1 e2
  subst e1 e2
  refine ⟨b, off + k, rfl, fun i x hx j u hu => ?_⟩
  rw [List.getElem?_drop] at hx
  have := hcl (1 + i) x hx j u hu
  rw [Nat.add_mul, Nat.one_mul, ← Nat.add_assoc off] at this
  exact this

set_option maxRecDepth 100000 in
set_option maxHeartbeats 6400000 in
theorem walk_FnLoadParts (A : Option Addr) (n c : Nat) (bs : List UInt8) (w : World) (h : RdB w A n c bs) :
    Calls Try.prog 14 #[.slice A n c] w fun e w' => e = .returned (.bool true) ∧ Below w.heap.size w w' := by
  have hz0 := Below.refl w.heap.size w
  have H := Lib.hid h
  have hmx : n ≤ maxLen := Nat.le_trans h.cap h.max
  unfold maxLen at hmx
  clear h
  by_cases hn : n ≤ 1048576
  · go_enter Try.func14, Try.ntmps14
    go_wp2_with fail
    refine (drawLoadOf_any A n c bs w H.out).mono ?_
    rintro e w1 ⟨D, m, d, xs, rfl, hm6, ho, hz1⟩
    have qT := Lib.hid ho.rd5
    clear ho
    go_wp2_with fail
    refine (loadOf_impl D m d xs w1 qT.out).mono ?_
    rintro e w2 ⟨rfl, hb2⟩
    have hz2 := hz1.trans (hb2.mono hz1.size)
    replace qT := Lib.hid (qT.out.below hb2)
    clear hb2
    have rX := Lib.hid (Blk.new w2 27 #[.int .i64 (loadV xs).num, .int .i64 (loadV xs).den])
    replace qT := Lib.hid (qT.out.alloc (.cells #[.int .i64 (loadV xs).num, .int .i64 (loadV xs).den] 27))
    have hz2a := hz2.alloc hz2.size (.cells #[.int .i64 (loadV xs).num, .int .i64 (loadV xs).den] 27)
    go_wp2_with fail
    refine (loadOf_spec D m d xs _ qT.out).mono ?_
    rintro e w3 ⟨rfl, hb3⟩
    have hz3 := hz2a.trans (hb3.mono hz2a.size)
    replace qT := Lib.hid (qT.out.below hb3)
    replace rX := Lib.hid (rX.out.below hb3)
    clear hb3
    generalize hr : loadV xs = r at *
    have Hr := Lib.hid hr
    clear hr
    have c0 := rX.out.cell (i := 0) rfl
    have c1 := rX.out.cell (i := 1) rfl
    have clt := rX.out.lt
    replace qT := Lib.hid (qT.out.alloc (.cells #[.int .i64 r.num, .int .i64 r.den] 27))
    replace rX := Lib.hid (rX.out.alloc (.cells #[.int .i64 r.num, .int .i64 r.den] 27))
    have hz3a := hz3.alloc hz3.size (.cells #[.int .i64 r.num, .int .i64 r.den] 27)
    have hnq := fun w => neq_share r.num r.den w
    have hql := fun w => eql_share r.num r.den w
    have hee : (svB xs != svB xs) = false := by simp
    have hee2 : (svB xs == svB xs) = true := by simp
    cases hs : svB xs
    · clear hee hee2 hs
      go_wp2
      go_ret
      exact ⟨rfl, hz3a⟩
    · by_cases hm0 : m = 0
      · subst hm0
        clear hee hee2 hs
        go_wp2
        go_ret
        exact ⟨rfl, hz3a⟩
      · have hm1 : 1 ≤ m := by omega
        have hmb : ((m : Int) == 0) = false := by simp; omega
        obtain ⟨x, ys, hxs⟩ : ∃ x ys, xs = x :: ys := by
          cases xs with
          | nil => have := qT.out.len; simp at this; omega
          | cons x ys => exact ⟨x, ys, rfl⟩
        subst hxs
        obtain ⟨b, off, x', hA, hx', hb, _⟩ := qT.out.taskAt (i := 0) (by omega)
        subst hA
        have hI1 := load_is hs
        have hI2 := load_is (sv_tail hs)
        have hle := load_tail hs
        have Ht := Lib.hid (sv_tail hs)
        rw [Hr.out] at hI1 hle
        have hC := Lib.hid (fun w => compare_impl (loadV ys) r w hI2 hI1)
        have hcap : m ≤ d := qT.out.cap
        have hmax : d ≤ maxLen := qT.out.max
        unfold maxLen at hmax
        have hd0 : (1 : Int) ≤ (m : Int) := by omega
        have hd2 : (m : Int) ≤ (d : Int) := by omega
        have hle' := Lib.hid hle
        clear hee hee2 hs hm0 hI1 hI2 hx' hle
        by_cases hd1 : d = 1
        · have hy : ys = [] := by have := qT.out.len; simp at this; exact List.eq_nil_of_length_eq_zero (by omega)
          have hm' : m = 1 := by omega
          subst hd1 hm'
          have q1 := Lib.hid (show RdT (w3.alloc (.cells #[.int .i64 r.num, .int .i64 r.den] 27)) (some ⟨b, off, none⟩) 0 0 ys by rw [hy]; exact Rd.nil (Nat.zero_le _))
          clear hy
          go_wp2_with fail
          refine (loadOf_impl _ 0 0 ys _ q1.out).mono ?_
          rw [Ht.out]
          rintro e w4 ⟨rfl, hb4⟩
          have hz4 := hz3a.trans (hb4.mono hz3a.size)
          replace rX := Lib.hid (rX.out.below hb4)
          have x0 := rX.out.cell (i := 0) rfl
          have x1 := rX.out.cell (i := 1) rfl
          have xl := rX.out.lt
          have hz4a := hz4.alloc hz4.size (.cells #[.int .i64 (loadV ys).num, .int .i64 (loadV ys).den] 27)
          clear c0 c1 clt hb4
          go_wp2_with fail
          refine (hC.out _).mono ?_
          rintro e w5 ⟨rfl, hb5⟩
          have hz5 := hz4a.trans (hb5.mono hz4a.size)
          clear hb5
          have hle2 := hle'.out
          go_wp2
          go_ret
          exact ⟨rfl, hz5⟩
        · have q1 := Lib.hid (Rd.drop1' qT.out hm1)
          go_wp2_with fail
          refine (loadOf_impl _ (m - 1) (d - 1) ys _ q1.out).mono ?_
          rw [Ht.out]
          rintro e w4 ⟨rfl, hb4⟩
          have hz4 := hz3a.trans (hb4.mono hz3a.size)
          replace rX := Lib.hid (rX.out.below hb4)
          have x0 := rX.out.cell (i := 0) rfl
          have x1 := rX.out.cell (i := 1) rfl
          have xl := rX.out.lt
          have hz4a := hz4.alloc hz4.size (.cells #[.int .i64 (loadV ys).num, .int .i64 (loadV ys).den] 27)
          clear c0 c1 clt hb4
          go_wp2_with fail
          refine (hC.out _).mono ?_
          rintro e w5 ⟨rfl, hb5⟩
          have hz5 := hz4a.trans (hb5.mono hz4a.size)
          clear hb5
          have hle2 := hle'.out
          go_wp2
          go_ret
          exact ⟨rfl, hz5⟩
  · go_enter Try.func14, Try.ntmps14
    go_wp2
    go_ret
    exact ⟨rfl, hz0⟩

namespace top_FnLoadParts
set_option maxRecDepth 100000 in
theorem lifted (os : Os) (started : os.Started) (H : Type) (enc : TypeId × Value → H) :
    ReturnsInHanded {} Try.checked os 14 .any (Rows.fnLoadPartsSpec.pre6 enc Try.prog Try.f14 Rows.fnLoadPartsRow.domain false) (Rows.fnLoadPartsSpec.post enc Try.prog Try.f14 false true false false) := by
  refine returnsInHanded_of_change (C := Try.checked) ownKnob_none started (by kernel_rfl) Try.func14
    (ChangeSpec.witness6 (enc := enc) (C := Try.checked) false ⟨#[], #[.slice none 0 0], []⟩ 8 (by kernel_rfl) (by kernel_rfl) (by kernel_rfl) (by kernel_rfl)) ?_
  intro W base args ds gs before hval0 hW hcnd _
  have hval : ∀ (j : Nat) t v, Try.f14.params[j]? = some t → args[j]? = some v → Value.okWide Try.prog W .any base t v := hval0
  have hW' := hW
  obtain ⟨p, q, hA0, hV, rfl, hfz, hnd⟩ := hW
  have hA : DataW.TrodAll enc Try.prog W 0 (fun _ => true) true Try.f14.params.toList args.toList ds p := hA0
  rw [Try.params14] at hA hval
  obtain ⟨v0, vs0, d0, ds0, p0, q0, hargs, rfl, rfl, h0, r0⟩ := trodAll_cons hA
  obtain ⟨rfl, rfl, rfl⟩ := trodAll_nil r0
  obtain rfl : args = #[v0] := by cases args; simp_all
  obtain ⟨rfl, rfl⟩ := trodVars_none hV
  have k0 := h0
  have lt0 : ∀ x ∈ p0, x.block < W.heap.size := by obtain ⟨m, hm⟩ := k0; exact DataW.trod_lt m _ _ _ hm
  obtain ⟨a0, n0, c0, rfl⟩ := okWide_slice Try.underlying22 (hval 0 22 v0 rfl rfl)
  obtain ⟨x0, w0⟩ : ∃ xs, RdB W a0 n0 c0 xs := by
    obtain ⟨fuel, hf⟩ := h0
    obtain ⟨A, n, c, xs, hcs, hR⟩ := open_bytes hf
    simp [Value.cells] at hcs
    obtain ⟨rfl, rfl, rfl⟩ := hcs
    exact ⟨xs, hR⟩
  clear hA0 hval0
  refine (walk_FnLoadParts a0 n0 c0 x0 W w0).mono fun e W' ⟨he, bel⟩ => ?_
  subst he
  exact ⟨_, rfl, _, _, _, [], _, [], hW', trodAll_mk1 (shut_bool Try.underlying4 _), (trodAll_cons_mk (Below.trod laidOut (by kernel_rfl) (of_decide_eq_true (by kernel_rfl)) k0 bel lt0) trodAll_mk0), rfl, bel.frame _, fun h => by cases h⟩

theorem over : Rows.fnLoadPartsRow.holds Try.pinned (OpenSpec.ofChange Rows.fnLoadPartsSpec) :=
  OpenClaim.holds_of_wide 14 Try.f14 rfl rfl rfl rfl rfl rfl rfl ⟨rfl, rfl, rfl, rfl, rfl⟩ rfl rfl rfl rfl rfl (by kernel_rfl) Try.func14 (by kernel_rfl)
    (of_decide_eq_true (by kernel_rfl)) (by unfold Func.isWrapper; first | (rw [if_pos (by decide +kernel)]; kernel_rfl) | (rw [if_neg (by decide +kernel)]; exact ⟨rfl, rfl⟩))
    (fun os started H enc _ => lifted os started H enc)
end top_FnLoadParts

theorem FnLoadParts_holds : Rows.FnLoadPartsSaid := top_FnLoadParts.over
#print axioms FnLoadParts_holds

end Go.Proofs.Ytcdmegiffbhbeaa
