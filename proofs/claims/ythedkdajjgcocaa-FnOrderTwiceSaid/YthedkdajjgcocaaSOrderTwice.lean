/- Numbers with one of them twice are no order: the law returns true for every input. No condition. -/
import Derived.Test.YthedkdajjgcocaaOpen
import Derived.Test.YthedkdajjgcocaaOrd
import Derived.Test.YthedkdajjgcocaaDrawV
namespace Go.Proofs.Ythedkdajjgcocaa
open Go.ChangeShapes Go.WideShapes Go.ChangeAt Go.RowKit
set_option linter.unusedVariables false

theorem Rd.drop1 {α : Type} {k : Nat} {enc : α → List Value} {w : World} {b off n c : Nat} {xs : List α} (h : Rd k enc w (some ⟨b, off, none⟩) n c xs) (hn : 0 < n) : Rd k enc w (some ⟨b, off + k, none⟩) (n - 1) (c - 1) (xs.drop 1) := by
  have hc := h.cap
  have hm := h.max
  refine ⟨by rw [List.length_drop, h.len], by omega, by omega, fun h0 => ?_⟩
  obtain ⟨b', off', e, hcell⟩ := h.cells hn
  injection e with e; injection e with e1 e2
  subst e1 e2
  refine ⟨b, off + k, rfl, fun i x hx j u hu => ?_⟩
  rw [List.getElem?_drop] at hx
  have := hcell (1 + i) x hx j u hu
  rw [show off + k + i * k + j = off + (1 + i) * k + j by rw [Nat.add_mul]; omega]
  exact this

theorem ordB_len {xs : List T} {o : List Int} (h : ordB xs o = true) : o.length = xs.length := by
  simp only [ordB, Bool.and_eq_true] at h
  exact ((isOrd_iff _ _).1 h.2).1
theorem ordB_short {xs : List T} {o : List Int} (h : o.length ≠ xs.length) : ordB xs o = false := by
  simp [ordB, isOrd_len h]
theorem ordB_set01 {xs : List T} {a b : Int} {r : List Int} : ordB xs (b :: b :: r) = false := by
  have : isOrd xs.length (b :: b :: r) = false := isOrd_twice (k := 1) (x := b) rfl (by simp)
  simp [ordB, this]

theorem icells_get {xs : List Int} {j : Nat} {u : Value} (h : (xs.flatMap icells)[j]? = some u) : ∃ x, xs[j]? = some x ∧ (icells x)[0]? = some u := by
  induction xs generalizing j with
  | nil => simp at h
  | cons y ys ih =>
    cases j with
    | zero => exact ⟨y, rfl, by simpa [icells] using h⟩
    | succ j => exact ih (j := j) (by simpa [icells] using h)
theorem icells_one (xs : List Int) : ∀ u ∈ xs.flatMap icells, u.oneCell' = true := by
  intro u hu
  obtain ⟨x, _, hx⟩ := List.mem_flatMap.1 hu
  exact icells_oneCell x u hx

set_option maxRecDepth 100000 in
set_option maxHeartbeats 3200000 in
theorem walk_FnOrderTwice (A : Option Addr) (n c : Nat) (bs : List UInt8) (w : World) (h : RdB w A n c bs) :
    Calls Try.prog 7 #[.slice A n c] w fun e w' => e = .returned (.bool true) ∧ Below w.heap.size w w' := by
  have hz0 := Below.refl w.heap.size w
  have H := Lib.hid h
  have hmx : n ≤ maxLen := Nat.le_trans h.cap h.max
  unfold maxLen at hmx
  clear h
  by_cases hn : n ≤ 1048576
  · obtain ⟨inf, hi, hz0', hz1', hz2'⟩ := info_parts infoIntD
    go_enter Try.func7, Try.ntmps7
    go_wp2_with fail
    refine (drawOrderValid_any A n c bs w H.out).mono ?_
    rintro e w1 ⟨D, m, d, xs, D', k, d', ys, rfl, hm6, hk7, hT, hI, hz1⟩
    have qT := Lib.hid hT
    have qI := Lib.hid hI
    clear hT hI
    go_wp2_with fail
    refine (orderValid_impl D D' m d k d' xs ys w1 qT.out qI.out).mono ?_
    rintro e w2 ⟨rfl, hb2⟩
    have hz2 := hz1.trans (hb2.mono hz1.size)
    replace qT := Lib.hid (qT.out.below hb2)
    replace qI := Lib.hid (qI.out.below hb2)
    clear hb2
    go_wp2_with fail
    refine (orderValid_spec D D' m d k d' xs ys w2 qT.out qI.out).mono ?_
    rintro e w3 ⟨rfl, hb3⟩
    have hz3 := hz2.trans (hb3.mono hz2.size)
    replace qT := Lib.hid (qT.out.below hb3)
    replace qI := Lib.hid (qI.out.below hb3)
    clear hb3
    have hee : (ordB xs ys != ordB xs ys) = false := by simp
    have hee2 : (ordB xs ys == ordB xs ys) = true := by simp
    cases hok : ordB xs ys
    · go_wp2_with fail
      refine (orderValid_spec D D' m d k d' xs ys w3 qT.out qI.out).mono ?_
      rintro e w4 ⟨rfl, hb4⟩
      have hz4 := hz3.trans (hb4.mono hz3.size)
      clear hb4
      go_wp2
      go_ret
      exact ⟨rfl, hz4⟩
    · have hkm := Lib.hid ((ordB_len hok).trans qT.out.len)
      by_cases hk2 : k < 2
      · go_wp2_with fail
        refine (orderValid_spec D D' m d k d' xs ys w3 qT.out qI.out).mono ?_
        rintro e w4 ⟨rfl, hb4⟩
        have hz4 := hz3.trans (hb4.mono hz3.size)
        clear hb4
        go_wp2
        go_ret
        exact ⟨rfl, hz4⟩
      · obtain ⟨b, off, hD', hcells⟩ := qI.out.cells (by omega)
        have hlen := qI.out.len
        have hcap := qI.out.cap
        obtain ⟨y0, y1, r, hys⟩ : ∃ y0 y1 r, ys = y0 :: y1 :: r := by
          match ys, hlen with
          | [], e => simp at e; omega
          | [_], e => simp at e; omega
          | y0 :: y1 :: r, _ => exact ⟨y0, y1, r, rfl⟩
        subst hys
        have HS := Lib.hid (ordB_set01 (xs := xs) (a := y0) (b := y1) (r := r))
        have HL := Lib.hid (ordB_short (xs := xs) (o := y1 :: r) (by have := ordB_len hok; simp at this ⊢; omega))
        have Hlen := Lib.hid hlen
        subst hD'
        have hnews := Lib.hid (show ∀ j u, ((y0 :: y1 :: r).flatMap icells)[j]? = some u → (w3.alloc (.cells #[] 3)).cell? ((⟨b, off, none⟩ : Addr).add j) = some u from fun j u hu => by
          obtain ⟨x, hx, hxu⟩ := icells_get hu
          have h1 := hcells j x hx 0 u hxu
          rw [Nat.mul_one, Nat.add_zero] at h1
          rw [Addr.add_lit]
          exact (World.cell?_alloc_lt w3 _ ⟨b, off + j, none⟩ (lt_of_cell h1)).trans h1)
        have o4 := Lib.hid (OwnI.new w3)
        clear hcells hlen
        go_wp2_with (at_builtin; refine wpList_append_own _ rfl _ _ 43 rfl w3.heap.size 3 inf _ 1 8 Try.underlying43 hi hz0' hz1' hz2' rfl (by decide) _ _ _ rfl o4.out.1 ⟨b, off, none⟩ k d' ((y0 :: y1 :: r).flatMap icells) rfl (by rw [flatMap_len icells_len, Hlen.out]) hnews.out ?c2 ?c3 ?c4 ?c5 ?_)
        case c2 => exact icells_one _
        case c3 => unfold maxLen; omega
        case c4 => omega
        case c5 => simp
        intro v' w4 hown4 hg4 _
        have o5 := show OwnI w3 w4 v' k (y0 :: y1 :: r) from ⟨by simpa using hown4, Hlen.out⟩
        have hb4 : Below w3.heap.size w3 w4 := ((Below.refl _ _).alloc (Nat.le_refl _) _).grown hg4 (by simp) (fun k e => by simp [Value.ownBlock] at e; omega)
        have hz4 := hz3.trans (hb4.mono hz3.size)
        obtain ⟨g, c', hv, hgw⟩ : ∃ g c', v' = .slice (some ⟨g, 0, none⟩) k c' ∧ w3.heap.size ≤ g := by
          rcases o5.form with ⟨_, h0⟩ | hh
          · omega
          · exact hh
        subst hv
        obtain ⟨b2, off2, x1, e2, hx1, _, c1⟩ := (Rd.of_own icells_len o5.1 o5.2).intAt (i := 1) (by omega)
        injection e2 with e2; injection e2 with e3 e4
        subst e3 e4
        have hx1' : x1 = y1 := by simp at hx1; exact hx1.symm
        subst hx1'
        obtain ⟨x0, c0⟩ := o5.at_ (k := 0) (by omega)
        have f0 := o5.1.frozenAt 0
        have o6 := Lib.hid (o5.set_ 0 x1)
        have hb6 : Below w3.heap.size w3 (w4.setCell ⟨g, 0, none⟩ (.int .i64 x1)) := hb4.setCell hgw _
        have hz6 := hz3.trans (hb6.mono hz3.size)
        have k0 : (0 : Int) < (k : Int) := by omega
        have k1 : (1 : Int) < (k : Int) := by omega
        have hgs := own_lt o5.1
        rw [Nat.zero_add] at c1
        clear hown4 hg4 o4 hnews o5 hx1
        replace qT := Lib.hid (qT.out.below hb6)
        replace qI := Lib.hid (qI.out.below hb6)
        have hz4' := hz6
        clear hz4 hb4 hb6
        go_wp2_with fail
        refine (orderValid_impl D _ m d k c' xs (x1 :: x1 :: r) _ qT.out (Rd.of_own icells_len o6.out.1 o6.out.2)).mono ?_
        rw [HS.out]
        rintro e w7 ⟨rfl, hb7⟩
        have hz7 := hz6.trans (hb7.mono hz6.size)
        replace qT := Lib.hid (qT.out.below hb7)
        have q1 := Lib.hid (Rd.drop1 (qI.out.below hb7) (by omega))
        have hd1 : ¬ d' = 1 := by omega
        have hd0 : (1 : Int) ≤ (k : Int) := by omega
        have hd2 : (k : Int) ≤ (d' : Int) := by omega
        clear hb7 o6 qI c0 c1 f0
        go_wp2_with fail
        refine (orderValid_impl D _ m d (k - 1) (d' - 1) xs (x1 :: r) _ qT.out (by simpa using q1.out)).mono ?_
        rw [HL.out]
        rintro e w8 ⟨rfl, hb8⟩
        have hz8 := hz7.trans (hb8.mono hz7.size)
        clear hb8 q1
        go_wp2
        go_ret
        exact ⟨rfl, hz8⟩
  · go_enter Try.func7, Try.ntmps7
    go_wp2
    go_ret
    exact ⟨rfl, hz0⟩

namespace top_FnOrderTwice
set_option maxRecDepth 100000 in
theorem lifted (os : Os) (started : os.Started) (H : Type) (enc : TypeId × Value → H) :
    ReturnsInHanded {} Try.checked os 7 .any (Rows.fnOrderTwiceSpec.pre6 enc Try.prog Try.f7 Rows.fnOrderTwiceRow.domain false) (Rows.fnOrderTwiceSpec.post enc Try.prog Try.f7 false true false false) := by
  refine returnsInHanded_of_change (C := Try.checked) ownKnob_none started (by kernel_rfl) Try.func7
    (ChangeSpec.witness6 (enc := enc) (C := Try.checked) false ⟨#[], #[.slice none 0 0], []⟩ 8 (by kernel_rfl) (by kernel_rfl) (by kernel_rfl) (by kernel_rfl)) ?_
  intro W base args ds gs before hval0 hW hcnd _
  have hval : ∀ (j : Nat) t v, Try.f7.params[j]? = some t → args[j]? = some v → Value.okWide Try.prog W .any base t v := hval0
  have hW' := hW
  obtain ⟨p, q, hA0, hV, rfl, hfz, hnd⟩ := hW
  have hA : DataW.TrodAll enc Try.prog W 0 (fun _ => true) true Try.f7.params.toList args.toList ds p := hA0
  rw [Try.params7] at hA hval
  obtain ⟨v0, vs0, d0, ds0, p0, q0, hargs, rfl, rfl, h0, r0⟩ := trodAll_cons hA
  obtain ⟨rfl, rfl, rfl⟩ := trodAll_nil r0
  obtain rfl : args = #[v0] := by cases args; simp_all
  obtain ⟨rfl, rfl⟩ := trodVars_none hV
  have k0 := h0
  have lt0 : ∀ x ∈ p0, x.block < W.heap.size := by obtain ⟨m, hm⟩ := k0; exact DataW.trod_lt m _ _ _ hm
  obtain ⟨a0, n0, c0, rfl⟩ := okWide_slice Try.underlying48 (hval 0 48 v0 rfl rfl)
  obtain ⟨x0, w0⟩ : ∃ xs, RdB W a0 n0 c0 xs := by
    obtain ⟨fuel, hf⟩ := h0
    obtain ⟨A, n, c, xs, hcs, hR⟩ := open_bytes hf
    simp [Value.cells] at hcs
    obtain ⟨rfl, rfl, rfl⟩ := hcs
    exact ⟨xs, hR⟩
  clear hA0 hval0
  refine (walk_FnOrderTwice a0 n0 c0 x0 W w0).mono fun e W' ⟨he, bel⟩ => ?_
  subst he
  exact ⟨_, rfl, _, _, _, [], _, [], hW', trodAll_mk1 (shut_bool Try.underlying4 _), (trodAll_cons_mk (Below.trod laidOut (by kernel_rfl) (of_decide_eq_true (by kernel_rfl)) k0 bel lt0) trodAll_mk0), rfl, bel.frame _, fun h => by cases h⟩

theorem over : Rows.fnOrderTwiceRow.holds Try.pinned (OpenSpec.ofChange Rows.fnOrderTwiceSpec) :=
  OpenClaim.holds_of_wide 7 Try.f7 rfl rfl rfl rfl rfl rfl rfl ⟨rfl, rfl, rfl, rfl, rfl⟩ rfl rfl rfl rfl rfl (by kernel_rfl) Try.func7 (by kernel_rfl)
    (of_decide_eq_true (by kernel_rfl)) (by unfold Func.isWrapper; first | (rw [if_pos (by decide +kernel)]; kernel_rfl) | (rw [if_neg (by decide +kernel)]; exact ⟨rfl, rfl⟩))
    (fun os started H enc _ => lifted os started H enc)
end top_FnOrderTwice

theorem FnOrderTwice_holds : Rows.FnOrderTwiceSaid := top_FnOrderTwice.over
#print axioms FnOrderTwice_holds

end Go.Proofs.Ythedkdajjgcocaa
