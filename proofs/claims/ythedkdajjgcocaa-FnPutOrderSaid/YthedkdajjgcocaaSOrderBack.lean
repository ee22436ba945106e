/- An order can be undone: the law returns true for every input. No condition. -/
import Derived.Test.YthedkdajjgcocaaSOrderSelf
namespace Go.Proofs.Ythedkdajjgcocaa
open Go.ChangeShapes Go.WideShapes Go.ChangeAt Go.RowKit
set_option linter.unusedVariables false

theorem nodup_short : ∀ (m : Nat) (l : List Int), l.Nodup → (∀ x ∈ l, 0 ≤ x ∧ x < (m : Int)) → l.length ≤ m := by
  intro m
  induction m with
  | zero =>
    intro l _ h
    cases l with
    | nil => simp
    | cons a r => have := h a (by simp); omega
  | succ m ih =>
    intro l hn h
    have h1 : (l.erase (m : Int)).length ≤ m := by
      refine ih _ (hn.erase _) (fun x hx => ?_)
      have h2 := (hn.mem_erase_iff).1 hx
      have h3 := h x h2.2
      have h4 : x ≠ (m : Int) := h2.1
      omega
    have h5 := List.length_erase (a := (m : Int)) (l := l)
    split at h5 <;> omega
theorem isOrd_onto {m : Nat} {o : List Int} (h : isOrd m o = true) (y : Nat) (hy : y < m) : ∃ i : Nat, i < m ∧ o[i]? = some (y : Int) := by
  obtain ⟨hl, hr, hn⟩ := (isOrd_iff m o).1 h
  rcases Classical.em ((y : Int) ∈ o) with hin | hin
  · obtain ⟨i, hi, e⟩ := List.mem_iff_getElem.1 hin
    exact ⟨i, by omega, by rw [List.getElem?_eq_getElem hi, e]⟩
  · exfalso
    have := nodup_short m ((y : Int) :: o) (List.nodup_cons.2 ⟨hin, hn⟩) (fun x hx => by
      rcases List.mem_cons.1 hx with rfl | hx
      · omega
      · exact hr x hx)
    simp at this
    omega

/-- back is the order that undoes o -/
def Undoes (o back : List Int) (j : Nat) : Prop := ∀ (i y : Nat), i < j → o[i]? = some (y : Int) → back[y]? = some (i : Int)

theorem undo_ord {m : Nat} {o b : List Int} (h : isOrd m o = true) (hl : b.length = m) (hu : Undoes o b m) : isOrd m b = true := by
  have key : ∀ y, y < m → ∃ i : Nat, i < m ∧ o[i]? = some (y : Int) ∧ b[y]? = some (i : Int) := fun y hy => by
    obtain ⟨i, hi, ho⟩ := isOrd_onto h y hy
    exact ⟨i, hi, ho, hu i y hi ho⟩
  refine (isOrd_iff m b).2 ⟨hl, fun x hx => ?_, ?_⟩
  · obtain ⟨y, hy, e⟩ := List.mem_iff_getElem.1 hx
    obtain ⟨i, hi, _, hb⟩ := key y (by omega)
    rw [List.getElem?_eq_getElem hy] at hb
    injection hb with hb
    omega
  · unfold List.Nodup
    rw [List.pairwise_iff_getElem]
    intro y1 y2 h1 h2 hlt e
    obtain ⟨i1, _, ho1, hb1⟩ := key y1 (by omega)
    obtain ⟨i2, _, ho2, hb2⟩ := key y2 (by omega)
    rw [List.getElem?_eq_getElem h1] at hb1
    rw [List.getElem?_eq_getElem h2] at hb2
    injection hb1 with hb1
    injection hb2 with hb2
    have hi : i1 = i2 := by omega
    subst hi
    rw [ho1] at ho2
    injection ho2 with ho2
    omega
theorem undo_put {xs : List T} {m : Nat} {o b : List Int} (hx : xs.length = m) (h : isOrd m o = true) (hl : b.length = m) (hu : Undoes o b m) : putL (putL xs o) b = xs := by
  apply List.ext_getElem?
  intro y
  by_cases hy : y < m
  · obtain ⟨i, hi, ho⟩ := isOrd_onto h y hy
    have hb := hu i y hi ho
    have hxy : xs[y]? = some (xs[y]'(by omega)) := List.getElem?_eq_getElem (by omega)
    have hp : (putL xs o)[i]? = some (xs[y]'(by omega)) := by
      rw [putL, List.getElem?_map, ho]
      simp [hxy]
    rw [putL, List.getElem?_map, hb]
    simp [hp, hxy]
  · rw [List.getElem?_eq_none (by rw [putL_len]; omega), List.getElem?_eq_none (by omega)]

theorem undoes_zero (o L : List Int) : Undoes o L 0 := fun i y h => absurd h (by omega)
theorem undoes_succ {o L : List Int} {j m y : Nat} (h : Undoes o L j) (ho : isOrd m o = true) (hy : o[j]? = some (y : Int)) (hl : L.length = m) (hym : y < m) : Undoes o (L.set y (j : Int)) (j + 1) := by
  intro i z hi hz
  by_cases e : i = j
  · subst e
    rw [hy] at hz
    injection hz with hz
    have : y = z := by omega
    subst this
    rw [List.getElem?_set_self (by omega)]
  · have hzy : y ≠ z := by
      intro e2
      subst e2
      have hn := ((isOrd_iff m o).1 ho).2.2
      unfold List.Nodup at hn
      rw [List.pairwise_iff_getElem] at hn
      obtain ⟨hj, ej⟩ := List.getElem?_eq_some_iff.1 hy
      obtain ⟨hi', ei⟩ := List.getElem?_eq_some_iff.1 hz
      exact hn i j hi' hj (by omega) (by rw [ei, ej])
    rw [List.getElem?_set_ne hzy]
    exact h i z (by omega) hz
theorem svB_put {xs : List T} {o : List Int} (h : ordB xs o = true) : svB (putL xs o) = true := by
  obtain ⟨h1, h2, h3⟩ := ordB_in h
  have hs := sv_of_ord h
  simp only [svB, Bool.and_eq_true, decide_eq_true_eq, List.all_eq_true] at hs ⊢
  refine ⟨by rw [putL_len]; omega, fun x hx => ?_⟩
  obtain ⟨i, hi, rfl⟩ := List.mem_map.1 hx
  have hr := h3 i hi
  have hlt : i.toNat < xs.length := by omega
  rw [List.getElem?_eq_getElem hlt]
  exact hs.2 _ (List.getElem_mem hlt)
theorem zeros_own (n : Nat) : (madeCells #[.int .i64 0] n).toList = (List.replicate n (0 : Int)).flatMap icells := by
  rw [toList_madeCells_one]
  induction n with
  | zero => rfl
  | succ n ih => rw [List.replicate_succ, List.replicate_succ, List.flatMap_cons, ih]; rfl

set_option maxRecDepth 100000 in
set_option maxHeartbeats 6400000 in
theorem walk_FnOrderBack (A : Option Addr) (n c : Nat) (bs : List UInt8) (w : World) (h : RdB w A n c bs) :
    Calls Try.prog 9 #[.slice A n c] w fun e w' => e = .returned (.bool true) ∧ Below w.heap.size w w' := by
  have hz0 := Below.refl w.heap.size w
  have H := Lib.hid h
  have hmx : n ≤ maxLen := Nat.le_trans h.cap h.max
  unfold maxLen at hmx
  clear h
  by_cases hn : n ≤ 1048576
  · obtain ⟨inf, hi, hz0', hz1', hz2'⟩ := info_parts infoIntD
    go_enter Try.func9, Try.ntmps9
    go_wp2_with fail
    refine (drawPutOrder_any A n c bs w H.out).mono ?_
    rintro e w1 ⟨D, m, d, xs, D', k, d', ys, rfl, hm6, hk7, hT, hI, hz1⟩
    have qT := Lib.hid hT
    have qI := Lib.hid hI
    clear hT hI
    go_wp2_with fail
    refine (putOrder_impl D D' m d k d' xs ys w1 qT.out qI.out).mono ?_
    rintro e w2 ⟨P1, k1, d1, rfl, o1, hb2⟩
    have hz2 := hz1.trans (hb2.mono hz1.size)
    have r1 := Lib.hid o1.rd
    have l1 := Lib.hid o1.len
    replace qT := Lib.hid (qT.out.below hb2)
    replace qI := Lib.hid (qI.out.below hb2)
    clear hb2 o1
    go_wp2_with fail
    refine (putOrder_spec D D' m d k d' xs ys w2 qT.out qI.out).mono ?_
    rintro e w3 ⟨P2, k2, d2, rfl, o2, hb3⟩
    have hz3 := hz2.trans (hb3.mono hz2.size)
    have r2 := Lib.hid o2.rd
    have l2 := o2.len
    have hkk : k2 = k1 := by rw [← l2, l1.out]
    subst hkk
    replace qT := Lib.hid (qT.out.below hb3)
    replace qI := Lib.hid (qI.out.below hb3)
    replace r1 := Lib.hid (r1.out.below hb3)
    clear hb3 o2 l2
    have hee : (ordB xs ys != ordB xs ys) = false := by simp
    have hee2 : (ordB xs ys == ordB xs ys) = true := by simp
    go_wp2_with fail
    refine (dmTasks_same P1 P2 k2 d1 d2 (putV xs ys) w3 r1.out r2.out).mono ?_
    rintro e w4 ⟨rfl, hb4⟩
    have hz4 := hz3.trans (hb4.mono hz3.size)
    replace qT := Lib.hid (qT.out.below hb4)
    replace qI := Lib.hid (qI.out.below hb4)
    replace r1 := Lib.hid (r1.out.below hb4)
    replace r2 := Lib.hid (r2.out.below hb4)
    clear hb4
    cases hok : ordB xs ys
    · go_wp2_with fail
      refine (dmTasks_same P1 P2 k2 d1 d2 (putV xs ys) w4 r1.out r2.out).mono ?_
      rintro e w5 ⟨rfl, hb5⟩
      have hz5 := hz4.trans (hb5.mono hz4.size)
      clear hb5
      go_wp2
      go_ret
      exact ⟨rfl, hz5⟩
    · have Hok := Lib.hid hok
      have hxl := qT.out.len
      have hyl := qI.out.len
      have hin := ordB_in hok
      have hkm : k = m := by omega
      subst hkm
      have hpl := l1.out
      rw [putV_yes hok, putL_len] at hpl
      have hk2 : k2 = k := by omega
      subst hk2
      have hm5 : k2 ≤ 5 := by omega
      have HO := Lib.hid (show isOrd k2 ys = true by rw [← hxl]; simp only [ordB, Bool.and_eq_true] at hok; exact hok.2)
      have Hin := Lib.hid hin.2.2
      have hXL := Lib.hid hxl
      clear hok hxl hyl hin hpl r2 l1
      go_wp2_with (at_make; refine wpList_make_full _ rfl _ _ 43 rfl w4.heap.size 3 inf _ 1 Try.underlying43 hi hz0' hz1' _ _ _ _ k2 rfl rfl rfl rfl ?_ ?_ (Nat.le_refl _) ?_)
      · rw [hz2']; omega
      · unfold maxLen; omega
      intro w5 hown hg
      have hb5 : Below w4.heap.size w4 w5 := (Below.refl _ _).grown hg (Nat.le_refl _) (fun k hk => by cases hk)
      have o5 := Lib.hid (show OwnI w4 w5 (.slice (some ⟨w4.heap.size, 0, none⟩) k2 k2) k2 (List.replicate k2 0) from ⟨by rw [← zeros_own]; exact hown, List.length_replicate⟩)
      clear hown hg
      go_wp2
      go_loopw [10] (fun i wr => ∃ (j : Nat) (L : List Int), i = .int .i64 j ∧ j ≤ k2 ∧ OwnI w4 wr (.slice (some ⟨w4.heap.size, 0, none⟩) k2 k2) k2 L ∧ Undoes ys L j ∧ Below w4.heap.size w4 wr) (fun i _ => k2 - (intOf i).toNat)
      case atStart => exact ⟨0, _, rfl, Nat.zero_le _, o5.out, undoes_zero _ _, hb5⟩
      case round =>
        obtain ⟨j, L, rfl, hj, ho, hu, hbel⟩ := hrel
        have hsz := hbel.size
        clear o5 hb5
        replace ho := Lib.hid ho
        replace hu := Lib.hid hu
        by_cases hjm : j < k2
        · obtain ⟨b', off', i, rfl, hi', hb', c0⟩ := (qI.out.below hbel).intAt hjm
          have hr := Hin.out i (List.mem_of_getElem? hi')
          obtain ⟨y, rfl⟩ := Int.eq_ofNat_of_zero_le hr.1
          have hyn : y < k2 := by have := hXL.out; omega
          have i0 : (0 : Int) ≤ (y : Int) := by omega
          have i1 : (y : Int) < (k2 : Int) := by omega
          obtain ⟨u, cy⟩ := ho.out.at_ (k := y) hyn
          have fy := ho.out.1.frozenAt y
          have o6 := Lib.hid (ho.out.set_ y (j : Int))
          have hu6 := Lib.hid (undoes_succ hu.out HO.out hi' ho.out.2 hyn)
          clear ho hi' hr hu
          go_wp2
          go_roundw
          case rel => exact ⟨j + 1, _, by go_num, by omega, o6.out, hu6.out, hbel.setCell (Nat.le_refl _) _⟩
          case measure => simp [intOf]; omega
        · have hjm' : j = k2 := by omega
          subst hjm'
          have qS := Lib.hid ho.out.rd
          have hzr := hz4.trans (hbel.mono hz4.size)
          replace qT := Lib.hid (qT.out.below hbel)
          replace r1 := Lib.hid (r1.out.below hbel)
          have hpv := Lib.hid (putV_yes Hok.out)
          have hO := Lib.hid (show ordB (putV xs ys) L = true by
            rw [hpv.out, ordB_of (n := j) (by rw [putL_len]; exact ((isOrd_iff _ _).1 HO.out).1) (svB_put Hok.out)]
            exact undo_ord HO.out ho.out.2 hu.out)
          have hP := Lib.hid (show putV (putV xs ys) L = xs by
            rw [putV_yes hO.out, hpv.out]; exact undo_put qT.out.len HO.out ho.out.2 hu.out)
          clear ho hbel hu
          go_wp2_with fail
          refine (putOrder_impl P1 _ j d1 j j (putV xs ys) L wr r1.out qS.out).mono ?_
          rw [hO.out, hP.out]
          rintro e w6 ⟨P3, k3, d3, rfl, o3, hb6⟩
          have hz6 := hzr.trans (hb6.mono hzr.size)
          have r3 := Lib.hid o3.rd
          have hk3 : k3 = j := by rw [← o3.len, qT.out.len]
          subst hk3
          replace qT := Lib.hid (qT.out.below hb6)
          clear hb6 o3
          go_wp2_with fail
          refine (dmTasks_same P3 D k3 d3 d xs w6 r3.out qT.out).mono ?_
          rintro e w7 ⟨rfl, hb7⟩
          have hz7 := hz6.trans (hb7.mono hz6.size)
          clear hb7
          go_wp2
          go_ret
          exact ⟨rfl, hz7⟩
  · go_enter Try.func9, Try.ntmps9
    go_wp2
    go_ret
    exact ⟨rfl, hz0⟩

namespace top_FnOrderBack
set_option maxRecDepth 100000 in
theorem lifted (os : Os) (started : os.Started) (H : Type) (enc : TypeId × Value → H) :
    ReturnsInHanded {} Try.checked os 9 .any (Rows.fnOrderBackSpec.pre6 enc Try.prog Try.f9 Rows.fnOrderBackRow.domain false) (Rows.fnOrderBackSpec.post enc Try.prog Try.f9 false true false false) := by
  refine returnsInHanded_of_change (C := Try.checked) ownKnob_none started (by kernel_rfl) Try.func9
    (ChangeSpec.witness6 (enc := enc) (C := Try.checked) false ⟨#[], #[.slice none 0 0], []⟩ 8 (by kernel_rfl) (by kernel_rfl) (by kernel_rfl) (by kernel_rfl)) ?_
  intro W base args ds gs before hval0 hW hcnd _
  have hval : ∀ (j : Nat) t v, Try.f9.params[j]? = some t → args[j]? = some v → Value.okWide Try.prog W .any base t v := hval0
  have hW' := hW
  obtain ⟨p, q, hA0, hV, rfl, hfz, hnd⟩ := hW
  have hA : DataW.TrodAll enc Try.prog W 0 (fun _ => true) true Try.f9.params.toList args.toList ds p := hA0
  rw [Try.params9] at hA hval
  obtain ⟨v0, vs0, d0, ds0, p0, q0, hargs, rfl, rfl, h0, r0⟩ := trodAll_cons hA
  obtain ⟨rfl, rfl, rfl⟩ := trodAll_nil r0
  obtain rfl : args = #[v0] := by cases args; simp_all
  obtain ⟨rfl, rfl⟩ := trodVars_none hV
  have k0 := h0
  have lt0 : ∀ x ∈ p0, x.block < W.heap.size := by obtain ⟨m, hm⟩ := k0; exact DataW.trod_lt m _ _ _ hm
  obtain ⟨a0, n0, c0, rfl⟩ := okWide_slice Try.underlying48 (hval 0 48 v0 rfl rfl)
  obtain ⟨x0, w0⟩ : ∃ xs, RdB W a0 n0 c0 xs := by
    obtain ⟨fuel, hf⟩ := h0
    obtain ⟨A, n, c, xs, hcs, hR⟩ := open_bytes hf
    simp [Value.cells] at hcs
    obtain ⟨rfl, rfl, rfl⟩ := hcs
    exact ⟨xs, hR⟩
  clear hA0 hval0
  refine (walk_FnOrderBack a0 n0 c0 x0 W w0).mono fun e W' ⟨he, bel⟩ => ?_
  subst he
  exact ⟨_, rfl, _, _, _, [], _, [], hW', trodAll_mk1 (shut_bool Try.underlying4 _), (trodAll_cons_mk (Below.trod laidOut (by kernel_rfl) (of_decide_eq_true (by kernel_rfl)) k0 bel lt0) trodAll_mk0), rfl, bel.frame _, fun h => by cases h⟩

theorem over : Rows.fnOrderBackRow.holds Try.pinned (OpenSpec.ofChange Rows.fnOrderBackSpec) :=
  OpenClaim.holds_of_wide 9 Try.f9 rfl rfl rfl rfl rfl rfl rfl ⟨rfl, rfl, rfl, rfl, rfl⟩ rfl rfl rfl rfl rfl (by kernel_rfl) Try.func9 (by kernel_rfl)
    (of_decide_eq_true (by kernel_rfl)) (by unfold Func.isWrapper; first | (rw [if_pos (by decide +kernel)]; kernel_rfl) | (rw [if_neg (by decide +kernel)]; exact ⟨rfl, rfl⟩))
    (fun os started H enc _ => lifted os started H enc)
end top_FnOrderBack

theorem FnOrderBack_holds : Rows.FnOrderBackSaid := top_FnOrderBack.over
#print axioms FnOrderBack_holds

end Go.Proofs.Ythedkdajjgcocaa
