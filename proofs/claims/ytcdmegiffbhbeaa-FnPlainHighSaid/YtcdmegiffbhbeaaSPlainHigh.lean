/- Plain is for the worst case: the law returns true for every input. No condition. -/
import Derived.Test.YtcdmegiffbhbeaaOpen
import Derived.Test.YtcdmegiffbhbeaaL5S
import Derived.Test.YtcdmegiffbhbeaaDraw5
namespace Go.Proofs.Ytcdmegiffbhbeaa
open Go.ChangeShapes Go.WideShapes Go.ChangeAt Go.RowKit
set_option linter.unusedVariables false

def up1 (t : T) : T := { t with low := t.high }
def upL (xs : List T) : List T := xs.map up1
theorem up_sv {xs : List T} (h : svB xs = true) : svB (upL xs) = true := by
  obtain ⟨h1, h2⟩ := sv_all h
  simp only [svB, Bool.and_eq_true, decide_eq_true_eq, List.all_eq_true]
  refine ⟨by simpa [upL] using h1, fun u hu => ?_⟩
  obtain ⟨t, ht, rfl⟩ := List.mem_map.1 hu
  have := (tvB_iff t).1 (h2 t ht)
  exact (tvB_iff _).2 ⟨by dsimp only [up1]; omega, by dsimp only [up1]; omega, by dsimp only [up1]; omega, by dsimp only [up1]; omega, by dsimp only [up1]; omega, Or.inr rfl⟩
theorem up_imp {xs : List T} (h : svB xs = true) : impB (upL xs) = impB xs := by
  have e : (upL xs).all dueB = xs.all dueB := by
    induction xs with
    | nil => rfl
    | cons t ts ih =>
      have hv := (sv_all h).2
      have hs : svB ts = true := by
        have h1 := (sv_all h).1
        rw [List.length_cons] at h1
        simp only [svB, Bool.and_eq_true, decide_eq_true_eq, List.all_eq_true]
        exact ⟨by omega, fun u hu => hv u (by simp [hu])⟩
      have := ih hs
      simp only [upL, List.map_cons, List.all_cons] at this ⊢
      rw [this]; rfl
  unfold impB
  rw [up_sv h, h, e]
theorem up_sc (c : Bool) (f g : T → Int) (hfg : ∀ t, t.crit = c → tvB t = true → f (up1 t) = g t) {xs : List T} (hv : ∀ t ∈ xs, tvB t = true) : sc c f (upL xs) = sc c g xs := by
  induction xs with
  | nil => rfl
  | cons t ts ih =>
    have e : upL (t :: ts) = up1 t :: upL ts := rfl
    rw [e, sc_cons, sc_cons, ih (fun u hu => hv u (by simp [hu]))]
    congr 1
    unfold sc1
    show (if t.crit = c then _ else _) = _
    split
    · rename_i hc
      rw [hfg t hc (hv t (by simp))]; rfl
    · rfl
theorem up_parts {xs : List T} (h : svB xs = true) : loA (upL xs) = loA xs ∧ loB (upL xs) = hiH xs ∧ hiH (upL xs) = hiH xs := by
  have hv := (sv_all h).2
  refine ⟨up_sc false T.low T.low (fun t hc ht => ?_) hv, up_sc true T.low T.high (fun t _ _ => rfl) hv, up_sc true T.high T.high (fun t _ _ => rfl) hv⟩
  have := (tvB_iff t).1 ht
  rcases this.2.2.2.2.2 with h1 | h1
  · rw [hc] at h1; cases h1
  · exact h1.symm
theorem up_plain {xs : List T} (h : svB xs = true) : plainB (upL xs) = plainB xs := by
  obtain ⟨h1, h2, h3⟩ := up_parts h
  unfold plainB
  rw [up_imp h, h1, h3]
theorem up_virt {xs : List T} (h : svB xs = true) : virtB (upL xs) = plainB xs := by
  cases hp : plainB xs
  · obtain ⟨h1, h2, h3⟩ := up_parts h
    apply virtB_1
    have hp' := (up_plain h).trans hp
    unfold factB
    rw [hp', Bool.false_or, h1, h2]
    cases hi : impB (upL xs)
    · rfl
    · rw [up_imp h] at hi
      unfold plainB at hp
      rw [hi, Bool.true_and] at hp
      rw [hp]; rfl
  · have hp' := (up_plain h).trans hp
    exact virtB_2 (plain_fact hp') hp'
theorem cells_low : ∀ (xs : List T) (k : Nat) (x : T) (v : Int), xs[k]? = some x → (xs.flatMap T.cells).set (k * 5) (.int .i64 v) = (xs.set k { x with low := v }).flatMap T.cells := by
  intro xs
  induction xs with
  | nil => intro k x v h; simp at h
  | cons y ys ih =>
    intro k x v h
    cases k with
    | zero =>
      simp at h
      subst h
      simp [T.cells]
    | succ k =>
      have := ih k x v (by simpa using h)
      rw [List.set_cons_succ, List.flatMap_cons, List.flatMap_cons, ← this, show (k + 1) * 5 = k * 5 + 5 by omega]
      rfl
theorem OwnT.setLow {w w1 : World} {g c m : Nat} {xs : List T} (h : OwnT w w1 (.slice (some ⟨g, 0, none⟩) m c) m xs) {k : Nat} {x : T} (hx : xs[k]? = some x) (v : Int) :
    OwnT w (w1.setCell ⟨g, k * 5, none⟩ (.int .i64 v)) (.slice (some ⟨g, 0, none⟩) m c) m (xs.set k { x with low := v }) :=
  ⟨by rw [← cells_low xs k x v hx]; exact (h.1.stored (k * 5) _).1, by rw [List.length_set]; exact h.2⟩
def upTo (xs : List T) (j : Nat) : List T := (xs.take j).map up1 ++ xs.drop j
theorem upTo_zero (xs : List T) : upTo xs 0 = xs := by simp [upTo]
theorem upTo_all {xs : List T} {m : Nat} (h : xs.length = m) : upTo xs m = upL xs := by
  subst h
  simp [upTo, upL]
theorem upTo_at {xs : List T} {j : Nat} {x : T} (hx : xs[j]? = some x) : (upTo xs j)[j]? = some x := by
  have hl := (List.getElem?_eq_some_iff.1 hx).1
  unfold upTo
  rw [List.getElem?_append_right (by rw [List.length_map, List.length_take]; omega), List.length_map, List.length_take, List.getElem?_drop, Nat.min_eq_left (by omega)]
  simpa using hx
theorem upTo_set {xs : List T} {j : Nat} {x : T} (hx : xs[j]? = some x) : (upTo xs j).set j { x with low := x.high } = upTo xs (j + 1) := by
  obtain ⟨hl, he⟩ := List.getElem?_eq_some_iff.1 hx
  unfold upTo
  rw [List.set_append_right _ _ (by rw [List.length_map, List.length_take]; omega), List.length_map, List.length_take, Nat.min_eq_left (by omega), Nat.sub_self, List.drop_eq_getElem_cons hl, he, take_succ_of hx, List.map_append]
  simp [up1]
theorem OwnT.form2 {w w1 : World} {A : Option Addr} {m d : Nat} {xs : List T} (h : OwnT w w1 (.slice A m d) m xs) : (A = none ∧ m = 0 ∧ d = 0 ∧ xs = []) ∨ ∃ g, A = some ⟨g, 0, none⟩ := by
  rcases h.form with ⟨e, h0⟩ | ⟨g, c, e, _⟩
  · injection e with e1 e2 e3
    exact Or.inl ⟨e1, h0, e3, List.eq_nil_of_length_eq_zero (h.2.trans h0)⟩
  · injection e with e1
    exact Or.inr ⟨g, e1⟩
theorem rd5_cells {w : World} {g n c : Nat} {xs : List T} (h : RdT w (some ⟨g, 0, none⟩) n c xs) : ∀ j u, (xs.flatMap T.cells)[j]? = some u → w.cell? ((⟨g, 0, none⟩ : Addr).add j) = some u := by
  intro j u hu
  have hj : j < (xs.flatMap T.cells).length := (List.getElem?_eq_some_iff.1 hu).1
  rw [flatMap_len T.cells_len] at hj
  have hd : j / 5 < xs.length := Nat.div_lt_of_lt_mul (by omega)
  obtain ⟨b', off', e, hc⟩ := h.cells (by rw [← h.len]; omega)
  injection e with e; injection e with e1 e2
  subst e1 e2
  have hx : xs[j / 5]? = some xs[j / 5] := List.getElem?_eq_getElem hd
  have hm : j % 5 < 5 := Nat.mod_lt _ (by omega)
  have hlen : j % 5 < (xs[j / 5].cells).length := by rw [T.cells_len]; exact hm
  have hu2 := flatMap_get T.cells_len hx (List.getElem?_eq_getElem hlen)
  have e : j / 5 * 5 + j % 5 = j := by omega
  rw [e] at hu2
  rw [hu2] at hu
  have := hc (j / 5) _ hx (j % 5) _ (List.getElem?_eq_getElem hlen)
  rw [Nat.add_assoc, e] at this
  rw [Addr.add_lit]
  rw [this]; exact hu
theorem cells_allone (xs : List T) : ∀ u ∈ xs.flatMap T.cells, u.oneCell' = true := by
  intro u hu
  obtain ⟨x, _, hx⟩ := List.mem_flatMap.1 hu
  exact cells_oneCell x u hx
theorem OwnT.below5 {w w1 w2 : World} {v : Value} {m : Nat} {xs : List T} (h : OwnT w w1 v m xs) (hb : Below w1.heap.size w1 w2) : OwnT w w2 v m xs := ⟨own_below h.1 hb, h.2⟩

set_option maxRecDepth 100000 in
set_option maxHeartbeats 12800000 in
theorem walk_FnPlainHigh (A : Option Addr) (n c : Nat) (bs : List UInt8) (w : World) (h : RdB w A n c bs) :
    Calls Try.prog 10 #[.slice A n c] w fun e w' => e = .returned (.bool true) ∧ Below w.heap.size w w' := by
  have hz0 := Below.refl w.heap.size w
  have H := Lib.hid h
  have hmx : n ≤ maxLen := Nat.le_trans h.cap h.max
  unfold maxLen at hmx
  clear h
  by_cases hn : n ≤ 1048576
  · go_enter Try.func10, Try.ntmps10
    go_wp2_with fail
    refine (drawHoldsPlain_any A n c bs w H.out).mono ?_
    rintro e w1 ⟨D, m, d, xs, rfl, hm6, ho, hz1⟩
    have qT := Lib.hid ho.rd5
    have oT := Lib.hid ho
    have hfm := ho.form2
    clear ho
    go_wp2_with fail
    refine (holdsPlain_impl D m d xs w1 qT.out).mono ?_
    rintro e w2 ⟨rfl, hb2⟩
    have hz2 := hz1.trans (hb2.mono hz1.size)
    replace qT := Lib.hid (qT.out.below hb2)
    clear hb2
    have hee : (plainB xs != plainB xs) = false := by simp
    have hee2 : (plainB xs == plainB xs) = true := by simp
    go_wp2_with fail
    refine (holdsPlain_spec D m d xs w2 qT.out).mono ?_
    rintro e w3 ⟨rfl, hb3⟩
    have hz3 := hz2.trans (hb3.mono hz2.size)
    replace qT := Lib.hid (qT.out.below hb3)
    clear hb3
    have hV := Lib.hid (setValid_impl D m d xs w3 qT.out)
    cases hs : svB xs
    · rw [hs] at hV
      clear hs
      go_wp2_with fail
      refine (hV.out).mono ?_
      rintro e w4 ⟨rfl, hb4⟩
      have hz4 := hz3.trans (hb4.mono hz3.size)
      replace qT := Lib.hid (qT.out.below hb4)
      clear hb4
      go_wp2_with fail
      refine (holdsPlain_spec D m d xs w4 qT.out).mono ?_
      rintro e w5 ⟨rfl, hb5⟩
      have hz5 := hz4.trans (hb5.mono hz4.size)
      clear hb5
      go_wp2
      go_ret
      exact ⟨rfl, hz5⟩
    · rw [hs] at hV
      have HP := Lib.hid (up_plain hs)
      have HU := Lib.hid (up_virt hs)
      clear hs
      go_wp2_with fail
      refine (hV.out).mono ?_
      rintro e w4 ⟨rfl, hb4⟩
      have hz4 := hz3.trans (hb4.mono hz3.size)
      replace qT := Lib.hid (qT.out.below hb4)
      clear hb4
      go_upto_region 7 with fail
      go_cut [5] (fun s5 wx => ∃ g d' : Nat, s5 = .slice (some ⟨g, 0, none⟩) m d' ∧ OwnT w4 wx (.slice (some ⟨g, 0, none⟩) m d') m xs ∧ Below w.heap.size w wx)
      case first =>
        obtain ⟨inf, hi, iz0, iz1, iz2⟩ := info_parts infoTaskD
        have N0 := Lib.hid (OwnT.new w4)
        have hbA := (Below.refl w4.heap.size w4).alloc (Nat.le_refl _) (.cells #[] 31)
        have hz4a := hz4.alloc hz4.size (.cells #[] 31)
        rcases hfm with ⟨rfl, rfl, rfl, rfl⟩ | ⟨g, rfl⟩
        · go_wp2_with (at_builtin; refine wpList_append_own_none _ rfl _ _ 23 rfl w4.heap.size 31 inf 5 Try.underlying23 hi _ _ _ rfl N0.out.1 rfl ?_)
          go_meet
          exact ⟨_, _, rfl, N0.out, hz4a⟩
        · have s1 := Lib.hid (rd5_cells (qT.out.alloc (.cells #[] 31)))
          have l1 := Lib.hid (show (xs.flatMap T.cells).length = m * 5 by rw [flatMap_len T.cells_len, qT.out.len])
          go_wp2_with (at_builtin; refine wpList_append_own _ rfl _ _ 23 rfl w4.heap.size 31 inf _ 5 40 Try.underlying23 hi iz0 iz1 iz2 rfl (by decide) _ _ _ rfl N0.out.1 ⟨g, 0, none⟩ m d (xs.flatMap T.cells) rfl l1.out s1.out (cells_allone _) ?c3 ?c4 ?c5 ?_)
          case c3 => unfold maxLen; omega
          case c4 => omega
          case c5 => simp
          intro v' w5 hown hg hnn
          have hg' : (w4.alloc (.cells #[] 31)).grownBy w5 (some w4.heap.size) := hg
          have hz5 := hz4a.grown hg' hz4a.size (fun k e => by injection e with e; have := hz4.size; omega)
          have N1 : OwnT w4 w5 v' m xs := ⟨by simpa using hown, qT.out.len⟩
          have nn : v' ≠ .slice none 0 0 := fun e => by first | exact hnn e | (have h := (hnn.1 e).1; cases h)
          rcases N1.form with ⟨e, _⟩ | ⟨g', d', e, _⟩
          · exact absurd e nn
          · subst e
            have N2 := Lib.hid N1
            clear N1 nn hown hg hg' hnn s1 l1 N0
            go_wp2_with fail
            go_meet
            exact ⟨_, _, rfl, N2.out, hz5⟩
      case rest =>
        obtain ⟨g, d', rfl, hN, hzc⟩ := hcut
        have Nc := Lib.hid hN
        have hw4 := hz4.size
        have hl := Lib.hid qT.out.len
        clear hN hfm
        go_wp2_with fail
        go_loopw [6] (fun iv wr => ∃ j : Nat, iv = .int .i64 j ∧ j ≤ m ∧ OwnT w4 wr (.slice (some ⟨g, 0, none⟩) m d') m (upTo xs j) ∧ Below w.heap.size w wr) (fun iv _ => m - (intOf iv).toNat)
        case atStart => exact ⟨0, rfl, Nat.zero_le _, by rw [upTo_zero]; exact Nc.out, hzc⟩
        case round =>
          obtain ⟨j, rfl, hj, ho, hbel⟩ := hrel
          replace ho := Lib.hid ho
          clear Nc hzc
          by_cases hjm : j < m
          · obtain ⟨b, off, x, hbo, hx, hb, c0, c1, c2, c3, c4⟩ := ho.out.rd5.taskAt hjm
            injection hbo with hbo
            injection hbo with e1 e2
            subst e1 e2
            rw [Nat.zero_add] at c0 c1 c2 c3 c4
            have f0 := ho.out.1.frozenAt (j * 5)
            have hgw := (own_lt ho.out.1).1
            have hxs : xs[j]? = some x := by
              have h1 := upTo_at (xs := xs) (j := j) (x := xs[j]'(by rw [hl.out]; exact hjm)) (List.getElem?_eq_getElem _)
              rw [hx] at h1
              injection h1 with h1
              rw [h1]
              exact List.getElem?_eq_getElem _
            have o3 := Lib.hid (show OwnT w4 (wr.setCell ⟨g, j * 5, none⟩ (.int .i64 x.high)) (.slice (some ⟨g, 0, none⟩) m d') m (upTo xs (j + 1)) from by rw [← upTo_set hxs]; exact ho.out.setLow hx x.high)
            have hz6 := Lib.hid (hbel.setCell (p := ⟨g, j * 5, none⟩) (Nat.le_trans hw4 hgw) (.int .i64 x.high))
            have j0 : (0 : Int) ≤ (j : Int) := by omega
            have j1 : (j : Int) < (m : Int) := by omega
            clear hx hxs ho hbel
            go_wp2
            go_roundw
            case rel => exact ⟨j + 1, by go_num, by omega, o3.out, hz6.out⟩
            case measure => simp [intOf]; omega
          · have hjm' : j = m := by omega
            subst hjm'
            have qU := Lib.hid (show RdT wr (some ⟨g, 0, none⟩) j d' (upL xs) by have := ho.out.rd5; rw [upTo_all hl.out] at this; exact this)
            have hzel := hbel
            go_wp2_with fail
            refine (holdsPlain_impl _ j d' (upL xs) wr qU.out).mono ?_
            rw [HP.out]
            rintro e w7 ⟨rfl, hb7⟩
            have hz7 := hzel.trans (hb7.mono hzel.size)
            replace qU := Lib.hid (qU.out.below hb7)
            clear hb7
            go_wp2_with fail
            refine (holdsVirtual_impl _ j d' (upL xs) w7 qU.out).mono ?_
            rw [HU.out]
            rintro e w8 ⟨rfl, hb8⟩
            have hz8 := hz7.trans (hb8.mono hz7.size)
            clear hb8
            go_wp2
            go_ret
            exact ⟨rfl, hz8⟩
  · go_enter Try.func10, Try.ntmps10
    go_wp2
    go_ret
    exact ⟨rfl, hz0⟩

namespace top_FnPlainHigh
set_option maxRecDepth 100000 in
theorem lifted (os : Os) (started : os.Started) (H : Type) (enc : TypeId × Value → H) :
    ReturnsInHanded {} Try.checked os 10 .any (Rows.fnPlainHighSpec.pre6 enc Try.prog Try.f10 Rows.fnPlainHighRow.domain false) (Rows.fnPlainHighSpec.post enc Try.prog Try.f10 false true false false) := by
  refine returnsInHanded_of_change (C := Try.checked) ownKnob_none started (by kernel_rfl) Try.func10
    (ChangeSpec.witness6 (enc := enc) (C := Try.checked) false ⟨#[], #[.slice none 0 0], []⟩ 8 (by kernel_rfl) (by kernel_rfl) (by kernel_rfl) (by kernel_rfl)) ?_
  intro W base args ds gs before hval0 hW hcnd _
  have hval : ∀ (j : Nat) t v, Try.f10.params[j]? = some t → args[j]? = some v → Value.okWide Try.prog W .any base t v := hval0
  have hW' := hW
  obtain ⟨p, q, hA0, hV, rfl, hfz, hnd⟩ := hW
  have hA : DataW.TrodAll enc Try.prog W 0 (fun _ => true) true Try.f10.params.toList args.toList ds p := hA0
  rw [Try.params10] at hA hval
  obtain ⟨v0, vs0, d0, ds0, p0, q0, hargs, rfl, rfl, h0, r0⟩ := trodAll_cons hA
  obtain ⟨rfl, rfl, rfl⟩ := trodAll_nil r0
  obtain rfl : args = #[v0] := by cases args; simp_all
  obtain ⟨rfl, rfl⟩ := trodVars_none hV
  have k0 := h0
  have lt0 : ∀ x ∈ p0, x.block < W.heap.size := by obtain ⟨m, hm⟩ := k0; exact DataW.trod_lt m _ _ _ hm
  obtain ⟨a0, n0, c0, rfl⟩ := okWide_slice Try.underlying22 (hval 0 22 v0 rfl rfl)
  obtain ⟨x0, w0⟩ : ∃ xs, RdB W a0 n0 c0 xs := by
    obtain ⟨fuel, hf⟩ := h0
    obtain ⟨A, n, c, xs, hcs, hR⟩ := open_bytes hf
    simp [Value.cells] at hcs
    obtain ⟨rfl, rfl, rfl⟩ := hcs
    exact ⟨xs, hR⟩
  clear hA0 hval0
  refine (walk_FnPlainHigh a0 n0 c0 x0 W w0).mono fun e W' ⟨he, bel⟩ => ?_
  subst he
  exact ⟨_, rfl, _, _, _, [], _, [], hW', trodAll_mk1 (shut_bool Try.underlying4 _), (trodAll_cons_mk (Below.trod laidOut (by kernel_rfl) (of_decide_eq_true (by kernel_rfl)) k0 bel lt0) trodAll_mk0), rfl, bel.frame _, fun h => by cases h⟩

theorem over : Rows.fnPlainHighRow.holds Try.pinned (OpenSpec.ofChange Rows.fnPlainHighSpec) :=
  OpenClaim.holds_of_wide 10 Try.f10 rfl rfl rfl rfl rfl rfl rfl ⟨rfl, rfl, rfl, rfl, rfl⟩ rfl rfl rfl rfl rfl (by kernel_rfl) Try.func10 (by kernel_rfl)
    (of_decide_eq_true (by kernel_rfl)) (by unfold Func.isWrapper; first | (rw [if_pos (by decide +kernel)]; kernel_rfl) | (rw [if_neg (by decide +kernel)]; exact ⟨rfl, rfl⟩))
    (fun os started H enc _ => lifted os started H enc)
end top_FnPlainHigh

theorem FnPlainHigh_holds : Rows.FnPlainHighSaid := top_FnPlainHigh.over
#print axioms FnPlainHigh_holds

end Go.Proofs.Ytcdmegiffbhbeaa
