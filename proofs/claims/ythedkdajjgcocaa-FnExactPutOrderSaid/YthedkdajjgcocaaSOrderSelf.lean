/- The order of the list leaves it as it is: the law returns true for every input. No condition. -/
import Derived.Test.YthedkdajjgcocaaOpen
import Derived.Test.YthedkdajjgcocaaPut
import Derived.Test.YthedkdajjgcocaaEq
import Derived.Test.YthedkdajjgcocaaDrawV
namespace Go.Proofs.Ythedkdajjgcocaa
open Go.ChangeShapes Go.WideShapes Go.ChangeAt Go.RowKit
set_option linter.unusedVariables false

/-- the numbers below n -/
def upTo (n : Nat) : List Int := (List.range n).map (fun i : Nat => (i : Int))
theorem upTo_succ (n : Nat) : upTo (n + 1) = upTo n ++ [(n : Int)] := by simp [upTo, List.range_succ]
theorem upTo_len (n : Nat) : (upTo n).length = n := by simp [upTo]
theorem upTo_ord {xs : List T} {n : Nat} (hl : xs.length = n) (hs : svB xs = true) : ordB xs (upTo n) = true := by
  rw [ordB_of hl hs, isOrd_iff]
  refine ⟨upTo_len n, fun x hx => ?_, ?_⟩
  · obtain ⟨i, hi, rfl⟩ := List.mem_map.1 hx
    have := List.mem_range.1 hi
    omega
  · exact List.Pairwise.map _ (fun a b h => by omega) List.nodup_range
theorem upTo_put {xs : List T} {n : Nat} (hl : xs.length = n) : putL xs (upTo n) = xs := by
  apply List.ext_getElem
  · rw [putL_len, upTo_len, hl]
  · intro i h1 h2
    simp [putL, upTo, h2]
theorem sv_of_ord {xs : List T} {o : List Int} (h : ordB xs o = true) : svB xs = true := by
  simp only [ordB, Bool.and_eq_true] at h
  exact h.1

theorem OwnI.ext {w w' w1 : World} {v : Value} {m : Nat} {xs : List Int} (h : OwnI w' w1 v m xs) (hs : w.heap.size ≤ w'.heap.size) : OwnI w w1 v m xs := by
  refine ⟨⟨h.1.1, ?_⟩, h.2⟩
  rcases h.1.2 with h0 | ⟨g, cap, cur, hv, hb, r⟩
  · exact Or.inl h0
  · exact Or.inr ⟨g, cap, cur, hv, Nat.le_trans hs hb, r⟩
theorem OwnT.rd {w w1 : World} {A : Option Addr} {c m : Nat} {xs : List T} (h : OwnT w w1 (.slice A m c) m xs) : RdT w1 A m c xs := Rd.of_own T.cells_len h.1 h.2
theorem OwnI.rd {w w1 : World} {A : Option Addr} {c m : Nat} {xs : List Int} (h : OwnI w w1 (.slice A m c) m xs) : RdI w1 A m c xs := Rd.of_own icells_len h.1 h.2
theorem OwnT.len {w w1 : World} {v : Value} {m : Nat} {xs : List T} (h : OwnT w w1 v m xs) : xs.length = m := h.2

set_option maxRecDepth 100000 in
set_option maxHeartbeats 6400000 in
theorem walk_FnOrderSelf (A : Option Addr) (n c : Nat) (bs : List UInt8) (w : World) (h : RdB w A n c bs) :
    Calls Try.prog 10 #[.slice A n c] w fun e w' => e = .returned (.bool true) ∧ Below w.heap.size w w' := by
  have hz0 := Below.refl w.heap.size w
  have H := Lib.hid h
  have hmx : n ≤ maxLen := Nat.le_trans h.cap h.max
  unfold maxLen at hmx
  clear h
  by_cases hn : n ≤ 1048576
  · obtain ⟨inf, hi, hz0', hz1', hz2'⟩ := info_parts infoIntD
    go_enter Try.func10, Try.ntmps10
    go_wp2_with fail
    refine (drawPutOrder_any A n c bs w H.out).mono ?_
    rintro e w1 ⟨D, m, d, xs, D', k, d', ys, rfl, hm6, hk7, hT, hI, hz1⟩
    have qT := Lib.hid hT
    have qI := Lib.hid hI
    clear hT hI
    go_wp2_with fail
    refine (putOrder_impl D D' m d k d' xs ys w1 qT.out qI.out).mono ?_
    rintro e w2 ⟨P1, k1, d1, rfl, o1, hb2⟩
    have hz2 := hz1.trans (hb2.mono hz1.size)
    have r1 := Lib.hid o1.rd
    have l1 := Lib.hid o1.len
    replace qT := Lib.hid (qT.out.below hb2)
    replace qI := Lib.hid (qI.out.below hb2)
    clear hb2 o1
    go_wp2_with fail
    refine (putOrder_spec D D' m d k d' xs ys w2 qT.out qI.out).mono ?_
    rintro e w3 ⟨P2, k2, d2, rfl, o2, hb3⟩
    have hz3 := hz2.trans (hb3.mono hz2.size)
    have r2 := Lib.hid o2.rd
    have l2 := o2.len
    have hkk : k2 = k1 := by rw [← l2, l1.out]
    subst hkk
    replace qT := Lib.hid (qT.out.below hb3)
    replace r1 := Lib.hid (r1.out.below hb3)
    clear hb3 o2 qI l2
    have hee : (ordB xs ys != ordB xs ys) = false := by simp
    have hee2 : (ordB xs ys == ordB xs ys) = true := by simp
    go_wp2_with fail
    refine (dmTasks_same P1 P2 k2 d1 d2 (putV xs ys) w3 r1.out r2.out).mono ?_
    rintro e w4 ⟨rfl, hb4⟩
    have hz4 := hz3.trans (hb4.mono hz3.size)
    replace qT := Lib.hid (qT.out.below hb4)
    replace r1 := Lib.hid (r1.out.below hb4)
    replace r2 := Lib.hid (r2.out.below hb4)
    clear hb4
    cases hok : ordB xs ys
    · go_wp2_with fail
      refine (dmTasks_same P1 P2 k2 d1 d2 (putV xs ys) w4 r1.out r2.out).mono ?_
      rintro e w5 ⟨rfl, hb5⟩
      have hz5 := hz4.trans (hb5.mono hz4.size)
      clear hb5
      go_wp2
      go_ret
      exact ⟨rfl, hz5⟩
    · have hsv := Lib.hid (sv_of_ord hok)
      have hb0 := hz4.alloc hz4.size (.cells #[] 3)
      have o0 := Lib.hid (OwnI.new w4)
      clear r1 r2 l1
      go_wp2_with fail
      go_loopw [9, 10] (fun v i wr => ∃ j : Nat, i = .int .i64 j ∧ j ≤ m ∧ OwnI w4 wr v j (upTo j) ∧ Below w4.heap.size w4 wr) (fun _ i _ => m - (intOf i).toNat)
      case atStart => exact ⟨0, rfl, Nat.zero_le _, o0.out, (Below.refl _ _).alloc (Nat.le_refl _) _⟩
      case round =>
        obtain ⟨j, rfl, hj, ho, hbel⟩ := hrel
        have hsz := hbel.size
        clear o0 hb0
        by_cases hjm : j < m
        · have o1 := Lib.hid (ho.alloc (.cells #[.int .i64 (j : Int)] 3))
          have hb1 := Lib.hid (hbel.alloc hsz (.cells #[.int .i64 (j : Int)] 3))
          have c1 := Lib.hid (cell_one wr (j : Int) 3 wr.heap.size rfl)
          clear ho hbel
          go_wp2_with (at_builtin; refine wpList_append_own _ rfl _ _ 43 rfl w4.heap.size 3 inf _ 1 8 Try.underlying43 hi hz0' hz1' hz2' rfl (by decide) _ _ _ rfl o1.out.1 ⟨wr.heap.size, 0, none⟩ 1 1 (icells (j : Int)) rfl rfl c1.out (icells_oneCell _) ?c3 ?c4 ?c5 ?_)
          case c3 => unfold maxLen; omega
          case c4 => omega
          case c5 => simp; omega
          intro v' w5 hown5 hg5 _
          have o5 := Lib.hid (show OwnI w4 w5 v' (j + 1) (upTo (j + 1)) from ⟨by rw [upTo_succ, List.flatMap_append]; simpa using hown5, upTo_len _⟩)
          have hb5 := Lib.hid (below_own hb1.out o1.out.1 hg5)
          clear hown5 hg5 o1 hb1 c1
          go_wp2
          go_roundw
          case rel => exact ⟨j + 1, by go_num, by omega, o5.out, hb5.out⟩
          case measure => simp [intOf]; omega
        · have hjm' : j = m := by omega
          subst hjm'
          obtain ⟨E, e', hv⟩ := ho.slice
          subst hv
          have qS := Lib.hid ho.rd
          have hzr := hz4.trans (hbel.mono hz4.size)
          replace qT := Lib.hid (qT.out.below hbel)
          have hO := Lib.hid (upTo_ord qT.out.len hsv.out)
          have hP := Lib.hid ((putV_yes hO.out).trans (upTo_put qT.out.len))
          clear ho hbel
          go_wp2_with fail
          refine (putOrder_impl D E j d j e' xs (upTo j) wr qT.out qS.out).mono ?_
          rw [hO.out, hP.out]
          rintro e w6 ⟨P3, k3, d3, rfl, o3, hb6⟩
          have hz6 := hzr.trans (hb6.mono hzr.size)
          have r3 := Lib.hid o3.rd
          have hk3 : k3 = j := by rw [← o3.len, qT.out.len]
          subst hk3
          replace qT := Lib.hid (qT.out.below hb6)
          replace qS := Lib.hid (qS.out.below hb6)
          clear hb6 o3
          go_wp2_with fail
          refine (dmTasks_same P3 D k3 d3 d xs w6 r3.out qT.out).mono ?_
          rintro e w7 ⟨rfl, hb7⟩
          have hz7 := hz6.trans (hb7.mono hz6.size)
          replace qT := Lib.hid (qT.out.below hb7)
          replace qS := Lib.hid (qS.out.below hb7)
          clear hb7
          go_wp2_with fail
          refine (orderValid_impl D E k3 d k3 e' xs (upTo k3) w7 qT.out qS.out).mono ?_
          rw [hO.out]
          rintro e w8 ⟨rfl, hb8⟩
          have hz8 := hz7.trans (hb8.mono hz7.size)
          clear hb8
          go_wp2
          go_ret
          exact ⟨rfl, hz8⟩
  · go_enter Try.func10, Try.ntmps10
    go_wp2
    go_ret
    exact ⟨rfl, hz0⟩

namespace top_FnOrderSelf
set_option maxRecDepth 100000 in
theorem lifted (os : Os) (started : os.Started) (H : Type) (enc : TypeId × Value → H) :
    ReturnsInHanded {} Try.checked os 10 .any (Rows.fnOrderSelfSpec.pre6 enc Try.prog Try.f10 Rows.fnOrderSelfRow.domain false) (Rows.fnOrderSelfSpec.post enc Try.prog Try.f10 false true false false) := by
  refine returnsInHanded_of_change (C := Try.checked) ownKnob_none started (by kernel_rfl) Try.func10
    (ChangeSpec.witness6 (enc := enc) (C := Try.checked) false ⟨#[], #[.slice none 0 0], []⟩ 8 (by kernel_rfl) (by kernel_rfl) (by kernel_rfl) (by kernel_rfl)) ?_
  intro W base args ds gs before hval0 hW hcnd _
  have hval : ∀ (j : Nat) t v, Try.f10.params[j]? = some t → args[j]? = some v → Value.okWide Try.prog W .any base t v := hval0
  have hW' := hW
  obtain ⟨p, q, hA0, hV, rfl, hfz, hnd⟩ := hW
  have hA : DataW.TrodAll enc Try.prog W 0 (fun _ => true) true Try.f10.params.toList args.toList ds p := hA0
  rw [Try.params10] at hA hval
  obtain ⟨v0, vs0, d0, ds0, p0, q0, hargs, rfl, rfl, h0, r0⟩ := trodAll_cons hA
  obtain ⟨rfl, rfl, rfl⟩ := trodAll_nil r0
  obtain rfl : args = #[v0] := by cases args; simp_all
  obtain ⟨rfl, rfl⟩ := trodVars_none hV
  have k0 := h0
  have lt0 : ∀ x ∈ p0, x.block < W.heap.size := by obtain ⟨m, hm⟩ := k0; exact DataW.trod_lt m _ _ _ hm
  obtain ⟨a0, n0, c0, rfl⟩ := okWide_slice Try.underlying48 (hval 0 48 v0 rfl rfl)
  obtain ⟨x0, w0⟩ : ∃ xs, RdB W a0 n0 c0 xs := by
    obtain ⟨fuel, hf⟩ := h0
    obtain ⟨A, n, c, xs, hcs, hR⟩ := open_bytes hf
    simp [Value.cells] at hcs
    obtain ⟨rfl, rfl, rfl⟩ := hcs
    exact ⟨xs, hR⟩
  clear hA0 hval0
  refine (walk_FnOrderSelf a0 n0 c0 x0 W w0).mono fun e W' ⟨he, bel⟩ => ?_
  subst he
  exact ⟨_, rfl, _, _, _, [], _, [], hW', trodAll_mk1 (shut_bool Try.underlying4 _), (trodAll_cons_mk (Below.trod laidOut (by kernel_rfl) (of_decide_eq_true (by kernel_rfl)) k0 bel lt0) trodAll_mk0), rfl, bel.frame _, fun h => by cases h⟩

theorem over : Rows.fnOrderSelfRow.holds Try.pinned (OpenSpec.ofChange Rows.fnOrderSelfSpec) :=
  OpenClaim.holds_of_wide 10 Try.f10 rfl rfl rfl rfl rfl rfl rfl ⟨rfl, rfl, rfl, rfl, rfl⟩ rfl rfl rfl rfl rfl (by kernel_rfl) Try.func10 (by kernel_rfl)
    (of_decide_eq_true (by kernel_rfl)) (by unfold Func.isWrapper; first | (rw [if_pos (by decide +kernel)]; kernel_rfl) | (rw [if_neg (by decide +kernel)]; exact ⟨rfl, rfl⟩))
    (fun os started H enc _ => lifted os started H enc)
end top_FnOrderSelf

theorem FnOrderSelf_holds : Rows.FnOrderSelfSaid := top_FnOrderSelf.over
#print axioms FnOrderSelf_holds

end Go.Proofs.Ythedkdajjgcocaa
