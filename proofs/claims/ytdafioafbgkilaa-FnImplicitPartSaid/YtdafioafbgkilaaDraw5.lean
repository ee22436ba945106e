/- The contracts of the drawing of tasks with implicit deadlines: l5Set and the draws over it. No condition. -/
import Derived.Test.YtdafioafbgkilaaDrawS
namespace Go.Proofs.Ytdafioafbgkilaa
open Go.RowKit
set_option linter.unusedVariables false

theorem cells_due : ∀ (xs : List T) (k : Nat) (x : T) (v : Int), xs[k]? = some x → (xs.flatMap T.cells).set (k * 5 + 2) (.int .i64 v) = (xs.set k { x with due := v }).flatMap T.cells := by
  intro xs
  induction xs with
  | nil => intro k x v h; simp at h
  | cons y ys ih =>
    intro k x v h
    cases k with
    | zero =>
      simp at h
      subst h
      simp [T.cells]
    | succ k =>
      have := ih k x v (by simpa using h)
      rw [List.set_cons_succ, List.flatMap_cons, List.flatMap_cons, ← this, show (k + 1) * 5 + 2 = k * 5 + 2 + 5 by omega]
      rfl
theorem OwnT.setDue {w w1 : World} {g c m : Nat} {xs : List T} (h : OwnT w w1 (.slice (some ⟨g, 0, none⟩) m c) m xs) {k : Nat} {x : T} (hx : xs[k]? = some x) (v : Int) :
    OwnT w (w1.setCell ⟨g, k * 5 + 2, none⟩ (.int .i64 v)) (.slice (some ⟨g, 0, none⟩) m c) m (xs.set k { x with due := v }) :=
  ⟨by rw [← cells_due xs k x v hx]; exact (h.1.stored (k * 5 + 2) _).1, by rw [List.length_set]; exact h.2⟩
theorem OwnT.rd5 {w w1 : World} {A : Option Addr} {c m : Nat} {xs : List T} (h : OwnT w w1 (.slice A m c) m xs) : RdT w1 A m c xs := Rd.of_own T.cells_len h.1 h.2

set_option maxRecDepth 100000 in
set_option maxHeartbeats 3200000 in
theorem l5Set_any (R : Nat) (A : Option Addr) (n c : Nat) (bs : List UInt8) (p : Nat) (w : World) (h : Rdr w R A n c bs p) (hp : p < 999000) :
    Calls Try.prog 42 #[.pointer (some ⟨R, 0, none⟩)] w fun e w' => ∃ (D : Option Addr) (m d : Nat) (xs : List T), e = .returned (.slice D m d) ∧ m ≤ 6 ∧ OwnT w w' (.slice D m d) m xs ∧ Drawn w R A n c bs p 110 w' := by
  have hR := h.lt
  have H := Lib.hid h
  clear h
  go_enter Try.func42, Try.ntmps42
  go_wp2_with fail
  refine (l1Some_any R A n c bs p w H.out hp).mono ?_
  rintro e w1 ⟨D, m, d, xs, rfl, hm6, ho, hD⟩
  replace ho := Lib.hid ho
  replace hD := Lib.hid hD
  clear H
  go_wp2_with fail
  refine (hD.out.pick (by omega) _).mono ?_
  rintro e w2 ⟨q, rfl, hq, D2, g2⟩
  have o2 := Lib.hid (ho.out.grown hR g2)
  replace D2 := Lib.hid D2
  have hq0 : 0 ≤ q := hq.1
  clear g2 hq ho hD
  by_cases hqp : 0 < q
  · go_wp2_with fail
    go_loopw [4] (fun i wr => ∃ (k : Nat) (ys : List T), i = .int .i64 k ∧ k ≤ m ∧ OwnT w wr (.slice D m d) m ys ∧ Drawn w R A n c bs p 110 wr) (fun i _ => m - (intOf i).toNat)
    case atStart => exact ⟨0, xs, rfl, Nat.zero_le _, o2.out, D2.out.more (by omega)⟩
    case round =>
      obtain ⟨k, ys, rfl, hk, ho, hD⟩ := hrel
      replace ho := Lib.hid ho
      replace hD := Lib.hid hD
      clear o2 D2
      by_cases hkm : k < m
      · obtain ⟨g, hg, hgw⟩ : ∃ g, D = some ⟨g, 0, none⟩ ∧ w.heap.size ≤ g := by
          rcases ho.out.form with ⟨_, h0⟩ | ⟨g, c', e, hgw⟩
          · omega
          · injection e with e1 _ _; exact ⟨g, e1, hgw⟩
        subst hg
        obtain ⟨b, off, x, hbo, hx, hb, c0, c1, c2, c3, c4⟩ := ho.out.rd5.taskAt hkm
        injection hbo with hbo
        injection hbo with e1 e2
        subst e1 e2
        rw [Nat.zero_add] at c0 c1 c2 c3 c4
        have f2 := ho.out.1.frozenAt (k * 5 + 2)
        have o3 := Lib.hid (ho.out.setDue hx x.every)
        have D3 := Lib.hid (hD.out.set_ (q := ⟨g, k * 5 + 2, none⟩) hgw (.int .i64 x.every))
        clear hx ho hD
        go_wp2
        go_roundw
        case rel => exact ⟨k + 1, _, by go_num, by omega, o3.out, D3.out⟩
        case measure => simp [intOf]; omega
      · have hkm' : k = m := by omega
        subst hkm'
        go_wp2
        go_ret
        exact ⟨_, _, _, ys, rfl, hm6, ho.out, hD.out⟩
  · go_wp2
    go_ret
    exact ⟨_, _, _, xs, rfl, hm6, o2.out, D2.out.more (by omega)⟩

set_option maxHeartbeats 1600000 in
theorem drawImplicit_any (A : Option Addr) (n c : Nat) (bs : List UInt8) (w : World) (h : RdB w A n c bs) :
    Calls Try.prog 35 #[.slice A n c] w fun e w' => ∃ (D : Option Addr) (m d : Nat) (xs : List T), e = .returned (.slice D m d) ∧ m ≤ 6 ∧ OwnT w w' (.slice D m d) m xs ∧ Below w.heap.size w w' := by
  have H := Lib.hid h
  clear h
  go_enter Try.func35, Try.ntmps35
  go_wp2_with fail
  refine (open_any A n c bs w H.out).mono ?_
  rintro e w1 ⟨R, n1, bs1, rfl, hR, hr, hb1⟩
  have hRlt := hr.lt
  replace hr := Lib.hid hr
  replace hb1 := Lib.hid hb1
  go_wp2_with fail
  refine (l5Set_any R A n1 c bs1 0 w1 hr.out (by omega)).mono ?_
  rintro e w2 ⟨D, m, d, xs, rfl, hm6, ho, hD⟩
  have hb2 := Lib.hid (hb1.out.grown hD.2.1 hb1.out.size (fun k e => by injection e with e; omega))
  have ho2 := Lib.hid (ho.ext hb1.out.size)
  clear hD hr hb1 ho
  go_wp2
  go_ret
  exact ⟨_, _, _, xs, rfl, hm6, ho2.out, hb2.out⟩

set_option maxHeartbeats 1600000 in
theorem drawFactorOf_any (A : Option Addr) (n c : Nat) (bs : List UInt8) (w : World) (h : RdB w A n c bs) :
    Calls Try.prog 33 #[.slice A n c] w fun e w' => ∃ (D : Option Addr) (m d : Nat) (xs : List T), e = .returned (.slice D m d) ∧ m ≤ 6 ∧ OwnT w w' (.slice D m d) m xs ∧ Below w.heap.size w w' := by
  have H := Lib.hid h
  clear h
  go_enter Try.func33, Try.ntmps33
  go_wp2_with fail
  refine (open_any A n c bs w H.out).mono ?_
  rintro e w1 ⟨R, n1, bs1, rfl, hR, hr, hb1⟩
  have hRlt := hr.lt
  replace hr := Lib.hid hr
  replace hb1 := Lib.hid hb1
  go_wp2_with fail
  refine (l5Set_any R A n1 c bs1 0 w1 hr.out (by omega)).mono ?_
  rintro e w2 ⟨D, m, d, xs, rfl, hm6, ho, hD⟩
  have hb2 := Lib.hid (hb1.out.grown hD.2.1 hb1.out.size (fun k e => by injection e with e; omega))
  have ho2 := Lib.hid (ho.ext hb1.out.size)
  clear hD hr hb1 ho
  go_wp2
  go_ret
  exact ⟨_, _, _, xs, rfl, hm6, ho2.out, hb2.out⟩

set_option maxHeartbeats 1600000 in
theorem drawHoldsVirtual_any (A : Option Addr) (n c : Nat) (bs : List UInt8) (w : World) (h : RdB w A n c bs) :
    Calls Try.prog 13 #[.slice A n c] w fun e w' => ∃ (D : Option Addr) (m d : Nat) (xs : List T), e = .returned (.slice D m d) ∧ m ≤ 6 ∧ OwnT w w' (.slice D m d) m xs ∧ Below w.heap.size w w' := by
  have H := Lib.hid h
  clear h
  go_enter Try.func13, Try.ntmps13
  go_wp2_with fail
  refine (open_any A n c bs w H.out).mono ?_
  rintro e w1 ⟨R, n1, bs1, rfl, hR, hr, hb1⟩
  have hRlt := hr.lt
  replace hr := Lib.hid hr
  replace hb1 := Lib.hid hb1
  go_wp2_with fail
  refine (l5Set_any R A n1 c bs1 0 w1 hr.out (by omega)).mono ?_
  rintro e w2 ⟨D, m, d, xs, rfl, hm6, ho, hD⟩
  have hb2 := Lib.hid (hb1.out.grown hD.2.1 hb1.out.size (fun k e => by injection e with e; omega))
  have ho2 := Lib.hid (ho.ext hb1.out.size)
  clear hD hr hb1 ho
  go_wp2
  go_ret
  exact ⟨_, _, _, xs, rfl, hm6, ho2.out, hb2.out⟩


set_option maxHeartbeats 1600000 in
theorem drawLoadOf_any (A : Option Addr) (n c : Nat) (bs : List UInt8) (w : World) (h : RdB w A n c bs) :
    Calls Try.prog 25 #[.slice A n c] w fun e w' => ∃ (D : Option Addr) (m d : Nat) (xs : List T), e = .returned (.slice D m d) ∧ m ≤ 6 ∧ OwnT w w' (.slice D m d) m xs ∧ Below w.heap.size w w' := by
  have H := Lib.hid h
  clear h
  go_enter Try.func25, Try.ntmps25
  go_wp2_with fail
  refine (open_any A n c bs w H.out).mono ?_
  rintro e w1 ⟨R, n1, bs1, rfl, hR, hr, hb1⟩
  have hRlt := hr.lt
  replace hr := Lib.hid hr
  replace hb1 := Lib.hid hb1
  go_wp2_with fail
  refine (l5Set_any R A n1 c bs1 0 w1 hr.out (by omega)).mono ?_
  rintro e w2 ⟨D, m, d, xs, rfl, hm6, ho, hD⟩
  have hb2 := Lib.hid (hb1.out.grown hD.2.1 hb1.out.size (fun k e => by injection e with e; omega))
  have ho2 := Lib.hid (ho.ext hb1.out.size)
  clear hD hr hb1 ho
  go_wp2
  go_ret
  exact ⟨_, _, _, xs, rfl, hm6, ho2.out, hb2.out⟩

set_option maxHeartbeats 1600000 in
theorem drawVirtualDue_any (A : Option Addr) (n c : Nat) (bs : List UInt8) (w : World) (h : RdB w A n c bs) :
    Calls Try.prog 40 #[.slice A n c] w fun e w' => ∃ (D : Option Addr) (m d : Nat) (xs : List T) (i : Int), e = .returned (.tuple #[.slice D m d, .int .i64 i]) ∧ m ≤ 6 ∧ OwnT w w' (.slice D m d) m xs ∧ Below w.heap.size w w' := by
  have H := Lib.hid h
  clear h
  go_enter Try.func40, Try.ntmps40
  go_wp2_with fail
  refine (open_any A n c bs w H.out).mono ?_
  rintro e w1 ⟨R, n1, bs1, rfl, hR, hr, hb1⟩
  have hRlt := hr.lt
  replace hr := Lib.hid hr
  replace hb1 := Lib.hid hb1
  go_wp2_with fail
  refine (l5Set_any R A n1 c bs1 0 w1 hr.out (by omega)).mono ?_
  rintro e w2 ⟨D, m, d, xs, rfl, hm6, ho, hD⟩
  have hs1 := hD.2.1.size
  have n2 := Lib.hid (rdI_new w2 3 #[.int .i64 0, .int .i64 1, .int .i64 2, .int .i64 5, .int .i64 (-1)] w2.heap.size [0, 1, 2, 5, -1] rfl rfl 5 rfl (by decide))
  replace hD := Lib.hid (hD.alloc (.cells #[.int .i64 0, .int .i64 1, .int .i64 2, .int .i64 5, .int .i64 (-1)] 3))
  replace ho := Lib.hid (ho.alloc (.cells #[.int .i64 0, .int .i64 1, .int .i64 2, .int .i64 5, .int .i64 (-1)] 3))
  clear hr
  go_wp2_with fail
  refine (hD.out.num (by omega) n2.out (by decide) (by decide) (by omega)).mono ?_
  rintro e w3 ⟨u, rfl, _, D3, g3⟩
  have o3 := Lib.hid ((ho.out.grown hRlt g3).ext hb1.out.size)
  have hb3 := Lib.hid (hb1.out.grown D3.2.1 hb1.out.size (fun k e => by injection e with e; omega))
  clear g3 n2 hD ho D3 hb1
  go_wp2
  go_ret2
  exact ⟨D, m, d, xs, u, rfl, hm6, o3.out, hb3.out⟩

end Go.Proofs.Ytdafioafbgkilaa
