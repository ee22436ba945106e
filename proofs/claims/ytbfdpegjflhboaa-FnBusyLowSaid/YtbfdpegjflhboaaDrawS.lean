/- The contract of the drawing of some tasks: l1Some. Conditions: fewer than 999000 bytes have been picked before. -/
import Derived.Test.YtbfdpegjflhboaaDrawL
import Derived.Deep.DeepCutAuto
namespace Go.Proofs.Ytbfdpegjflhboaa
open Go.RowKit
set_option linter.unusedVariables false

set_option maxRecDepth 100000 in
set_option maxHeartbeats 6400000 in
theorem l1Some_any (R : Nat) (A : Option Addr) (n c : Nat) (bs : List UInt8) (p : Nat) (w : World) (h : Rdr w R A n c bs p) (hp : p < 999000) :
    Calls Try.prog 59 #[.pointer (some ⟨R, 0, none⟩)] w fun e w' => ∃ (D : Option Addr) (m d : Nat) (xs : List T), e = .returned (.slice D m d) ∧ m ≤ 6 ∧ OwnT w w' (.slice D m d) m xs ∧ Drawn w R A n c bs p 100 w' := by
  have hR := h.lt
  have D0 := Lib.hid (Drawn.refl h)
  obtain ⟨i0, hi, hz0, hz1, hz2⟩ := info_parts infoTaskD
  clear h
  go_enter Try.func59, Try.ntmps59
  go_wp2_with fail
  refine (D0.out.set0 (by omega)).mono ?_
  rintro e w1 ⟨D, m, d, xs, rfl, hm5, ho, D1⟩
  have o1 := Lib.hid ho
  replace D1 := Lib.hid D1
  clear ho D0
  go_upto_if 9 with fail
  go_cut [3] from 5 (fun v wc => ∃ ys : List T, v = .slice D m d ∧ OwnT w wc (.slice D m d) m ys ∧ Drawn w R A n c bs p 50 wc)
  case first =>
    by_cases hm0 : 0 < m
    · obtain ⟨g, hg, hgw⟩ : ∃ g, D = some ⟨g, 0, none⟩ ∧ w.heap.size ≤ g := by
        rcases o1.out.form with ⟨_, h0⟩ | ⟨g, c', e, hgw⟩
        · omega
        · injection e with e1 _ _; exact ⟨g, e1, hgw⟩
      subst hg
      go_wp2_with fail
      refine (D1.out.pick (by omega) _).mono ?_
      rintro e w2 ⟨k, rfl, hk, D2, g2⟩
      have o2 := Lib.hid (o1.out.grown hR g2)
      replace D2 := Lib.hid D2
      obtain ⟨k, rfl⟩ := Int.eq_ofNat_of_zero_le hk.1
      have hkm : k < m := by have := hk.2.1 (by omega); omega
      have i0 : (0 : Int) ≤ (k : Int) := by omega
      have i1 : (k : Int) < (m : Int) := by omega
      obtain ⟨b, off, x, hbo, hx, hb, c0, c1, c2, c3, c4⟩ := (Rd.of_own T.cells_len o2.out.1 o2.out.2).taskAt hkm
      injection hbo with hbo
      injection hbo with e1 e2
      subst e1 e2
      rw [Nat.zero_add] at c0 c1 c2 c3 c4
      clear g2 hk o1 D1 hx
      go_wp2_with fail
      refine (D2.out.wrong (by omega) x).mono ?_
      rintro e w3 ⟨t, rfl, D3, g3⟩
      have o3 := Lib.hid (o2.out.grown hR g3)
      obtain ⟨u0, q0⟩ := own_cell o3.out.1 (j := k * 5) (by omega)
      obtain ⟨u1, q1⟩ := own_cell o3.out.1 (j := k * 5 + 1) (by omega)
      obtain ⟨u2, q2⟩ := own_cell o3.out.1 (j := k * 5 + 2) (by omega)
      obtain ⟨u3, q3⟩ := own_cell o3.out.1 (j := k * 5 + 3) (by omega)
      obtain ⟨u4, q4⟩ := own_cell o3.out.1 (j := k * 5 + 4) (by omega)
      have f0 := o3.out.1.frozenAt (k * 5)
      have f1 := o3.out.1.frozenAt (k * 5 + 1)
      have f2 := o3.out.1.frozenAt (k * 5 + 2)
      have f3 := o3.out.1.frozenAt (k * 5 + 3)
      have f4 := o3.out.1.frozenAt (k * 5 + 4)
      have o4 := Lib.hid (o3.out.set_ k hkm t)
      have D4 := Lib.hid (D3.set5 hgw k (.int .i64 t.low) (.int .i64 t.high) (.int .i64 t.due) (.int .i64 t.every) (.bool t.crit))
      clear g3 o2 D2 o3 D3 c0 c1 c2 c3 c4 hb
      go_wp2_with fail
      go_meet
      exact ⟨_, rfl, o4.out, D4.out.more (by omega)⟩
    · go_wp2_with fail
      go_meet
      exact ⟨_, rfl, o1.out, D1.out.more (by omega)⟩
  case rest =>
    obtain ⟨ys, rfl, ho, hD⟩ := hcut
    replace ho := Lib.hid ho
    replace hD := Lib.hid hD
    clear o1 D1
    go_wp2_with fail
    refine (hD.out.pick (by omega) _).mono ?_
    rintro e w2 ⟨q, rfl, hq, D2, g2⟩
    have o2 := Lib.hid (ho.out.grown hR g2)
    replace D2 := Lib.hid D2
    clear g2 hq ho hD
    by_cases hq0 : (q == 0) = true
    · go_wp2_with fail
      go_loopw [3] (fun v wr => ∃ (D : Option Addr) (j e : Nat) (zs : List T), v = .slice D j e ∧ j ≤ 6 ∧ OwnT w wr v j zs ∧ Drawn w R A n c bs p (51 + 6 * j) wr) (fun v _ => match v with | .slice _ j _ => 6 - j | _ => 0)
      case atStart => exact ⟨_, _, _, ys, rfl, by omega, o2.out, D2.out.more (by omega)⟩
      case round =>
        obtain ⟨D', j, e, zs, rfl, hj6, ho, hD⟩ := hrel
        replace ho := Lib.hid ho
        replace hD := Lib.hid hD
        clear o2 D2
        by_cases hj5 : j ≤ 5
        · go_wp2_with fail
          refine (hD.out.task (by omega)).mono ?_
          rintro e w3 ⟨t, rfl, D3, g3⟩
          have o3 := Lib.hid (ho.out.grown hR g3)
          replace D3 := Lib.hid (D3.alloc (.cells #[.int .i64 t.low, .int .i64 t.high, .int .i64 t.due, .int .i64 t.every, .bool t.crit] 30))
          have o3a := Lib.hid (o3.out.alloc (.cells #[.int .i64 t.low, .int .i64 t.high, .int .i64 t.due, .int .i64 t.every, .bool t.crit] 30))
          have c1 := Lib.hid (cells_one w3 t 30 w3.heap.size rfl)
          clear g3 ho hD o3
          have hsz := D3.out.2.1.size
          go_wp2_with (at_builtin; refine wpList_append_own _ rfl _ _ 23 rfl w.heap.size 30 i0 _ 5 40 Try.underlying23 hi hz0 hz1 hz2 rfl (by decide) _ _ _ rfl o3a.out.1 ⟨w3.heap.size, 0, none⟩ 1 1 t.cells rfl rfl c1.out (cells_oneCell t) ?c3 ?c4 ?c5 ?_)
          case c3 => unfold maxLen; omega
          case c4 => omega
          case c5 => exact hsz
          intro v' w4 hown4 hg4 _
          have o4 := Lib.hid (show OwnT w w4 v' (j + 1) (zs ++ [t]) from ⟨by rw [List.flatMap_append]; exact hown4, by rw [List.length_append, o3a.out.2]; rfl⟩)
          have D4 := Lib.hid (D3.out.own hg4 (fun g e => (o3a.out.1.lt g e).1))
          obtain ⟨D5, e5, hv⟩ := o4.out.slice
          subst hv
          clear hown4 hg4 D3 o3a c1
          go_wp2
          go_roundw
          case rel => exact ⟨_, j + 1, _, zs ++ [t], rfl, by omega, o4.out, D4.out.more (by omega)⟩
          case measure => simp; omega
        · go_wp2
          go_ret
          exact ⟨_, _, _, zs, rfl, hj6, ho.out, hD.out.more (by omega)⟩
    · have hq1 : (q == 0) = false := by simpa using hq0
      clear hq0
      go_wp2
      go_ret
      exact ⟨_, _, _, ys, rfl, by omega, o2.out, D2.out.more (by omega)⟩

end Go.Proofs.Ytbfdpegjflhboaa
