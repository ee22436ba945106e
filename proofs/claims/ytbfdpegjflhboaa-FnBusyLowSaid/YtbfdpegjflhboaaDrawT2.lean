/- The contracts of the drawing of tasks: l1Task, l1Wrong. Conditions: fewer than 999990 bytes have been picked before. -/
import Derived.Test.YtbfdpegjflhboaaDrawT
import Derived.Deep.DeepCutAuto
namespace Go.Proofs.Ytbfdpegjflhboaa
open Go.RowKit
set_option linter.unusedVariables false

/-- l1Task in the middle: its variable is block G5, its result's place block G2 -/
def TS (w : World) (R : Nat) (A : Option Addr) (n c : Nat) (bs : List UInt8) (p k G2 G5 : Nat) (wc : World) : Prop :=
  ∃ t : T, Blk wc G5 30 #[.int .i64 t.low, .int .i64 t.high, .int .i64 t.due, .int .i64 t.every, .bool t.crit] ∧
    Blk wc G2 30 #[.int .i64 0, .int .i64 0, .int .i64 0, .int .i64 0, .bool false] ∧ Drawn w R A n c bs p k wc

set_option maxRecDepth 100000 in
set_option maxHeartbeats 6400000 in
theorem l1Task_any (R : Nat) (A : Option Addr) (n c : Nat) (bs : List UInt8) (p : Nat) (w : World) (h : Rdr w R A n c bs p) (hp : p < 999990) :
    Calls Try.prog 69 #[.pointer (some ⟨R, 0, none⟩)] w fun e w' => ∃ t : T, e = .returned (.agg #[.int .i64 t.low, .int .i64 t.high, .int .i64 t.due, .int .i64 t.every, .bool t.crit]) ∧ Drawn w R A n c bs p 6 w' := by
  have hR := h.lt
  have B0 := Blk.new w 30 #[.int .i64 0, .int .i64 0, .int .i64 0, .int .i64 0, .bool false]
  have n1 := Lib.hid (rdI_new (w.alloc (.cells #[.int .i64 0, .int .i64 0, .int .i64 0, .int .i64 0, .bool false] 30)) 3 #[.int .i64 8, .int .i64 10, .int .i64 5, .int .i64 4, .int .i64 12, .int .i64 20, .int .i64 6, .int .i64 2] (w.heap.size + 1) [8, 10, 5, 4, 12, 20, 6, 2] rfl (by simp) 8 rfl (by decide))
  have E0 := Lib.hid (((Drawn.refl h).alloc (.cells #[.int .i64 0, .int .i64 0, .int .i64 0, .int .i64 0, .bool false] 30)).alloc (.cells #[.int .i64 8, .int .i64 10, .int .i64 5, .int .i64 4, .int .i64 12, .int .i64 20, .int .i64 6, .int .i64 2] 3))
  have b0 := Lib.hid (B0.alloc (.cells #[.int .i64 8, .int .i64 10, .int .i64 5, .int .i64 4, .int .i64 12, .int .i64 20, .int .i64 6, .int .i64 2] 3))
  have hn2 := Lib.hid (show some w.heap.size ≠ some R by simp only [ne_eq, Option.some.injEq]; omega)
  clear h B0
  go_enter Try.func69, Try.ntmps69
  go_wp2_with fail
  refine (E0.out.num (by omega) n1.out (by decide) (by decide) (by omega)).mono ?_
  rintro e w1 ⟨ev, rfl, hev, D1, g1⟩
  have b1 := Lib.hid (b0.out.grown g1 hn2.out)
  have hev0 : 2 ≤ ev ∧ ev ≤ 20 := by simp at hev; omega
  obtain ⟨hv0, hv1⟩ := hev0
  replace D1 := Lib.hid D1
  clear g1 hev n1 E0 b0
  go_wp2_with fail
  refine (D1.out.pick (by omega) _).mono ?_
  rintro e w2 ⟨lo, rfl, hlo, D2, g2⟩
  have b2 := Lib.hid (b1.out.grown g2 hn2.out)
  have hlo0 : 0 ≤ lo := hlo.1
  have hlo1 : lo ≤ 7 := by have := hlo.2.1 (by omega); omega
  have hs2 : w.heap.size < w2.heap.size := b2.out.lt
  have hn5 := Lib.hid (show some w2.heap.size ≠ some R by simp only [ne_eq, Option.some.injEq]; omega)
  have D2a := Lib.hid (D2.alloc (.cells #[.int .i64 (1 + lo), .int .i64 (1 + lo), .int .i64 ev, .int .i64 ev, .bool false] 30))
  have b2a := Lib.hid (b2.out.alloc (.cells #[.int .i64 (1 + lo), .int .i64 (1 + lo), .int .i64 ev, .int .i64 ev, .bool false] 30))
  have b5 := Lib.hid (Blk.new w2 30 #[.int .i64 (1 + lo), .int .i64 (1 + lo), .int .i64 ev, .int .i64 ev, .bool false])
  clear g2 hlo D1 b1 D2 b2
  go_wp2_with fail
  refine (D2a.out.pick (by omega) _).mono ?_
  rintro e w3 ⟨q, rfl, hq, D3, g3⟩
  have b3 := Lib.hid (b2a.out.grown g3 hn2.out)
  have c3 := Lib.hid (b5.out.grown g3 hn5.out)
  replace D3 := Lib.hid D3
  have hG5 : w2.heap.size < w3.heap.size := c3.out.lt
  clear g3 hq D2a b2a b5
  generalize w2.heap.size = G5 at *
  go_upto_if 22 with fail
  go_cut [] from 6 (fun wc => TS w R A n c bs p 4 w.heap.size G5 wc)
  case first =>
    by_cases hq0 : (q == 0) = true
    · have k0 := c3.out.cell (i := 0) rfl
      have k1 := c3.out.cell (i := 1) rfl
      have k4 := c3.out.cell (i := 4) rfl
      have f1 := c3.out.frozen 1
      have f4 := c3.out.frozen 4
      have D3a := Lib.hid (D3.out.set_ (q := ⟨G5, 4, none⟩) (Nat.le_of_lt hs2) (.bool true))
      have c3a := Lib.hid (c3.out.set_ 4 (.bool true))
      have b3a := Lib.hid (b3.out.far (p := ⟨G5, 4, none⟩) (Nat.ne_of_lt hs2) (.bool true))
      clear D3 c3 b3
      go_wp2_with fail
      refine (D3a.out.pick (by omega) _).mono ?_
      rintro e w4 ⟨hi, rfl, hhi, D4, g4⟩
      have b4 := Lib.hid (b3a.out.grown g4 hn2.out)
      have c4 := Lib.hid (c3a.out.grown g4 hn5.out)
      have hhi0 : 0 ≤ hi := hhi.1
      have hhi1 : hi ≤ 7 := by have := hhi.2.1 (by omega); omega
      have D4a := Lib.hid (D4.set_ (q := ⟨G5, 1, none⟩) (Nat.le_of_lt hs2) (.int .i64 (1 + lo + hi)))
      have k1' := c4.out.cell (i := 1) rfl
      have f1' := c4.out.frozen 1
      have c4a := Lib.hid (c4.out.set_ 1 (.int .i64 (1 + lo + hi)))
      have b4a := Lib.hid (b4.out.far (p := ⟨G5, 1, none⟩) (Nat.ne_of_lt hs2) (.int .i64 (1 + lo + hi)))
      clear g4 hhi D3a b3a c3a D4 b4 c4 k0 k1 k4 f1 f4
      go_wp2_with fail
      go_meet
      exact ⟨⟨1 + lo, 1 + lo + hi, ev, ev, true⟩, c4a.out, b4a.out, D4a.out⟩
    · have hq1 : (q == 0) = false := by simpa using hq0
      clear hq0
      go_wp2_with fail
      go_meet
      exact ⟨⟨1 + lo, 1 + lo, ev, ev, false⟩, c3.out, b3.out, D3.out.more (by omega)⟩
  case rest =>
    obtain ⟨t, c4, b4, D4⟩ := hcut
    replace c4 := Lib.hid c4
    replace b4 := Lib.hid b4
    replace D4 := Lib.hid D4
    clear D3 c3 b3 hlo0 hlo1
    have k1 := c4.out.cell (i := 1) rfl
    have f1 := c4.out.frozen 1
    have hG5' : G5 < wc.heap.size := c4.out.lt
    go_upto_if 35 with fail
    go_cut [] from 6 (fun wc => TS w R A n c bs p 4 w.heap.size G5 wc)
    case first =>
      by_cases hgt : ev < t.high
      · have c5 := Lib.hid (c4.out.set_ 1 (.int .i64 ev))
        have b5 := Lib.hid (b4.out.far (p := ⟨G5, 1, none⟩) (Nat.ne_of_lt hs2) (.int .i64 ev))
        have D5 := Lib.hid (D4.out.set_ (q := ⟨G5, 1, none⟩) (Nat.le_of_lt hs2) (.int .i64 ev))
        go_wp2_with fail
        go_meet
        exact ⟨⟨t.low, ev, t.due, t.every, t.crit⟩, c5.out, b5.out, D5.out⟩
      · go_wp2_with fail
        go_meet
        exact ⟨t, c4.out, b4.out, D4.out⟩
    case rest =>
      clear c4 b4 D4 k1 f1 hG5' t
      obtain ⟨t, c4, b4, D4⟩ := hcut
      replace c4 := Lib.hid c4
      replace b4 := Lib.hid b4
      replace D4 := Lib.hid D4
      go_wp2_with fail
      refine (D4.out.pick (by omega) _).mono ?_
      rintro e w5 ⟨q2, rfl, hq2, D5, g5⟩
      have b5 := Lib.hid (b4.out.grown g5 hn2.out)
      have c5 := Lib.hid (c4.out.grown g5 hn5.out)
      replace D5 := Lib.hid D5
      have hG5' : G5 < w5.heap.size := c5.out.lt
      clear g5 hq2 D4 b4 c4
      go_upto_if 40 with fail
      go_cut [] from 6 (fun wc => TS w R A n c bs p 6 w.heap.size G5 wc)
      case first =>
        by_cases hq0 : (q2 == 0) = true
        · have k1 := c5.out.cell (i := 1) rfl
          have k2 := c5.out.cell (i := 2) rfl
          have f2 := c5.out.frozen 2
          have D5d := Lib.hid D5.out.drew
          go_wp2_with fail
          go_region_held3 (fun w' => w'.cell? ⟨G5, 1, none⟩ = some (.int .i64 t.high)) (first | exact k1 | exact k1' | exact (World.cell?_setCell_other _ _ _ _ (by simp)).trans k1')
            (first | (go_at_call 61; refine (D5d.out.pick (by omega) _).mono ?_; rintro e w6 ⟨q3, rfl, hq3, D6, g6⟩; have c6 := Lib.hid (Blk.grown (w := w5.drew) c5.out g6 hn5.out); have b6 := Lib.hid (Blk.grown (w := w5.drew) b5.out g6 hn2.out); have k1' := c6.out.cell (i := 1) rfl; have k2' := c6.out.cell (i := 2) rfl; have f2' := c6.out.frozen 2; have D6h := Lib.hid D6; clear g6 D6 hq3))
          go_wp2_with fail
          go_meet
          exact ⟨⟨t.low, t.high, IntKind.i64.wrap (t.high + q3), t.every, t.crit⟩, c6.out.set_ 2 (.int .i64 (IntKind.i64.wrap (t.high + q3))), b6.out.far (p := ⟨G5, 2, none⟩) (Nat.ne_of_lt hs2) _, D6h.out.set_ (q := ⟨G5, 2, none⟩) (Nat.le_of_lt hs2) _⟩
        · have hq1 : (q2 == 0) = false := by simpa using hq0
          clear hq0
          go_wp2_with fail
          go_meet
          exact ⟨t, c5.out, b5.out, D5.out.more (by omega)⟩
      case rest =>
        clear c5 b5 D5 hG5' t
        obtain ⟨t, c6, b6, D6⟩ := hcut
        have k0 := c6.cell (i := 0) rfl
        have k1 := c6.cell (i := 1) rfl
        have k2 := c6.cell (i := 2) rfl
        have k3 := c6.cell (i := 3) rfl
        have k4 := c6.cell (i := 4) rfl
        have r0 := b6.cell (i := 0) rfl
        have r1 := b6.cell (i := 1) rfl
        have r2 := b6.cell (i := 2) rfl
        have r3 := b6.cell (i := 3) rfl
        have r4 := b6.cell (i := 4) rfl
        have f0 := b6.frozen 0
        have f1 := b6.frozen 1
        have f2 := b6.frozen 2
        have f3 := b6.frozen 3
        have f4 := b6.frozen 4
        have D7 := Lib.hid (((((D6.set_ (q := ⟨w.heap.size, 0, none⟩) (Nat.le_refl _) (.int .i64 t.low)).set_ (q := ⟨w.heap.size, 1, none⟩) (Nat.le_refl _) (.int .i64 t.high)).set_ (q := ⟨w.heap.size, 2, none⟩) (Nat.le_refl _) (.int .i64 t.due)).set_ (q := ⟨w.heap.size, 3, none⟩) (Nat.le_refl _) (.int .i64 t.every)).set_ (q := ⟨w.heap.size, 4, none⟩) (Nat.le_refl _) (.bool t.crit))
        clear c6 b6 D6
        go_wp2
        refine bodyPost_ret (v := .agg #[.int .i64 t.low, .int .i64 t.high, .int .i64 t.due, .int .i64 t.every, .bool t.crit]) (by simp [results, Try.results69, go_sem, r0, r1, r2, r3, r4]) rfl ⟨t, rfl, D7.out⟩

/-- l1Wrong in the middle: its parameter is block G3, its result's place the next one -/
def TW (w : World) (R : Nat) (A : Option Addr) (n c : Nat) (bs : List UInt8) (p k G3 : Nat) (wc : World) : Prop :=
  ∃ t : T, Blk wc G3 30 #[.int .i64 t.low, .int .i64 t.high, .int .i64 t.due, .int .i64 t.every, .bool t.crit] ∧
    Blk wc (G3 + 1) 30 #[.int .i64 0, .int .i64 0, .int .i64 0, .int .i64 0, .bool false] ∧ Drawn w R A n c bs p k wc

set_option maxRecDepth 100000 in
set_option maxHeartbeats 6400000 in
theorem l1Wrong_any (R : Nat) (A : Option Addr) (n c : Nat) (bs : List UInt8) (p : Nat) (t : T) (w : World) (h : Rdr w R A n c bs p) (hp : p < 999990) :
    Calls Try.prog 68 #[.pointer (some ⟨R, 0, none⟩), .agg #[.int .i64 t.low, .int .i64 t.high, .int .i64 t.due, .int .i64 t.every, .bool t.crit]] w fun e w' => ∃ t' : T, e = .returned (.agg #[.int .i64 t'.low, .int .i64 t'.high, .int .i64 t'.due, .int .i64 t'.every, .bool t'.crit]) ∧ Drawn w R A n c bs p 2 w' := by
  have hR := h.lt
  have b0 := Lib.hid ((Blk.new w 30 #[.int .i64 t.low, .int .i64 t.high, .int .i64 t.due, .int .i64 t.every, .bool t.crit]).alloc (.cells #[.int .i64 0, .int .i64 0, .int .i64 0, .int .i64 0, .bool false] 30))
  have z0 : Hid (Blk ((w.alloc (.cells #[.int .i64 t.low, .int .i64 t.high, .int .i64 t.due, .int .i64 t.every, .bool t.crit] 30)).alloc (.cells #[.int .i64 0, .int .i64 0, .int .i64 0, .int .i64 0, .bool false] 30)) (w.heap.size + 1) 30 #[.int .i64 0, .int .i64 0, .int .i64 0, .int .i64 0, .bool false]) := by
    have := Blk.new (w.alloc (.cells #[.int .i64 t.low, .int .i64 t.high, .int .i64 t.due, .int .i64 t.every, .bool t.crit] 30)) 30 #[.int .i64 0, .int .i64 0, .int .i64 0, .int .i64 0, .bool false]
    rw [show (w.alloc (.cells #[.int .i64 t.low, .int .i64 t.high, .int .i64 t.due, .int .i64 t.every, .bool t.crit] 30)).heap.size = w.heap.size + 1 by simp] at this
    exact this
  have E0 := Lib.hid (((Drawn.refl h).alloc (.cells #[.int .i64 t.low, .int .i64 t.high, .int .i64 t.due, .int .i64 t.every, .bool t.crit] 30)).alloc (.cells #[.int .i64 0, .int .i64 0, .int .i64 0, .int .i64 0, .bool false] 30))
  have hn3 := Lib.hid (show some w.heap.size ≠ some R by simp only [ne_eq, Option.some.injEq]; omega)
  have hn4 := Lib.hid (show some (w.heap.size + 1) ≠ some R by simp only [ne_eq, Option.some.injEq]; omega)
  clear h
  go_enter Try.func68, Try.ntmps68
  go_wp2_with fail
  refine (E0.out.pick (by omega) _).mono ?_
  rintro e w1 ⟨q, rfl, hq, D1, g1⟩
  have b1 := Lib.hid (b0.out.grown g1 hn3.out)
  have z1 := Lib.hid (z0.out.grown g1 hn4.out)
  have hs1 : w.heap.size + 1 < w1.heap.size := z1.out.lt
  replace D1 := Lib.hid D1
  have hq0 : 0 ≤ q := hq.1
  have hq1 : q < 20 := hq.2.1 (by omega)
  clear g1 hq E0 b0 z0
  by_cases e0 : q = 0
  · subst e0
    have hsz := D1.out.2.1.size
    have n2 := Lib.hid (rdI_new w1 3 #[.int .i64 0, .int .i64 (-1), .int .i64 21, .int .i64 1] w1.heap.size [0, -1, 21, 1] rfl rfl 4 rfl (by decide))
    have E2 := Lib.hid (D1.out.alloc (.cells #[.int .i64 0, .int .i64 (-1), .int .i64 21, .int .i64 1] 3))
    have c1 := Lib.hid (b1.out.alloc (.cells #[.int .i64 0, .int .i64 (-1), .int .i64 21, .int .i64 1] 3))
    have y1 := Lib.hid (z1.out.alloc (.cells #[.int .i64 0, .int .i64 (-1), .int .i64 21, .int .i64 1] 3))
    clear D1 b1 z1 hq0 hq1
    go_wp2_with fail
    refine (E2.out.num (by omega) n2.out (by decide) (by decide) (by omega)).mono ?_
    rintro e w2 ⟨v, rfl, hv, D2, g2⟩
    have c2 := Lib.hid (c1.out.grown g2 hn3.out)
    have z2 := Lib.hid (y1.out.grown g2 hn4.out)
    have hs2 : w.heap.size + 1 < w2.heap.size := z2.out.lt
    replace D2 := Lib.hid D2
    clear g2 hv E2 n2 c1 y1 hsz
    have k0 := c2.out.cell (i := 0) rfl
    have k1 := c2.out.cell (i := 1) rfl
    have k2 := c2.out.cell (i := 2) rfl
    have k3 := c2.out.cell (i := 3) rfl
    have k4 := c2.out.cell (i := 4) rfl
    have fs := c2.out.frozen 0
    have r0 := z2.out.cell (i := 0) rfl
    have r1 := z2.out.cell (i := 1) rfl
    have r2 := z2.out.cell (i := 2) rfl
    have r3 := z2.out.cell (i := 3) rfl
    have r4 := z2.out.cell (i := 4) rfl
    have f0 := z2.out.frozen 0
    have f1 := z2.out.frozen 1
    have f2 := z2.out.frozen 2
    have f3 := z2.out.frozen 3
    have f4 := z2.out.frozen 4
    have D9 := Lib.hid ((((((D2.out.set_ (q := ⟨w.heap.size, 0, none⟩) (Nat.le_refl _) (.int .i64 v)).set_ (q := ⟨w.heap.size + 1, 0, none⟩) (Nat.le_succ _) (.int .i64 v)).set_ (q := ⟨w.heap.size + 1, 1, none⟩) (Nat.le_succ _) (.int .i64 t.high)).set_ (q := ⟨w.heap.size + 1, 2, none⟩) (Nat.le_succ _) (.int .i64 t.due)).set_ (q := ⟨w.heap.size + 1, 3, none⟩) (Nat.le_succ _) (.int .i64 t.every)).set_ (q := ⟨w.heap.size + 1, 4, none⟩) (Nat.le_succ _) (.bool t.crit))
    clear c2 z2 D2
    go_wp2
    refine bodyPost_ret (v := .agg #[.int .i64 v, .int .i64 t.high, .int .i64 t.due, .int .i64 t.every, .bool t.crit]) (by simp [results, Try.results68, go_sem, r0, r1, r2, r3, r4]) rfl ⟨⟨v, t.high, t.due, t.every, t.crit⟩, rfl, D9.out⟩
  by_cases e1 : q = 1
  · subst e1
    have hsz := D1.out.2.1.size
    have n2 := Lib.hid (rdI_new w1 3 #[.int .i64 0, .int .i64 21, .int .i64 5] w1.heap.size [0, 21, 5] rfl rfl 3 rfl (by decide))
    have E2 := Lib.hid (D1.out.alloc (.cells #[.int .i64 0, .int .i64 21, .int .i64 5] 3))
    have c1 := Lib.hid (b1.out.alloc (.cells #[.int .i64 0, .int .i64 21, .int .i64 5] 3))
    have y1 := Lib.hid (z1.out.alloc (.cells #[.int .i64 0, .int .i64 21, .int .i64 5] 3))
    clear D1 b1 z1 hq0 hq1
    go_wp2_with fail
    refine (E2.out.num (by omega) n2.out (by decide) (by decide) (by omega)).mono ?_
    rintro e w2 ⟨v, rfl, hv, D2, g2⟩
    have c2 := Lib.hid (c1.out.grown g2 hn3.out)
    have z2 := Lib.hid (y1.out.grown g2 hn4.out)
    have hs2 : w.heap.size + 1 < w2.heap.size := z2.out.lt
    replace D2 := Lib.hid D2
    clear g2 hv E2 n2 c1 y1 hsz
    have k0 := c2.out.cell (i := 0) rfl
    have k1 := c2.out.cell (i := 1) rfl
    have k2 := c2.out.cell (i := 2) rfl
    have k3 := c2.out.cell (i := 3) rfl
    have k4 := c2.out.cell (i := 4) rfl
    have fs := c2.out.frozen 1
    have r0 := z2.out.cell (i := 0) rfl
    have r1 := z2.out.cell (i := 1) rfl
    have r2 := z2.out.cell (i := 2) rfl
    have r3 := z2.out.cell (i := 3) rfl
    have r4 := z2.out.cell (i := 4) rfl
    have f0 := z2.out.frozen 0
    have f1 := z2.out.frozen 1
    have f2 := z2.out.frozen 2
    have f3 := z2.out.frozen 3
    have f4 := z2.out.frozen 4
    have D9 := Lib.hid ((((((D2.out.set_ (q := ⟨w.heap.size, 1, none⟩) (Nat.le_refl _) (.int .i64 v)).set_ (q := ⟨w.heap.size + 1, 0, none⟩) (Nat.le_succ _) (.int .i64 t.low)).set_ (q := ⟨w.heap.size + 1, 1, none⟩) (Nat.le_succ _) (.int .i64 v)).set_ (q := ⟨w.heap.size + 1, 2, none⟩) (Nat.le_succ _) (.int .i64 t.due)).set_ (q := ⟨w.heap.size + 1, 3, none⟩) (Nat.le_succ _) (.int .i64 t.every)).set_ (q := ⟨w.heap.size + 1, 4, none⟩) (Nat.le_succ _) (.bool t.crit))
    clear c2 z2 D2
    go_wp2
    refine bodyPost_ret (v := .agg #[.int .i64 t.low, .int .i64 v, .int .i64 t.due, .int .i64 t.every, .bool t.crit]) (by simp [results, Try.results68, go_sem, r0, r1, r2, r3, r4]) rfl ⟨⟨t.low, v, t.due, t.every, t.crit⟩, rfl, D9.out⟩
  by_cases e2 : q = 2
  · subst e2
    have hsz := D1.out.2.1.size
    have n2 := Lib.hid (rdI_new w1 3 #[.int .i64 0, .int .i64 21, .int .i64 20] w1.heap.size [0, 21, 20] rfl rfl 3 rfl (by decide))
    have E2 := Lib.hid (D1.out.alloc (.cells #[.int .i64 0, .int .i64 21, .int .i64 20] 3))
    have c1 := Lib.hid (b1.out.alloc (.cells #[.int .i64 0, .int .i64 21, .int .i64 20] 3))
    have y1 := Lib.hid (z1.out.alloc (.cells #[.int .i64 0, .int .i64 21, .int .i64 20] 3))
    clear D1 b1 z1 hq0 hq1
    go_wp2_with fail
    refine (E2.out.num (by omega) n2.out (by decide) (by decide) (by omega)).mono ?_
    rintro e w2 ⟨v, rfl, hv, D2, g2⟩
    have c2 := Lib.hid (c1.out.grown g2 hn3.out)
    have z2 := Lib.hid (y1.out.grown g2 hn4.out)
    have hs2 : w.heap.size + 1 < w2.heap.size := z2.out.lt
    replace D2 := Lib.hid D2
    clear g2 hv E2 n2 c1 y1 hsz
    have k0 := c2.out.cell (i := 0) rfl
    have k1 := c2.out.cell (i := 1) rfl
    have k2 := c2.out.cell (i := 2) rfl
    have k3 := c2.out.cell (i := 3) rfl
    have k4 := c2.out.cell (i := 4) rfl
    have fs := c2.out.frozen 2
    have r0 := z2.out.cell (i := 0) rfl
    have r1 := z2.out.cell (i := 1) rfl
    have r2 := z2.out.cell (i := 2) rfl
    have r3 := z2.out.cell (i := 3) rfl
    have r4 := z2.out.cell (i := 4) rfl
    have f0 := z2.out.frozen 0
    have f1 := z2.out.frozen 1
    have f2 := z2.out.frozen 2
    have f3 := z2.out.frozen 3
    have f4 := z2.out.frozen 4
    have D9 := Lib.hid ((((((D2.out.set_ (q := ⟨w.heap.size, 2, none⟩) (Nat.le_refl _) (.int .i64 v)).set_ (q := ⟨w.heap.size + 1, 0, none⟩) (Nat.le_succ _) (.int .i64 t.low)).set_ (q := ⟨w.heap.size + 1, 1, none⟩) (Nat.le_succ _) (.int .i64 t.high)).set_ (q := ⟨w.heap.size + 1, 2, none⟩) (Nat.le_succ _) (.int .i64 v)).set_ (q := ⟨w.heap.size + 1, 3, none⟩) (Nat.le_succ _) (.int .i64 t.every)).set_ (q := ⟨w.heap.size + 1, 4, none⟩) (Nat.le_succ _) (.bool t.crit))
    clear c2 z2 D2
    go_wp2
    refine bodyPost_ret (v := .agg #[.int .i64 t.low, .int .i64 t.high, .int .i64 v, .int .i64 t.every, .bool t.crit]) (by simp [results, Try.results68, go_sem, r0, r1, r2, r3, r4]) rfl ⟨⟨t.low, t.high, v, t.every, t.crit⟩, rfl, D9.out⟩
  by_cases e3 : q = 3
  · subst e3
    have c2 := b1
    have z2 := z1
    have D2 := D1
    clear b1 z1 D1 hq0 hq1
    have k0 := c2.out.cell (i := 0) rfl
    have k1 := c2.out.cell (i := 1) rfl
    have k2 := c2.out.cell (i := 2) rfl
    have k3 := c2.out.cell (i := 3) rfl
    have k4 := c2.out.cell (i := 4) rfl
    have fs := c2.out.frozen 4
    have r0 := z2.out.cell (i := 0) rfl
    have r1 := z2.out.cell (i := 1) rfl
    have r2 := z2.out.cell (i := 2) rfl
    have r3 := z2.out.cell (i := 3) rfl
    have r4 := z2.out.cell (i := 4) rfl
    have f0 := z2.out.frozen 0
    have f1 := z2.out.frozen 1
    have f2 := z2.out.frozen 2
    have f3 := z2.out.frozen 3
    have f4 := z2.out.frozen 4
    have D9 := Lib.hid ((((((D2.out.set_ (q := ⟨w.heap.size, 4, none⟩) (Nat.le_refl _) (.bool (!t.crit))).set_ (q := ⟨w.heap.size + 1, 0, none⟩) (Nat.le_succ _) (.int .i64 t.low)).set_ (q := ⟨w.heap.size + 1, 1, none⟩) (Nat.le_succ _) (.int .i64 t.high)).set_ (q := ⟨w.heap.size + 1, 2, none⟩) (Nat.le_succ _) (.int .i64 t.due)).set_ (q := ⟨w.heap.size + 1, 3, none⟩) (Nat.le_succ _) (.int .i64 t.every)).set_ (q := ⟨w.heap.size + 1, 4, none⟩) (Nat.le_succ _) (.bool (!t.crit)))
    clear c2 z2 D2
    go_wp2
    refine bodyPost_ret (v := .agg #[.int .i64 t.low, .int .i64 t.high, .int .i64 t.due, .int .i64 t.every, .bool (!t.crit)]) (by simp [results, Try.results68, go_sem, r0, r1, r2, r3, r4]) rfl ⟨⟨t.low, t.high, t.due, t.every, (!t.crit)⟩, rfl, D9.out.more (by omega)⟩
  by_cases e4 : q = 4
  · subst e4
    have hsz := D1.out.2.1.size
    have n2 := Lib.hid (rdI_new w1 3 #[.int .i64 21, .int .i64 0, .int .i64 20] w1.heap.size [21, 0, 20] rfl rfl 3 rfl (by decide))
    have E2 := Lib.hid (D1.out.alloc (.cells #[.int .i64 21, .int .i64 0, .int .i64 20] 3))
    have c1 := Lib.hid (b1.out.alloc (.cells #[.int .i64 21, .int .i64 0, .int .i64 20] 3))
    have y1 := Lib.hid (z1.out.alloc (.cells #[.int .i64 21, .int .i64 0, .int .i64 20] 3))
    clear D1 b1 z1 hq0 hq1
    go_wp2_with fail
    refine (E2.out.num (by omega) n2.out (by decide) (by decide) (by omega)).mono ?_
    rintro e w2 ⟨v, rfl, hv, D2, g2⟩
    have c2 := Lib.hid (c1.out.grown g2 hn3.out)
    have z2 := Lib.hid (y1.out.grown g2 hn4.out)
    have hs2 : w.heap.size + 1 < w2.heap.size := z2.out.lt
    replace D2 := Lib.hid D2
    clear g2 hv E2 n2 c1 y1 hsz
    have k0 := c2.out.cell (i := 0) rfl
    have k1 := c2.out.cell (i := 1) rfl
    have k2 := c2.out.cell (i := 2) rfl
    have k3 := c2.out.cell (i := 3) rfl
    have k4 := c2.out.cell (i := 4) rfl
    have fs := c2.out.frozen 3
    have r0 := z2.out.cell (i := 0) rfl
    have r1 := z2.out.cell (i := 1) rfl
    have r2 := z2.out.cell (i := 2) rfl
    have r3 := z2.out.cell (i := 3) rfl
    have r4 := z2.out.cell (i := 4) rfl
    have f0 := z2.out.frozen 0
    have f1 := z2.out.frozen 1
    have f2 := z2.out.frozen 2
    have f3 := z2.out.frozen 3
    have f4 := z2.out.frozen 4
    have D9 := Lib.hid ((((((D2.out.set_ (q := ⟨w.heap.size, 3, none⟩) (Nat.le_refl _) (.int .i64 v)).set_ (q := ⟨w.heap.size + 1, 0, none⟩) (Nat.le_succ _) (.int .i64 t.low)).set_ (q := ⟨w.heap.size + 1, 1, none⟩) (Nat.le_succ _) (.int .i64 t.high)).set_ (q := ⟨w.heap.size + 1, 2, none⟩) (Nat.le_succ _) (.int .i64 t.due)).set_ (q := ⟨w.heap.size + 1, 3, none⟩) (Nat.le_succ _) (.int .i64 v)).set_ (q := ⟨w.heap.size + 1, 4, none⟩) (Nat.le_succ _) (.bool t.crit))
    clear c2 z2 D2
    go_wp2
    refine bodyPost_ret (v := .agg #[.int .i64 t.low, .int .i64 t.high, .int .i64 t.due, .int .i64 v, .bool t.crit]) (by simp [results, Try.results68, go_sem, r0, r1, r2, r3, r4]) rfl ⟨⟨t.low, t.high, t.due, v, t.crit⟩, rfl, D9.out⟩
  have g0 : (q == 0) = false := by simpa using e0
  have g1 : (q == 1) = false := by simpa using e1
  have g2 : (q == 2) = false := by simpa using e2
  have g3 : (q == 3) = false := by simpa using e3
  have g4 : (q == 4) = false := by simpa using e4
  have c2 := b1
  have z2 := z1
  have D2 := D1
  clear b1 z1 D1 e0 e1 e2 e3 e4
  have k0 := c2.out.cell (i := 0) rfl
  have k1 := c2.out.cell (i := 1) rfl
  have k2 := c2.out.cell (i := 2) rfl
  have k3 := c2.out.cell (i := 3) rfl
  have k4 := c2.out.cell (i := 4) rfl
  have r0 := z2.out.cell (i := 0) rfl
  have r1 := z2.out.cell (i := 1) rfl
  have r2 := z2.out.cell (i := 2) rfl
  have r3 := z2.out.cell (i := 3) rfl
  have r4 := z2.out.cell (i := 4) rfl
  have f0 := z2.out.frozen 0
  have f1 := z2.out.frozen 1
  have f2 := z2.out.frozen 2
  have f3 := z2.out.frozen 3
  have f4 := z2.out.frozen 4
  have D9 := Lib.hid (((((D2.out.set_ (q := ⟨w.heap.size + 1, 0, none⟩) (Nat.le_succ _) (.int .i64 t.low)).set_ (q := ⟨w.heap.size + 1, 1, none⟩) (Nat.le_succ _) (.int .i64 t.high)).set_ (q := ⟨w.heap.size + 1, 2, none⟩) (Nat.le_succ _) (.int .i64 t.due)).set_ (q := ⟨w.heap.size + 1, 3, none⟩) (Nat.le_succ _) (.int .i64 t.every)).set_ (q := ⟨w.heap.size + 1, 4, none⟩) (Nat.le_succ _) (.bool t.crit))
  clear c2 z2 D2
  go_wp2
  refine bodyPost_ret (v := .agg #[.int .i64 t.low, .int .i64 t.high, .int .i64 t.due, .int .i64 t.every, .bool t.crit]) (by simp [results, Try.results68, go_sem, r0, r1, r2, r3, r4]) rfl ⟨⟨t.low, t.high, t.due, t.every, t.crit⟩, rfl, D9.out.more (by omega)⟩

end Go.Proofs.Ytbfdpegjflhboaa
