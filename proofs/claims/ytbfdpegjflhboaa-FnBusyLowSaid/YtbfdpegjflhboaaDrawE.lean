/- The contracts of the draws, with a fact on the drawn periods: a period from 1 to 20 divides 120. Conditions: as in the contracts without that fact. -/
import Derived.Test.YtbfdpegjflhboaaDraw3
import Derived.Deep.DeepCutAuto
namespace Go.Proofs.Ytbfdpegjflhboaa
open Go.RowKit
set_option linter.unusedVariables false

/-- a period that a valid task may have divides 120 -/
def Ev (e : Int) : Prop := 1 ≤ e → e ≤ 20 → e ∣ 120
theorem ev_list {e : Int} (h : e ∈ ([8, 10, 5, 4, 12, 20, 6, 2] : List Int)) : Ev e := by
  intro _ _
  simp only [List.mem_cons, List.not_mem_nil, or_false] at h
  rcases h with rfl | rfl | rfl | rfl | rfl | rfl | rfl | rfl <;> decide
theorem ev_wrong {e : Int} (h : e ∈ ([21, 0, 20] : List Int)) : Ev e := by
  intro h1 h2
  simp only [List.mem_cons, List.not_mem_nil, or_false] at h
  rcases h with rfl | rfl | rfl
  · omega
  · omega
  · decide
def Evs (xs : List T) : Prop := ∀ t ∈ xs, Ev t.every
theorem Evs.nil : Evs [] := fun t h => by cases h
theorem Evs.snoc {xs : List T} {t : T} (h : Evs xs) (ht : Ev t.every) : Evs (xs ++ [t]) := fun u hu => by
  rw [List.mem_append, List.mem_singleton] at hu
  rcases hu with hu | rfl
  · exact h u hu
  · exact ht
theorem Evs.set_ {xs : List T} (h : Evs xs) (k : Nat) {t : T} (ht : Ev t.every) : Evs (xs.set k t) := fun u hu => by
  rcases List.mem_or_eq_of_mem_set hu with hu | rfl
  · exact h u hu
  · exact ht
theorem Evs.sub {xs ys : List T} (h : Evs xs) (hs : ∀ t ∈ ys, t ∈ xs) : Evs ys := fun t ht => h t (hs t ht)

/-- l1Task in the middle: its variable is block G5, its result's place block G2 -/
def TSE (w : World) (R : Nat) (A : Option Addr) (n c : Nat) (bs : List UInt8) (p k G2 G5 : Nat) (wc : World) : Prop :=
  ∃ t : T, Ev t.every ∧ Blk wc G5 30 #[.int .i64 t.low, .int .i64 t.high, .int .i64 t.due, .int .i64 t.every, .bool t.crit] ∧
    Blk wc G2 30 #[.int .i64 0, .int .i64 0, .int .i64 0, .int .i64 0, .bool false] ∧ Drawn w R A n c bs p k wc

set_option maxRecDepth 100000 in
set_option maxHeartbeats 6400000 in
theorem l1TaskE_any (R : Nat) (A : Option Addr) (n c : Nat) (bs : List UInt8) (p : Nat) (w : World) (h : Rdr w R A n c bs p) (hp : p < 999990) :
    Calls Try.prog 69 #[.pointer (some ⟨R, 0, none⟩)] w fun e w' => ∃ t : T, e = .returned (.agg #[.int .i64 t.low, .int .i64 t.high, .int .i64 t.due, .int .i64 t.every, .bool t.crit]) ∧ Ev t.every ∧ Drawn w R A n c bs p 6 w' := by
  have hR := h.lt
  have B0 := Blk.new w 30 #[.int .i64 0, .int .i64 0, .int .i64 0, .int .i64 0, .bool false]
  have n1 := Lib.hid (rdI_new (w.alloc (.cells #[.int .i64 0, .int .i64 0, .int .i64 0, .int .i64 0, .bool false] 30)) 3 #[.int .i64 8, .int .i64 10, .int .i64 5, .int .i64 4, .int .i64 12, .int .i64 20, .int .i64 6, .int .i64 2] (w.heap.size + 1) [8, 10, 5, 4, 12, 20, 6, 2] rfl (by simp) 8 rfl (by decide))
  have E0 := Lib.hid (((Drawn.refl h).alloc (.cells #[.int .i64 0, .int .i64 0, .int .i64 0, .int .i64 0, .bool false] 30)).alloc (.cells #[.int .i64 8, .int .i64 10, .int .i64 5, .int .i64 4, .int .i64 12, .int .i64 20, .int .i64 6, .int .i64 2] 3))
  have b0 := Lib.hid (B0.alloc (.cells #[.int .i64 8, .int .i64 10, .int .i64 5, .int .i64 4, .int .i64 12, .int .i64 20, .int .i64 6, .int .i64 2] 3))
  have hn2 := Lib.hid (show some w.heap.size ≠ some R by simp only [ne_eq, Option.some.injEq]; omega)
  clear h B0
  go_enter Try.func69, Try.ntmps69
  go_wp2_with fail
  refine (E0.out.num (by omega) n1.out (by decide) (by decide) (by omega)).mono ?_
  rintro e w1 ⟨ev, rfl, hev, D1, g1⟩
  have b1 := Lib.hid (b0.out.grown g1 hn2.out)
  have HEv := Lib.hid (ev_list hev)
  have hev0 : 2 ≤ ev ∧ ev ≤ 20 := by simp at hev; omega
  obtain ⟨hv0, hv1⟩ := hev0
  replace D1 := Lib.hid D1
  clear g1 hev n1 E0 b0
  go_wp2_with fail
  refine (D1.out.pick (by omega) _).mono ?_
  rintro e w2 ⟨lo, rfl, hlo, D2, g2⟩
  have b2 := Lib.hid (b1.out.grown g2 hn2.out)
  have hlo0 : 0 ≤ lo := hlo.1
  have hlo1 : lo ≤ 7 := by have := hlo.2.1 (by omega); omega
  have hs2 : w.heap.size < w2.heap.size := b2.out.lt
  have hn5 := Lib.hid (show some w2.heap.size ≠ some R by simp only [ne_eq, Option.some.injEq]; omega)
  have D2a := Lib.hid (D2.alloc (.cells #[.int .i64 (1 + lo), .int .i64 (1 + lo), .int .i64 ev, .int .i64 ev, .bool false] 30))
  have b2a := Lib.hid (b2.out.alloc (.cells #[.int .i64 (1 + lo), .int .i64 (1 + lo), .int .i64 ev, .int .i64 ev, .bool false] 30))
  have b5 := Lib.hid (Blk.new w2 30 #[.int .i64 (1 + lo), .int .i64 (1 + lo), .int .i64 ev, .int .i64 ev, .bool false])
  clear g2 hlo D1 b1 D2 b2
  go_wp2_with fail
  refine (D2a.out.pick (by omega) _).mono ?_
  rintro e w3 ⟨q, rfl, hq, D3, g3⟩
  have b3 := Lib.hid (b2a.out.grown g3 hn2.out)
  have c3 := Lib.hid (b5.out.grown g3 hn5.out)
  replace D3 := Lib.hid D3
  have hG5 : w2.heap.size < w3.heap.size := c3.out.lt
  clear g3 hq D2a b2a b5
  generalize w2.heap.size = G5 at *
  go_upto_if 22 with fail
  go_cut [] from 6 (fun wc => TSE w R A n c bs p 4 w.heap.size G5 wc)
  case first =>
    by_cases hq0 : (q == 0) = true
    · have k0 := c3.out.cell (i := 0) rfl
      have k1 := c3.out.cell (i := 1) rfl
      have k4 := c3.out.cell (i := 4) rfl
      have f1 := c3.out.frozen 1
      have f4 := c3.out.frozen 4
      have D3a := Lib.hid (D3.out.set_ (q := ⟨G5, 4, none⟩) (Nat.le_of_lt hs2) (.bool true))
      have c3a := Lib.hid (c3.out.set_ 4 (.bool true))
      have b3a := Lib.hid (b3.out.far (p := ⟨G5, 4, none⟩) (Nat.ne_of_lt hs2) (.bool true))
      clear D3 c3 b3
      go_wp2_with fail
      refine (D3a.out.pick (by omega) _).mono ?_
      rintro e w4 ⟨hi, rfl, hhi, D4, g4⟩
      have b4 := Lib.hid (b3a.out.grown g4 hn2.out)
      have c4 := Lib.hid (c3a.out.grown g4 hn5.out)
      have hhi0 : 0 ≤ hi := hhi.1
      have hhi1 : hi ≤ 7 := by have := hhi.2.1 (by omega); omega
      have D4a := Lib.hid (D4.set_ (q := ⟨G5, 1, none⟩) (Nat.le_of_lt hs2) (.int .i64 (1 + lo + hi)))
      have k1' := c4.out.cell (i := 1) rfl
      have f1' := c4.out.frozen 1
      have c4a := Lib.hid (c4.out.set_ 1 (.int .i64 (1 + lo + hi)))
      have b4a := Lib.hid (b4.out.far (p := ⟨G5, 1, none⟩) (Nat.ne_of_lt hs2) (.int .i64 (1 + lo + hi)))
      clear g4 hhi D3a b3a c3a D4 b4 c4 k0 k1 k4 f1 f4
      go_wp2_with fail
      go_meet
      exact ⟨⟨1 + lo, 1 + lo + hi, ev, ev, true⟩, HEv.out, c4a.out, b4a.out, D4a.out⟩
    · have hq1 : (q == 0) = false := by simpa using hq0
      clear hq0
      go_wp2_with fail
      go_meet
      exact ⟨⟨1 + lo, 1 + lo, ev, ev, false⟩, HEv.out, c3.out, b3.out, D3.out.more (by omega)⟩
  case rest =>
    obtain ⟨t, hE, c4, b4, D4⟩ := hcut
    have HE := Lib.hid hE
    clear hE
    replace c4 := Lib.hid c4
    replace b4 := Lib.hid b4
    replace D4 := Lib.hid D4
    clear D3 c3 b3 hlo0 hlo1
    have k1 := c4.out.cell (i := 1) rfl
    have f1 := c4.out.frozen 1
    have hG5' : G5 < wc.heap.size := c4.out.lt
    go_upto_if 35 with fail
    go_cut [] from 6 (fun wc => TSE w R A n c bs p 4 w.heap.size G5 wc)
    case first =>
      by_cases hgt : ev < t.high
      · have c5 := Lib.hid (c4.out.set_ 1 (.int .i64 ev))
        have b5 := Lib.hid (b4.out.far (p := ⟨G5, 1, none⟩) (Nat.ne_of_lt hs2) (.int .i64 ev))
        have D5 := Lib.hid (D4.out.set_ (q := ⟨G5, 1, none⟩) (Nat.le_of_lt hs2) (.int .i64 ev))
        go_wp2_with fail
        go_meet
        exact ⟨⟨t.low, ev, t.due, t.every, t.crit⟩, HE.out, c5.out, b5.out, D5.out⟩
      · go_wp2_with fail
        go_meet
        exact ⟨t, HE.out, c4.out, b4.out, D4.out⟩
    case rest =>
      clear c4 b4 D4 k1 f1 hG5' HE t
      obtain ⟨t, hE, c4, b4, D4⟩ := hcut
      have HE := Lib.hid hE
      clear hE
      replace c4 := Lib.hid c4
      replace b4 := Lib.hid b4
      replace D4 := Lib.hid D4
      go_wp2_with fail
      refine (D4.out.pick (by omega) _).mono ?_
      rintro e w5 ⟨q2, rfl, hq2, D5, g5⟩
      have b5 := Lib.hid (b4.out.grown g5 hn2.out)
      have c5 := Lib.hid (c4.out.grown g5 hn5.out)
      replace D5 := Lib.hid D5
      have hG5' : G5 < w5.heap.size := c5.out.lt
      clear g5 hq2 D4 b4 c4
      go_upto_if 40 with fail
      go_cut [] from 6 (fun wc => TSE w R A n c bs p 6 w.heap.size G5 wc)
      case first =>
        by_cases hq0 : (q2 == 0) = true
        · have k1 := c5.out.cell (i := 1) rfl
          have k2 := c5.out.cell (i := 2) rfl
          have f2 := c5.out.frozen 2
          have D5d := Lib.hid D5.out.drew
          go_wp2_with fail
          go_region_held3 (fun w' => w'.cell? ⟨G5, 1, none⟩ = some (.int .i64 t.high)) (first | exact k1 | exact k1' | exact (World.cell?_setCell_other _ _ _ _ (by simp)).trans k1')
            (first | (go_at_call 61; refine (D5d.out.pick (by omega) _).mono ?_; rintro e w6 ⟨q3, rfl, hq3, D6, g6⟩; have c6 := Lib.hid (Blk.grown (w := w5.drew) c5.out g6 hn5.out); have b6 := Lib.hid (Blk.grown (w := w5.drew) b5.out g6 hn2.out); have k1' := c6.out.cell (i := 1) rfl; have k2' := c6.out.cell (i := 2) rfl; have f2' := c6.out.frozen 2; have D6h := Lib.hid D6; clear g6 D6 hq3))
          go_wp2_with fail
          go_meet
          exact ⟨⟨t.low, t.high, IntKind.i64.wrap (t.high + q3), t.every, t.crit⟩, HE.out, c6.out.set_ 2 (.int .i64 (IntKind.i64.wrap (t.high + q3))), b6.out.far (p := ⟨G5, 2, none⟩) (Nat.ne_of_lt hs2) _, D6h.out.set_ (q := ⟨G5, 2, none⟩) (Nat.le_of_lt hs2) _⟩
        · have hq1 : (q2 == 0) = false := by simpa using hq0
          clear hq0
          go_wp2_with fail
          go_meet
          exact ⟨t, HE.out, c5.out, b5.out, D5.out.more (by omega)⟩
      case rest =>
        clear c5 b5 D5 hG5' HE t
        obtain ⟨t, hE, c6, b6, D6⟩ := hcut
        have HE := Lib.hid hE
        clear hE
        have k0 := c6.cell (i := 0) rfl
        have k1 := c6.cell (i := 1) rfl
        have k2 := c6.cell (i := 2) rfl
        have k3 := c6.cell (i := 3) rfl
        have k4 := c6.cell (i := 4) rfl
        have r0 := b6.cell (i := 0) rfl
        have r1 := b6.cell (i := 1) rfl
        have r2 := b6.cell (i := 2) rfl
        have r3 := b6.cell (i := 3) rfl
        have r4 := b6.cell (i := 4) rfl
        have f0 := b6.frozen 0
        have f1 := b6.frozen 1
        have f2 := b6.frozen 2
        have f3 := b6.frozen 3
        have f4 := b6.frozen 4
        have D7 := Lib.hid (((((D6.set_ (q := ⟨w.heap.size, 0, none⟩) (Nat.le_refl _) (.int .i64 t.low)).set_ (q := ⟨w.heap.size, 1, none⟩) (Nat.le_refl _) (.int .i64 t.high)).set_ (q := ⟨w.heap.size, 2, none⟩) (Nat.le_refl _) (.int .i64 t.due)).set_ (q := ⟨w.heap.size, 3, none⟩) (Nat.le_refl _) (.int .i64 t.every)).set_ (q := ⟨w.heap.size, 4, none⟩) (Nat.le_refl _) (.bool t.crit))
        clear c6 b6 D6
        go_wp2
        refine bodyPost_ret (v := .agg #[.int .i64 t.low, .int .i64 t.high, .int .i64 t.due, .int .i64 t.every, .bool t.crit]) (by simp [results, Try.results69, go_sem, r0, r1, r2, r3, r4]) rfl ⟨t, rfl, HE.out, D7.out⟩

/-- l1Wrong in the middle: its parameter is block G3, its result's place the next one -/
def TWE (w : World) (R : Nat) (A : Option Addr) (n c : Nat) (bs : List UInt8) (p k G3 : Nat) (wc : World) : Prop :=
  ∃ t : T, Blk wc G3 30 #[.int .i64 t.low, .int .i64 t.high, .int .i64 t.due, .int .i64 t.every, .bool t.crit] ∧
    Blk wc (G3 + 1) 30 #[.int .i64 0, .int .i64 0, .int .i64 0, .int .i64 0, .bool false] ∧ Drawn w R A n c bs p k wc

set_option maxRecDepth 100000 in
set_option maxHeartbeats 6400000 in
theorem l1WrongE_any (R : Nat) (A : Option Addr) (n c : Nat) (bs : List UInt8) (p : Nat) (t : T) (w : World) (h : Rdr w R A n c bs p) (hp : p < 999990) (hE : Ev t.every) :
    Calls Try.prog 68 #[.pointer (some ⟨R, 0, none⟩), .agg #[.int .i64 t.low, .int .i64 t.high, .int .i64 t.due, .int .i64 t.every, .bool t.crit]] w fun e w' => ∃ t' : T, e = .returned (.agg #[.int .i64 t'.low, .int .i64 t'.high, .int .i64 t'.due, .int .i64 t'.every, .bool t'.crit]) ∧ Ev t'.every ∧ Drawn w R A n c bs p 2 w' := by
  have HE := Lib.hid hE
  clear hE
  have hR := h.lt
  have b0 := Lib.hid ((Blk.new w 30 #[.int .i64 t.low, .int .i64 t.high, .int .i64 t.due, .int .i64 t.every, .bool t.crit]).alloc (.cells #[.int .i64 0, .int .i64 0, .int .i64 0, .int .i64 0, .bool false] 30))
  have z0 : Hid (Blk ((w.alloc (.cells #[.int .i64 t.low, .int .i64 t.high, .int .i64 t.due, .int .i64 t.every, .bool t.crit] 30)).alloc (.cells #[.int .i64 0, .int .i64 0, .int .i64 0, .int .i64 0, .bool false] 30)) (w.heap.size + 1) 30 #[.int .i64 0, .int .i64 0, .int .i64 0, .int .i64 0, .bool false]) := by
    have := Blk.new (w.alloc (.cells #[.int .i64 t.low, .int .i64 t.high, .int .i64 t.due, .int .i64 t.every, .bool t.crit] 30)) 30 #[.int .i64 0, .int .i64 0, .int .i64 0, .int .i64 0, .bool false]
    rw [show (w.alloc (.cells #[.int .i64 t.low, .int .i64 t.high, .int .i64 t.due, .int .i64 t.every, .bool t.crit] 30)).heap.size = w.heap.size + 1 by simp] at this
    exact this
  have E0 := Lib.hid (((Drawn.refl h).alloc (.cells #[.int .i64 t.low, .int .i64 t.high, .int .i64 t.due, .int .i64 t.every, .bool t.crit] 30)).alloc (.cells #[.int .i64 0, .int .i64 0, .int .i64 0, .int .i64 0, .bool false] 30))
  have hn3 := Lib.hid (show some w.heap.size ≠ some R by simp only [ne_eq, Option.some.injEq]; omega)
  have hn4 := Lib.hid (show some (w.heap.size + 1) ≠ some R by simp only [ne_eq, Option.some.injEq]; omega)
  clear h
  go_enter Try.func68, Try.ntmps68
  go_wp2_with fail
  refine (E0.out.pick (by omega) _).mono ?_
  rintro e w1 ⟨q, rfl, hq, D1, g1⟩
  have b1 := Lib.hid (b0.out.grown g1 hn3.out)
  have z1 := Lib.hid (z0.out.grown g1 hn4.out)
  have hs1 : w.heap.size + 1 < w1.heap.size := z1.out.lt
  replace D1 := Lib.hid D1
  have hq0 : 0 ≤ q := hq.1
  have hq1 : q < 20 := hq.2.1 (by omega)
  clear g1 hq E0 b0 z0
  by_cases e0 : q = 0
  · subst e0
    have hsz := D1.out.2.1.size
    have n2 := Lib.hid (rdI_new w1 3 #[.int .i64 0, .int .i64 (-1), .int .i64 21, .int .i64 1] w1.heap.size [0, -1, 21, 1] rfl rfl 4 rfl (by decide))
    have E2 := Lib.hid (D1.out.alloc (.cells #[.int .i64 0, .int .i64 (-1), .int .i64 21, .int .i64 1] 3))
    have c1 := Lib.hid (b1.out.alloc (.cells #[.int .i64 0, .int .i64 (-1), .int .i64 21, .int .i64 1] 3))
    have y1 := Lib.hid (z1.out.alloc (.cells #[.int .i64 0, .int .i64 (-1), .int .i64 21, .int .i64 1] 3))
    clear D1 b1 z1 hq0 hq1
    go_wp2_with fail
    refine (E2.out.num (by omega) n2.out (by decide) (by decide) (by omega)).mono ?_
    rintro e w2 ⟨v, rfl, hv, D2, g2⟩
    have c2 := Lib.hid (c1.out.grown g2 hn3.out)
    have z2 := Lib.hid (y1.out.grown g2 hn4.out)
    have hs2 : w.heap.size + 1 < w2.heap.size := z2.out.lt
    replace D2 := Lib.hid D2
    clear g2 hv E2 n2 c1 y1 hsz
    have k0 := c2.out.cell (i := 0) rfl
    have k1 := c2.out.cell (i := 1) rfl
    have k2 := c2.out.cell (i := 2) rfl
    have k3 := c2.out.cell (i := 3) rfl
    have k4 := c2.out.cell (i := 4) rfl
    have fs := c2.out.frozen 0
    have r0 := z2.out.cell (i := 0) rfl
    have r1 := z2.out.cell (i := 1) rfl
    have r2 := z2.out.cell (i := 2) rfl
    have r3 := z2.out.cell (i := 3) rfl
    have r4 := z2.out.cell (i := 4) rfl
    have f0 := z2.out.frozen 0
    have f1 := z2.out.frozen 1
    have f2 := z2.out.frozen 2
    have f3 := z2.out.frozen 3
    have f4 := z2.out.frozen 4
    have D9 := Lib.hid ((((((D2.out.set_ (q := ⟨w.heap.size, 0, none⟩) (Nat.le_refl _) (.int .i64 v)).set_ (q := ⟨w.heap.size + 1, 0, none⟩) (Nat.le_succ _) (.int .i64 v)).set_ (q := ⟨w.heap.size + 1, 1, none⟩) (Nat.le_succ _) (.int .i64 t.high)).set_ (q := ⟨w.heap.size + 1, 2, none⟩) (Nat.le_succ _) (.int .i64 t.due)).set_ (q := ⟨w.heap.size + 1, 3, none⟩) (Nat.le_succ _) (.int .i64 t.every)).set_ (q := ⟨w.heap.size + 1, 4, none⟩) (Nat.le_succ _) (.bool t.crit))
    clear c2 z2 D2
    go_wp2
    refine bodyPost_ret (v := .agg #[.int .i64 v, .int .i64 t.high, .int .i64 t.due, .int .i64 t.every, .bool t.crit]) (by simp [results, Try.results68, go_sem, r0, r1, r2, r3, r4]) rfl ⟨⟨v, t.high, t.due, t.every, t.crit⟩, rfl, HE.out, D9.out⟩
  by_cases e1 : q = 1
  · subst e1
    have hsz := D1.out.2.1.size
    have n2 := Lib.hid (rdI_new w1 3 #[.int .i64 0, .int .i64 21, .int .i64 5] w1.heap.size [0, 21, 5] rfl rfl 3 rfl (by decide))
    have E2 := Lib.hid (D1.out.alloc (.cells #[.int .i64 0, .int .i64 21, .int .i64 5] 3))
    have c1 := Lib.hid (b1.out.alloc (.cells #[.int .i64 0, .int .i64 21, .int .i64 5] 3))
    have y1 := Lib.hid (z1.out.alloc (.cells #[.int .i64 0, .int .i64 21, .int .i64 5] 3))
    clear D1 b1 z1 hq0 hq1
    go_wp2_with fail
    refine (E2.out.num (by omega) n2.out (by decide) (by decide) (by omega)).mono ?_
    rintro e w2 ⟨v, rfl, hv, D2, g2⟩
    have c2 := Lib.hid (c1.out.grown g2 hn3.out)
    have z2 := Lib.hid (y1.out.grown g2 hn4.out)
    have hs2 : w.heap.size + 1 < w2.heap.size := z2.out.lt
    replace D2 := Lib.hid D2
    clear g2 hv E2 n2 c1 y1 hsz
    have k0 := c2.out.cell (i := 0) rfl
    have k1 := c2.out.cell (i := 1) rfl
    have k2 := c2.out.cell (i := 2) rfl
    have k3 := c2.out.cell (i := 3) rfl
    have k4 := c2.out.cell (i := 4) rfl
    have fs := c2.out.frozen 1
    have r0 := z2.out.cell (i := 0) rfl
    have r1 := z2.out.cell (i := 1) rfl
    have r2 := z2.out.cell (i := 2) rfl
    have r3 := z2.out.cell (i := 3) rfl
    have r4 := z2.out.cell (i := 4) rfl
    have f0 := z2.out.frozen 0
    have f1 := z2.out.frozen 1
    have f2 := z2.out.frozen 2
    have f3 := z2.out.frozen 3
    have f4 := z2.out.frozen 4
    have D9 := Lib.hid ((((((D2.out.set_ (q := ⟨w.heap.size, 1, none⟩) (Nat.le_refl _) (.int .i64 v)).set_ (q := ⟨w.heap.size + 1, 0, none⟩) (Nat.le_succ _) (.int .i64 t.low)).set_ (q := ⟨w.heap.size + 1, 1, none⟩) (Nat.le_succ _) (.int .i64 v)).set_ (q := ⟨w.heap.size + 1, 2, none⟩) (Nat.le_succ _) (.int .i64 t.due)).set_ (q := ⟨w.heap.size + 1, 3, none⟩) (Nat.le_succ _) (.int .i64 t.every)).set_ (q := ⟨w.heap.size + 1, 4, none⟩) (Nat.le_succ _) (.bool t.crit))
    clear c2 z2 D2
    go_wp2
    refine bodyPost_ret (v := .agg #[.int .i64 t.low, .int .i64 v, .int .i64 t.due, .int .i64 t.every, .bool t.crit]) (by simp [results, Try.results68, go_sem, r0, r1, r2, r3, r4]) rfl ⟨⟨t.low, v, t.due, t.every, t.crit⟩, rfl, HE.out, D9.out⟩
  by_cases e2 : q = 2
  · subst e2
    have hsz := D1.out.2.1.size
    have n2 := Lib.hid (rdI_new w1 3 #[.int .i64 0, .int .i64 21, .int .i64 20] w1.heap.size [0, 21, 20] rfl rfl 3 rfl (by decide))
    have E2 := Lib.hid (D1.out.alloc (.cells #[.int .i64 0, .int .i64 21, .int .i64 20] 3))
    have c1 := Lib.hid (b1.out.alloc (.cells #[.int .i64 0, .int .i64 21, .int .i64 20] 3))
    have y1 := Lib.hid (z1.out.alloc (.cells #[.int .i64 0, .int .i64 21, .int .i64 20] 3))
    clear D1 b1 z1 hq0 hq1
    go_wp2_with fail
    refine (E2.out.num (by omega) n2.out (by decide) (by decide) (by omega)).mono ?_
    rintro e w2 ⟨v, rfl, hv, D2, g2⟩
    have c2 := Lib.hid (c1.out.grown g2 hn3.out)
    have z2 := Lib.hid (y1.out.grown g2 hn4.out)
    have hs2 : w.heap.size + 1 < w2.heap.size := z2.out.lt
    replace D2 := Lib.hid D2
    clear g2 hv E2 n2 c1 y1 hsz
    have k0 := c2.out.cell (i := 0) rfl
    have k1 := c2.out.cell (i := 1) rfl
    have k2 := c2.out.cell (i := 2) rfl
    have k3 := c2.out.cell (i := 3) rfl
    have k4 := c2.out.cell (i := 4) rfl
    have fs := c2.out.frozen 2
    have r0 := z2.out.cell (i := 0) rfl
    have r1 := z2.out.cell (i := 1) rfl
    have r2 := z2.out.cell (i := 2) rfl
    have r3 := z2.out.cell (i := 3) rfl
    have r4 := z2.out.cell (i := 4) rfl
    have f0 := z2.out.frozen 0
    have f1 := z2.out.frozen 1
    have f2 := z2.out.frozen 2
    have f3 := z2.out.frozen 3
    have f4 := z2.out.frozen 4
    have D9 := Lib.hid ((((((D2.out.set_ (q := ⟨w.heap.size, 2, none⟩) (Nat.le_refl _) (.int .i64 v)).set_ (q := ⟨w.heap.size + 1, 0, none⟩) (Nat.le_succ _) (.int .i64 t.low)).set_ (q := ⟨w.heap.size + 1, 1, none⟩) (Nat.le_succ _) (.int .i64 t.high)).set_ (q := ⟨w.heap.size + 1, 2, none⟩) (Nat.le_succ _) (.int .i64 v)).set_ (q := ⟨w.heap.size + 1, 3, none⟩) (Nat.le_succ _) (.int .i64 t.every)).set_ (q := ⟨w.heap.size + 1, 4, none⟩) (Nat.le_succ _) (.bool t.crit))
    clear c2 z2 D2
    go_wp2
    refine bodyPost_ret (v := .agg #[.int .i64 t.low, .int .i64 t.high, .int .i64 v, .int .i64 t.every, .bool t.crit]) (by simp [results, Try.results68, go_sem, r0, r1, r2, r3, r4]) rfl ⟨⟨t.low, t.high, v, t.every, t.crit⟩, rfl, HE.out, D9.out⟩
  by_cases e3 : q = 3
  · subst e3
    have c2 := b1
    have z2 := z1
    have D2 := D1
    clear b1 z1 D1 hq0 hq1
    have k0 := c2.out.cell (i := 0) rfl
    have k1 := c2.out.cell (i := 1) rfl
    have k2 := c2.out.cell (i := 2) rfl
    have k3 := c2.out.cell (i := 3) rfl
    have k4 := c2.out.cell (i := 4) rfl
    have fs := c2.out.frozen 4
    have r0 := z2.out.cell (i := 0) rfl
    have r1 := z2.out.cell (i := 1) rfl
    have r2 := z2.out.cell (i := 2) rfl
    have r3 := z2.out.cell (i := 3) rfl
    have r4 := z2.out.cell (i := 4) rfl
    have f0 := z2.out.frozen 0
    have f1 := z2.out.frozen 1
    have f2 := z2.out.frozen 2
    have f3 := z2.out.frozen 3
    have f4 := z2.out.frozen 4
    have D9 := Lib.hid ((((((D2.out.set_ (q := ⟨w.heap.size, 4, none⟩) (Nat.le_refl _) (.bool (!t.crit))).set_ (q := ⟨w.heap.size + 1, 0, none⟩) (Nat.le_succ _) (.int .i64 t.low)).set_ (q := ⟨w.heap.size + 1, 1, none⟩) (Nat.le_succ _) (.int .i64 t.high)).set_ (q := ⟨w.heap.size + 1, 2, none⟩) (Nat.le_succ _) (.int .i64 t.due)).set_ (q := ⟨w.heap.size + 1, 3, none⟩) (Nat.le_succ _) (.int .i64 t.every)).set_ (q := ⟨w.heap.size + 1, 4, none⟩) (Nat.le_succ _) (.bool (!t.crit)))
    clear c2 z2 D2
    go_wp2
    refine bodyPost_ret (v := .agg #[.int .i64 t.low, .int .i64 t.high, .int .i64 t.due, .int .i64 t.every, .bool (!t.crit)]) (by simp [results, Try.results68, go_sem, r0, r1, r2, r3, r4]) rfl ⟨⟨t.low, t.high, t.due, t.every, (!t.crit)⟩, rfl, HE.out, D9.out.more (by omega)⟩
  by_cases e4 : q = 4
  · subst e4
    have hsz := D1.out.2.1.size
    have n2 := Lib.hid (rdI_new w1 3 #[.int .i64 21, .int .i64 0, .int .i64 20] w1.heap.size [21, 0, 20] rfl rfl 3 rfl (by decide))
    have E2 := Lib.hid (D1.out.alloc (.cells #[.int .i64 21, .int .i64 0, .int .i64 20] 3))
    have c1 := Lib.hid (b1.out.alloc (.cells #[.int .i64 21, .int .i64 0, .int .i64 20] 3))
    have y1 := Lib.hid (z1.out.alloc (.cells #[.int .i64 21, .int .i64 0, .int .i64 20] 3))
    clear D1 b1 z1 hq0 hq1
    go_wp2_with fail
    refine (E2.out.num (by omega) n2.out (by decide) (by decide) (by omega)).mono ?_
    rintro e w2 ⟨v, rfl, hv, D2, g2⟩
    have c2 := Lib.hid (c1.out.grown g2 hn3.out)
    have z2 := Lib.hid (y1.out.grown g2 hn4.out)
    have hs2 : w.heap.size + 1 < w2.heap.size := z2.out.lt
    replace D2 := Lib.hid D2
    have HV4 := Lib.hid (ev_wrong hv)
    clear g2 hv E2 n2 c1 y1 hsz
    have k0 := c2.out.cell (i := 0) rfl
    have k1 := c2.out.cell (i := 1) rfl
    have k2 := c2.out.cell (i := 2) rfl
    have k3 := c2.out.cell (i := 3) rfl
    have k4 := c2.out.cell (i := 4) rfl
    have fs := c2.out.frozen 3
    have r0 := z2.out.cell (i := 0) rfl
    have r1 := z2.out.cell (i := 1) rfl
    have r2 := z2.out.cell (i := 2) rfl
    have r3 := z2.out.cell (i := 3) rfl
    have r4 := z2.out.cell (i := 4) rfl
    have f0 := z2.out.frozen 0
    have f1 := z2.out.frozen 1
    have f2 := z2.out.frozen 2
    have f3 := z2.out.frozen 3
    have f4 := z2.out.frozen 4
    have D9 := Lib.hid ((((((D2.out.set_ (q := ⟨w.heap.size, 3, none⟩) (Nat.le_refl _) (.int .i64 v)).set_ (q := ⟨w.heap.size + 1, 0, none⟩) (Nat.le_succ _) (.int .i64 t.low)).set_ (q := ⟨w.heap.size + 1, 1, none⟩) (Nat.le_succ _) (.int .i64 t.high)).set_ (q := ⟨w.heap.size + 1, 2, none⟩) (Nat.le_succ _) (.int .i64 t.due)).set_ (q := ⟨w.heap.size + 1, 3, none⟩) (Nat.le_succ _) (.int .i64 v)).set_ (q := ⟨w.heap.size + 1, 4, none⟩) (Nat.le_succ _) (.bool t.crit))
    clear c2 z2 D2
    go_wp2
    refine bodyPost_ret (v := .agg #[.int .i64 t.low, .int .i64 t.high, .int .i64 t.due, .int .i64 v, .bool t.crit]) (by simp [results, Try.results68, go_sem, r0, r1, r2, r3, r4]) rfl ⟨⟨t.low, t.high, t.due, v, t.crit⟩, rfl, HV4.out, D9.out⟩
  have g0 : (q == 0) = false := by simpa using e0
  have g1 : (q == 1) = false := by simpa using e1
  have g2 : (q == 2) = false := by simpa using e2
  have g3 : (q == 3) = false := by simpa using e3
  have g4 : (q == 4) = false := by simpa using e4
  have c2 := b1
  have z2 := z1
  have D2 := D1
  clear b1 z1 D1 e0 e1 e2 e3 e4
  have k0 := c2.out.cell (i := 0) rfl
  have k1 := c2.out.cell (i := 1) rfl
  have k2 := c2.out.cell (i := 2) rfl
  have k3 := c2.out.cell (i := 3) rfl
  have k4 := c2.out.cell (i := 4) rfl
  have r0 := z2.out.cell (i := 0) rfl
  have r1 := z2.out.cell (i := 1) rfl
  have r2 := z2.out.cell (i := 2) rfl
  have r3 := z2.out.cell (i := 3) rfl
  have r4 := z2.out.cell (i := 4) rfl
  have f0 := z2.out.frozen 0
  have f1 := z2.out.frozen 1
  have f2 := z2.out.frozen 2
  have f3 := z2.out.frozen 3
  have f4 := z2.out.frozen 4
  have D9 := Lib.hid (((((D2.out.set_ (q := ⟨w.heap.size + 1, 0, none⟩) (Nat.le_succ _) (.int .i64 t.low)).set_ (q := ⟨w.heap.size + 1, 1, none⟩) (Nat.le_succ _) (.int .i64 t.high)).set_ (q := ⟨w.heap.size + 1, 2, none⟩) (Nat.le_succ _) (.int .i64 t.due)).set_ (q := ⟨w.heap.size + 1, 3, none⟩) (Nat.le_succ _) (.int .i64 t.every)).set_ (q := ⟨w.heap.size + 1, 4, none⟩) (Nat.le_succ _) (.bool t.crit))
  clear c2 z2 D2
  go_wp2
  refine bodyPost_ret (v := .agg #[.int .i64 t.low, .int .i64 t.high, .int .i64 t.due, .int .i64 t.every, .bool t.crit]) (by simp [results, Try.results68, go_sem, r0, r1, r2, r3, r4]) rfl ⟨⟨t.low, t.high, t.due, t.every, t.crit⟩, rfl, HE.out, D9.out.more (by omega)⟩

theorem Drawn.taskE {w w1 : World} {R : Nat} {A : Option Addr} {n c : Nat} {bs : List UInt8} {p k : Nat} (h : Drawn w R A n c bs p k w1) (hp : p + k < 999990) :
    Calls Try.prog 69 #[.pointer (some ⟨R, 0, none⟩)] w1 fun e w' => ∃ t : T, e = .returned (.agg #[.int .i64 t.low, .int .i64 t.high, .int .i64 t.due, .int .i64 t.every, .bool t.crit]) ∧ Ev t.every ∧ Drawn w R A n c bs p (k + 6) w' ∧ w1.grownBy w' (some R) := by
  obtain ⟨q, h1, h2, hr⟩ := h.1
  refine (l1TaskE_any R A n c bs q w1 hr (by omega)).mono ?_
  rintro e w' ⟨t, rfl, he, hd⟩
  exact ⟨t, rfl, he, h.then_ h2 h1 hd, hd.2.1⟩
theorem Drawn.wrongE {w w1 : World} {R : Nat} {A : Option Addr} {n c : Nat} {bs : List UInt8} {p k : Nat} (h : Drawn w R A n c bs p k w1) (hp : p + k < 999990) (t : T) (hE : Ev t.every) :
    Calls Try.prog 68 #[.pointer (some ⟨R, 0, none⟩), .agg #[.int .i64 t.low, .int .i64 t.high, .int .i64 t.due, .int .i64 t.every, .bool t.crit]] w1 fun e w' => ∃ t' : T, e = .returned (.agg #[.int .i64 t'.low, .int .i64 t'.high, .int .i64 t'.due, .int .i64 t'.every, .bool t'.crit]) ∧ Ev t'.every ∧ Drawn w R A n c bs p (k + 2) w' ∧ w1.grownBy w' (some R) := by
  obtain ⟨q, h1, h2, hr⟩ := h.1
  refine (l1WrongE_any R A n c bs q t w1 hr (by omega) hE).mono ?_
  rintro e w' ⟨t, rfl, he, hd⟩
  exact ⟨t, rfl, he, h.then_ h2 h1 hd, hd.2.1⟩
set_option maxRecDepth 100000 in
set_option maxHeartbeats 6400000 in
theorem l1SetE_any (R : Nat) (A : Option Addr) (n c : Nat) (bs : List UInt8) (p : Nat) (w : World) (h : Rdr w R A n c bs p) (hp : p < 999900) :
    Calls Try.prog 63 #[.pointer (some ⟨R, 0, none⟩)] w fun e w' => ∃ (v : Value) (xs : List T), e = .returned v ∧ xs.length ≤ 5 ∧ Evs xs ∧ OwnT w w' v xs.length xs ∧ Drawn w R A n c bs p 40 w' := by
  have hR := h.lt
  have n1 := Lib.hid (rdI_new (w.alloc (.cells #[] 30)) 3 #[.int .i64 3, .int .i64 2, .int .i64 4, .int .i64 1, .int .i64 5, .int .i64 0] (w.heap.size + 1) [3, 2, 4, 1, 5, 0] rfl (by simp) 6 rfl (by decide))
  have E0 := Lib.hid (((Drawn.refl h).alloc (.cells #[] 30)).alloc (.cells #[.int .i64 3, .int .i64 2, .int .i64 4, .int .i64 1, .int .i64 5, .int .i64 0] 3))
  have o0 := Lib.hid ((OwnT.new w).alloc (.cells #[.int .i64 3, .int .i64 2, .int .i64 4, .int .i64 1, .int .i64 5, .int .i64 0] 3))
  obtain ⟨i0, hi, hz0, hz1, hz2⟩ := info_parts infoTaskD
  clear h
  go_enter Try.func63, Try.ntmps63
  go_wp2_with fail
  refine (E0.out.num (by omega) n1.out (by decide) (by decide) (by omega)).mono ?_
  rintro e w1 ⟨iv, rfl, hiv, D1, g1⟩
  have o1 := Lib.hid (o0.out.grown hR g1)
  have D1 := Lib.hid D1
  obtain ⟨j0, hj0, hj5⟩ : ∃ j : Nat, iv = j ∧ j ≤ 5 := by
    have : 0 ≤ iv ∧ iv ≤ 5 := by simp at hiv; omega
    exact ⟨iv.toNat, by omega, by omega⟩
  subst hj0
  clear g1 hiv n1 E0 o0
  go_wp2_with fail
  go_loopw [3, 4] (fun v i wr => ∃ (j m : Nat) (xs : List T), i = .int .i64 j ∧ m + j ≤ 5 ∧ Hid (Evs xs) ∧ OwnT w wr v m xs ∧ Drawn w R A n c bs p (1 + 6 * m) wr) (fun _ i _ => (intOf i).toNat)
  case atStart => exact ⟨j0, 0, [], rfl, by omega, Lib.hid Evs.nil, o1.out, D1.out⟩
  case round =>
    obtain ⟨j, m, xs, rfl, hmj, hE, ho, hD⟩ := hrel
    replace ho := Lib.hid ho
    replace hD := Lib.hid hD
    clear o1 D1
    by_cases hj : 0 < j
    · go_wp2_with fail
      refine (hD.out.taskE (by omega)).mono ?_
      rintro e w2 ⟨t, rfl, het, D2, g2⟩
      have HT := Lib.hid (hE.out.snoc het)
      clear het
      have o2 := Lib.hid (ho.out.grown hR g2)
      replace D2 := Lib.hid (D2.alloc (.cells #[.int .i64 t.low, .int .i64 t.high, .int .i64 t.due, .int .i64 t.every, .bool t.crit] 30))
      have o2a := Lib.hid (o2.out.alloc (.cells #[.int .i64 t.low, .int .i64 t.high, .int .i64 t.due, .int .i64 t.every, .bool t.crit] 30))
      have c1 := Lib.hid (cells_one w2 t 30 w2.heap.size rfl)
      clear g2 ho hD o2
      have hsz := D2.out.2.1.size
      go_wp2_with (at_builtin; refine wpList_append_own _ rfl _ _ 23 rfl w.heap.size 30 i0 _ 5 40 Try.underlying23 hi hz0 hz1 hz2 rfl (by decide) _ _ _ rfl o2a.out.1 ⟨w2.heap.size, 0, none⟩ 1 1 t.cells rfl rfl c1.out (cells_oneCell t) ?c3 ?c4 ?c5 ?_)
      case c3 => unfold maxLen; omega
      case c4 => omega
      case c5 => exact hsz
      intro v' w3 hown3 hg3 _
      have o3 : Hid (OwnT w w3 v' (m + 1) (xs ++ [t])) := ⟨by rw [List.flatMap_append]; exact hown3, by rw [List.length_append, o2a.out.2]; rfl⟩
      have D3 := Lib.hid (D2.out.own hg3 (fun g e => (o2a.out.1.lt g e).1))
      clear hown3 hg3 D2 o2a c1
      go_wp2
      go_roundw
      case rel => exact ⟨j - 1, m + 1, xs ++ [t], by first | go_num | (congr 1; omega), by omega, HT, o3.out, D3.out.more (by omega)⟩
      case measure => simp [intOf]; omega
    · have hj0 : j = 0 := by omega
      subst hj0
      go_wp2
      go_ret
      exact ⟨_, xs, rfl, by rw [ho.out.2]; omega, hE.out, by rw [ho.out.2]; exact ho.out, hD.out.more (by omega)⟩

theorem Drawn.set0E {w w1 : World} {R : Nat} {A : Option Addr} {n c : Nat} {bs : List UInt8} {p k : Nat} (h : Drawn w R A n c bs p k w1) (hp : p + k < 999900) :
    Calls Try.prog 63 #[.pointer (some ⟨R, 0, none⟩)] w1 fun e w' => ∃ (D : Option Addr) (m d : Nat) (xs : List T), e = .returned (.slice D m d) ∧ m ≤ 5 ∧ Evs xs ∧ OwnT w w' (.slice D m d) m xs ∧ Drawn w R A n c bs p (k + 40) w' := by
  obtain ⟨q, h1, h2, hr⟩ := h.1
  refine (l1SetE_any R A n c bs q w1 hr (by omega)).mono ?_
  rintro e w' ⟨v, xs, rfl, hl, hE, ho, hd⟩
  obtain ⟨D, d, rfl⟩ := ho.slice
  exact ⟨D, xs.length, d, xs, rfl, hl, hE, ho.ext h.2.1.size, h.then_ h2 h1 hd⟩

set_option maxRecDepth 100000 in
set_option maxHeartbeats 6400000 in
theorem l1SomeE_any (R : Nat) (A : Option Addr) (n c : Nat) (bs : List UInt8) (p : Nat) (w : World) (h : Rdr w R A n c bs p) (hp : p < 999000) :
    Calls Try.prog 59 #[.pointer (some ⟨R, 0, none⟩)] w fun e w' => ∃ (D : Option Addr) (m d : Nat) (xs : List T), e = .returned (.slice D m d) ∧ m ≤ 6 ∧ Evs xs ∧ OwnT w w' (.slice D m d) m xs ∧ Drawn w R A n c bs p 100 w' := by
  have hR := h.lt
  have D0 := Lib.hid (Drawn.refl h)
  obtain ⟨i0, hi, hz0, hz1, hz2⟩ := info_parts infoTaskD
  clear h
  go_enter Try.func59, Try.ntmps59
  go_wp2_with fail
  refine (D0.out.set0E (by omega)).mono ?_
  rintro e w1 ⟨D, m, d, xs, rfl, hm5, hE, ho, D1⟩
  have HE := Lib.hid hE
  clear hE
  have o1 := Lib.hid ho
  replace D1 := Lib.hid D1
  clear ho D0
  go_upto_if 9 with fail
  go_cut [3] from 5 (fun v wc => ∃ ys : List T, v = .slice D m d ∧ Hid (Evs ys) ∧ OwnT w wc (.slice D m d) m ys ∧ Drawn w R A n c bs p 50 wc)
  case first =>
    by_cases hm0 : 0 < m
    · obtain ⟨g, hg, hgw⟩ : ∃ g, D = some ⟨g, 0, none⟩ ∧ w.heap.size ≤ g := by
        rcases o1.out.form with ⟨_, h0⟩ | ⟨g, c', e, hgw⟩
        · omega
        · injection e with e1 _ _; exact ⟨g, e1, hgw⟩
      subst hg
      go_wp2_with fail
      refine (D1.out.pick (by omega) _).mono ?_
      rintro e w2 ⟨k, rfl, hk, D2, g2⟩
      have o2 := Lib.hid (o1.out.grown hR g2)
      replace D2 := Lib.hid D2
      obtain ⟨k, rfl⟩ := Int.eq_ofNat_of_zero_le hk.1
      have hkm : k < m := by have := hk.2.1 (by omega); omega
      have i0 : (0 : Int) ≤ (k : Int) := by omega
      have i1 : (k : Int) < (m : Int) := by omega
      obtain ⟨b, off, x, hbo, hx, hb, c0, c1, c2, c3, c4⟩ := (Rd.of_own T.cells_len o2.out.1 o2.out.2).taskAt hkm
      injection hbo with hbo
      injection hbo with e1 e2
      subst e1 e2
      rw [Nat.zero_add] at c0 c1 c2 c3 c4
      have HX := Lib.hid (HE.out x (List.mem_of_getElem? hx))
      clear g2 hk o1 D1 hx
      go_wp2_with fail
      refine (D2.out.wrongE (by omega) x HX.out).mono ?_
      rintro e w3 ⟨t, rfl, het, D3, g3⟩
      have HT := Lib.hid (HE.out.set_ k het)
      clear het
      have o3 := Lib.hid (o2.out.grown hR g3)
      obtain ⟨u0, q0⟩ := own_cell o3.out.1 (j := k * 5) (by omega)
      obtain ⟨u1, q1⟩ := own_cell o3.out.1 (j := k * 5 + 1) (by omega)
      obtain ⟨u2, q2⟩ := own_cell o3.out.1 (j := k * 5 + 2) (by omega)
      obtain ⟨u3, q3⟩ := own_cell o3.out.1 (j := k * 5 + 3) (by omega)
      obtain ⟨u4, q4⟩ := own_cell o3.out.1 (j := k * 5 + 4) (by omega)
      have f0 := o3.out.1.frozenAt (k * 5)
      have f1 := o3.out.1.frozenAt (k * 5 + 1)
      have f2 := o3.out.1.frozenAt (k * 5 + 2)
      have f3 := o3.out.1.frozenAt (k * 5 + 3)
      have f4 := o3.out.1.frozenAt (k * 5 + 4)
      have o4 := Lib.hid (o3.out.set_ k hkm t)
      have D4 := Lib.hid (D3.set5 hgw k (.int .i64 t.low) (.int .i64 t.high) (.int .i64 t.due) (.int .i64 t.every) (.bool t.crit))
      clear g3 o2 D2 o3 D3 c0 c1 c2 c3 c4 hb
      go_wp2_with fail
      go_meet
      exact ⟨_, rfl, HT, o4.out, D4.out.more (by omega)⟩
    · go_wp2_with fail
      go_meet
      exact ⟨_, rfl, HE, o1.out, D1.out.more (by omega)⟩
  case rest =>
    clear HE
    obtain ⟨ys, rfl, HE, ho, hD⟩ := hcut
    replace ho := Lib.hid ho
    replace hD := Lib.hid hD
    clear o1 D1
    go_wp2_with fail
    refine (hD.out.pick (by omega) _).mono ?_
    rintro e w2 ⟨q, rfl, hq, D2, g2⟩
    have o2 := Lib.hid (ho.out.grown hR g2)
    replace D2 := Lib.hid D2
    clear g2 hq ho hD
    by_cases hq0 : (q == 0) = true
    · go_wp2_with fail
      go_loopw [3] (fun v wr => ∃ (D : Option Addr) (j e : Nat) (zs : List T), v = .slice D j e ∧ j ≤ 6 ∧ Hid (Evs zs) ∧ OwnT w wr v j zs ∧ Drawn w R A n c bs p (51 + 6 * j) wr) (fun v _ => match v with | .slice _ j _ => 6 - j | _ => 0)
      case atStart => exact ⟨_, _, _, ys, rfl, by omega, HE, o2.out, D2.out.more (by omega)⟩
      case round =>
        obtain ⟨D', j, e, zs, rfl, hj6, HZ, ho, hD⟩ := hrel
        replace ho := Lib.hid ho
        replace hD := Lib.hid hD
        clear o2 D2
        by_cases hj5 : j ≤ 5
        · go_wp2_with fail
          refine (hD.out.taskE (by omega)).mono ?_
          rintro e w3 ⟨t, rfl, het, D3, g3⟩
          have HT := Lib.hid (HZ.out.snoc het)
          clear het
          have o3 := Lib.hid (ho.out.grown hR g3)
          replace D3 := Lib.hid (D3.alloc (.cells #[.int .i64 t.low, .int .i64 t.high, .int .i64 t.due, .int .i64 t.every, .bool t.crit] 30))
          have o3a := Lib.hid (o3.out.alloc (.cells #[.int .i64 t.low, .int .i64 t.high, .int .i64 t.due, .int .i64 t.every, .bool t.crit] 30))
          have c1 := Lib.hid (cells_one w3 t 30 w3.heap.size rfl)
          clear g3 ho hD o3
          have hsz := D3.out.2.1.size
          go_wp2_with (at_builtin; refine wpList_append_own _ rfl _ _ 23 rfl w.heap.size 30 i0 _ 5 40 Try.underlying23 hi hz0 hz1 hz2 rfl (by decide) _ _ _ rfl o3a.out.1 ⟨w3.heap.size, 0, none⟩ 1 1 t.cells rfl rfl c1.out (cells_oneCell t) ?c3 ?c4 ?c5 ?_)
          case c3 => unfold maxLen; omega
          case c4 => omega
          case c5 => exact hsz
          intro v' w4 hown4 hg4 _
          have o4 := Lib.hid (show OwnT w w4 v' (j + 1) (zs ++ [t]) from ⟨by rw [List.flatMap_append]; exact hown4, by rw [List.length_append, o3a.out.2]; rfl⟩)
          have D4 := Lib.hid (D3.out.own hg4 (fun g e => (o3a.out.1.lt g e).1))
          obtain ⟨D5, e5, hv⟩ := o4.out.slice
          subst hv
          clear hown4 hg4 D3 o3a c1
          go_wp2
          go_roundw
          case rel => exact ⟨_, j + 1, _, zs ++ [t], rfl, by omega, HT, o4.out, D4.out.more (by omega)⟩
          case measure => simp; omega
        · go_wp2
          go_ret
          exact ⟨_, _, _, zs, rfl, hj6, HZ.out, ho.out, hD.out.more (by omega)⟩
    · have hq1 : (q == 0) = false := by simpa using hq0
      clear hq0
      go_wp2
      go_ret
      exact ⟨_, _, _, ys, rfl, by omega, HE.out, o2.out, D2.out.more (by omega)⟩

theorem mem_ins1 {xs ys : List T} {k m : Nat} {x : T} (h : ∀ t ∈ ys, t ∈ xs) (hx : xs[k]? = some x) : ∀ t ∈ ys.take m ++ [x], t ∈ xs := by
  intro t ht
  rw [List.mem_append, List.mem_singleton] at ht
  rcases ht with ht | rfl
  · exact h t (List.mem_of_mem_take ht)
  · exact List.mem_of_getElem? hx
theorem mem_ins2 {xs ys : List T} {k m : Nat} {x : T} (h : ∀ t ∈ ys, t ∈ xs) (hx : xs[k]? = some x) : ∀ t ∈ ys.take m ++ [x] ++ ys.drop m, t ∈ xs := by
  intro t ht
  rw [List.mem_append] at ht
  rcases ht with ht | ht
  · exact mem_ins1 h hx t ht
  · exact h t (List.mem_of_mem_drop ht)
set_option maxRecDepth 100000 in
set_option maxHeartbeats 12800000 in
theorem sortDueE_spec (A : Option Addr) (n c : Nat) (xs : List T) (w : World) (h : RdT w A n c xs) (hn : n ≤ 5) :
    Calls Try.prog 62 #[.slice A n c] w fun e w' => ∃ (D : Option Addr) (m d : Nat) (ys : List T), e = .returned (.slice D m d) ∧ m ≤ 5 ∧ (∀ t ∈ ys, t ∈ xs) ∧ OwnT w w' (.slice D m d) m ys ∧ Below w.heap.size w w' := by
  obtain ⟨inf, hi, iz0, iz1, iz2⟩ := info_parts infoTaskD
  have q0 := Lib.hid h
  have o0 := Lib.hid (OwnT.new w)
  have hb0 : Below w.heap.size w (w.alloc (.cells #[] 30)) := (Below.refl _ _).alloc (Nat.le_refl _) _
  clear h
  go_enter Try.func62, Try.ntmps62
  go_wp2_with fail
  go_loopw [3, 4] (fun v i wr => ∃ (k g m d : Nat) (ys : List T), i = .int .i64 k ∧ k ≤ n ∧ m ≤ k ∧ v = .slice (some ⟨g, 0, none⟩) m d ∧ Hid (∀ t ∈ ys, t ∈ xs) ∧ OwnT w wr (.slice (some ⟨g, 0, none⟩) m d) m ys ∧ Below w.heap.size w wr) (fun _ i _ => n - (intOf i).toNat)
  case atStart => exact ⟨0, _, 0, _, [], rfl, Nat.zero_le _, Nat.le_refl _, rfl, Lib.hid (fun t h => by cases h), o0.out, hb0⟩
  case round =>
    obtain ⟨k, g, m, d, ys, rfl, hk, hmk, rfl, HIn, ho, hbel⟩ := hrel
    replace ho := Lib.hid ho
    clear o0 hb0
    by_cases hkn : k < n
    · have hV := Lib.hid (setValid_spec A n c xs wr (q0.out.below hbel))
      cases hs : svB xs
      · rw [hs] at hV
        clear hs
        go_wp2_with fail
        refine hV.out.mono ?_
        rintro e w1 ⟨rfl, hb1⟩
        have o1 := ho.out.belowS hb1
        have hz1 := hbel.trans (hb1.mono hbel.size)
        go_wp2
        go_ret
        exact ⟨_, _, _, ys, rfl, by omega, HIn.out, o1, hz1⟩
      · rw [hs] at hV
        clear hs
        go_wp2_with fail
        refine hV.out.mono ?_
        rintro e w1 ⟨rfl, hb1⟩
        have o1 := Lib.hid (ho.out.belowS hb1)
        have hz1 := hbel.trans (hb1.mono hbel.size)
        clear hb1 hV
        obtain ⟨wo, hwo⟩ : ∃ wo : World, wo = w1 := ⟨_, rfl⟩
        subst hwo
        go_wp2_with fail
        go_loopw [5] (fun i wr => ∃ a : Nat, i = .int .i64 a ∧ a ≤ m ∧ Below w.heap.size w wr ∧ OwnT w wr (.slice (some ⟨g, 0, none⟩) m d) m ys) (fun i _ => (intOf i).toNat)
        case atStart => exact ⟨m, rfl, Nat.le_refl _, hz1, o1.out⟩
        case round =>
          obtain ⟨a, rfl, ham, hz2, o2⟩ := hrel
          replace o2 := Lib.hid o2
          clear o1 hz1 ho hbel
          have hsz := hz2.size
          obtain ⟨b, off, x, hA, hx, hb, c0, c1, c2, c3, c4⟩ := (q0.out.below hz2).taskAt hkn
          subst hA
          have i0 : (0 : Int) ≤ (k : Int) := by omega
          have i1 : (k : Int) < (n : Int) := by omega
          have hgw : w.heap.size ≤ g ∧ g < wr.heap.size := own_lt o2.out.1
          have hres : (a ≤ 0 ∨ (1 ≤ a ∧ befB x (ys.getD (a - 1) default) = false)) ∨ (1 ≤ a ∧ befB x (ys.getD (a - 1) default) = true) := by
            rcases Nat.eq_zero_or_pos a with h0 | h0
            · left; left; omega
            · cases befB x (ys.getD (a - 1) default)
              · left; right; exact ⟨h0, rfl⟩
              · right; exact ⟨h0, rfl⟩
          rcases hres with (ha0 | ⟨ha1, hbf⟩) | ⟨ha1, hbf⟩
          · have hd : decide (0 < a) = false := by simp; omega
            have Hx := Lib.hid hx
            clear hx ha0
            go_wp2_with fail
            refine wp_region_quiet_below (by kernel_rfl) (by kernel_rfl) ?_
            repeat (go_big_quiet_step ((fail)))
            refine wpQuiet_nil ?_
            intro wi hwq
            have hbq := below_of_regrown hwq
            clear hwq
            clear hd
            have hz3 := hz2.trans (hbq.mono hz2.size)
            have o3 := Lib.hid (o2.out.belowS hbq)
            have hgi : g < wi.heap.size := Nat.lt_of_lt_of_le hgw.2 hbq.size
            have hbA : Below wi.heap.size wi (wi.alloc (.cells #[] 30)) := (Below.refl _ _).alloc (Nat.le_refl _) _
            have N0 := Lib.hid (OwnT.new wi)
            have hmd := o3.out.rdS.cap
            have hdm := o3.out.rdS.max
            unfold maxLen at hdm
            have s1 := Lib.hid (rd_take_cells (o3.out.belowS hbA).rdS ham)
            have l1 := Lib.hid (show ((ys.take a).flatMap T.cells).length = a * 5 by rw [flatMap_len T.cells_len, List.length_take, o3.out.2]; rw [Nat.min_eq_left ham])
            clear hbq o2 c0 c1 c2 c3 c4
            go_wp2_with (at_builtin; refine wpList_append_own _ rfl (.tmp 36) (.tmp 39) 23 rfl wi.heap.size 30 inf _ 5 40 Try.underlying23 hi iz0 iz1 iz2 rfl (by decide) _ _ _ rfl N0.out.1 ⟨g, 0, none⟩ a d ((ys.take a).flatMap T.cells) rfl l1.out s1.out (cells_all_one _) ?p3a ?p4a ?p5a ?_)
            case p3a => unfold maxLen; omega
            case p4a => omega
            case p5a => first | omega | (simp; done) | (simp; omega)
            intro v1 w2 hown1 hg1 hn1
            have hg1' : (wi.alloc (.cells #[] 30)).grownBy w2 (some wi.heap.size) := hg1
            have hb12 := hbA.grown hg1' hbA.size (fun k e => by injection e with e; omega)
            have N1 := Lib.hid (show OwnT wi w2 v1 a (ys.take a) from ⟨by simpa using hown1, by rw [List.length_take, o3.out.2]; exact Nat.min_eq_left ham⟩)
            have nn1 := Lib.hid (show v1 ≠ .slice none 0 0 from fun e => by first | exact hn1 e | (have h := (hn1.1 e).1; cases h))
            have hz4 := hz3.trans (hb12.mono hz3.size)
            have o4 := Lib.hid (o3.out.belowS hb12)
            obtain ⟨b', off', x', hA', hx', hb', c0, c1, c2, c3, c4⟩ := (q0.out.below hz4).taskAt hkn
            rw [Hx.out] at hx'
            injection hx' with hx'
            subst hx'
            injection hA' with hA'
            injection hA' with hA1 hA2
            subst hA1 hA2
            have cj := Lib.hid (cells_one w2 x 30 w2.heap.size rfl)
            have N1a := Lib.hid (N1.out.alloc (.cells #[.int .i64 x.low, .int .i64 x.high, .int .i64 x.due, .int .i64 x.every, .bool x.crit] 30))
            have hb12a := Lib.hid (hb12.alloc hb12.size (.cells #[.int .i64 x.low, .int .i64 x.high, .int .i64 x.due, .int .i64 x.every, .bool x.crit] 30))
            have hsz2 := hb12.size
            clear hown1 hg1 hn1 hbA N0 s1 l1 hb12
            go_wp2_with (at_builtin; refine wpList_append_own _ rfl (.tmp 41) (.tmp 46) 23 rfl wi.heap.size 30 inf _ 5 40 Try.underlying23 hi iz0 iz1 iz2 rfl (by decide) _ _ _ rfl N1a.out.1 ⟨w2.heap.size, 0, none⟩ 1 1 x.cells rfl rfl cj.out (cells_oneCell _) ?q3a ?q4a ?q5a ?_)
            case q3a => unfold maxLen; omega
            case q4a => omega
            case q5a => first | omega | (simp; done) | (simp; omega)
            intro v2 w3 hown2 hg2 hn2
            have hb13 := hb12a.out.grown hg2 hb12a.out.size (fun k e => (N1a.out.1.lt k e).1)
            have N2 := Lib.hid (show OwnT wi w3 v2 (a + 1) (ys.take a ++ [x]) from ⟨by rw [List.flatMap_append]; simpa using hown2, by rw [List.length_append, N1.out.2]; rfl⟩)
            have nn2 := Lib.hid (show v2 ≠ .slice none 0 0 from fun e => by first | exact hn2 e | exact nn1.out (hn2.1 e).1)
            have hz5 := hz3.trans (hb13.mono hz3.size)
            have o5 := Lib.hid (o3.out.belowS hb13)
            clear c0 c1 c2 c3 c4 cj N1a hb12a hown2 hg2 hn2 N1 nn1 hsz2 hz4 o4
            by_cases had : a = d
            · have hma : m = a := by omega
              subst had
              subst hma
              have hdr := Lib.hid (show ys.drop m = [] from List.drop_eq_nil_of_le (by rw [o5.out.2]; exact Nat.le_refl _))
              have s3 : ∀ (j : Nat) (u : Value), ([] : List Value)[j]? = some u → w3.cell? ((⟨g, 0, none⟩ : Addr).add j) = some u := fun j u hu => by simp at hu
              go_wp2_with (at_builtin; refine wpList_append_own _ rfl (.tmp 48) (.tmp 51) 23 rfl wi.heap.size 30 inf _ 5 40 Try.underlying23 hi iz0 iz1 iz2 rfl (by decide) _ _ _ rfl N2.out.1 ⟨g, 0, none⟩ 0 0 [] rfl rfl s3 (fun u hu => by simp at hu) ?r3a ?r4a ?r5a ?_)
              case r3a => unfold maxLen; omega
              case r4a => omega
              case r5a => first | omega | exact hb13.size
              intro v3 w4 hown3 hg3 hn3
              have hb14 := hb13.grown hg3 hb13.size (fun k e => (N2.out.1.lt k e).1)
              have N3 := Lib.hid (show OwnT wi w4 v3 (m + 1) (ys.take m ++ [x]) from ⟨by simpa using hown3, N2.out.2⟩)
              have nn3 := Lib.hid (show v3 ≠ .slice none 0 0 from fun e => by first | exact hn3 e | exact nn2.out (hn3.1 e).1 | exact nn2.out (hn3.1 e))
              obtain ⟨g', d', hv3, _⟩ := own_some N3.out nn3.out
              subst hv3
              have N4 := Lib.hid (N3.out.ext hz3.size)
              have hz6 := hz3.trans (hb14.mono hz3.size)
              clear hown3 hg3 hn3 N2 nn2 N3 nn3 hz5 hb13 hb14 s3
              go_wp2
              go_roundw
              case rel => exact ⟨k + 1, g', m + 1, d', _, by go_num, by omega, by omega, rfl, Lib.hid (mem_ins1 HIn.out Hx.out), N4.out, hz6⟩
              case measure => simp [intOf]; omega
            · have had2 : ¬ d = a := fun e => had e.symm
              have s3 := Lib.hid (rd_drop_cells o5.out.rdS ham)
              have l3 := Lib.hid (show ((ys.drop a).flatMap T.cells).length = (m - a) * 5 by rw [flatMap_len T.cells_len, List.length_drop, o5.out.2])
              go_wp2_with (at_builtin; refine wpList_append_own _ rfl (.tmp 48) (.tmp 51) 23 rfl wi.heap.size 30 inf _ 5 40 Try.underlying23 hi iz0 iz1 iz2 rfl (by decide) _ _ _ rfl N2.out.1 ⟨g, a * 5, none⟩ (m - a) (d - a) ((ys.drop a).flatMap T.cells) rfl l3.out s3.out (cells_all_one _) ?t3a ?t4a ?t5a ?_)
              case t3a => unfold maxLen; omega
              case t4a => omega
              case t5a => first | omega | exact hb13.size
              intro v3 w4 hown3 hg3 hn3
              have hb14 := hb13.grown hg3 hb13.size (fun k e => (N2.out.1.lt k e).1)
              have hsum : a + 1 + (m - a) = m + 1 := by omega
              have N3 := Lib.hid (show OwnT wi w4 v3 (m + 1) (ys.take a ++ [x] ++ ys.drop a) from ⟨by rw [List.append_assoc, List.flatMap_append, List.flatMap_append, List.flatMap_singleton, ← hsum]; exact hown3, by rw [List.length_append, N2.out.2, List.length_drop, o5.out.2]; omega⟩)
              have nn3 := Lib.hid (show v3 ≠ .slice none 0 0 from fun e => by first | exact hn3 e | exact nn2.out (hn3.1 e).1)
              obtain ⟨g', d', hv3, _⟩ := own_some N3.out nn3.out
              subst hv3
              have N4 := Lib.hid (N3.out.ext hz3.size)
              have hz6 := hz3.trans (hb14.mono hz3.size)
              have hmk1 : m + 1 ≤ k + 1 := by omega
              clear hown3 hg3 hn3 N2 nn2 N3 nn3 hz5 hb13 hb14 s3 l3 hsum
              go_wp2
              go_roundw
              case rel => exact ⟨k + 1, g', m + 1, d', _, by go_num, by omega, by omega, by first | rfl | (congr 1; omega), Lib.hid (mem_ins2 HIn.out Hx.out), N4.out, hz6⟩
              case measure => simp [intOf]; omega
          · obtain ⟨b2, off2, y, hA2, hy, hb2, e0, e1, e2, e3, e4⟩ := o2.out.rdS.taskAt (i := a - 1) (by omega)
            injection hA2 with hA2
            injection hA2 with hA2 hA3
            subst hA2 hA3
            rw [Nat.zero_add] at e0 e1 e2 e3 e4
            rw [List.getD_eq_getElem?_getD, hy] at hbf
            have hbf' : befB x y = false := hbf
            have hd : decide (0 < a) = true := by simp; omega
            have hap := Lib.hid (show a = a - 1 + 1 by omega)
            have k1 : IntKind.i64.wrap ((a : Int) - 1) = ((a - 1 : Nat) : Int) := by rw [IntWalk.i64_in _ (by omega)]; omega
            have j0 : (0 : Int) ≤ ((a - 1 : Nat) : Int) := by omega
            have j1 : ((a - 1 : Nat) : Int) < (m : Int) := by omega
            have j2 : a ≤ (a - 1) + 1 := by omega
            have j3 : (a - 1) + 1 ≤ a := by omega
            generalize a - 1 = p at *
            have HC := Lib.hid (fun d os => Calls.regrown_of (d := d) (os := os) (hbf' ▸ l1Before_any x y (Go.Sort.grow (redrawn wr d) os)))
            have C0 := cell_regrown c0
            have C1 := cell_regrown c1
            have C2 := cell_regrown c2
            have C3 := cell_regrown c3
            have C4 := cell_regrown c4
            have E0 := cell_regrown e0
            have E1 := cell_regrown e1
            have E2 := cell_regrown e2
            have E3 := cell_regrown e3
            have E4 := cell_regrown e4
            have Hx := Lib.hid hx
            clear hx hy hbf hbf' e0 e1 e2 e3 e4
            go_wp2_with fail
            refine wp_region_quiet_below (by kernel_rfl) (by kernel_rfl) ?_
            repeat (go_big_quiet_step ((go_at_call 70; exact HC.out _ _)))
            refine wpQuiet_nil ?_
            intro wi hwq
            have hbq := below_of_regrown hwq
            clear hwq
            clear hd hap k1 C0 C1 C2 C3 C4 E0 E1 E2 E3 E4
            have hz3 := hz2.trans (hbq.mono hz2.size)
            have o3 := Lib.hid (o2.out.belowS hbq)
            have hgi : g < wi.heap.size := Nat.lt_of_lt_of_le hgw.2 hbq.size
            have hbA : Below wi.heap.size wi (wi.alloc (.cells #[] 30)) := (Below.refl _ _).alloc (Nat.le_refl _) _
            have N0 := Lib.hid (OwnT.new wi)
            have hmd := o3.out.rdS.cap
            have hdm := o3.out.rdS.max
            unfold maxLen at hdm
            have s1 := Lib.hid (rd_take_cells (o3.out.belowS hbA).rdS ham)
            have l1 := Lib.hid (show ((ys.take a).flatMap T.cells).length = a * 5 by rw [flatMap_len T.cells_len, List.length_take, o3.out.2]; rw [Nat.min_eq_left ham])
            clear hbq o2 c0 c1 c2 c3 c4
            go_wp2_with (at_builtin; refine wpList_append_own _ rfl (.tmp 36) (.tmp 39) 23 rfl wi.heap.size 30 inf _ 5 40 Try.underlying23 hi iz0 iz1 iz2 rfl (by decide) _ _ _ rfl N0.out.1 ⟨g, 0, none⟩ a d ((ys.take a).flatMap T.cells) rfl l1.out s1.out (cells_all_one _) ?p3b ?p4b ?p5b ?_)
            case p3b => unfold maxLen; omega
            case p4b => omega
            case p5b => first | omega | (simp; done) | (simp; omega)
            intro v1 w2 hown1 hg1 hn1
            have hg1' : (wi.alloc (.cells #[] 30)).grownBy w2 (some wi.heap.size) := hg1
            have hb12 := hbA.grown hg1' hbA.size (fun k e => by injection e with e; omega)
            have N1 := Lib.hid (show OwnT wi w2 v1 a (ys.take a) from ⟨by simpa using hown1, by rw [List.length_take, o3.out.2]; exact Nat.min_eq_left ham⟩)
            have nn1 := Lib.hid (show v1 ≠ .slice none 0 0 from fun e => by first | exact hn1 e | (have h := (hn1.1 e).1; cases h))
            have hz4 := hz3.trans (hb12.mono hz3.size)
            have o4 := Lib.hid (o3.out.belowS hb12)
            obtain ⟨b', off', x', hA', hx', hb', c0, c1, c2, c3, c4⟩ := (q0.out.below hz4).taskAt hkn
            rw [Hx.out] at hx'
            injection hx' with hx'
            subst hx'
            injection hA' with hA'
            injection hA' with hA1 hA2
            subst hA1 hA2
            have cj := Lib.hid (cells_one w2 x 30 w2.heap.size rfl)
            have N1a := Lib.hid (N1.out.alloc (.cells #[.int .i64 x.low, .int .i64 x.high, .int .i64 x.due, .int .i64 x.every, .bool x.crit] 30))
            have hb12a := Lib.hid (hb12.alloc hb12.size (.cells #[.int .i64 x.low, .int .i64 x.high, .int .i64 x.due, .int .i64 x.every, .bool x.crit] 30))
            have hsz2 := hb12.size
            clear hown1 hg1 hn1 hbA N0 s1 l1 hb12
            go_wp2_with (at_builtin; refine wpList_append_own _ rfl (.tmp 41) (.tmp 46) 23 rfl wi.heap.size 30 inf _ 5 40 Try.underlying23 hi iz0 iz1 iz2 rfl (by decide) _ _ _ rfl N1a.out.1 ⟨w2.heap.size, 0, none⟩ 1 1 x.cells rfl rfl cj.out (cells_oneCell _) ?q3b ?q4b ?q5b ?_)
            case q3b => unfold maxLen; omega
            case q4b => omega
            case q5b => first | omega | (simp; done) | (simp; omega)
            intro v2 w3 hown2 hg2 hn2
            have hb13 := hb12a.out.grown hg2 hb12a.out.size (fun k e => (N1a.out.1.lt k e).1)
            have N2 := Lib.hid (show OwnT wi w3 v2 (a + 1) (ys.take a ++ [x]) from ⟨by rw [List.flatMap_append]; simpa using hown2, by rw [List.length_append, N1.out.2]; rfl⟩)
            have nn2 := Lib.hid (show v2 ≠ .slice none 0 0 from fun e => by first | exact hn2 e | exact nn1.out (hn2.1 e).1)
            have hz5 := hz3.trans (hb13.mono hz3.size)
            have o5 := Lib.hid (o3.out.belowS hb13)
            clear c0 c1 c2 c3 c4 cj N1a hb12a hown2 hg2 hn2 N1 nn1 hsz2 hz4 o4
            by_cases had : a = d
            · have hma : m = a := by omega
              subst had
              subst hma
              have hdr := Lib.hid (show ys.drop m = [] from List.drop_eq_nil_of_le (by rw [o5.out.2]; exact Nat.le_refl _))
              have s3 : ∀ (j : Nat) (u : Value), ([] : List Value)[j]? = some u → w3.cell? ((⟨g, 0, none⟩ : Addr).add j) = some u := fun j u hu => by simp at hu
              go_wp2_with (at_builtin; refine wpList_append_own _ rfl (.tmp 48) (.tmp 51) 23 rfl wi.heap.size 30 inf _ 5 40 Try.underlying23 hi iz0 iz1 iz2 rfl (by decide) _ _ _ rfl N2.out.1 ⟨g, 0, none⟩ 0 0 [] rfl rfl s3 (fun u hu => by simp at hu) ?r3b ?r4b ?r5b ?_)
              case r3b => unfold maxLen; omega
              case r4b => omega
              case r5b => first | omega | exact hb13.size
              intro v3 w4 hown3 hg3 hn3
              have hb14 := hb13.grown hg3 hb13.size (fun k e => (N2.out.1.lt k e).1)
              have N3 := Lib.hid (show OwnT wi w4 v3 (m + 1) (ys.take m ++ [x]) from ⟨by simpa using hown3, N2.out.2⟩)
              have nn3 := Lib.hid (show v3 ≠ .slice none 0 0 from fun e => by first | exact hn3 e | exact nn2.out (hn3.1 e).1 | exact nn2.out (hn3.1 e))
              obtain ⟨g', d', hv3, _⟩ := own_some N3.out nn3.out
              subst hv3
              have N4 := Lib.hid (N3.out.ext hz3.size)
              have hz6 := hz3.trans (hb14.mono hz3.size)
              clear hown3 hg3 hn3 N2 nn2 N3 nn3 hz5 hb13 hb14 s3
              go_wp2
              go_roundw
              case rel => exact ⟨k + 1, g', m + 1, d', _, by go_num, by omega, by omega, rfl, Lib.hid (mem_ins1 HIn.out Hx.out), N4.out, hz6⟩
              case measure => simp [intOf]; omega
            · have had2 : ¬ d = a := fun e => had e.symm
              have s3 := Lib.hid (rd_drop_cells o5.out.rdS ham)
              have l3 := Lib.hid (show ((ys.drop a).flatMap T.cells).length = (m - a) * 5 by rw [flatMap_len T.cells_len, List.length_drop, o5.out.2])
              go_wp2_with (at_builtin; refine wpList_append_own _ rfl (.tmp 48) (.tmp 51) 23 rfl wi.heap.size 30 inf _ 5 40 Try.underlying23 hi iz0 iz1 iz2 rfl (by decide) _ _ _ rfl N2.out.1 ⟨g, a * 5, none⟩ (m - a) (d - a) ((ys.drop a).flatMap T.cells) rfl l3.out s3.out (cells_all_one _) ?t3b ?t4b ?t5b ?_)
              case t3b => unfold maxLen; omega
              case t4b => omega
              case t5b => first | omega | exact hb13.size
              intro v3 w4 hown3 hg3 hn3
              have hb14 := hb13.grown hg3 hb13.size (fun k e => (N2.out.1.lt k e).1)
              have hsum : a + 1 + (m - a) = m + 1 := by omega
              have N3 := Lib.hid (show OwnT wi w4 v3 (m + 1) (ys.take a ++ [x] ++ ys.drop a) from ⟨by rw [List.append_assoc, List.flatMap_append, List.flatMap_append, List.flatMap_singleton, ← hsum]; exact hown3, by rw [List.length_append, N2.out.2, List.length_drop, o5.out.2]; omega⟩)
              have nn3 := Lib.hid (show v3 ≠ .slice none 0 0 from fun e => by first | exact hn3 e | exact nn2.out (hn3.1 e).1)
              obtain ⟨g', d', hv3, _⟩ := own_some N3.out nn3.out
              subst hv3
              have N4 := Lib.hid (N3.out.ext hz3.size)
              have hz6 := hz3.trans (hb14.mono hz3.size)
              have hmk1 : m + 1 ≤ k + 1 := by omega
              clear hown3 hg3 hn3 N2 nn2 N3 nn3 hz5 hb13 hb14 s3 l3 hsum
              go_wp2
              go_roundw
              case rel => exact ⟨k + 1, g', m + 1, d', _, by go_num, by omega, by omega, by first | rfl | (congr 1; omega), Lib.hid (mem_ins2 HIn.out Hx.out), N4.out, hz6⟩
              case measure => simp [intOf]; omega
          · obtain ⟨b2, off2, y, hA2, hy, hb2, e0, e1, e2, e3, e4⟩ := o2.out.rdS.taskAt (i := a - 1) (by omega)
            injection hA2 with hA2
            injection hA2 with hA2 hA3
            subst hA2 hA3
            rw [Nat.zero_add] at e0 e1 e2 e3 e4
            rw [List.getD_eq_getElem?_getD, hy] at hbf
            have hbf' : befB x y = true := hbf
            have hd : decide (0 < a) = true := by simp; omega
            have hap := Lib.hid (show a = a - 1 + 1 by omega)
            have k1 : IntKind.i64.wrap ((a : Int) - 1) = ((a - 1 : Nat) : Int) := by rw [IntWalk.i64_in _ (by omega)]; omega
            have j0 : (0 : Int) ≤ ((a - 1 : Nat) : Int) := by omega
            have j1 : ((a - 1 : Nat) : Int) < (m : Int) := by omega
            have j2 : a ≤ (a - 1) + 1 := by omega
            have j3 : (a - 1) + 1 ≤ a := by omega
            generalize a - 1 = p at *
            have HC := Lib.hid (fun d os => Calls.regrown_of (d := d) (os := os) (hbf' ▸ l1Before_any x y (Go.Sort.grow (redrawn wr d) os)))
            have C0 := cell_regrown c0
            have C1 := cell_regrown c1
            have C2 := cell_regrown c2
            have C3 := cell_regrown c3
            have C4 := cell_regrown c4
            have E0 := cell_regrown e0
            have E1 := cell_regrown e1
            have E2 := cell_regrown e2
            have E3 := cell_regrown e3
            have E4 := cell_regrown e4
            have Hx := Lib.hid hx
            clear hx hy hbf hbf' e0 e1 e2 e3 e4
            go_wp2_with fail
            refine wp_region_quiet_below (by kernel_rfl) (by kernel_rfl) ?_
            repeat (go_big_quiet_step ((go_at_call 70; exact HC.out _ _)))
            refine wpQuiet_nil ?_
            intro wi hwq
            have hbq := below_of_regrown hwq
            clear hwq
            clear hd hap k1 C0 C1 C2 C3 C4 E0 E1 E2 E3 E4
            have hz3 := hz2.trans (hbq.mono hz2.size)
            have o3 := o2.out.belowS hbq
            clear c0 c1 c2 c3 c4 hbq
            go_wp2
            go_roundw
            case rel => exact ⟨p, by go_num, by omega, hz3, o3⟩
            case measure => simp [intOf]; omega
    · have hkn' : k = n := by omega
      subst hkn'
      go_wp2
      go_ret
      exact ⟨_, _, _, ys, rfl, by omega, HIn.out, ho.out, hbel⟩

set_option maxRecDepth 100000 in
set_option maxHeartbeats 3200000 in
theorem l3CaseE_any (A : Option Addr) (n c : Nat) (bs : List UInt8) (w : World) (h : RdB w A n c bs) :
    Calls Try.prog 39 #[.slice A n c] w fun e w' => ∃ (D : Option Addr) (m d : Nat) (xs : List T) (i : Int), e = .returned (.tuple #[.slice D m d, .int .i64 i]) ∧ m ≤ 6 ∧ Evs xs ∧ OwnT w w' (.slice D m d) m xs ∧ Below w.heap.size w w' := by
  have H := Lib.hid h
  clear h
  go_enter Try.func39, Try.ntmps39
  go_wp2_with fail
  refine (open_any A n c bs w H.out).mono ?_
  rintro e w1 ⟨R, n1, bs1, rfl, hR, hr, hb1⟩
  have hRlt := hr.lt
  replace hr := Lib.hid hr
  replace hb1 := Lib.hid hb1
  go_wp2_with fail
  refine (l1SomeE_any R A n1 c bs1 0 w1 hr.out (by omega)).mono ?_
  rintro e w2 ⟨D, m, d, xs, rfl, hm6, hE, ho, hD⟩
  have HE := Lib.hid hE
  clear hE
  have hs1 := hD.2.1.size
  have n2 := Lib.hid (rdI_new w2 3 #[.int .i64 1, .int .i64 0, .int .i64 2, .int .i64 3, .int .i64 (-1), .int .i64 5] w2.heap.size [1, 0, 2, 3, -1, 5] rfl rfl 6 rfl (by decide))
  replace hD := Lib.hid (hD.alloc (.cells #[.int .i64 1, .int .i64 0, .int .i64 2, .int .i64 3, .int .i64 (-1), .int .i64 5] 3))
  replace ho := Lib.hid (ho.alloc (.cells #[.int .i64 1, .int .i64 0, .int .i64 2, .int .i64 3, .int .i64 (-1), .int .i64 5] 3))
  clear hr
  go_wp2_with fail
  refine (hD.out.num (by omega) n2.out (by decide) (by decide) (by omega)).mono ?_
  rintro e w3 ⟨u, rfl, _, D3, g3⟩
  have o3 := Lib.hid (ho.out.grown hRlt g3)
  replace D3 := Lib.hid D3
  clear g3 n2 hD ho
  go_wp2_with fail
  refine (D3.out.pick (by omega) _).mono ?_
  rintro e w4 ⟨q, rfl, hq, D4, g4⟩
  have o4 := Lib.hid (o3.out.grown hRlt g4)
  replace D4 := Lib.hid D4
  have hq0 : 0 ≤ q := hq.1
  clear g4 hq o3 D3
  by_cases hqp : 0 < q
  · go_wp2_with fail
    refine (D4.out.set0E (by omega)).mono ?_
    rintro e w5 ⟨D', m', d', ys, rfl, hm5, hEy, ho5, D5⟩
    have HY := Lib.hid hEy
    clear hEy
    have hb5 := hb1.out.grown D5.2.1 hb1.out.size (fun k e => by injection e with e; omega)
    have o5 := Lib.hid ho5
    clear ho5 D5 D4 o4
    go_wp2_with fail
    refine (sortDueE_spec D' m' d' ys w5 o5.out.rdS hm5).mono ?_
    rintro e w6 ⟨D2, m2, d2, zs, rfl, hm2, hin, ho6, hb6⟩
    have HZ := Lib.hid (HY.out.sub hin)
    clear hin
    have o6 := Lib.hid (ho6.ext hb5.size)
    have hz6 := hb5.trans (hb6.mono hb5.size)
    clear ho6 hb6 hb5 o5
    go_wp2
    go_ret2
    exact ⟨D2, m2, d2, zs, u, rfl, by omega, HZ.out, o6.out, hz6⟩
  · have hb4 := hb1.out.grown D4.out.2.1 hb1.out.size (fun k e => by injection e with e; omega)
    have o5 := Lib.hid (o4.out.ext hb1.out.size)
    clear o4 D4
    go_wp2
    go_ret2
    exact ⟨D, m, d, xs, u, rfl, hm6, HE.out, o5.out, hb4⟩

set_option maxHeartbeats 1600000 in
theorem drawHoldsLowE_any (A : Option Addr) (n c : Nat) (bs : List UInt8) (w : World) (h : RdB w A n c bs) :
    Calls Try.prog 53 #[.slice A n c] w fun e w' => ∃ (D : Option Addr) (m d : Nat) (xs : List T), e = .returned (.slice D m d) ∧ m ≤ 6 ∧ Evs xs ∧ OwnT w w' (.slice D m d) m xs ∧ Below w.heap.size w w' := by
  have H := Lib.hid h
  clear h
  go_enter Try.func53, Try.ntmps53
  go_wp2_with fail
  refine (l3CaseE_any A n c bs w H.out).mono ?_
  rintro e w1 ⟨D, m, d, xs, i, rfl, hm6, hE, ho, hb1⟩
  have HE := Lib.hid hE
  clear hE
  replace ho := Lib.hid ho
  go_wp2
  go_ret
  exact ⟨D, m, d, xs, rfl, hm6, HE.out, ho.out, hb1⟩

set_option maxHeartbeats 1600000 in
theorem drawBusyLowE_any (A : Option Addr) (n c : Nat) (bs : List UInt8) (w : World) (h : RdB w A n c bs) :
    Calls Try.prog 27 #[.slice A n c] w fun e w' => ∃ (D : Option Addr) (m d : Nat) (xs : List T), e = .returned (.slice D m d) ∧ m ≤ 6 ∧ Evs xs ∧ OwnT w w' (.slice D m d) m xs ∧ Below w.heap.size w w' := by
  have H := Lib.hid h
  clear h
  go_enter Try.func27, Try.ntmps27
  go_wp2_with fail
  refine (drawHoldsLowE_any A n c bs w H.out).mono ?_
  rintro e w1 ⟨D, m, d, xs, rfl, hm6, hE, ho, hb1⟩
  have HE := Lib.hid hE
  clear hE
  replace ho := Lib.hid ho
  go_wp2
  go_ret
  exact ⟨D, m, d, xs, rfl, hm6, HE.out, ho.out, hb1⟩

end Go.Proofs.Ytbfdpegjflhboaa
