/- The contracts of the fractions: reduced, MakeShare, ShareValid, AddShares, CompareShares, plus, times, fits, l2Add, l5One, of the program and of the reference. Conditions: numerators are not negative, denominators at least 1, both small. -/
import Derived.Test.YtdafioafbgkilaaL5P
import Derived.Test.YtdafioafbgkilaaGcd
import Derived.Laws.StructEq
namespace Go.Proofs.Ytdafioafbgkilaa
open Go.RowKit
set_option linter.unusedVariables false

theorem bcell {W w1 : World} (hb : Below W.heap.size W w1) : (∀ b o, b < W.heap.size → w1.cell? ⟨b, o, none⟩ = W.cell? ⟨b, o, none⟩) ∧ (∀ b o, b < W.heap.size → w1.frozen? ⟨b, o, none⟩ = W.frozen? ⟨b, o, none⟩) :=
  ⟨fun b o h => hb.cell (p := ⟨b, o, none⟩) h, fun b o h => hb.frozen (p := ⟨b, o, none⟩) h⟩
theorem red_gcd (n d : Int) : red n d = ⟨n / gcdI n d, d / gcdI n d⟩ := rfl
theorem red_gcd' (n d : Int) : red n d = ⟨n / gcdI d n, d / gcdI d n⟩ := by rw [gcdI_comm d n]; rfl
def cmpI (x y : Int) : Int := if x < y then -1 else if y < x then 1 else 0
theorem eql_share (a b : Int) (w : World) : (binOp .eql 28 (.agg #[.int .i64 a, .int .i64 b]) (.agg #[.int .i64 a, .int .i64 b])).run Try.prog w = .ok (.bool true) w := by
  simp only [binOp]
  simp [go_sem, Op.equal, Op.maxDepth, run_equalIn_struct]
/-- the facts on a fraction that the walks want -/
theorem sm_mul {a b : Int} (ha : 0 ≤ a) (ha' : a ≤ 1000000000) (hb : 0 ≤ b) (hb' : b ≤ 1000000000) : 0 ≤ a * b ∧ a * b ≤ 1000000000000000000 := by
  refine ⟨Int.mul_nonneg ha hb, ?_⟩
  have := Int.mul_le_mul ha' hb' hb (by decide)
  exact Int.le_trans this (by decide)

theorem wrap_quo {n g : Int} (hn : 0 ≤ n) (hn' : n ≤ 4000000000000000000) (hg : 1 ≤ g) : wrap64 (n.tdiv g) = n / g := by
  have h1 : n.tdiv g = n / g := Int.tdiv_eq_ediv_of_nonneg hn
  have h2 : 0 ≤ n / g := Int.ediv_nonneg hn (by omega)
  have h3 : n / g ≤ n := Int.ediv_le_self _ hn
  rw [h1, IntWalk.wrap64_in _ ⟨by omega, by omega⟩]

set_option maxRecDepth 100000 in
set_option maxHeartbeats 1600000 in
theorem reduced_any (n d : Int) (w : World) (hn : 0 ≤ n) (hn' : n ≤ 4000000000000000000) (hd : 1 ≤ d) (hd' : d ≤ 4000000000000000000) :
    Calls Try.prog 61 #[.int .i64 n, .int .i64 d] w fun e w' => e = .returned (.agg #[.int .i64 (red n d).num, .int .i64 (red n d).den]) ∧ Below w.heap.size w w' := by
  have hg := gcdI_pos (a := n) hd
  have hC := Lib.hid (common_any n d (w.alloc (.cells #[.int .i64 0, .int .i64 0] 28)) hn (by omega))
  have hbz : Below w.heap.size w (w.alloc (.cells #[.int .i64 0, .int .i64 0] 28)) := (Below.refl _ _).alloc (Nat.le_refl _) _
  rw [red_gcd]
  generalize gcdI n d = g at *
  have hd0 : 0 ≤ d := by omega
  go_enter Try.func61, Try.ntmps61
  go_wp2_with fail
  refine hC.out.mono ?_
  rintro e w1 ⟨rfl, hb1⟩
  have hbw := hbz.trans (hb1.mono (by simp))
  obtain ⟨hc, hf⟩ := bcell hb1
  have hz : w.heap.size < w1.heap.size := by have := hb1.size; simp at this; omega
  clear hb1 hbz hC
  have k1 := wrap_quo hn hn' hg
  have k2 := wrap_quo hd0 hd' hg
  go_wp2_with fail
  go_region
  all_goals
    go_wp2
    exact bodyPost_ret (v := .agg #[.int .i64 (n / g), .int .i64 (d / g)]) (by simp [results, Try.results61, go_sem, hc]) rfl ⟨rfl, ((hbw.setCell (Nat.le_refl _) _).setCell (Nat.le_refl _) _).drew⟩


theorem share_in {s : S} (h : isShare s) : 0 ≤ s.num ∧ s.num ≤ 1000000000 ∧ 1 ≤ s.den ∧ s.den ≤ 1000000000 := ⟨h.1, h.2.1, h.2.2.1, h.2.2.2.1⟩

set_option maxRecDepth 100000 in
set_option maxHeartbeats 1600000 in
theorem makeShare_impl (n d : Int) (w : World) (hn : 0 ≤ n) (hn' : n ≤ 1000000000) (hd : 1 ≤ d) (hd' : d ≤ 1000000000) :
    Calls Try.prog 41 #[.int .i64 n, .int .i64 d] w fun e w' => e = .returned (.tuple #[.agg #[.int .i64 (red n d).num, .int .i64 (red n d).den], .bool true]) ∧ Below w.heap.size w w' := by
  have hC := Lib.hid (reduced_any n d (w.alloc (.cells #[.int .i64 0, .int .i64 0] 28)) hn (by omega) hd (by omega))
  have hbz : Below w.heap.size w (w.alloc (.cells #[.int .i64 0, .int .i64 0] 28)) := (Below.refl _ _).alloc (Nat.le_refl _) _
  generalize red n d = r at *
  go_enter Try.func41, Try.ntmps41
  go_wp2_with fail
  refine hC.out.mono ?_
  rintro e w1 ⟨rfl, hb1⟩
  have hbw := hbz.trans (hb1.mono (by simp))
  obtain ⟨hc, hf⟩ := bcell hb1
  have hz : w.heap.size < w1.heap.size := by have := hb1.size; simp at this; omega
  clear hb1 hbz hC
  go_wp2
  exact bodyPost_ret (v := .tuple #[.agg #[.int .i64 r.num, .int .i64 r.den], .bool true]) (by simp [results, Try.results41, go_sem, hc]) rfl ⟨rfl, (hbw.setCell (Nat.le_refl _) _).setCell (Nat.le_refl _) _⟩

set_option maxRecDepth 100000 in
set_option maxHeartbeats 1600000 in
theorem shareValid_impl (s : S) (w : World) (h : isShare s) :
    Calls Try.prog 30 #[.agg #[.int .i64 s.num, .int .i64 s.den]] w fun e w' => e = .returned (.bool true) ∧ Below w.heap.size w w' := by
  obtain ⟨h1, h2, h3, h4⟩ := share_in h
  have hC := Lib.hid (makeShare_impl s.num s.den (w.alloc (.cells #[.int .i64 s.num, .int .i64 s.den] 28)) h1 h2 h3 h4)
  have hbz : Below w.heap.size w (w.alloc (.cells #[.int .i64 s.num, .int .i64 s.den] 28)) := (Below.refl _ _).alloc (Nat.le_refl _) _
  rw [h.2.2.2.2] at hC
  have he := fun w => eql_share s.num s.den w
  clear h h1 h2 h3 h4
  go_enter Try.func30, Try.ntmps30
  go_wp2_with fail
  refine hC.out.mono ?_
  rintro e w1 ⟨rfl, hb1⟩
  have hbw := hbz.trans (hb1.mono (by simp))
  obtain ⟨hc, hf⟩ := bcell hb1
  have hz : w.heap.size < w1.heap.size := by have := hb1.size; simp at this; omega
  clear hb1 hbz hC
  go_wp2
  go_ret
  exact ⟨rfl, hbw.alloc (Nat.le_of_lt hz) _⟩

set_option maxRecDepth 100000 in
set_option maxHeartbeats 1600000 in
theorem plus_any (a b : S) (w : World) (ha : Sm a) (hb : Sm b) :
    Calls Try.prog 45 #[.agg #[.int .i64 a.num, .int .i64 a.den], .agg #[.int .i64 b.num, .int .i64 b.den]] w fun e w' => e = .returned (.agg #[.int .i64 (plusV a b).num, .int .i64 (plusV a b).den]) ∧ Below w.heap.size w w' := by
  obtain ⟨a1, a2, a3, a4⟩ := ha
  obtain ⟨b1, b2, b3, b4⟩ := hb
  obtain ⟨p1, p2⟩ := sm_mul (a := a.num) (b := b.den) a1 a2 (by omega) b4
  obtain ⟨q1, q2⟩ := sm_mul (a := b.num) (b := a.den) b1 b2 (by omega) a4
  obtain ⟨_, r2⟩ := sm_mul (a := a.den) (b := b.den) (by omega) a4 (by omega) b4
  have r1 := mul_ge_one a3 b3
  have hC := Lib.hid (reduced_any (a.num * b.den + b.num * a.den) (a.den * b.den) (((w.alloc (.cells #[.int .i64 a.num, .int .i64 a.den] 28)).alloc (.cells #[.int .i64 b.num, .int .i64 b.den] 28)).alloc (.cells #[.int .i64 0, .int .i64 0] 28)) (by omega) (by omega) r1 (by omega))
  have hbz : Below w.heap.size w (((w.alloc (.cells #[.int .i64 a.num, .int .i64 a.den] 28)).alloc (.cells #[.int .i64 b.num, .int .i64 b.den] 28)).alloc (.cells #[.int .i64 0, .int .i64 0] 28)) := (((Below.refl _ _).alloc (Nat.le_refl _) _).alloc (by simp) _).alloc (by simp; omega) _
  unfold plusV
  generalize red (a.num * b.den + b.num * a.den) (a.den * b.den) = r at *
  go_enter Try.func45, Try.ntmps45
  go_wp2_with fail
  refine hC.out.mono ?_
  rintro e w1 ⟨rfl, hb1⟩
  have hbw := hbz.trans (hb1.mono (by simp; omega))
  obtain ⟨hc, hf⟩ := bcell hb1
  have hz : w.heap.size + 1 + 1 < w1.heap.size := by have := hb1.size; simp at this; omega
  clear hb1 hbz hC
  go_wp2
  exact bodyPost_ret (v := .agg #[.int .i64 r.num, .int .i64 r.den]) (by simp [results, Try.results45, go_sem, hc]) rfl ⟨rfl, (hbw.setCell (by simp; omega) _).setCell (by simp; omega) _⟩

set_option maxRecDepth 100000 in
set_option maxHeartbeats 1600000 in
theorem times_any (a b : S) (w : World) (ha : Sm a) (hb : Sm b) :
    Calls Try.prog 46 #[.agg #[.int .i64 a.num, .int .i64 a.den], .agg #[.int .i64 b.num, .int .i64 b.den]] w fun e w' => e = .returned (.agg #[.int .i64 (timesV a b).num, .int .i64 (timesV a b).den]) ∧ Below w.heap.size w w' := by
  obtain ⟨a1, a2, a3, a4⟩ := ha
  obtain ⟨b1, b2, b3, b4⟩ := hb
  obtain ⟨p1, p2⟩ := sm_mul (a := a.num) (b := b.num) a1 a2 b1 b2
  obtain ⟨_, r2⟩ := sm_mul (a := a.den) (b := b.den) (by omega) a4 (by omega) b4
  have r1 := mul_ge_one a3 b3
  have hC := Lib.hid (reduced_any (a.num * b.num) (a.den * b.den) (((w.alloc (.cells #[.int .i64 a.num, .int .i64 a.den] 28)).alloc (.cells #[.int .i64 b.num, .int .i64 b.den] 28)).alloc (.cells #[.int .i64 0, .int .i64 0] 28)) (by omega) (by omega) r1 (by omega))
  have hbz : Below w.heap.size w (((w.alloc (.cells #[.int .i64 a.num, .int .i64 a.den] 28)).alloc (.cells #[.int .i64 b.num, .int .i64 b.den] 28)).alloc (.cells #[.int .i64 0, .int .i64 0] 28)) := (((Below.refl _ _).alloc (Nat.le_refl _) _).alloc (by simp) _).alloc (by simp; omega) _
  unfold timesV
  generalize red (a.num * b.num) (a.den * b.den) = r at *
  go_enter Try.func46, Try.ntmps46
  go_wp2_with fail
  refine hC.out.mono ?_
  rintro e w1 ⟨rfl, hb1⟩
  have hbw := hbz.trans (hb1.mono (by simp; omega))
  obtain ⟨hc, hf⟩ := bcell hb1
  have hz : w.heap.size + 1 + 1 < w1.heap.size := by have := hb1.size; simp at this; omega
  clear hb1 hbz hC
  go_wp2
  exact bodyPost_ret (v := .agg #[.int .i64 r.num, .int .i64 r.den]) (by simp [results, Try.results46, go_sem, hc]) rfl ⟨rfl, (hbw.setCell (by simp; omega) _).setCell (by simp; omega) _⟩

set_option maxHeartbeats 400000 in
theorem fits_any (a : S) (w : World) :
    Calls Try.prog 44 #[.agg #[.int .i64 a.num, .int .i64 a.den]] w fun e w' => e = .returned (.bool (decide (a.num ≤ a.den))) ∧ Below w.heap.size w w' := by
  go_enter Try.func44, Try.ntmps44
  go_wp2
  go_ret
  exact ⟨rfl, (Below.refl _ _).alloc (Nat.le_refl _) _⟩

set_option maxRecDepth 100000 in
set_option maxHeartbeats 3200000 in
theorem addShares_impl (a b : S) (w : World) (ha : isShare a) (hb : isShare b) (hs : Sm (plusV a b)) :
    Calls Try.prog 28 #[.agg #[.int .i64 a.num, .int .i64 a.den], .agg #[.int .i64 b.num, .int .i64 b.den]] w fun e w' => e = .returned (.tuple #[.agg #[.int .i64 (plusV a b).num, .int .i64 (plusV a b).den], .bool true]) ∧ Below w.heap.size w w' := by
  obtain ⟨a1, a2, a3, a4⟩ := share_in ha
  obtain ⟨b1, b2, b3, b4⟩ := share_in hb
  obtain ⟨p1, p2⟩ := sm_mul (a := a.num) (b := b.den) a1 a2 (by omega) b4
  obtain ⟨q1, q2⟩ := sm_mul (a := b.num) (b := a.den) b1 b2 (by omega) a4
  obtain ⟨_, r2⟩ := sm_mul (a := a.den) (b := b.den) (by omega) a4 (by omega) b4
  have r1 := mul_ge_one a3 b3
  obtain ⟨s1, s2, s3, s4⟩ := hs
  have hC := Lib.hid (fun w => reduced_any (a.num * b.den + b.num * a.den) (a.den * b.den) w (by omega) (by omega) r1 (by omega))
  have hA := Lib.hid (fun w => shareValid_impl a w ha)
  have hB := Lib.hid (fun w => shareValid_impl b w hb)
  have hbz : Below w.heap.size w (((w.alloc (.cells #[.int .i64 a.num, .int .i64 a.den] 28)).alloc (.cells #[.int .i64 b.num, .int .i64 b.den] 28)).alloc (.cells #[.int .i64 0, .int .i64 0] 28)) := (((Below.refl _ _).alloc (Nat.le_refl _) _).alloc (by simp) _).alloc (by simp; omega) _
  unfold plusV at s1 s2 s3 s4 ⊢
  generalize red (a.num * b.den + b.num * a.den) (a.den * b.den) = r at *
  clear ha hb
  go_enter Try.func28, Try.ntmps28
  go_wp2_with fail
  refine (hA.out _).mono ?_
  rintro e w1 ⟨rfl, hb1⟩
  have hbw1 := hbz.trans (hb1.mono (by simp; omega))
  obtain ⟨hc1, hf1⟩ := bcell hb1
  have hz1 : w.heap.size + 1 + 1 < w1.heap.size := by have := hb1.size; simp at this; omega
  go_wp2_with fail
  refine (hB.out _).mono ?_
  rintro e w2 ⟨rfl, hb2⟩
  have hbw2 := hbw1.trans (hb2.mono hbw1.size)
  have hb12 := hb1.trans (hb2.mono hb1.size)
  obtain ⟨hc2, hf2⟩ := bcell hb12
  have hz2 : w.heap.size + 1 + 1 < w2.heap.size := by have := hb12.size; simp at this; omega
  clear hc1 hf1 hz1 hb1 hb2 hbw1
  go_wp2_with fail
  refine (hC.out _).mono ?_
  rintro e w3 ⟨rfl, hb3⟩
  have hbw3 := hbw2.trans (hb3.mono hbw2.size)
  have hb13 := hb12.trans (hb3.mono hb12.size)
  obtain ⟨hc, hf⟩ := bcell hb13
  have hz : w.heap.size + 1 + 1 < w3.heap.size := by have := hb13.size; simp at this; omega
  clear hc2 hf2 hz2 hb12 hb13 hb3 hbw2 hbz
  go_wp2
  exact bodyPost_ret (v := .tuple #[.agg #[.int .i64 r.num, .int .i64 r.den], .bool true]) (by simp [results, Try.results28, go_sem, hc, hz]) rfl ⟨rfl, (fun X => Below.alloc X X.size _) ((hbw3.setCell (by simp; omega) _).setCell (by simp; omega) _)⟩

set_option maxHeartbeats 800000 in
theorem cmpCompare_any (x y : Int) (w : World) :
    Calls Try.prog 60 #[.int .i64 x, .int .i64 y] w fun e w' => e = .returned (.int .i64 (cmpI x y)) ∧ Below w.heap.size w w' := by
  have hx : (x != x) = false := by simp
  have hy : (y != y) = false := by simp
  go_enter Try.func60, Try.ntmps60
  go_wp2
  all_goals go_ret
  all_goals refine ⟨ret_int ?_, Below.refl _ _⟩
  all_goals unfold cmpI
  all_goals first | (simp_all; done) | (simp_all; omega) | (repeat' split) <;> omega

set_option maxRecDepth 100000 in
set_option maxHeartbeats 1600000 in
theorem compare_impl (a b : S) (w : World) (ha : isShare a) (hb : isShare b) :
    Calls Try.prog 31 #[.agg #[.int .i64 a.num, .int .i64 a.den], .agg #[.int .i64 b.num, .int .i64 b.den]] w fun e w' => e = .returned (.int .i64 (cmpI (a.num * b.den) (b.num * a.den))) ∧ Below w.heap.size w w' := by
  obtain ⟨a1, a2, a3, a4⟩ := share_in ha
  obtain ⟨b1, b2, b3, b4⟩ := share_in hb
  obtain ⟨p1, p2⟩ := sm_mul (a := a.num) (b := b.den) a1 a2 (by omega) b4
  obtain ⟨q1, q2⟩ := sm_mul (a := b.num) (b := a.den) b1 b2 (by omega) a4
  have hC := Lib.hid (fun w => cmpCompare_any (a.num * b.den) (b.num * a.den) w)
  have hA := Lib.hid (fun w => shareValid_impl a w ha)
  have hB := Lib.hid (fun w => shareValid_impl b w hb)
  have hbz : Below w.heap.size w ((w.alloc (.cells #[.int .i64 a.num, .int .i64 a.den] 28)).alloc (.cells #[.int .i64 b.num, .int .i64 b.den] 28)) := ((Below.refl _ _).alloc (Nat.le_refl _) _).alloc (by simp) _
  clear ha hb
  go_enter Try.func31, Try.ntmps31
  go_wp2_with fail
  refine (hA.out _).mono ?_
  rintro e w1 ⟨rfl, hb1⟩
  have hbw1 := hbz.trans (hb1.mono (by simp; omega))
  obtain ⟨hc1, hf1⟩ := bcell hb1
  have hz1 : w.heap.size + 1 < w1.heap.size := by have := hb1.size; simp at this; omega
  go_wp2_with fail
  refine (hB.out _).mono ?_
  rintro e w2 ⟨rfl, hb2⟩
  have hbw2 := hbw1.trans (hb2.mono hbw1.size)
  have hb12 := hb1.trans (hb2.mono hb1.size)
  obtain ⟨hc2, hf2⟩ := bcell hb12
  have hz2 : w.heap.size + 1 < w2.heap.size := by have := hb12.size; simp at this; omega
  clear hc1 hf1 hz1 hb1 hb2 hbw1 hb12 hbz
  go_wp2_with fail
  refine (hC.out _).mono ?_
  rintro e w3 ⟨rfl, hb3⟩
  have hbw3 := hbw2.trans (hb3.mono hbw2.size)
  clear hb3 hbw2
  go_wp2
  go_ret
  exact ⟨rfl, hbw3⟩


set_option maxRecDepth 100000 in
set_option maxHeartbeats 1600000 in
theorem makeShare_spec (n d : Int) (w : World) (hn : 0 ≤ n) (hn' : n ≤ 1000000000) (hd : 1 ≤ d) (hd' : d ≤ 1000000000) :
    Calls Try.prog 50 #[.int .i64 n, .int .i64 d] w fun e w' => e = .returned (.tuple #[.agg #[.int .i64 (red n d).num, .int .i64 (red n d).den], .bool true]) ∧ Below w.heap.size w w' := by
  have hg := gcdI_pos' (b := n) hd
  have hC := Lib.hid (l1Gcd_any d n (w.alloc (.cells #[.int .i64 0, .int .i64 0] 28)) (by omega) hn)
  have hbz : Below w.heap.size w (w.alloc (.cells #[.int .i64 0, .int .i64 0] 28)) := (Below.refl _ _).alloc (Nat.le_refl _) _
  rw [red_gcd']
  generalize gcdI d n = g at *
  have hd0 : 0 ≤ d := by omega
  have k1 := wrap_quo hn (by omega) hg
  have k2 := wrap_quo hd0 (by omega) hg
  go_enter Try.func50, Try.ntmps50
  go_wp2_with fail
  refine hC.out.mono ?_
  rintro e w1 ⟨rfl, hb1⟩
  have hbw := hbz.trans (hb1.mono (by simp))
  obtain ⟨hc, hf⟩ := bcell hb1
  have hz : w.heap.size < w1.heap.size := by have := hb1.size; simp at this; omega
  clear hb1 hbz hC
  go_wp2_with fail
  go_region
  all_goals
    go_wp2
    exact bodyPost_ret (v := .tuple #[.agg #[.int .i64 (n / g), .int .i64 (d / g)], .bool true]) (by simp [results, Try.results50, go_sem, hc]) rfl ⟨rfl, ((hbw.setCell (Nat.le_refl _) _).setCell (Nat.le_refl _) _).drew⟩

set_option maxRecDepth 100000 in
set_option maxHeartbeats 1600000 in
theorem shareValid_spec (s : S) (w : World) (h : isShare s) :
    Calls Try.prog 71 #[.agg #[.int .i64 s.num, .int .i64 s.den]] w fun e w' => e = .returned (.bool true) ∧ Below w.heap.size w w' := by
  obtain ⟨h1, h2, h3, h4⟩ := share_in h
  have hC := Lib.hid (makeShare_spec s.num s.den (w.alloc (.cells #[.int .i64 s.num, .int .i64 s.den] 28)) h1 h2 h3 h4)
  have hbz : Below w.heap.size w (w.alloc (.cells #[.int .i64 s.num, .int .i64 s.den] 28)) := (Below.refl _ _).alloc (Nat.le_refl _) _
  rw [h.2.2.2.2] at hC
  have he := fun w => eql_share s.num s.den w
  clear h h1 h2 h3 h4
  go_enter Try.func71, Try.ntmps71
  go_wp2_with fail
  refine hC.out.mono ?_
  rintro e w1 ⟨rfl, hb1⟩
  have hbw := hbz.trans (hb1.mono (by simp))
  obtain ⟨hc, hf⟩ := bcell hb1
  have hz : w.heap.size < w1.heap.size := by have := hb1.size; simp at this; omega
  clear hb1 hbz hC
  go_wp2
  go_ret
  exact ⟨rfl, hbw.alloc (Nat.le_of_lt hz) _⟩

set_option maxRecDepth 100000 in
set_option maxHeartbeats 1600000 in
theorem compare_spec (a b : S) (w : World) (ha : isShare a) (hb : isShare b) :
    Calls Try.prog 53 #[.agg #[.int .i64 a.num, .int .i64 a.den], .agg #[.int .i64 b.num, .int .i64 b.den]] w fun e w' => e = .returned (.int .i64 (cmpI (a.num * b.den) (b.num * a.den))) ∧ Below w.heap.size w w' := by
  obtain ⟨a1, a2, a3, a4⟩ := share_in ha
  obtain ⟨b1, b2, b3, b4⟩ := share_in hb
  obtain ⟨p1, p2⟩ := sm_mul (a := a.num) (b := b.den) a1 a2 (by omega) b4
  obtain ⟨q1, q2⟩ := sm_mul (a := b.num) (b := a.den) b1 b2 (by omega) a4
  have hA := Lib.hid (fun w => shareValid_spec a w ha)
  have hB := Lib.hid (fun w => shareValid_spec b w hb)
  have hbz : Below w.heap.size w ((w.alloc (.cells #[.int .i64 a.num, .int .i64 a.den] 28)).alloc (.cells #[.int .i64 b.num, .int .i64 b.den] 28)) := ((Below.refl _ _).alloc (Nat.le_refl _) _).alloc (by simp) _
  clear ha hb
  go_enter Try.func53, Try.ntmps53
  go_wp2_with fail
  refine (hA.out _).mono ?_
  rintro e w1 ⟨rfl, hb1⟩
  have hbw1 := hbz.trans (hb1.mono (by simp; omega))
  obtain ⟨hc1, hf1⟩ := bcell hb1
  have hz1 : w.heap.size + 1 < w1.heap.size := by have := hb1.size; simp at this; omega
  go_wp2_with fail
  refine (hB.out _).mono ?_
  rintro e w2 ⟨rfl, hb2⟩
  have hbw2 := hbw1.trans (hb2.mono hbw1.size)
  have hb12 := hb1.trans (hb2.mono hb1.size)
  obtain ⟨hc2, hf2⟩ := bcell hb12
  have hz2 : w.heap.size + 1 < w2.heap.size := by have := hb12.size; simp at this; omega
  clear hc1 hf1 hz1 hb1 hb2 hbw1 hb12 hbz
  go_wp2
  all_goals go_ret
  all_goals refine ⟨ret_int ?_, hbw2⟩
  all_goals unfold cmpI
  all_goals first | (simp_all; done) | (simp_all; omega) | (repeat' split) <;> omega

set_option maxHeartbeats 400000 in
theorem l5One_any (w : World) :
    Calls Try.prog 54 #[] w fun e w' => e = .returned (.agg #[.int .i64 1, .int .i64 1]) ∧ Below w.heap.size w w' := by
  go_enter Try.func54, Try.ntmps54
  go_wp2
  exact bodyPost_ret (v := .agg #[.int .i64 1, .int .i64 1]) (by simp [results, Try.results54, go_sem]) rfl ⟨rfl, (Below.refl _ _).alloc (Nat.le_refl _) _⟩

end Go.Proofs.Ytdafioafbgkilaa
