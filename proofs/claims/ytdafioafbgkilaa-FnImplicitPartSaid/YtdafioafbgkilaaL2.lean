/- The contract of l2Add, of the reference. Conditions: both fractions are in small numbers, their sum too. -/
import Derived.Test.YtdafioafbgkilaaShare
namespace Go.Proofs.Ytdafioafbgkilaa
open Go.RowKit
set_option linter.unusedVariables false

theorem l2_parts {a b : S} (ha : Sm a) (hb : Sm b) : ∃ g u v : Int, gcdI a.den b.den = g ∧ 1 ≤ g ∧ a.den / g = u ∧ b.den / g = v ∧ 1 ≤ u ∧ u ≤ 1000000000 ∧ 1 ≤ v ∧ v ≤ 1000000000 ∧
    red (a.num * v + b.num * u) (u * b.den) = plusV a b := by
  obtain ⟨a1, a2, a3, a4⟩ := ha
  obtain ⟨b1, b2, b3, b4⟩ := hb
  have hg := gcdI_pos' (b := b.den) a3
  obtain ⟨u, hu⟩ : gcdI a.den b.den ∣ a.den := Int.gcd_dvd_left ..
  obtain ⟨v, hv⟩ : gcdI a.den b.den ∣ b.den := Int.gcd_dvd_right ..
  generalize gcdI a.den b.den = g at *
  have eu : a.den / g = u := by rw [hu]; exact Int.mul_ediv_cancel_left _ (by omega)
  have ev : b.den / g = v := by rw [hv]; exact Int.mul_ediv_cancel_left _ (by omega)
  have u1 : 1 ≤ u := by
    rcases Int.lt_or_le u 1 with h | h
    · have : g * u ≤ 0 := Int.mul_nonpos_of_nonneg_of_nonpos (by omega) (by omega)
      omega
    · exact h
  have v1 : 1 ≤ v := by
    rcases Int.lt_or_le v 1 with h | h
    · have : g * v ≤ 0 := Int.mul_nonpos_of_nonneg_of_nonpos (by omega) (by omega)
      omega
    · exact h
  have u2 : u ≤ a.den := by rw [← eu]; exact Int.ediv_le_self _ (by omega)
  have v2 : v ≤ b.den := by rw [← ev]; exact Int.ediv_le_self _ (by omega)
  refine ⟨g, u, v, rfl, hg, eu, ev, u1, by omega, v1, by omega, ?_⟩
  unfold plusV
  refine red_cross ?_ (mul_ge_one u1 b3) ?_ (mul_ge_one a3 b3) ?_
  · exact Int.add_nonneg (Int.mul_nonneg a1 (by omega)) (Int.mul_nonneg b1 (by omega))
  · exact Int.add_nonneg (Int.mul_nonneg a1 (by omega)) (Int.mul_nonneg b1 (by omega))
  · rw [hu, hv]; grind

theorem wrap_i64_eq (x : Int) : IntKind.i64.wrap x = wrap64 x := by unfold wrap64; rw [IntKind.wrap_i64]

set_option maxRecDepth 100000 in
set_option maxHeartbeats 6400000 in
theorem l2Add_any (a b : S) (w : World) (ha : Sm a) (hb : Sm b) (hs : Sm (plusV a b)) :
    Calls Try.prog 51 #[.agg #[.int .i64 a.num, .int .i64 a.den], .agg #[.int .i64 b.num, .int .i64 b.den]] w fun e w' => e = .returned (.tuple #[.agg #[.int .i64 (plusV a b).num, .int .i64 (plusV a b).den], .bool true]) ∧ Below w.heap.size w w' := by
  obtain ⟨g, u, v, eg, hg, eu, ev, u1, u2, v1, v2, er⟩ := l2_parts ha hb
  obtain ⟨a1, a2, a3, a4⟩ := ha
  obtain ⟨b1, b2, b3, b4⟩ := hb
  obtain ⟨p1, p2⟩ := sm_mul (a := a.num) (b := v) a1 a2 (by omega) v2
  obtain ⟨q1, q2⟩ := sm_mul (a := b.num) (b := u) b1 b2 (by omega) u2
  obtain ⟨_, r2⟩ := sm_mul (a := u) (b := b.den) (by omega) u2 (by omega) b4
  have r1 := mul_ge_one u1 b3
  have hN0 : 0 ≤ a.num * v + b.num * u := by omega
  have hC1 := Lib.hid (l1Gcd_any a.den b.den (((w.alloc (.cells #[.int .i64 a.num, .int .i64 a.den] 28)).alloc (.cells #[.int .i64 b.num, .int .i64 b.den] 28)).alloc (.cells #[.int .i64 0, .int .i64 0] 28)) (by omega) (by omega))
  rw [eg] at hC1
  have hC2 := Lib.hid (fun w => l1Gcd_any (u * b.den) (a.num * v + b.num * u) w (by omega) hN0)
  have hh := gcdI_pos' (b := a.num * v + b.num * u) r1
  have e1 : red (a.num * v + b.num * u) (u * b.den) = ⟨(a.num * v + b.num * u) / gcdI (u * b.den) (a.num * v + b.num * u), (u * b.den) / gcdI (u * b.den) (a.num * v + b.num * u)⟩ := red_gcd' _ _
  have hi := red_idem hN0 r1
  rw [er] at e1 hi
  obtain ⟨s1, s2, s3, s4⟩ := hs
  have hM := Lib.hid (fun w => makeShare_spec (plusV a b).num (plusV a b).den w s1 s2 s3 s4)
  rw [hi] at hM
  have hbz : Below w.heap.size w (((w.alloc (.cells #[.int .i64 a.num, .int .i64 a.den] 28)).alloc (.cells #[.int .i64 b.num, .int .i64 b.den] 28)).alloc (.cells #[.int .i64 0, .int .i64 0] 28)) := (((Below.refl _ _).alloc (Nat.le_refl _) _).alloc (by simp) _).alloc (by simp; omega) _
  have k2 : wrap64 (u * b.den) = u * b.den := IntWalk.wrap64_in _ ⟨by omega, by omega⟩
  have k4 : wrap64 (a.num * v) = a.num * v := IntWalk.wrap64_in _ ⟨by omega, by omega⟩
  have k5 : wrap64 (b.num * u) = b.num * u := IntWalk.wrap64_in _ ⟨by omega, by omega⟩
  have k6 : wrap64 (a.num * v + b.num * u) = a.num * v + b.num * u := IntWalk.wrap64_in _ ⟨by omega, by omega⟩
  generalize hNN : a.num * v + b.num * u = NN at *
  generalize hDD : u * b.den = DD at *
  generalize gcdI DD NN = h at *
  have k7 : wrap64 (NN.tdiv h) = (plusV a b).num := by rw [wrap_quo hN0 (by omega) hh, e1]
  have k8 : wrap64 (DD.tdiv h) = (plusV a b).den := by rw [wrap_quo (by omega) (by omega) hh, e1]
  generalize plusV a b = r at *
  have hDD0 : 0 ≤ DD := by omega
  have K7 := Lib.hid k7
  have K8 := Lib.hid k8
  clear e1 hi er k7 k8 eg
  go_enter Try.func51, Try.ntmps51
  go_wp2_with fail
  refine hC1.out.mono ?_
  rintro e w1 ⟨rfl, hb1⟩
  have hbw1 := hbz.trans (hb1.mono (by simp; omega))
  obtain ⟨hc1, hf1⟩ := bcell hb1
  have hz1 : w.heap.size + 1 + 1 < w1.heap.size := by have := hb1.size; simp at this; omega
  go_wp2_with fail
  go_quiet (fail)
  go_wp2_with fail
  go_quiet (fail)
  go_wp2_with fail
  refine (hC2.out _).mono ?_
  rintro e w2 ⟨rfl, hb2⟩
  have hb2' : Below w1.heap.size w1 w2 := ⟨hb2.os, hb2.tape, hb2.output, hb2.size, hb2.block⟩
  have hb12 := hb1.trans (hb2'.mono hb1.size)
  have hbw2 := hbw1.trans (hb2'.mono hbw1.size)
  obtain ⟨hc, hf⟩ := bcell hb12
  have hz : w.heap.size + 1 + 1 < w2.heap.size := by have := hb12.size; simp at this; omega
  clear hb1 hb2 hb2' hc1 hf1 hz1 hbw1 hbz hb12 k2 k4 k5 k6 eu ev hNN hDD hC1 hC2
  have m7 : IntKind.i64.wrap (NN.tdiv h) = r.num := (wrap_i64_eq _).trans K7.out
  have m8 : IntKind.i64.wrap (DD.tdiv h) = r.den := (wrap_i64_eq _).trans K8.out
  have k7 := K7.out
  have k8 := K8.out
  have hh0 : ¬ h = 0 := by omega
  have c0 : w2.cell? ⟨w.heap.size + 1 + 1, 0, none⟩ = some (.int .i64 0) := by rw [hc _ _ (by simp)]; exact World.cell?_alloc_at _ _ _ _ (by simp)
  have c1 : w2.cell? ⟨w.heap.size + 1 + 1, 1, none⟩ = some (.int .i64 0) := by rw [hc _ _ (by simp)]; exact World.cell?_alloc_at _ _ _ _ (by simp)
  have f0 : w2.frozen? ⟨w.heap.size + 1 + 1, 0, none⟩ = false := by rw [hf _ _ (by simp)]; exact World.frozen?_alloc_at _ _ _ _ (by simp)
  have f1 : w2.frozen? ⟨w.heap.size + 1 + 1, 1, none⟩ = false := by rw [hf _ _ (by simp)]; exact World.frozen?_alloc_at _ _ _ _ (by simp)
  clear hc hf
  go_wp2_with fail
  go_region_held3 (fun w' => True) (trivial) (first | (go_at_call 50; (try simp only [K7.out, K8.out, m7, m8]); refine (hM.out _).mono ?_; rintro e w3 ⟨rfl, hb3⟩; have d0 := (hb3.cell (p := ⟨w.heap.size + 1 + 1, 0, none⟩) hz).trans c0; have d1 := (hb3.cell (p := ⟨w.heap.size + 1 + 1, 1, none⟩) hz).trans c1; have g0 := (hb3.frozen (p := ⟨w.heap.size + 1 + 1, 0, none⟩) hz).trans f0; have g1 := (hb3.frozen (p := ⟨w.heap.size + 1 + 1, 1, none⟩) hz).trans f1))
  all_goals
    go_wp2
    have hbw3 : Below w.heap.size w w3 := hbw2.trans (Below.mono ⟨hb3.os, hb3.tape, hb3.output, hb3.size, hb3.block⟩ hbw2.size)
    exact bodyPost_ret (v := .tuple #[.agg #[.int .i64 r.num, .int .i64 r.den], .bool true]) (by simp [results, Try.results51, go_sem, d0, d1]) rfl ⟨rfl, (hbw3.setCell (by simp; omega) _).setCell (by simp; omega) _⟩

end Go.Proofs.Ytdafioafbgkilaa
