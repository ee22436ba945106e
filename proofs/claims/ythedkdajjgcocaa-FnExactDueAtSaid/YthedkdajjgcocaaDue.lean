/- The contracts of jobOf, l6Job and DueAt, of the program and of the reference. No condition. -/
import Derived.Test.YthedkdajjgcocaaPlaced
namespace Go.Proofs.Ythedkdajjgcocaa
open Go.RowKit
set_option linter.unusedVariables false

/-- a job is one of tasks (xs is taken as it is) -/
def joB (xs : List T) (j : J) : Bool := match xs[j.task.toNat]? with
  | some x => decide (0 ≤ j.task) && (decide (0 ≤ j.at_) && (decide (j.at_ ≤ 200) && (decide (1 ≤ j.need) && decide (j.need ≤ x.high))))
  | none => false
theorem joB_at {xs : List T} {j : J} {k : Nat} {x : T} (hk : j.task = k) (hx : xs[k]? = some x) : joB xs j = true ↔ 0 ≤ j.at_ ∧ j.at_ ≤ 200 ∧ 1 ≤ j.need ∧ j.need ≤ x.high := by
  have : j.task.toNat = k := by omega
  simp only [joB, this, hx]
  simp; omega
theorem joB_out {xs : List T} {j : J} {n : Nat} (hl : xs.length = n) (h : ¬ (0 ≤ j.task ∧ j.task < n)) : joB xs j = false := by
  by_cases h0 : 0 ≤ j.task
  · have : xs[j.task.toNat]? = none := List.getElem?_eq_none (by omega)
    simp [joB, this]
  · cases hx : xs[j.task.toNat]? <;> simp [joB, hx, h0]

/-- the tick at which a job is due -/
def dueAt (xs : List T) (j : J) : Int := match xs[j.task.toNat]? with
  | some x => j.at_ + x.due
  | none => 0

set_option maxHeartbeats 1600000 in
theorem l6Job_any (A : Option Addr) (n c : Nat) (xs : List T) (j : J) (w : World) (h : RdT w A n c xs) :
    Calls Try.prog 50 #[.slice A n c, .agg #[.int .i64 j.task, .int .i64 j.at_, .int .i64 j.need]] w fun e w' => e = .returned (.bool (joB xs j)) ∧ Below w.heap.size w w' := by
  have hm : n ≤ maxLen := Nat.le_trans h.cap h.max
  unfold maxLen at hm
  have hl := h.len
  obtain ⟨t, a, d⟩ := j
  dsimp only
  by_cases ht0 : 0 ≤ t
  · by_cases ht1 : t < n
    · obtain ⟨k, rfl⟩ := Int.eq_ofNat_of_zero_le ht0
      obtain ⟨b, off, x, rfl, hx, hb, c0, c1, c2, c3, c4⟩ := h.taskAt (i := k) (by omega)
      have HJ := Lib.hid (joB_at (j := ⟨(k : Int), a, d⟩) rfl hx)
      clear hx h hl
      have b0 : ((0 : Int) ≤ (k : Int)) := by omega
      have b1 : ((k : Int) < (n : Int)) := ht1
      by_cases ha0 : 0 ≤ a
      · by_cases ha1 : a ≤ 200
        · by_cases hd0 : 1 ≤ d
          · by_cases hd1 : d ≤ x.high
            · have HB := Lib.hid (HJ.out.2 ⟨ha0, ha1, hd0, hd1⟩)
              go_enter Try.func50, Try.ntmps50
              go_wp2
              go_quiet (fail)
              go_wp2
              go_ret
              exact ⟨ret_bool (by first | exact HB.out.symm | (rw [HB.out]; simp; omega)), ⟨rfl, rfl, rfl, by simp, (((Below.refl _ _).alloc (Nat.le_refl _) _).block)⟩⟩
            · have HB := Lib.hid (Bool.eq_false_iff.2 (fun e => hd1 (HJ.out.1 e).2.2.2))
              have g0 : decide (d ≤ x.high) = false := decide_eq_false hd1
              go_enter Try.func50, Try.ntmps50
              go_wp2
              go_quiet (fail)
              go_wp2
              go_ret
              exact ⟨ret_bool (by first | exact HB.out.symm | (rw [HB.out]; simp; omega)), ⟨rfl, rfl, rfl, by simp, (((Below.refl _ _).alloc (Nat.le_refl _) _).block)⟩⟩
          · have HB := Lib.hid (Bool.eq_false_iff.2 (fun e => hd0 (HJ.out.1 e).2.2.1))
            have g0 : decide (1 ≤ d) = false := decide_eq_false hd0
            go_enter Try.func50, Try.ntmps50
            go_wp2
            go_quiet (fail)
            go_wp2
            go_ret
            exact ⟨ret_bool (by first | exact HB.out.symm | (rw [HB.out]; simp; omega)), ⟨rfl, rfl, rfl, by simp, (((Below.refl _ _).alloc (Nat.le_refl _) _).block)⟩⟩
        · have HB := Lib.hid (Bool.eq_false_iff.2 (fun e => ha1 (HJ.out.1 e).2.1))
          have g0 : decide (a ≤ 200) = false := decide_eq_false ha1
          go_enter Try.func50, Try.ntmps50
          go_wp2
          go_quiet (fail)
          go_wp2
          go_ret
          exact ⟨ret_bool (by first | exact HB.out.symm | (rw [HB.out]; simp; omega)), ⟨rfl, rfl, rfl, by simp, (((Below.refl _ _).alloc (Nat.le_refl _) _).block)⟩⟩
      · have HB := Lib.hid (Bool.eq_false_iff.2 (fun e => ha0 (HJ.out.1 e).1))
        have g0 : decide (0 ≤ a) = false := decide_eq_false ha0
        go_enter Try.func50, Try.ntmps50
        go_wp2
        go_quiet (fail)
        go_wp2
        go_ret
        exact ⟨ret_bool (by first | exact HB.out.symm | (rw [HB.out]; simp; omega)), ⟨rfl, rfl, rfl, by simp, (((Below.refl _ _).alloc (Nat.le_refl _) _).block)⟩⟩
    · have HB := Lib.hid (joB_out (j := ⟨t, a, d⟩) hl (fun e => ht1 e.2))
      have g0 : decide (t < (n : Int)) = false := decide_eq_false ht1
      clear h hl
      go_enter Try.func50, Try.ntmps50
      go_wp2
      go_quiet (fail)
      go_wp2
      go_ret
      exact ⟨ret_bool (by first | exact HB.out.symm | (rw [HB.out]; simp; omega)), ⟨rfl, rfl, rfl, by simp, (((Below.refl _ _).alloc (Nat.le_refl _) _).block)⟩⟩
  · have HB := Lib.hid (joB_out (j := ⟨t, a, d⟩) hl (fun e => ht0 e.1))
    have g0 : decide (0 ≤ t) = false := decide_eq_false ht0
    clear h hl
    go_enter Try.func50, Try.ntmps50
    go_wp2
    go_quiet (fail)
    go_wp2
    go_ret
    exact ⟨ret_bool (by first | exact HB.out.symm | (rw [HB.out]; simp; omega)), ⟨rfl, rfl, rfl, by simp, (((Below.refl _ _).alloc (Nat.le_refl _) _).block)⟩⟩

theorem plB_of {xs : List T} {n k : Nat} (hl : xs.length = n) (hs : svB xs = true) (hk : (k : Int) < n) : plB xs k = true := (plB_iff xs k).2 ⟨hs, by omega, by rw [hl]; exact hk⟩

set_option maxHeartbeats 3200000 in
theorem jobOf_any (A : Option Addr) (n c : Nat) (xs : List T) (j : J) (w : World) (h : RdT w A n c xs) :
    Calls Try.prog 51 #[.slice A n c, .agg #[.int .i64 j.task, .int .i64 j.at_, .int .i64 j.need]] w fun e w' => e = .returned (.bool (svB xs && joB xs j)) ∧ Below w.heap.size w w' := by
  have hm : n ≤ maxLen := Nat.le_trans h.cap h.max
  unfold maxLen at hm
  have hl := h.len
  obtain ⟨t, a, d⟩ := j
  dsimp only
  have hbz : Below w.heap.size w (w.alloc (.cells #[.int .i64 t, .int .i64 a, .int .i64 d] 40)) := (Below.refl _ _).alloc (Nat.le_refl _) _
  have E0 := cell_new_regrown w #[.int .i64 t, .int .i64 a, .int .i64 d] 40 0 _ rfl
  have E1 := cell_new_regrown w #[.int .i64 t, .int .i64 a, .int .i64 d] 40 1 _ rfl
  have E2 := cell_new_regrown w #[.int .i64 t, .int .i64 a, .int .i64 d] 40 2 _ rfl
  have hP := fun dd os => Calls.regrown_of (placed_impl A n c xs t _ (((h.alloc (.cells #[.int .i64 t, .int .i64 a, .int .i64 d] 40)).regrown dd os)))
  by_cases hp : svB xs = true ∧ 0 ≤ t ∧ t < n
  · obtain ⟨hs, ht0, ht1⟩ := hp
    obtain ⟨k, rfl⟩ := Int.eq_ofNat_of_zero_le ht0
    obtain ⟨b, off, x, rfl, hx, hb, c0, c1, c2, c3, c4⟩ := h.taskAt (i := k) (by omega)
    have HJ := Lib.hid (joB_at (j := ⟨(k : Int), a, d⟩) rfl hx)
    rw [plB_of hl hs ht1] at hP
    have HP := Lib.hid hP
    have Hs := Lib.hid hs
    have K1 := cell_regrown ((World.cell?_alloc_past (w := w) (.cells #[.int .i64 (k : Int), .int .i64 a, .int .i64 d] 40) _ _ hb).trans c1)
    clear hx h hl hP hs
    have b0 : ((0 : Int) ≤ (k : Int)) := by omega
    have b1 : ((k : Int) < (n : Int)) := ht1
    by_cases ha0 : 0 ≤ a
    · by_cases ha1 : a ≤ 200
      · by_cases hd0 : 1 ≤ d
        · by_cases hd1 : d ≤ x.high
          · have HB := Lib.hid (HJ.out.2 ⟨ha0, ha1, hd0, hd1⟩)
            go_enter Try.func51, Try.ntmps51
            go_wp2_with fail
            refine wp_region_quiet_below (by kernel_rfl) (by kernel_rfl) ?_
            repeat (go_big_quiet_step ((go_at_call 62; exact HP.out _ _)))
            refine wpQuiet_nil ?_
            intro w1 hwq
            have hbq := below_of_regrown hwq
            clear hwq
            go_wp2
            go_ret
            exact ⟨ret_bool (by rw [Hs.out, Bool.true_and]; first | exact HB.out.symm | (rw [HB.out]; simp; omega)), hbz.trans (hbq.mono (by simp))⟩
          · have HB := Lib.hid (Bool.eq_false_iff.2 (fun e => hd1 (HJ.out.1 e).2.2.2))
            have g0 : decide (d ≤ x.high) = false := decide_eq_false hd1
            go_enter Try.func51, Try.ntmps51
            go_wp2_with fail
            refine wp_region_quiet_below (by kernel_rfl) (by kernel_rfl) ?_
            repeat (go_big_quiet_step ((go_at_call 62; exact HP.out _ _)))
            refine wpQuiet_nil ?_
            intro w1 hwq
            have hbq := below_of_regrown hwq
            clear hwq
            go_wp2
            go_ret
            exact ⟨ret_bool (by rw [Hs.out, Bool.true_and]; first | exact HB.out.symm | (rw [HB.out]; simp; omega)), hbz.trans (hbq.mono (by simp))⟩
        · have HB := Lib.hid (Bool.eq_false_iff.2 (fun e => hd0 (HJ.out.1 e).2.2.1))
          have g0 : decide (1 ≤ d) = false := decide_eq_false hd0
          go_enter Try.func51, Try.ntmps51
          go_wp2_with fail
          refine wp_region_quiet_below (by kernel_rfl) (by kernel_rfl) ?_
          repeat (go_big_quiet_step ((go_at_call 62; exact HP.out _ _)))
          refine wpQuiet_nil ?_
          intro w1 hwq
          have hbq := below_of_regrown hwq
          clear hwq
          go_wp2
          go_ret
          exact ⟨ret_bool (by rw [Hs.out, Bool.true_and]; first | exact HB.out.symm | (rw [HB.out]; simp; omega)), hbz.trans (hbq.mono (by simp))⟩
      · have HB := Lib.hid (Bool.eq_false_iff.2 (fun e => ha1 (HJ.out.1 e).2.1))
        have g0 : decide (a ≤ 200) = false := decide_eq_false ha1
        go_enter Try.func51, Try.ntmps51
        go_wp2_with fail
        refine wp_region_quiet_below (by kernel_rfl) (by kernel_rfl) ?_
        repeat (go_big_quiet_step ((go_at_call 62; exact HP.out _ _)))
        refine wpQuiet_nil ?_
        intro w1 hwq
        have hbq := below_of_regrown hwq
        clear hwq
        go_wp2
        go_ret
        exact ⟨ret_bool (by rw [Hs.out, Bool.true_and]; first | exact HB.out.symm | (rw [HB.out]; simp; omega)), hbz.trans (hbq.mono (by simp))⟩
    · have HB := Lib.hid (Bool.eq_false_iff.2 (fun e => ha0 (HJ.out.1 e).1))
      have g0 : decide (0 ≤ a) = false := decide_eq_false ha0
      go_enter Try.func51, Try.ntmps51
      go_wp2_with fail
      refine wp_region_quiet_below (by kernel_rfl) (by kernel_rfl) ?_
      repeat (go_big_quiet_step ((go_at_call 62; exact HP.out _ _)))
      refine wpQuiet_nil ?_
      intro w1 hwq
      have hbq := below_of_regrown hwq
      clear hwq
      go_wp2
      go_ret
      exact ⟨ret_bool (by rw [Hs.out, Bool.true_and]; first | exact HB.out.symm | (rw [HB.out]; simp; omega)), hbz.trans (hbq.mono (by simp))⟩
  · rw [plB_no xs t (by rw [hl]; exact hp)] at hP
    have HP := Lib.hid hP
    have HB : Hid ((svB xs && joB xs ⟨t, a, d⟩) = false) := by
      cases hs : svB xs
      · rfl
      · rw [hs] at hp
        exact joB_out (j := ⟨t, a, d⟩) hl (fun e => hp ⟨rfl, e⟩)
    clear h hl hP hp
    go_enter Try.func51, Try.ntmps51
    go_wp2_with fail
    refine wp_region_quiet_below (by kernel_rfl) (by kernel_rfl) ?_
    repeat (go_big_quiet_step ((go_at_call 62; exact HP.out _ _)))
    refine wpQuiet_nil ?_
    intro w1 hwq
    have hbq := below_of_regrown hwq
    clear hwq
    go_wp2
    go_ret
    exact ⟨ret_bool HB.out.symm, hbz.trans (hbq.mono (by simp))⟩

/-- what DueAt hands back -/
def duB (xs : List T) (j : J) : Bool := svB xs && joB xs j
def duV (xs : List T) (j : J) : Int := if duB xs j = true then dueAt xs j else 0

theorem duV_no {xs : List T} {j : J} (h : duB xs j = false) : duV xs j = 0 := by simp [duV, h]
theorem duV_yes {xs : List T} {j : J} {k : Nat} {x : T} (h : duB xs j = true) (hk : j.task = k) (hx : xs[k]? = some x) : duV xs j = j.at_ + x.due := by
  have : j.task.toNat = k := by omega
  simp [duV, h, dueAt, this, hx]
theorem duB_at {xs : List T} {j : J} {n : Nat} (hl : xs.length = n) (h : duB xs j = true) : ∃ (k : Nat) (x : T), j.task = k ∧ k < n ∧ xs[k]? = some x ∧ 0 ≤ j.at_ ∧ j.at_ ≤ 200 ∧ 1 ≤ x.due ∧ x.due ≤ 20 := by
  have h2 : svB xs = true ∧ joB xs j = true := by simpa [duB] using h
  have hin : 0 ≤ j.task ∧ j.task < n := by
    rcases Classical.em (0 ≤ j.task ∧ j.task < n) with hh | hh
    · exact hh
    · rw [joB_out hl hh] at h2; exact absurd h2.2 (by simp)
  obtain ⟨k, hk⟩ := Int.eq_ofNat_of_zero_le hin.1
  have hkn : k < n := by omega
  have hx : xs[k]? = some (xs[k]'(by omega)) := List.getElem?_eq_getElem (by omega)
  have hj := (joB_at hk hx).1 h2.2
  have hv : tvB (xs[k]'(by omega)) = true := by
    have h3 := h2.1
    simp only [svB, Bool.and_eq_true, List.all_eq_true] at h3
    exact h3.2 _ (List.mem_of_getElem? hx)
  have hv' := (tvB_iff _).1 hv
  exact ⟨k, _, hk, hkn, hx, hj.1, hj.2.1, by omega, by omega⟩

set_option maxHeartbeats 1600000 in
theorem dueAt_impl (A : Option Addr) (n c : Nat) (xs : List T) (j : J) (w : World) (h : RdT w A n c xs) :
    Calls Try.prog 25 #[.slice A n c, .agg #[.int .i64 j.task, .int .i64 j.at_, .int .i64 j.need]] w fun e w' => e = .returned (.tuple #[.int .i64 (duV xs j), .bool (duB xs j)]) ∧ Below w.heap.size w w' := by
  have hm : n ≤ maxLen := Nat.le_trans h.cap h.max
  unfold maxLen at hm
  have HJ := Lib.hid (jobOf_any A n c xs j (w.alloc (.cells #[.int .i64 j.task, .int .i64 j.at_, .int .i64 j.need] 40)) (h.alloc _))
  have hbz : Below w.heap.size w (w.alloc (.cells #[.int .i64 j.task, .int .i64 j.at_, .int .i64 j.need] 40)) := (Below.refl _ _).alloc (Nat.le_refl _) _
  cases hd : duB xs j
  · have HV := Lib.hid (duV_no hd)
    have Hd : Hid ((svB xs && joB xs j) = false) := hd
    clear h hd
    go_enter Try.func25, Try.ntmps25
    go_wp2_with fail
    refine HJ.out.mono ?_
    rw [Hd.out]
    rintro e w1 ⟨rfl, hb1⟩
    have hbw := hbz.trans (hb1.mono (by simp))
    clear hb1
    go_wp2
    go_ret2
    exact ⟨ret_int_bool HV.out.symm rfl, hbw⟩
  · obtain ⟨k, x, hk, hkn, hx, ha0, ha1, hx0, hx1⟩ := duB_at h.len hd
    have HV := Lib.hid (duV_yes hd hk hx)
    have Hd : Hid ((svB xs && joB xs j) = true) := hd
    obtain ⟨b, off, x', rfl, hx', hb, c0, c1, c2, c3, c4⟩ := h.taskAt (i := k) hkn
    rw [hx] at hx'
    injection hx' with hx'
    subst hx'
    obtain ⟨t, a, d⟩ := j
    dsimp only at hk ha0 ha1 HV HJ hbz
    subst hk
    have b0 : (0 : Int) ≤ (k : Int) := by omega
    have b1 : (k : Int) < (n : Int) := by omega
    clear h hd hx
    go_enter Try.func25, Try.ntmps25
    go_wp2_with fail
    refine HJ.out.mono ?_
    rw [Hd.out]
    rintro e w1 ⟨rfl, hb1⟩
    have hbw := hbz.trans (hb1.mono (by simp))
    have e0 := (hb1.cell (p := ⟨w.heap.size, 0, none⟩) (by simp)).trans (World.cell?_alloc_at _ _ _ _ rfl)
    have e1 := (hb1.cell (p := ⟨w.heap.size, 1, none⟩) (by simp)).trans (World.cell?_alloc_at _ _ _ _ rfl)
    have k2 := (hbw.cell (p := ⟨b, off + k * 5 + 2, none⟩) hb).trans c2
    have e0' : w1.cell? ⟨w.heap.size, 0, none⟩ = some (.int .i64 (k : Int)) := e0
    have e1' : w1.cell? ⟨w.heap.size, 1, none⟩ = some (.int .i64 a) := e1
    clear hb1 e0 e1
    go_wp2_with fail
    go_quiet (fail)
    go_wp2
    go_ret2
    exact ⟨ret_int_bool HV.out.symm rfl, ⟨hbw.os, hbw.tape, hbw.output, hbw.size, hbw.block⟩⟩

set_option maxHeartbeats 1600000 in
theorem dueAt_spec (A : Option Addr) (n c : Nat) (xs : List T) (j : J) (w : World) (h : RdT w A n c xs) :
    Calls Try.prog 23 #[.slice A n c, .agg #[.int .i64 j.task, .int .i64 j.at_, .int .i64 j.need]] w fun e w' => e = .returned (.tuple #[.int .i64 (duV xs j), .bool (duB xs j)]) ∧ Below w.heap.size w w' := by
  have hm : n ≤ maxLen := Nat.le_trans h.cap h.max
  unfold maxLen at hm
  have HS := Lib.hid (setValid_spec A n c xs (w.alloc (.cells #[.int .i64 j.task, .int .i64 j.at_, .int .i64 j.need] 40)) (h.alloc _))
  have hbz : Below w.heap.size w (w.alloc (.cells #[.int .i64 j.task, .int .i64 j.at_, .int .i64 j.need] 40)) := (Below.refl _ _).alloc (Nat.le_refl _) _
  cases hd : duB xs j
  · have HV := Lib.hid (duV_no hd)
    cases hs : svB xs
    · have Hs := Lib.hid hs
      clear h hd hs
      go_enter Try.func23, Try.ntmps23
      go_wp2_with fail
      refine HS.out.mono ?_
      rw [Hs.out]
      rintro e w1 ⟨rfl, hb1⟩
      have hbw := hbz.trans (hb1.mono (by simp))
      clear hb1
      go_wp2
      go_ret2
      exact ⟨ret_int_bool HV.out.symm rfl, hbw⟩
    · have Hs := Lib.hid hs
      have Hj := Lib.hid (show joB xs j = false by unfold duB at hd; rw [hs] at hd; simpa using hd)
      have Hr := Lib.hid h
      clear h hd hs
      go_enter Try.func23, Try.ntmps23
      go_wp2_with fail
      refine HS.out.mono ?_
      rw [Hs.out]
      rintro e w1 ⟨rfl, hb1⟩
      have hbw := hbz.trans (hb1.mono (by simp))
      have e0 : w1.cell? ⟨w.heap.size, 0, none⟩ = some (.int .i64 j.task) := (hb1.cell (p := ⟨w.heap.size, 0, none⟩) (by simp)).trans (World.cell?_alloc_at _ _ _ _ rfl)
      have e1 : w1.cell? ⟨w.heap.size, 1, none⟩ = some (.int .i64 j.at_) := (hb1.cell (p := ⟨w.heap.size, 1, none⟩) (by simp)).trans (World.cell?_alloc_at _ _ _ _ rfl)
      have e2 : w1.cell? ⟨w.heap.size, 2, none⟩ = some (.int .i64 j.need) := (hb1.cell (p := ⟨w.heap.size, 2, none⟩) (by simp)).trans (World.cell?_alloc_at _ _ _ _ rfl)
      clear hb1
      go_wp2_with fail
      refine (l6Job_any A n c xs j w1 (Hr.out.below hbw)).mono ?_
      rw [Hj.out]
      rintro e w2 ⟨rfl, hb2⟩
      have hbw2 := hbw.trans (hb2.mono hbw.size)
      clear hb2 e0 e1 e2
      go_wp2
      go_ret2
      exact ⟨ret_int_bool HV.out.symm rfl, hbw2⟩
  · obtain ⟨k, x, hk, hkn, hx, ha0, ha1, hx0, hx1⟩ := duB_at h.len hd
    have HV := Lib.hid (duV_yes hd hk hx)
    have Hd := Lib.hid (show svB xs = true ∧ joB xs j = true by simpa [duB] using hd)
    have Hr := Lib.hid h
    obtain ⟨b, off, x', rfl, hx', hb, c0, c1, c2, c3, c4⟩ := h.taskAt (i := k) hkn
    rw [hx] at hx'
    injection hx' with hx'
    subst hx'
    obtain ⟨t, a, d⟩ := j
    dsimp only at hk ha0 ha1 HV HS hbz
    subst hk
    have b0 : (0 : Int) ≤ (k : Int) := by omega
    have b1 : (k : Int) < (n : Int) := by omega
    clear h hd hx
    go_enter Try.func23, Try.ntmps23
    go_wp2_with fail
    refine HS.out.mono ?_
    rw [Hd.out.1]
    rintro e w1 ⟨rfl, hb1⟩
    have hbw := hbz.trans (hb1.mono (by simp))
    have e0 : w1.cell? ⟨w.heap.size, 0, none⟩ = some (.int .i64 (k : Int)) := (hb1.cell (p := ⟨w.heap.size, 0, none⟩) (by simp)).trans (World.cell?_alloc_at _ _ _ _ rfl)
    have e1 : w1.cell? ⟨w.heap.size, 1, none⟩ = some (.int .i64 a) := (hb1.cell (p := ⟨w.heap.size, 1, none⟩) (by simp)).trans (World.cell?_alloc_at _ _ _ _ rfl)
    have e2 : w1.cell? ⟨w.heap.size, 2, none⟩ = some (.int .i64 d) := (hb1.cell (p := ⟨w.heap.size, 2, none⟩) (by simp)).trans (World.cell?_alloc_at _ _ _ _ rfl)
    have hsz : w.heap.size < w1.heap.size := Nat.lt_of_lt_of_le (by simp) hb1.size
    clear hb1
    go_wp2_with fail
    refine (l6Job_any _ n c xs ⟨(k : Int), a, d⟩ w1 (Hr.out.below hbw)).mono ?_
    rw [Hd.out.2]
    rintro e w2 ⟨rfl, hb2⟩
    have hbw2 := hbw.trans (hb2.mono hbw.size)
    have k2 := (hbw2.cell (p := ⟨b, off + k * 5 + 2, none⟩) hb).trans c2
    have e0' := (hb2.cell (p := ⟨w.heap.size, 0, none⟩) hsz).trans e0
    have e1' := (hb2.cell (p := ⟨w.heap.size, 1, none⟩) hsz).trans e1
    clear hb2 e0 e1 e2
    go_wp2_with fail
    go_quiet (fail)
    go_wp2
    go_ret2
    exact ⟨ret_int_bool HV.out.symm rfl, ⟨hbw2.os, hbw2.tape, hbw2.output, hbw2.size, hbw2.block⟩⟩

end Go.Proofs.Ythedkdajjgcocaa
