/- The contracts of SetValid, of the program and of the reference. No condition. -/
import Derived.Test.YtbfdpegjflhboaaTask
namespace Go.Proofs.Ytbfdpegjflhboaa
open Go.RowKit
set_option linter.unusedVariables false

theorem all_take_succ {xs : List T} {k : Nat} {x : T} (h : xs[k]? = some x) : (xs.take (k + 1)).all tvB = ((xs.take k).all tvB && tvB x) := by
  rw [take_succ_of h]; simp
theorem svB_yes {xs : List T} {n : Nat} (hl : xs.length = n) (hn : n ≤ 5) (h : (xs.take n).all tvB = true) : svB xs = true := by
  rw [List.take_of_length_le (by omega)] at h
  simp only [svB, h, Bool.and_true, decide_eq_true_eq]; omega
theorem svB_no {xs : List T} {k : Nat} {x : T} (h : xs[k]? = some x) (hx : tvB x = false) : svB xs = false := by
  rw [Bool.eq_false_iff]
  intro hs
  simp only [svB, Bool.and_eq_true, decide_eq_true_eq, List.all_eq_true] at hs
  have := hs.2 x (List.mem_of_getElem? h)
  rw [hx] at this; cases this
theorem svB_long {xs : List T} {n : Nat} (hl : xs.length = n) (hn : 5 < n) : svB xs = false := by
  have : ¬ xs.length ≤ 5 := by omega
  simp [svB, this]

set_option maxHeartbeats 800000 in
theorem setValid_impl (A : Option Addr) (n c : Nat) (xs : List T) (w : World) (h : RdT w A n c xs) :
    Calls Try.prog 18 #[.slice A n c] w fun e w' => e = .returned (.bool (svB xs)) ∧ Below w.heap.size w w' := by
  by_cases hn : n ≤ 5
  · go_enter Try.func18, Try.ntmps18
    go_wp2
    go_loopw [10] (fun i wr => ∃ k : Nat, k ≤ n ∧ i = .int .i64 k ∧ (xs.take k).all tvB = true ∧ Below w.heap.size w wr) (fun i _ => n - (intOf i).toNat)
    case atStart => exact ⟨0, Nat.zero_le _, rfl, by simp, Below.refl _ _⟩
    case round =>
      obtain ⟨k, hk, rfl, hall, hbel⟩ := hrel
      have hr := h.below hbel
      by_cases hlt : k < n
      · obtain ⟨b, off, x, rfl, hx, hb, c0, c1, c2, c3, c4⟩ := hr.taskAt hlt
        have Hx := Lib.hid hx
        have Hall := Lib.hid hall
        clear hx hall hr h
        go_wp2_with fail
        refine (taskValid_impl x _).mono ?_
        rintro e w1 ⟨rfl, hb1⟩
        have hbw : Below w.heap.size w w1 := (hbel.alloc hbel.size _).trans (hb1.mono (by have := hbel.size; simp; omega))
        clear hb1
        cases hv : tvB x
        · go_wp2
          go_ret
          exact ⟨ret_bool (svB_no Hx.out hv).symm, hbw⟩
        · go_wp2
          go_roundw
          case rel => exact ⟨k + 1, by omega, by go_num, by rw [all_take_succ Hx.out, Hall.out, hv]; rfl, hbw⟩
          case measure => simp [intOf]; omega
      · have hkn : k = n := by omega
        subst hkn
        have Hall := Lib.hid hall
        clear hall hr
        go_wp2
        go_ret
        exact ⟨ret_bool (svB_yes h.len hn Hall.out).symm, hbel⟩
  · have hn' : 5 < n := by omega
    go_enter Try.func18, Try.ntmps18
    go_wp2
    go_ret
    exact ⟨ret_bool (svB_long h.len hn').symm, Below.refl _ _⟩

theorem svB_end {xs : List T} {n k : Nat} (hl : xs.length = n) (h : (xs.take k).all tvB = true) (hk : k = n ∨ 5 < k) (hkn : k ≤ n) : svB xs = decide ((n : Int) ≤ 5) := by
  by_cases h5 : n ≤ 5
  · have : k = n := by omega
    subst this
    rw [svB_yes hl h5 h]
    symm; rw [decide_eq_true_eq]; omega
  · rw [svB_long hl (by omega)]
    symm; rw [decide_eq_false_iff_not]; omega

set_option maxHeartbeats 800000 in
theorem setValid_spec (A : Option Addr) (n c : Nat) (xs : List T) (w : World) (h : RdT w A n c xs) :
    Calls Try.prog 48 #[.slice A n c] w fun e w' => e = .returned (.bool (svB xs)) ∧ Below w.heap.size w w' := by
  have hm : n ≤ maxLen := Nat.le_trans h.cap h.max
  unfold maxLen at hm
  go_enter Try.func48, Try.ntmps48
  go_wp2
  go_loopw [3] (fun i wr => ∃ k : Nat, k ≤ n ∧ k ≤ 6 ∧ i = .int .i64 k ∧ (xs.take k).all tvB = true ∧ Below w.heap.size w wr) (fun i _ => n - (intOf i).toNat)
  case atStart => exact ⟨0, Nat.zero_le _, by omega, rfl, by simp, Below.refl _ _⟩
  case round =>
    obtain ⟨k, hk, hk6, rfl, hall, hbel⟩ := hrel
    have hr := h.below hbel
    have Hall := Lib.hid hall
    clear hall
    by_cases hlt : k < n
    · by_cases hlt5 : k ≤ 5
      · obtain ⟨b, off, x, rfl, hx, hb, c0, c1, c2, c3, c4⟩ := hr.taskAt hlt
        have Hx := Lib.hid hx
        clear hx hr h
        go_wp2_with fail
        refine (taskValid_spec x _).mono ?_
        rintro e w1 ⟨rfl, hb1⟩
        have hbw : Below w.heap.size w w1 := hbel.trans (hb1.mono hbel.size)
        clear hb1
        cases hv : tvB x
        · go_wp2
          go_ret
          exact ⟨ret_bool (svB_no Hx.out hv).symm, hbw⟩
        · go_wp2
          go_roundw
          case rel => exact ⟨k + 1, by omega, by omega, by go_num, by rw [all_take_succ Hx.out, Hall.out, hv]; rfl, hbw⟩
          case measure => simp [intOf]; omega
      · have HE := Lib.hid (svB_end h.len Hall.out (Or.inr (by omega)) hk)
        clear hr h
        go_wp2
        go_ret
        exact ⟨ret_bool HE.out.symm, hbel⟩
    · have HE := Lib.hid (svB_end h.len Hall.out (Or.inl (by omega)) hk)
      clear hr h
      go_wp2
      go_ret
      exact ⟨ret_bool HE.out.symm, hbel⟩

end Go.Proofs.Ytbfdpegjflhboaa
