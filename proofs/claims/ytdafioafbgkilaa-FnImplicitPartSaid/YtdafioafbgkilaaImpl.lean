/- The contracts of Implicit, of the program and of the reference. No condition. -/
import Derived.Test.YtdafioafbgkilaaSet
namespace Go.Proofs.Ytdafioafbgkilaa
open Go.RowKit
set_option linter.unusedVariables false

def dueB (t : T) : Bool := decide (t.due = t.every)
def impB (xs : List T) : Bool := svB xs && xs.all dueB

theorem alld_take_succ {xs : List T} {k : Nat} {x : T} (h : xs[k]? = some x) : (xs.take (k + 1)).all dueB = ((xs.take k).all dueB && dueB x) := by
  rw [take_succ_of h]; simp
theorem impB_no {xs : List T} {k : Nat} {x : T} (h : xs[k]? = some x) (hx : ¬ x.due = x.every) : impB xs = false := by
  rw [Bool.eq_false_iff]
  intro hs
  simp only [impB, Bool.and_eq_true, List.all_eq_true] at hs
  have := hs.2 x (List.mem_of_getElem? h)
  simp [dueB, hx] at this
theorem impB_end {xs : List T} {n : Nat} (hl : xs.length = n) (h : (xs.take n).all dueB = true) : impB xs = svB xs := by
  rw [List.take_of_length_le (by omega)] at h
  simp [impB, h]
theorem impB_bad {xs : List T} (h : svB xs = false) : impB xs = false := by simp [impB, h]

set_option maxHeartbeats 1600000 in
theorem implicit_impl (A : Option Addr) (n c : Nat) (xs : List T) (w : World) (h : RdT w A n c xs) :
    Calls Try.prog 36 #[.slice A n c] w fun e w' => e = .returned (.bool (impB xs)) ∧ Below w.heap.size w w' := by
  have hm : n ≤ maxLen := Nat.le_trans h.cap h.max
  unfold maxLen at hm
  go_enter Try.func36, Try.ntmps36
  go_wp2
  go_loopw [7] (fun i wr => ∃ k : Nat, k ≤ n ∧ i = .int .i64 k ∧ (xs.take k).all dueB = true ∧ Below w.heap.size w wr) (fun i _ => n - (intOf i).toNat)
  case atStart => exact ⟨0, Nat.zero_le _, rfl, by simp, Below.refl _ _⟩
  case round =>
    obtain ⟨k, hk, rfl, hall, hbel⟩ := hrel
    have hr := h.below hbel
    have Hall := Lib.hid hall
    clear hall
    by_cases hlt : k < n
    · obtain ⟨b, off, x, rfl, hx, hb, c0, c1, c2, c3, c4⟩ := hr.taskAt hlt
      have Hx := Lib.hid hx
      have hb' := hbel.size
      clear hx hr h
      by_cases he : x.due = x.every
      · have he' : ((x.due : Int) != x.every) = false := by simpa using he
        have He := Lib.hid he
        clear he
        go_wp2
        go_roundw
        case rel => exact ⟨k + 1, by omega, by go_num, by rw [alld_take_succ Hx.out, Hall.out]; simp [dueB, He.out], hbel.alloc hb' _⟩
        case measure => simp [intOf]; omega
      · have he' : ((x.due : Int) != x.every) = true := by simpa using he
        have He := Lib.hid he
        clear he
        go_wp2
        go_ret
        exact ⟨ret_bool (impB_no Hx.out He.out).symm, hbel.alloc hb' _⟩
    · have hkn : k = n := by omega
      subst hkn
      have HE := Lib.hid (impB_end h.len Hall.out)
      go_wp2_with fail
      refine (setValid_impl A k c xs _ hr).mono ?_
      rintro e w1 ⟨rfl, hb1⟩
      have hbw : Below w.heap.size w w1 := hbel.trans (hb1.mono hbel.size)
      go_wp2
      go_ret
      exact ⟨ret_bool HE.out.symm, hbw⟩


set_option maxHeartbeats 1600000 in
theorem implicit_spec (A : Option Addr) (n c : Nat) (xs : List T) (w : World) (h : RdT w A n c xs) :
    Calls Try.prog 37 #[.slice A n c] w fun e w' => e = .returned (.bool (impB xs)) ∧ Below w.heap.size w w' := by
  have hm : n ≤ maxLen := Nat.le_trans h.cap h.max
  unfold maxLen at hm
  go_enter Try.func37, Try.ntmps37
  go_wp2
  go_loopw [3] (fun i wr => ∃ k : Nat, k ≤ n ∧ i = .int .i64 k ∧ (xs.take k).all dueB = true ∧ Below w.heap.size w wr) (fun i _ => n - (intOf i).toNat)
  case atStart => exact ⟨0, Nat.zero_le _, rfl, by simp, Below.refl _ _⟩
  case round =>
    obtain ⟨k, hk, rfl, hall, hbel⟩ := hrel
    have hr := h.below hbel
    have Hall := Lib.hid hall
    clear hall
    by_cases hlt : k < n
    · have ih := Lib.hid hr
      have hv0 := setValid_spec A n c xs wr hr
      have HV := Lib.hid hv0
      clear hv0 hr
      go_wp2_with fail
      refine HV.out.mono ?_
      rintro e w1 ⟨rfl, hb1⟩
      have hbw : Below w.heap.size w w1 := hbel.trans (hb1.mono hbel.size)
      have hr1 := ih.out.below hb1
      clear hb1 ih HV
      cases hsv : svB xs
      · have HB := Lib.hid (impB_bad hsv)
        have Hsv := Lib.hid hsv
        have hv1 := Lib.hid (setValid_spec A n c xs w1 hr1)
        clear hr1
        go_wp2_with fail
        refine hv1.out.mono ?_
        rw [Hsv.out]
        rintro e w2 ⟨rfl, hb2⟩
        have hbw2 : Below w.heap.size w w2 := hbw.trans (hb2.mono hbw.size)
        go_wp2
        go_ret
        exact ⟨ret_bool HB.out.symm, hbw2⟩
      · obtain ⟨b, off, x, rfl, hx, hb, c0, c1, c2, c3, c4⟩ := hr1.taskAt hlt
        have Hx := Lib.hid hx
        have i0 : (0 : Int) ≤ (k : Int) := by omega
        have i1 : (k : Int) < (n : Int) := by omega
        clear hx hr1 h
        by_cases he : x.due = x.every
        · have he' : ((x.due : Int) != x.every) = false := by simpa using he
          have He := Lib.hid he
          clear he
          go_wp2_with fail
          go_quiet (fail)
          go_wp2
          go_roundw
          case rel => exact ⟨k + 1, by omega, by go_num, by rw [alld_take_succ Hx.out, Hall.out]; simp [dueB, He.out], ⟨hbw.os, hbw.tape, hbw.output, hbw.size, hbw.block⟩⟩
          case measure => simp [intOf]; omega
        · have he' : ((x.due : Int) != x.every) = true := by simpa using he
          have He := Lib.hid he
          clear he
          go_wp2_with fail
          go_quiet (fail)
          go_wp2
          go_ret
          exact ⟨ret_bool (impB_no Hx.out He.out).symm, ⟨hbw.os, hbw.tape, hbw.output, hbw.size, hbw.block⟩⟩
    · have hkn : k = n := by omega
      subst hkn
      have HE := Lib.hid (impB_end h.len Hall.out)
      go_wp2_with fail
      refine (setValid_spec A k c xs _ hr).mono ?_
      rintro e w1 ⟨rfl, hb1⟩
      have hbw : Below w.heap.size w w1 := hbel.trans (hb1.mono hbel.size)
      go_wp2
      go_ret
      exact ⟨ret_bool HE.out.symm, hbw⟩

end Go.Proofs.Ytdafioafbgkilaa
