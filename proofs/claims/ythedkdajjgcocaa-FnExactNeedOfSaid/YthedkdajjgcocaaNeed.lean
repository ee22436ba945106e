/- The contracts of told, l6Text and NeedOf, of the program and of the reference. No condition. -/
import Derived.Test.YthedkdajjgcocaaChecked
import Derived.Test.YthedkdajjgcocaaBase
namespace Go.Proofs.Ythedkdajjgcocaa
open Go.RowKit
set_option linter.unusedVariables false

/-- a job can be written -/
def jtB (j : J) : Bool := decide (0 ≤ j.task) && (decide (j.task ≤ 4) && (decide (0 ≤ j.at_) && (decide (j.at_ ≤ 200) && (decide (1 ≤ j.need) && decide (j.need ≤ 20)))))
theorem jtB_iff (j : J) : jtB j = true ↔ 0 ≤ j.task ∧ j.task ≤ 4 ∧ 0 ≤ j.at_ ∧ j.at_ ≤ 200 ∧ 1 ≤ j.need ∧ j.need ≤ 20 := by simp [jtB]
theorem jtB_no (j : J) (h : ¬ (0 ≤ j.task ∧ j.task ≤ 4 ∧ 0 ≤ j.at_ ∧ j.at_ ≤ 200 ∧ 1 ≤ j.need ∧ j.need ≤ 20)) : jtB j = false := by
  rw [Bool.eq_false_iff]; intro h'; exact h ((jtB_iff j).1 h')
/-- jobs can be written -/
def toldB (js : List J) : Bool := js.all jtB && decide (js.length ≤ 60)
/-- the sum of the needs of a task's jobs -/
def needSum (k : Int) : List J → Int
  | [] => 0
  | j :: r => (if j.task = k then j.need else 0) + needSum k r
def needOf (js : List J) (k : Int) : Int := if toldB js = true then needSum k js else 0

theorem needSum_append (k : Int) (a b : List J) : needSum k (a ++ b) = needSum k a + needSum k b := by
  induction a with
  | nil => simp [needSum]
  | cons x a ih => simp only [List.cons_append, needSum, ih]; omega
theorem needSum_succ {js : List J} {i : Nat} {x : J} (k : Int) (h : js[i]? = some x) : needSum k (js.take (i + 1)) = needSum k (js.take i) + (if x.task = k then x.need else 0) := by
  rw [take_succ_of h, needSum_append]; simp [needSum]
theorem needSum_bd (k : Int) (a : List J) (h : a.all jtB = true) : 0 ≤ needSum k a ∧ needSum k a ≤ 20 * a.length := by
  induction a with
  | nil => simp [needSum]
  | cons x a ih =>
    rw [List.all_cons, Bool.and_eq_true] at h
    have h1 := (jtB_iff x).1 h.1
    have h2 := ih h.2
    simp only [needSum, List.length_cons]
    split <;> omega
theorem allj_take_succ {xs : List J} {k : Nat} {x : J} (h : xs[k]? = some x) : (xs.take (k + 1)).all jtB = ((xs.take k).all jtB && jtB x) := by
  rw [take_succ_of h]; simp
theorem toldB_no {xs : List J} {k : Nat} {x : J} (h : xs[k]? = some x) (hx : jtB x = false) : toldB xs = false := by
  rw [Bool.eq_false_iff]
  intro hs
  simp only [toldB, Bool.and_eq_true, decide_eq_true_eq, List.all_eq_true] at hs
  have := hs.1 x (List.mem_of_getElem? h)
  rw [hx] at this; cases this
theorem toldB_end {xs : List J} {n : Nat} (hl : xs.length = n) (h : (xs.take n).all jtB = true) : toldB xs = decide ((n : Int) ≤ 60) := by
  rw [List.take_of_length_le (by omega)] at h
  simp only [toldB, h, Bool.true_and, hl]
  rw [Bool.eq_iff_iff, decide_eq_true_eq, decide_eq_true_eq]; omega
theorem needOf_no {js : List J} {k : Int} (h : toldB js = false) : needOf js k = 0 := by simp [needOf, h]
theorem needOf_yes {js : List J} {k : Int} {n : Nat} (hl : js.length = n) (h : toldB js = true) : needOf js k = needSum k (js.take n) := by
  rw [List.take_of_length_le (by omega)]; simp [needOf, h]

set_option maxHeartbeats 400000 in
theorem l6Text_any (j : J) (w : World) :
    Calls Try.prog 44 #[.agg #[.int .i64 j.task, .int .i64 j.at_, .int .i64 j.need]] w fun r w' => r = .returned (.bool (jtB j)) ∧ Below w.heap.size w w' := by
  obtain ⟨a, b, c⟩ := j
  dsimp only
  go_enter Try.func44, Try.ntmps44
  go_wp2
  all_goals go_ret
  all_goals refine ⟨ret_bool ?_, (Below.refl _ _).alloc (Nat.le_refl _) _⟩
  all_goals rw [Bool.eq_iff_iff, jtB_iff]
  all_goals first | (simp; done) | (simp; omega)

set_option maxHeartbeats 1600000 in
theorem told_any (A : Option Addr) (n c : Nat) (xs : List J) (w : World) (h : RdJ w A n c xs) :
    Calls Try.prog 45 #[.slice A n c] w fun e w' => e = .returned (.bool (toldB xs)) ∧ Below w.heap.size w w' := by
  have hm : n ≤ maxLen := Nat.le_trans h.cap h.max
  unfold maxLen at hm
  go_enter Try.func45, Try.ntmps45
  go_wp2
  go_loopw [7] (fun i wr => ∃ k : Nat, k ≤ n ∧ i = .int .i64 k ∧ (xs.take k).all jtB = true ∧ Below w.heap.size w wr) (fun i _ => n - (intOf i).toNat)
  case atStart => exact ⟨0, Nat.zero_le _, rfl, by simp, Below.refl _ _⟩
  case round =>
    obtain ⟨k, hk, rfl, hall, hbel⟩ := hrel
    have hr := h.below hbel
    have Hall := Lib.hid hall
    clear hall
    by_cases hlt : k < n
    · obtain ⟨b, off, x, rfl, hx, hb, c0, c1, c2⟩ := hr.jobAt hlt
      have Hx := Lib.hid hx
      have hb' := hbel.size
      clear hx hr h
      obtain ⟨xt, xa, xn⟩ := x
      dsimp only at c0 c1 c2
      go_wp2
      all_goals first
        | (go_ret; exact ⟨ret_bool (toldB_no Hx.out (jtB_no _ (by dsimp only; omega))).symm, hbel.alloc hb' _⟩)
        | (go_roundw
           case rel => exact ⟨k + 1, by omega, by go_num, by rw [allj_take_succ Hx.out, Hall.out, (jtB_iff _).2 (by dsimp only; omega)]; rfl, hbel.alloc hb' _⟩
           case measure => simp [intOf]; omega)
    · have hkn : k = n := by omega
      subst hkn
      have HE := Lib.hid (toldB_end h.len Hall.out)
      clear hr h
      go_wp2
      go_ret
      exact ⟨ret_bool HE.out.symm, hbel⟩

set_option maxHeartbeats 1600000 in
theorem needOf_impl (A : Option Addr) (n c : Nat) (xs : List J) (t : Int) (w : World) (h : RdJ w A n c xs) :
    Calls Try.prog 16 #[.slice A n c, .int .i64 t] w fun e w' => e = .returned (.int .i64 (needOf xs t)) ∧ Below w.heap.size w w' := by
  cases ht : toldB xs
  · have HE := Lib.hid (needOf_no (k := t) ht)
    go_enter Try.func16, Try.ntmps16
    go_wp2_with fail
    refine (told_any A n c xs w h).mono ?_
    rintro e w1 ⟨rfl, hb1⟩
    go_wp2
    go_ret
    exact ⟨ret_int HE.out.symm, hb1⟩
  · have HE := Lib.hid (needOf_yes (k := t) h.len ht)
    have hs : xs.all jtB = true ∧ xs.length ≤ 60 := by simpa [toldB] using ht
    have hn : n ≤ 60 := by rw [← h.len]; exact hs.2
    go_enter Try.func16, Try.ntmps16
    go_wp2_with fail
    refine (told_any A n c xs w h).mono ?_
    rintro e w1 ⟨rfl, hb1⟩
    go_wp2
    go_loopw [5, 13] (fun s i wr => ∃ k : Nat, k ≤ n ∧ i = .int .i64 k ∧ s = .int .i64 (needSum t (xs.take k)) ∧ Below w.heap.size w wr) (fun _ i _ => n - (intOf i).toNat)
    case atStart => exact ⟨0, Nat.zero_le _, rfl, rfl, hb1⟩
    case round =>
      obtain ⟨k, hk, rfl, rfl, hbel⟩ := hrel
      have hr := h.below hbel
      have hall : (xs.take k).all jtB = true := by
        rw [List.all_eq_true] at hs ⊢
        exact fun x hx => hs.1 x (List.mem_of_mem_take hx)
      have hbd := needSum_bd t (xs.take k) hall
      have hlen : (xs.take k).length ≤ k := List.length_take_le _ _
      by_cases hlt : k < n
      · obtain ⟨b, off, x, rfl, hx, hb, c0, c1, c2⟩ := hr.jobAt hlt
        have hjx : jtB x = true := by
          have := hs.1; rw [List.all_eq_true] at this
          exact this x (List.mem_of_getElem? hx)
        have hjx' := (jtB_iff x).1 hjx
        have HS := Lib.hid (needSum_succ t hx)
        have hb' := hbel.size
        obtain ⟨xt, xa, xn⟩ := x
        dsimp only at c0 c1 c2 hjx' HS
        generalize needSum t (xs.take k) = sm at *
        have hlo : 0 ≤ sm := hbd.1
        have hhi : sm ≤ 1200 := by omega
        have hn0 : 1 ≤ xn := hjx'.2.2.2.2.1
        have hn1 : xn ≤ 20 := hjx'.2.2.2.2.2
        clear hx hr h hs hall hjx hbd hjx' ht
        by_cases he : xt = t
        · have he' : ((xt : Int) == t) = true := by simpa using he
          have HS' := Lib.hid (HS.out.trans (by rw [if_pos he]))
          clear HS he
          go_wp2
          go_roundw
          case rel => exact ⟨k + 1, by omega, by go_num, by rw [HS'.out], hbel.alloc hb' _⟩
          case measure => simp [intOf]; omega
        · have he' : ((xt : Int) == t) = false := by simpa using he
          have HS' := Lib.hid (HS.out.trans (by rw [if_neg he, Int.add_zero]))
          clear HS he
          go_wp2
          go_roundw
          case rel => exact ⟨k + 1, by omega, by go_num, by rw [HS'.out], hbel.alloc hb' _⟩
          case measure => simp [intOf]; omega
      · have hkn : k = n := by omega
        subst hkn
        clear hr h hs hall hbd ht
        go_wp2
        go_ret
        exact ⟨ret_int HE.out.symm, hbel⟩

theorem toldB_long {xs : List J} {n : Nat} (hl : xs.length = n) (hn : 60 < n) : toldB xs = false := by
  have : ¬ xs.length ≤ 60 := by omega
  simp [toldB, this]

set_option maxHeartbeats 1600000 in
theorem needOf_spec (A : Option Addr) (n c : Nat) (xs : List J) (t : Int) (w : World) (h : RdJ w A n c xs) :
    Calls Try.prog 14 #[.slice A n c, .int .i64 t] w fun e w' => e = .returned (.int .i64 (needOf xs t)) ∧ Below w.heap.size w w' := by
  by_cases hn : n ≤ 60
  · go_enter Try.func14, Try.ntmps14
    go_wp2
    go_loopw [5, 6] (fun s i wr => ∃ k : Nat, k ≤ n ∧ i = .int .i64 k ∧ s = .int .i64 (needSum t (xs.take k)) ∧ (xs.take k).all jtB = true ∧ Below w.heap.size w wr) (fun _ i _ => n - (intOf i).toNat)
    case atStart => exact ⟨0, Nat.zero_le _, rfl, rfl, by simp, Below.refl _ _⟩
    case round =>
      obtain ⟨k, hk, rfl, rfl, hall, hbel⟩ := hrel
      have hr := h.below hbel
      have hbd := needSum_bd t (xs.take k) hall
      have hlen : (xs.take k).length ≤ k := List.length_take_le _ _
      have Hall := Lib.hid hall
      clear hall
      by_cases hlt : k < n
      · obtain ⟨b, off, x, rfl, hx, hb, c0, c1, c2⟩ := hr.jobAt hlt
        have HS := Lib.hid (needSum_succ t hx)
        have Hx := Lib.hid hx
        have hb' := hbel.size
        generalize needSum t (xs.take k) = sm at *
        have hlo : 0 ≤ sm := hbd.1
        have hhi : sm ≤ 1200 := by omega
        clear hx hr h hbd
        go_wp2_with fail
        refine (l6Text_any x _).mono ?_
        rintro e w1 ⟨rfl, hb1⟩
        have hbw : Below w.heap.size w w1 := hbel.trans (hb1.mono hb')
        have d0 := (hb1.cell (p := ⟨b, off + k * 3, none⟩) hb).trans c0
        have d1 := (hb1.cell (p := ⟨b, off + k * 3 + 1, none⟩) hb).trans c1
        have d2 := (hb1.cell (p := ⟨b, off + k * 3 + 2, none⟩) hb).trans c2
        clear hb1 c0 c1 c2 hbel hb
        cases hv : jtB x
        · go_wp2
          go_ret
          exact ⟨ret_int (needOf_no (toldB_no Hx.out hv)).symm, hbw⟩
        · have hjx := (jtB_iff x).1 hv
          obtain ⟨xt, xa, xn⟩ := x
          dsimp only at d0 d1 d2 hjx HS
          have hn0 : 1 ≤ xn := hjx.2.2.2.2.1
          have hn1 : xn ≤ 20 := hjx.2.2.2.2.2
          clear hjx
          have Hv := Lib.hid hv
          by_cases he : xt = t
          · have he' : ((xt : Int) == t) = true := by simpa using he
            have HS' := Lib.hid (HS.out.trans (by rw [if_pos he]))
            clear HS he
            go_wp2
            go_roundw
            case rel => exact ⟨k + 1, by omega, by go_num, by rw [HS'.out], by rw [allj_take_succ Hx.out, Hall.out, Hv.out]; rfl, hbw⟩
            case measure => simp [intOf]; omega
          · have he' : ((xt : Int) == t) = false := by simpa using he
            have HS' := Lib.hid (HS.out.trans (by rw [if_neg he, Int.add_zero]))
            clear HS he
            go_wp2
            go_roundw
            case rel => exact ⟨k + 1, by omega, by go_num, by rw [HS'.out], by rw [allj_take_succ Hx.out, Hall.out, Hv.out]; rfl, hbw⟩
            case measure => simp [intOf]; omega
      · have hkn : k = n := by omega
        subst hkn
        have HE := Lib.hid (needOf_yes (k := t) h.len ((toldB_end h.len Hall.out).trans (by rw [decide_eq_true_eq]; omega)))
        clear hr h hbd
        go_wp2
        go_ret
        exact ⟨ret_int HE.out.symm, hbel⟩
  · have hn' : 60 < n := by omega
    have HE := Lib.hid (needOf_no (k := t) (toldB_long h.len hn'))
    have hm : n ≤ maxLen := Nat.le_trans h.cap h.max
    unfold maxLen at hm
    go_enter Try.func14, Try.ntmps14
    go_wp2
    go_ret
    exact ⟨ret_int HE.out.symm, Below.refl _ _⟩

end Go.Proofs.Ythedkdajjgcocaa
