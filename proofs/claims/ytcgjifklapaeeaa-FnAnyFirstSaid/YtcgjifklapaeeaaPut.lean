/- The contracts of PutOrder, of the program and of the reference, and of l4Put. Condition of l4Put: every number is a place. -/
import Derived.Test.YtcgjifklapaeeaaOrd
import Derived.Test.YtcgjifklapaeeaaDrawL
namespace Go.Proofs.Ytcgjifklapaeeaa
open Go.RowKit
set_option linter.unusedVariables false

/-- tasks in an order -/
def putL (xs : List T) (o : List Int) : List T := o.map (fun i => (xs[i.toNat]?).getD default)
def putV (xs : List T) (o : List Int) : List T := if ordB xs o = true then putL xs o else []

theorem putL_succ {xs : List T} {o : List Int} {k : Nat} {i : Nat} {x : T} (hi : o[k]? = some (i : Int)) (hx : xs[i]? = some x) : putL xs (o.take (k + 1)) = putL xs (o.take k) ++ [x] := by
  rw [take_succ_of hi, putL, List.map_append]
  simp [putL, hx]
theorem putL_len (xs : List T) (o : List Int) : (putL xs o).length = o.length := by simp [putL]
theorem putV_no {xs : List T} {o : List Int} (h : ordB xs o = false) : putV xs o = [] := by simp [putV, h]
theorem putV_yes {xs : List T} {o : List Int} (h : ordB xs o = true) : putV xs o = putL xs o := by simp [putV, h]
theorem ordB_in {xs : List T} {o : List Int} (h : ordB xs o = true) : o.length = xs.length ∧ xs.length ≤ 5 ∧ ∀ x ∈ o, 0 ≤ x ∧ x < xs.length := by
  simp only [ordB, Bool.and_eq_true] at h
  have h1 := (isOrd_iff _ _).1 h.2
  have h2 := h.1
  simp only [svB, Bool.and_eq_true, decide_eq_true_eq] at h2
  exact ⟨h1.1, h2.1, h1.2.1⟩

theorem OwnT.below {w w1 w2 : World} {v : Value} {m : Nat} {xs : List T} (h : OwnT w w1 v m xs) (hb : Below w1.heap.size w1 w2) : OwnT w w2 v m xs := ⟨own_below h.1 hb, h.2⟩
theorem below_own {w w1 w2 : World} {v : Value} {m : Nat} {L : List Value} {e : TypeId} {k : Nat} (hb : Below w.heap.size w w1) (ho : w1.ownsRow w.heap.size e k v m L) (hg : w1.grownBy w2 v.ownBlock) : Below w.heap.size w w2 :=
  hb.grown hg hb.size (fun g e => (ho.lt g e).1)

set_option maxRecDepth 100000 in
set_option maxHeartbeats 3200000 in
theorem l4Put_any (A A' : Option Addr) (n c m c' : Nat) (xs : List T) (o : List Int) (w : World) (h : RdT w A n c xs) (h' : RdI w A' m c' o) (hin : ∀ x ∈ o, 0 ≤ x ∧ x < n) (hm : m ≤ 1000) :
    Calls Try.prog 36 #[.slice A n c, .slice A' m c'] w fun e w' => ∃ (D : Option Addr) (d : Nat), e = .returned (.slice D m d) ∧ OwnT w w' (.slice D m d) m (putL xs o) ∧ Below w.heap.size w w' := by
  obtain ⟨inf, hi, hz0, hz1, hz2⟩ := info_parts infoTaskD
  have hb0 := (Below.refl w.heap.size w).alloc (Nat.le_refl _) (.cells #[] 40)
  have o0 := Lib.hid (OwnT.new w)
  have hT := Lib.hid h
  have hI := Lib.hid h'
  have Hin := Lib.hid hin
  clear h h' hin
  go_enter Try.func36, Try.ntmps36
  go_wp2_with fail
  go_loopw [5, 6] (fun v i wr => ∃ k : Nat, i = .int .i64 k ∧ k ≤ m ∧ OwnT w wr v k (putL xs (o.take k)) ∧ Below w.heap.size w wr) (fun _ i _ => m - (intOf i).toNat)
  case atStart => exact ⟨0, rfl, Nat.zero_le _, o0.out, hb0⟩
  case round =>
    obtain ⟨k, rfl, hk, ho, hbel⟩ := hrel
    replace ho := Lib.hid ho
    have hsz := hbel.size
    clear o0 hb0
    by_cases hkm : k < m
    · obtain ⟨b', off', i, rfl, hi', hb', c0⟩ := (hI.out.below hbel).intAt hkm
      have hr := Hin.out i (List.mem_of_getElem? hi')
      obtain ⟨j, rfl⟩ := Int.eq_ofNat_of_zero_le hr.1
      have hjn : j < n := by omega
      obtain ⟨b, off, x, rfl, hx, hb, d0, d1, d2, d3, d4⟩ := (hT.out.below hbel).taskAt hjn
      have HP := Lib.hid (putL_succ hi' hx)
      have i0 : (0 : Int) ≤ (j : Int) := by omega
      have i1 : (j : Int) < (n : Int) := by omega
      have o1 := Lib.hid (ho.out.alloc (.cells #[.int .i64 x.low, .int .i64 x.high, .int .i64 x.due, .int .i64 x.every, .bool x.crit] 40))
      have hb1 := Lib.hid (hbel.alloc hsz (.cells #[.int .i64 x.low, .int .i64 x.high, .int .i64 x.due, .int .i64 x.every, .bool x.crit] 40))
      have c1 := Lib.hid (cells_one wr x 40 wr.heap.size rfl)
      clear ho hi' hr hx hbel
      go_wp2_with (at_builtin; refine wpList_append_own _ rfl _ _ 23 rfl w.heap.size 40 inf _ 5 40 Try.underlying23 hi hz0 hz1 hz2 rfl (by decide) _ _ _ rfl o1.out.1 ⟨wr.heap.size, 0, none⟩ 1 1 x.cells rfl rfl c1.out (cells_oneCell x) ?c3 ?c4 ?c5 ?_)
      case c3 => unfold maxLen; omega
      case c4 => omega
      case c5 => simp; omega
      intro v' w3 hown3 hg3 _
      have o3 := Lib.hid (show OwnT w w3 v' (k + 1) (putL xs (o.take (k + 1))) from ⟨by rw [HP.out, List.flatMap_append]; simpa using hown3, by rw [HP.out, List.length_append, o1.out.2]; rfl⟩)
      have hb3 := Lib.hid (below_own hb1.out o1.out.1 hg3)
      clear hown3 hg3 o1 hb1 c1 d0 d1 d2 d3 d4 c0
      go_wp2
      go_roundw
      case rel => exact ⟨k + 1, by go_num, by omega, o3.out, hb3.out⟩
      case measure => simp [intOf]; omega
    · have hkm' : k = m := by omega
      subst hkm'
      have HP := Lib.hid (show o.take k = o from List.take_of_length_le (by rw [hI.out.len]; omega))
      rw [HP.out] at ho
      obtain ⟨D, d, hv⟩ := ho.out.slice
      subst hv
      go_wp2
      go_ret
      exact ⟨_, _, rfl, ho.out, hbel⟩


set_option maxRecDepth 100000 in
set_option maxHeartbeats 3200000 in
theorem putOrder_impl (A A' : Option Addr) (n c m c' : Nat) (xs : List T) (o : List Int) (w : World) (h : RdT w A n c xs) (h' : RdI w A' m c' o) :
    Calls Try.prog 19 #[.slice A n c, .slice A' m c'] w fun e w' => ∃ (D : Option Addr) (k d : Nat), e = .returned (.tuple #[.slice D k d, .bool (ordB xs o)]) ∧ OwnT w w' (.slice D k d) k (putV xs o) ∧ Below w.heap.size w w' := by
  obtain ⟨inf, hi, hz0, hz1, hz2⟩ := info_parts infoTaskD
  have hV := Lib.hid (orderValid_impl A A' n c m c' xs o w h h')
  have hT := Lib.hid h
  have hI := Lib.hid h'
  cases ho : ordB xs o
  · rw [ho] at hV
    have HP := Lib.hid (putV_no ho)
    clear h h' ho
    go_enter Try.func19, Try.ntmps19
    go_wp2_with fail
    refine hV.out.mono ?_
    rintro e w1 ⟨rfl, hb1⟩
    go_wp2
    go_ret2
    exact ⟨_, _, _, rfl, by rw [HP.out]; exact ⟨World.ownsRow_nil _ _ _ _, rfl⟩, hb1⟩
  · rw [ho] at hV
    have HPV := Lib.hid (putV_yes ho)
    obtain ⟨h1, h2, h3⟩ := ordB_in ho
    have Hin := Lib.hid (show ∀ x ∈ o, 0 ≤ x ∧ x < n from fun x hx => by have := h3 x hx; rw [hT.out.len] at this; exact this)
    have hm : m ≤ 1000 := by have := hT.out.len; have := hI.out.len; omega
    clear h h' ho h1 h2 h3
    go_enter Try.func19, Try.ntmps19
    go_wp2_with fail
    refine hV.out.mono ?_
    rintro e w1 ⟨rfl, hb1⟩
    have hb0 := hb1.alloc hb1.size (.cells #[] 40)
    have o0 := Lib.hid ((OwnT.new w1).ext hb1.size)
    go_wp2_with fail
    go_loopw [6, 16] (fun v i wr => ∃ k : Nat, i = .int .i64 k ∧ k ≤ m ∧ OwnT w wr v k (putL xs (o.take k)) ∧ Below w.heap.size w wr) (fun _ i _ => m - (intOf i).toNat)
    case atStart => exact ⟨0, rfl, Nat.zero_le _, o0.out, hb0⟩
    case round =>
      obtain ⟨k, rfl, hk, ho, hbel⟩ := hrel
      replace ho := Lib.hid ho
      have hsz := hbel.size
      clear o0 hb0
      by_cases hkm : k < m
      · obtain ⟨b', off', i, rfl, hi', hb', c0⟩ := (hI.out.below hbel).intAt hkm
        have hr := Hin.out i (List.mem_of_getElem? hi')
        obtain ⟨j, rfl⟩ := Int.eq_ofNat_of_zero_le hr.1
        have hjn : j < n := by omega
        obtain ⟨b, off, x, rfl, hx, hb, d0, d1, d2, d3, d4⟩ := (hT.out.below hbel).taskAt hjn
        have HP := Lib.hid (putL_succ hi' hx)
        have i0 : (0 : Int) ≤ (j : Int) := by omega
        have i1 : (j : Int) < (n : Int) := by omega
        have o1 := Lib.hid (ho.out.alloc (.cells #[.int .i64 x.low, .int .i64 x.high, .int .i64 x.due, .int .i64 x.every, .bool x.crit] 40))
        have hb1 := Lib.hid (hbel.alloc hsz (.cells #[.int .i64 x.low, .int .i64 x.high, .int .i64 x.due, .int .i64 x.every, .bool x.crit] 40))
        have c1 := Lib.hid (cells_one wr x 40 wr.heap.size rfl)
        clear ho hi' hr hx hbel
        go_wp2_with (at_builtin; refine wpList_append_own _ rfl _ _ 23 rfl w.heap.size 40 inf _ 5 40 Try.underlying23 hi hz0 hz1 hz2 rfl (by decide) _ _ _ rfl o1.out.1 ⟨wr.heap.size, 0, none⟩ 1 1 x.cells rfl rfl c1.out (cells_oneCell x) ?c3 ?c4 ?c5 ?_)
        case c3 => unfold maxLen; omega
        case c4 => omega
        case c5 => simp; omega
        intro v' w3 hown3 hg3 _
        have o3 := Lib.hid (show OwnT w w3 v' (k + 1) (putL xs (o.take (k + 1))) from ⟨by rw [HP.out, List.flatMap_append]; simpa using hown3, by rw [HP.out, List.length_append, o1.out.2]; rfl⟩)
        have hb3 := Lib.hid (below_own hb1.out o1.out.1 hg3)
        clear hown3 hg3 o1 hb1 c1 d0 d1 d2 d3 d4 c0
        go_wp2
        go_roundw
        case rel => exact ⟨k + 1, by go_num, by omega, o3.out, hb3.out⟩
        case measure => simp [intOf]; omega
      · have hkm' : k = m := by omega
        subst hkm'
        have HP := Lib.hid (show o.take k = o from List.take_of_length_le (by rw [hI.out.len]; omega))
        rw [HP.out] at ho
        obtain ⟨D, d, hv⟩ := ho.out.slice
        subst hv
        go_wp2
        go_ret2
        exact ⟨_, _, _, rfl, by rw [HPV.out]; exact ho.out, hbel⟩

end Go.Proofs.Ytcgjifklapaeeaa
